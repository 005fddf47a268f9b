/- slices.Clone at []int. -/
import Derived.Test.YthgekfiodedelaaInts
import Derived.Lib.BufferMore
import Derived.Deep.MidRow
namespace Go.Proofs.Ythgekfiodedelaa
open Go.RowKit
set_option linter.unusedVariables false
set_option linter.unusedSimpArgs false

theorem RInts.addr {w : World} {x : Addr} {n cap : Nat} {zs : List Int} (h : RInts w (.slice (some x) n cap) zs) :
    zs.length = n ∧ ∀ j u, (ints zs)[j]? = some u → x.block < w.heap.size ∧ w.cell? (x.add j) = some u := by
  obtain ⟨a, cap', hv, hn, hc, hcell⟩ := h
  simp only [Value.slice.injEq] at hv
  obtain ⟨rfl, rfl, rfl⟩ := hv
  refine ⟨rfl, fun j u hj => ?_⟩
  have hjl : j < zs.length := by
    have := (List.getElem?_eq_some_iff.1 hj).1
    simpa using this
  obtain ⟨b, off, he, hb, hx⟩ := hcell j hjl
  cases he
  rw [Addr.add_mid, hx]
  simp [ints, hjl] at hj
  exact ⟨hb, by rw [hj]⟩

theorem RInts.nil {w : World} {n cap : Nat} {zs : List Int} (h : RInts w (.slice none n cap) zs) : zs = [] ∧ n = 0 := by
  obtain ⟨a, cap', hv, hn, hc, hcell⟩ := h
  simp only [Value.slice.injEq] at hv
  obtain ⟨rfl, rfl, rfl⟩ := hv
  cases zs with
  | nil => exact ⟨rfl, rfl⟩
  | cons z zs =>
    obtain ⟨b, off, he, _⟩ := hcell 0 (by simp)
    cases he

theorem ints_oneCell (zs : List Int) : ∀ u ∈ ints zs, u.oneCell' = true := by
  intro v hv; simp [ints] at hv; obtain ⟨z, _, rfl⟩ := hv; rfl

set_option maxHeartbeats 1000000 in
theorem clone_any (v : Value) (zs : List Int) (w : World) (hl : zs.length ≤ 4194304) (hr : RInts w v zs) :
    Calls Try.prog 57 #[v] w fun e w' => ∃ u, e = .returned u ∧ OwnInts w' w.heap.size u zs ∧ Below w.heap.size w w' := by
  obtain ⟨i0, hi, hz0, hz1, hz2⟩ := info_parts infoInt
  obtain ⟨a, cap, rfl, hc, hm, _⟩ := id hr
  cases a with
  | none =>
    obtain ⟨rfl, _⟩ := hr.nil
    have hq := fun w => Lib.run_eql_slice_nil_nil (P := Try.prog) w 0 cap Try.underlying30
    go_enter Try.func57, Try.ntmps57
    go_wp2
    go_ret
    exact ⟨_, rfl, OwnInts.nil _ _, Below.refl _ _⟩
  | some x =>
    have hcell := hr.addr.2
    have hq := fun w => Lib.run_eql_slice_some_nil (P := Try.prog) w x zs.length cap Try.underlying30
    have hnews : ∀ o j u, (ints zs)[j]? = some u → (w.alloc o).cell? (x.add j) = some u := by
      intro o j u hj
      obtain ⟨h1, h2⟩ := hcell j u hj
      have h3 : (x.add j).block = x.block := by unfold Addr.add; split <;> rfl
      rw [(below_alloc w o).cell (p := x.add j) (by rw [h3]; exact h1)]; exact h2
    clear hr hcell
    go_enter Try.func57, Try.ntmps57
    go_wp2_with (at_builtin; refine wpList_append_own _ rfl _ _ 30 rfl w.heap.size 3 i0 (.int .i64 0) 1 8 Try.underlying30 hi hz0 hz1 hz2 rfl (by decide) _ 0 [] rfl (own_empty w) x zs.length cap (ints zs) rfl (by simp) (hnews _) (ints_oneCell zs) ?c3 ?c4 ?c5 ?_)
    case c3 => simp; unfold maxLen; omega
    case c4 => simp; omega
    case c5 => simp
    intro v' w1 hown hg _
    have hown2 : OwnInts w1 w.heap.size v' zs := by simpa [OwnInts] using hown
    have hb2 : Below w.heap.size w w1 := (below_alloc w _).grown hg (by simp) (fun j hj => by cases hj; exact Nat.le_refl _)
    clear hown hg hnews
    go_wp2
    go_ret
    exact ⟨_, rfl, hown2, hb2⟩
end Go.Proofs.Ythgekfiodedelaa
