/- 'append([]int{}, v...)' where v is a row of the call's own, nil or not, as one law for the walk. -/
import Derived.Test.YtfklkkelgpeccaaDrawPl2
import Derived.Laws.AppendOwnNone
namespace Go.Proofs.Ytfklkkelgpeccaa
open Go.RowKit
set_option linter.unusedVariables false
set_option linter.unusedSimpArgs false

theorem RInts.addr {w : World} {x : Addr} {n cap : Nat} {zs : List Int} (h : RInts w (.slice (some x) n cap) zs) :
    zs.length = n ∧ ∀ j u, (ints zs)[j]? = some u → x.block < w.heap.size ∧ w.cell? (x.add j) = some u := by
  obtain ⟨a, cap', hv, hn, hc, hcell⟩ := h
  simp only [Value.slice.injEq] at hv
  obtain ⟨rfl, rfl, rfl⟩ := hv
  refine ⟨rfl, fun j u hj => ?_⟩
  have hjl : j < zs.length := by
    have := (List.getElem?_eq_some_iff.1 hj).1
    simpa using this
  obtain ⟨b, off, he, hb, hx⟩ := hcell j hjl
  cases he
  rw [Addr.add_mid, hx]
  simp [ints, hjl] at hj
  exact ⟨hb, by rw [hj]⟩

theorem RInts.nil {w : World} {n cap : Nat} {zs : List Int} (h : RInts w (.slice none n cap) zs) : zs = [] ∧ n = 0 := by
  obtain ⟨a, cap', hv, hn, hc, hcell⟩ := h
  simp only [Value.slice.injEq] at hv
  obtain ⟨rfl, rfl, rfl⟩ := hv
  cases zs with
  | nil => exact ⟨rfl, rfl⟩
  | cons z zs =>
    obtain ⟨b, off, he, _⟩ := hcell 0 (by simp)
    cases he

theorem own_append00 {w w1 : World} {v' : Value} {zs : List Int} {n m : Nat} (h : w1.ownsRow w.heap.size 3 1 v' n (([] : List Value) ++ ints zs)) (hn : n = zs.length) : OwnInts w1 w.heap.size v' zs := by
  subst hn; simpa [OwnInts] using h

theorem wpList_copyOwn {ops : Array Oper} {rest : List Oper} {o : Oper} {a : Act} {Q : Exit → Act → World → Prop} (w : World) (hgd : o.guard = none) (s x : Operand)
    (ho : o.op = .call { callee := .builtin .append, args := #[s, x], argTypes := #[29, 29] })
    (g0 : Nat) (hs : a.eval s = .slice (some ⟨g0, 0, none⟩) 0 0) (hg0 : g0 = w.heap.size) (v : Value) (hx : a.eval x = v) (B : Nat) (ys : List Int) (ob : OwnInts w B v ys) (hl : ys.length ≤ 4194304)
    (h : ∀ v' w', OwnInts w' w.heap.size v' ys → Below w.heap.size w w' → wpList Try.prog ops Q rest (a.put o.dst v') w') :
    wpList Try.prog ops Q (o :: rest) a (w.alloc (.cells #[] 3)) := by
  subst hg0
  obtain ⟨i0, hi0, hz0, hz1, hz2⟩ := info_parts infoInt
  rcases ownsRow_shape ob with ⟨rfl, hn0⟩ | ⟨g, capb, rfl, hB, hgl, hn, hc⟩
  · have hy : ys = [] := by
      have := ob.reads.nil.1
      exact this
    subst hy
    exact wpList_append_own_none hgd s x 29 ho w.heap.size 3 i0 1 Try.underlying29 hi0 _ 0 [] hs (own_empty w) hx (h _ _ (own_empty w) (below_alloc _ _))
  · have hcell := ob.reads.addr.2
    have hnews : ∀ o j x, (ints ys)[j]? = some x → (w.alloc o).cell? ((⟨g, 0, none⟩ : Addr).add j) = some x := by
      intro o j x hj
      obtain ⟨h1, h2⟩ := hcell j x hj
      have h3 : ((⟨g, 0, none⟩ : Addr).add j).block = g := by unfold Addr.add; split <;> rfl
      rw [(below_alloc w o).cell (p := (⟨g, 0, none⟩ : Addr).add j) (by rw [h3]; exact h1)]; exact h2
    refine wpList_append_own _ hgd s x 29 ho w.heap.size 3 i0 (.int .i64 0) 1 8 Try.underlying29 hi0 hz0 hz1 hz2 rfl (by decide) _ 0 [] hs (own_empty w) ⟨g, 0, none⟩ ys.length capb (ints ys) hx (by simp) (hnews _) (by intro u hu; simp only [ints, List.mem_map] at hu; obtain ⟨z, -, rfl⟩ := hu; rfl) (by simp; unfold maxLen; omega) (by simp; omega) (by simp) ?_
    intro v' w9 hown hg9 _
    exact h v' w9 (own_append00 (m := 0) hown (by simp)) ((below_alloc w _).grown hg9 (by simp) (fun j hj => by cases hj; exact Nat.le_refl _))
end Go.Proofs.Ytfklkkelgpeccaa
