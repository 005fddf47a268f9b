/- slices.Clone and slices.Delete at entries. -/
import Derived.Test.YtcahemedlmagdaaDropS
import Derived.Test.YtcahemedlmagdaaSet
import Derived.Deep.RegionLaw
import Derived.Lib.BufferMore
namespace Go.Proofs.Ytcahemedlmagdaa
open Go.RowKit
set_option linter.unusedVariables false
set_option linter.unusedSimpArgs false

set_option maxHeartbeats 1000000 in
theorem cloneE_any (v : Value) (zs : List Ent) (w : World) (hl : zs.length ≤ 4194304) (hr : RRow EL w v zs) :
    Calls Try.prog 26 #[v] w fun e w' => ∃ u, e = .returned u ∧ OwnRow EL entT w' w.heap.size u zs ∧ Below w.heap.size w w' := by
  obtain ⟨i0, hi, hz0, hz1, hz2⟩ := info_parts infoEn4
  obtain ⟨a, cap, rfl, hc, hm, _⟩ := id hr
  cases a with
  | none =>
    obtain ⟨rfl, _⟩ := hr.nil
    have hq := fun w => Lib.run_eql_slice_nil_nil (P := Try.prog) w 0 cap Try.underlying23
    go_enter Try.func26, Try.ntmps26
    go_wp2
    go_ret
    exact ⟨_, rfl, OwnRow.nil _ _ _ _, Below.refl _ _⟩
  | some x =>
    have hcell := hr.addr.2
    have hq := fun w => Lib.run_eql_slice_some_nil (P := Try.prog) w x zs.length cap Try.underlying23
    have hnews : ∀ o j u, (flat EL zs)[j]? = some u → (w.alloc o).cell? (x.add j) = some u := by
      intro o j u hj
      obtain ⟨h1, h2⟩ := hcell j u hj
      have h3 : (x.add j).block = x.block := by unfold Addr.add; split <;> rfl
      rw [(below_alloc w o).cell (p := x.add j) (by rw [h3]; exact h1)]; exact h2
    clear hr hcell
    go_enter Try.func26, Try.ntmps26
    go_wp2_with (at_builtin; refine wpList_append_own _ rfl _ _ 23 rfl w.heap.size 30 i0 (.agg #[.int .i64 0, .int .i64 0, .int .i64 0]) 3 24 Try.underlying23 hi hz0 hz1 hz2 rfl (by decide) _ 0 [] rfl (OwnRow.empty EL entT w) x zs.length cap (flat EL zs) rfl (flat_len EL zs) (hnews _) (flat_one EL zs) ?c3 ?c4 ?c5 ?_)
    case c3 => simp; unfold maxLen; omega
    case c4 => simp; omega
    case c5 => simp
    intro v' w1 hown hg _
    have hown2 : OwnRow EL entT w1 w.heap.size v' zs := hown
    have hb2 : Below w.heap.size w w1 := (below_alloc w _).grown hg (by simp) (fun j hj => by cases hj; exact Nat.le_refl _)
    clear hown hg hnews
    go_wp2
    go_ret
    exact ⟨_, rfl, hown2, hb2⟩

theorem zeroEnt : ∀ w, (zeroValue 30).run Try.prog w = .ok (.agg #[.int .i64 0, .int .i64 0, .int .i64 0]) w := fun _ => by kernel_rfl

/-- The list without place i. -/
def cutAt (zs : List Ent) (i : Nat) : List Ent := zs.take i ++ zs.drop (i + 1)
theorem cutAt_len {zs : List Ent} {i : Nat} (h : i < zs.length) : (cutAt zs i).length = zs.length - 1 := by simp [cutAt]; omega

set_option maxRecDepth 1000000 in
set_option maxHeartbeats 4000000 in
theorem deleteE_any (g cap i : Nat) (zs : List Ent) (B : Nat) (w : World) (hl : zs.length ≤ 4194304) (hi : i < zs.length) (ho : OwnRow EL entT w B (.slice (some ⟨g, 0, none⟩) zs.length cap) zs) :
    Calls Try.prog 29 #[.slice (some ⟨g, 0, none⟩) zs.length cap, .int .i64 i, .int .i64 (i + 1)] w
      fun e w' => ∃ u, e = .returned u ∧ u.ownBlock = some g ∧ OwnRow EL entT w' B u (cutAt zs i) ∧ w.grownBy w' (some g) := by
  obtain ⟨i0, hi0, hz0, hz1, hz2⟩ := info_parts infoEn4
  obtain ⟨a', cap', hv', hcap, hmax, -⟩ := ho.reads
  simp only [Value.slice.injEq, true_and] at hv'
  obtain ⟨-, rfl⟩ := hv'
  unfold maxLen at hmax
  have hcell : ∀ j u, (flat EL zs)[j]? = some u → w.cell? ⟨g, j, none⟩ = some u := fun j u h => by
    have := (ho.reads.addr.2 j u h).2
    rwa [Addr.add_mid, Nat.zero_add] at this
  obtain ⟨A, hA, hnews⟩ : ∃ A : Addr, (if cap = i + 1 then some (⟨g, 0, none⟩ : Addr) else some ⟨g, (i + 1) * 3, none⟩) = some A ∧ Hid (∀ j u, (flat EL (zs.drop (i + 1)))[j]? = some u → w.drew.cell? (A.add j) = some u) := by
    by_cases h : cap = i + 1
    · refine ⟨⟨g, 0, none⟩, by simp [h], fun j u hu => ?_⟩
      have h0 : zs.drop (i + 1) = [] := List.drop_of_length_le (by omega)
      rw [h0] at hu
      simp [flat] at hu
    · refine ⟨⟨g, (i + 1) * 3, none⟩, by simp [h], fun j u hu => ?_⟩
      rw [flat_drop, List.getElem?_drop] at hu
      rw [Addr.add_mid]
      exact hcell _ _ hu
  have hnl : (zs.drop (i + 1)).length = zs.length - (i + 1) := by simp
  have s1 : Hid ((flat EL (zs.drop (i + 1))).length = (zs.length - (i + 1)) * 3) := Lib.hid (by rw [flat_len, hnl]; rfl)
  have s2 : Hid (∀ u ∈ flat EL (zs.drop (i + 1)), u.oneCell' = true) := Lib.hid (flat_one EL _)
  have s3 : Hid (∀ j, j < (flat EL (zs.drop (i + 1))).length → (w.drew.cell? ⟨g, 0 + i * 3 + j, none⟩).isSome = true ∧ w.drew.frozen? ⟨g, 0 + i * 3 + j, none⟩ = false) := by
    refine Lib.hid (fun j hj => ?_)
    rw [s1.out] at hj
    have hjl : i * 3 + j < (flat EL zs).length := by rw [flat_len]; show _ < zs.length * 3; omega
    rw [Nat.zero_add]
    exact ⟨by show (w.cell? _).isSome = true; rw [hcell _ _ (List.getElem?_eq_getElem hjl)]; rfl, ho.frozenAt _⟩
  obtain ⟨W1, hW1⟩ : ∃ W1, W1 = w.drew.setCells g (0 + i * 3) (flat EL (zs.drop (i + 1))) := ⟨_, rfl⟩
  have o1 := OwnRow.setRun (L := EL) (ho.d1) i (zs.drop (i + 1)) (by rw [hnl]; omega)
  rw [hnl] at o1
  have e1 : EL.k = 3 := rfl
  rw [e1, ← Nat.zero_add (i * 3), ← hW1] at o1
  obtain ⟨o1, g1⟩ := o1
  have hlen1 : (zs.take i ++ zs.drop (i + 1) ++ zs.drop (i + (zs.length - (i + 1)))).length = zs.length := by simp; omega
  have hcl : ∀ ty, (Builtin.clear_ #[23] ty #[.slice (some ⟨g, (i + (zs.length - (i + 1))) * 3, none⟩) (zs.length - (i + (zs.length - (i + 1)))) (cap - (i + (zs.length - (i + 1))))]).run Try.prog W1 = .ok (.tuple #[]) (W1.setCells g ((i + (zs.length - (i + 1))) * 3) (flat EL (List.replicate (zs.length - (i + (zs.length - (i + 1)))) (0, 0, 0)))) := by
    refine fun ty => run_clear_rows EL W1 _ _ ty _ (0, 0, 0) Try.underlying23 zeroEnt rfl g _ _ _ (by omega) (fun t ht => ?_) (fun t ht => o1.frozenAt _)
    have hjl : (i + (zs.length - (i + 1))) * 3 + t < (flat EL (zs.take i ++ zs.drop (i + 1) ++ zs.drop (i + (zs.length - (i + 1))))).length := by
      rw [flat_len, hlen1]; show _ < zs.length * 3
      have : t < (zs.length - (i + (zs.length - (i + 1)))) * 3 := ht
      omega
    have := (o1.reads.addr.2 _ _ (List.getElem?_eq_getElem hjl)).2
    rw [Addr.add_mid, Nat.zero_add] at this
    rw [this]; rfl
  have o2 := OwnRow.setRun (L := EL) o1 (i + (zs.length - (i + 1))) (List.replicate (zs.length - (i + (zs.length - (i + 1)))) (0, 0, 0)) (by simp; omega)
  rw [e1] at o2
  obtain ⟨o2, g2⟩ := o2
  have o3 := o2.take (k := i + (zs.length - (i + 1))) (by simp; omega)
  have hfin : ((zs.take i ++ zs.drop (i + 1) ++ zs.drop (i + (zs.length - (i + 1)))).take (i + (zs.length - (i + 1))) ++ List.replicate (zs.length - (i + (zs.length - (i + 1)))) ((0, 0, 0) : Ent) ++ (zs.take i ++ zs.drop (i + 1) ++ zs.drop (i + (zs.length - (i + 1)))).drop (i + (zs.length - (i + 1)) + (List.replicate (zs.length - (i + (zs.length - (i + 1)))) ((0, 0, 0) : Ent)).length)).take (i + (zs.length - (i + 1))) = cutAt zs i := by
    have hc : (zs.take i ++ zs.drop (i + 1)).length = i + (zs.length - (i + 1)) := by simp; omega
    unfold cutAt
    rw [← hc, List.take_left, List.append_assoc, List.take_left]
  rw [hfin] at o3
  have O3 := Lib.hid o3
  have G3 := Lib.hid (((⟨rfl, rfl, rfl, Nat.le_refl _, fun _ _ _ => rfl⟩ : w.grownBy w.drew (some g)).trans g1).trans g2)
  have hW : Hid (W1 = w.drew.setCells g (0 + i * 3) (flat EL (zs.drop (i + 1)))) := Lib.hid hW1
  have hic : i ≤ cap := by omega
  have hwr : IntKind.i64.wrap ((i : Int) + 1) = (i : Int) + 1 := IntWalk.i64_in _ (by omega)
  have hp0 : (0 : Int) ≤ (i : Int) + 1 := by omega
  have hp1 : (i : Int) + 1 ≤ (zs.length : Int) := by omega
  have hp2 : ((i : Int) + 1).toNat = i + 1 := by omega
  have hq0 : ((i : Int) == (i : Int) + 1) = false := by rw [beq_eq_false_iff_ne]; omega
  have hic2 : i + 1 ≤ cap := by omega
  clear hW1 o1 g1 o2 g2 o3 hfin hlen1 hcell ho hnl
  go_enter Try.func29, Try.ntmps29
  go_wp2_with fail
  go_region_law (refine step_append_room rfl (.tmp 22) (.tmp 25) 23 rfl 30 i0 3 Try.underlying23 hi0 hz1 g 0 i cap (by simp [Act.eval, Act.put]) A (zs.length - (i + 1)) (cap - (i + 1)) (flat EL (zs.drop (i + 1))) (by simp [Act.eval, Act.put]) s1.out hnews.out s2.out (by omega) s3.out ?_; rw [← hW.out])
  go_wp2
  go_ret
  exact ⟨_, rfl, rfl, O3.out, G3.out⟩
end Go.Proofs.Ytcahemedlmagdaa
