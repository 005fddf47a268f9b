/- The walk of FnSumsSetOther: setting a leaf changes only its path. -/
import Derived.Test.YtjidmmjbgffapaaWSumsSet
namespace Go.Proofs.Ytjidmmjbgffapaa
open Go.RowKit
set_option linter.unusedVariables false
set_option linter.unusedSimpArgs false

def parts (f g : Nat → Int) (j : Nat) : Nat := ((List.range j).filter fun i => !decide (f i = g i)).length
theorem parts_succ (f g : Nat → Int) (j : Nat) : parts f g (j + 1) = parts f g j + if f j = g j then 0 else 1 := by
  unfold parts
  rw [List.range_succ, List.filter_append, List.length_append]
  by_cases h : f j = g j <;> simp [List.filter_cons, h]
theorem parts_le (f g : Nat → Int) (j : Nat) : parts f g j ≤ j := by
  unfold parts
  exact Nat.le_trans (List.length_filter_le _ _) (by simp)
theorem parts_self (f : Nat → Int) (j : Nat) : parts f f j = 0 := by simp [parts]
theorem parts_set {xs : List Int} (h16 : xs.length = 16) (hx : ∀ z ∈ xs, 0 ≤ z ∧ z ≤ 990) {l : Nat} (hl : l < 16) {v : Int} (h0 : 0 ≤ v) (h1 : v ≤ 990) (hne : v ≠ xs[l]) :
    parts (tr (xs.set l v)) (tr xs) 31 = 5 := by
  rw [← ancB_count l hl]
  unfold parts
  congr 1
  apply List.filter_congr
  intro i hi
  rw [tr_set_at h16 hx hl h0 h1 hne (by simpa using hi)]
  simp

set_option maxHeartbeats 1000000 in
theorem sumsSetOther_walk (v : Value) (zs : List Int) (w : World) (hr : RBytes w v zs) :
    Calls Try.prog 10 #[v] w fun e w' => e = .returned (.bool true) ∧ Below w.heap.size w w' := by
  obtain ⟨⟨a, cap, rfl, g1, g2, -⟩, -⟩ := id hr
  have HR := Lib.hid hr; clear hr
  by_cases hl : zs.length ≤ 1048576
  · go_enter Try.func10, Try.ntmps10
    go_wp2_with fail
    refine (drawSumsSet_any _ zs _ HR.out hl).mono ?_
    rintro e w1 ⟨u1, xs, leaf, value, rfl, o1, hxl, b1⟩
    go_wp2_with fail
    refine (implSumsSet_any _ xs _ _ _ (by omega) o1.reads).mono ?_
    rintro e w2 ⟨u2, rfl, o2, b2⟩
    have o1b := o1.below b2
    go_wp2_with fail
    refine (specSumsSet_any _ xs _ _ _ (by omega) o1b.reads).mono ?_
    rintro e w3 ⟨u3, rfl, o3, b3⟩
    have o1c := o1b.below b3
    have o2c := o2.below b3
    have c3 := bNext (bNext b1 b2) b3
    clear o1 o1b o2
    rcases setM_cases xs leaf value with hT | ⟨l, vs, rfl, hl16, hv16, hvr, hxs, hv0, hv1, hT⟩
    · rw [hT] at o2c o3
      clear hT
      obtain ⟨q2, cq2, rfl, -, -, -⟩ := o2c.reads
      go_wp2_with fail
      refine (sameInts_any _ _ [] [] _ (by simp) o2c.reads o3.reads).mono ?_
      rintro e w4 ⟨rfl, n4, rfl⟩
      go_wp2_with fail
      refine (sameInts_any _ _ [] [] _ (by simp) (o2c.drewN n4).reads (o3.drewN n4).reads).mono ?_
      rintro e w5 ⟨rfl, n5, rfl⟩
      go_wp2
      go_ret
      exact ⟨by simp, (by first | exact bNextD c3 _ | exact bNextD (bNextD c3 _) _)⟩
    · rw [hT] at o2c o3
      clear hT
      subst hxs
      obtain ⟨b2', off2, cq2, rfl, hq1, hq2, hR2, hcell2⟩ := o2c.reads.shape (length_treeL _) (by omega)
      obtain ⟨b1', off1, cq1, rfl, hp1, hp2, hR1, hcell1⟩ := o1c.reads.shape (length_treeL vs) (by omega)
      obtain ⟨f, hf⟩ : ∃ f, f = tr (vs.set l value) := ⟨_, rfl⟩
      obtain ⟨g, hg⟩ : ∃ g, g = tr vs := ⟨_, rfl⟩
      have hcf : ∀ i, i < 31 → w3.cell? ⟨b2', off2 + i, none⟩ = some (.int .i64 (f i)) := fun i hi => by rw [(hcell2 i (by simpa using hi)).2, treeL_get, hf]
      have hcg : ∀ i, i < 31 → w3.cell? ⟨b1', off1 + i, none⟩ = some (.int .i64 (g i)) := fun i hi => by rw [(hcell1 i (by simpa using hi)).2, treeL_get, hg]
      have hend : (parts f g 31 ≤ 5 ∧ ((parts f g 31 = 0) ↔ g (15 + l) = value)) := by
        have hgl : g (15 + l) = vs[l]'(by omega) := by
          rw [hg, tr_leaf _ (by omega), List.getD_eq_getElem?_getD, List.getElem?_eq_getElem (by omega)]; simp
        rw [hgl]
        by_cases hvl : value = vs[l]'(by omega)
        · have : vs.set l value = vs := by rw [hvl]; exact List.set_getElem_self _
          rw [hf, this, ← hg, parts_self]
          exact ⟨by omega, by simp [hvl]⟩
        · rw [hf, hg, parts_set hv16 hvr hl16 hv0 hv1 hvl]
          exact ⟨by omega, by simp; exact fun h => hvl h.symm⟩
      have HE := Lib.hid hend
      have HF := Lib.hid hcf
      have HG := Lib.hid hcg
      clear hcell1 hcell2 hf hg hend hcf hcg hvr hv16
      go_wp2_with fail
      refine (sameInts_any _ _ _ _ _ (by simp) hR2 o3.reads).mono ?_
      rintro e w4 ⟨rfl, n4, rfl⟩
      have c4 := bNextD c3 n4
      clear o1c o2c o3 hR1 hR2 c3
      go_wp2
      go_loopw [8, 9] (fun n i wr => ∃ j : Nat, j ≤ 31 ∧ i = .int .i64 j ∧ n = .int .i64 (parts f g j : Nat) ∧ ∃ m, wr = w3.drewN m) (fun _ i _ => 31 - (intOf i).toNat)
      case atStart => exact ⟨0, by omega, rfl, rfl, n4, rfl⟩
      case round =>
        obtain ⟨j, hj, rfl, rfl, m0, rfl⟩ := hrel
        have hpl := parts_le f g j
        by_cases hlt : j < 31
        · have hc1 := HF.out j hlt
          have hc2 := HG.out j hlt
          have HS := Lib.hid (parts_succ f g j)
          obtain ⟨x, hx⟩ : ∃ x, x = f j := ⟨_, rfl⟩
          obtain ⟨y, hy⟩ : ∃ y, y = g j := ⟨_, rfl⟩
          rw [← hx] at hc1
          rw [← hy] at hc2
          have HX := Lib.hid hx; clear hx
          have HY := Lib.hid hy; clear hy
          by_cases hxy : x = y
          · have hxy' : (x != y) = false := by simp [hxy]
            have HQ := Lib.hid hxy; clear hxy
            go_wp2
            go_quiet (fail)
            go_wp2
            go_roundw
            case rel => exact ⟨j + 1, by omega, by go_num, val_int (by rw [HS.out, if_pos (by rw [← HX.out, ← HY.out]; exact HQ.out)]; rfl), (by first | exact ⟨_, rfl⟩ | exact draws_two _ _ _)⟩
            case measure => simp [intOf]; omega
          · have hxy' : (x != y) = true := by simp [hxy]
            go_wp2
            go_quiet (fail)
            go_wp2
            go_roundw
            case rel => exact ⟨j + 1, by omega, by go_num, val_int (by rw [HS.out, if_neg (by rw [← HX.out, ← HY.out]; exact hxy)]; omega), (by first | exact ⟨_, rfl⟩ | exact draws_two _ _ _)⟩
            case measure => simp [intOf]; omega
        · obtain rfl : j = 31 := by omega
          have hE := HE.out
          have hcl := HG.out (15 + l) (by omega)
          generalize g (15 + l) = y at *
          generalize parts f g 31 = q at *
          obtain ⟨hq5, hq0⟩ := hE
          have HQ := Lib.hid hq0
          clear hq0
          have hq5' : decide ((q : Int) ≤ 5) = true := by simp; omega
          have hll : (15 : Int) + l < 31 := by omega
          by_cases hz : q = 0
          · have hy : (y == value) = true := by rw [beq_iff_eq]; exact HQ.out.1 hz
            have hz' : ((q : Int) == 0) = true := by simp [hz]
            have HZ := Lib.hid hz; clear hz
            go_wp2
            try go_quiet (fail)
            try go_wp2
            go_ret
            exact ⟨by simp, (by first | exact bNextD c4 _ | exact ⟨c4.os, c4.tape, c4.output, c4.size, c4.block⟩)⟩
          · have hy : (y == value) = false := by rw [beq_eq_false_iff_ne]; exact fun h => hz (HQ.out.2 h)
            have hz' : ((q : Int) == 0) = false := by rw [beq_eq_false_iff_ne]; omega
            go_wp2
            try go_quiet (fail)
            try go_wp2
            go_ret
            exact ⟨by simp, (by first | exact bNextD c4 _ | exact ⟨c4.os, c4.tape, c4.output, c4.size, c4.block⟩)⟩
  · have hl' : decide ((1048576 : Int) < zs.length) = true := by simp; omega
    go_enter Try.func10, Try.ntmps10
    go_wp2
    go_ret
    exact ⟨rfl, Below.refl _ _⟩
end Go.Proofs.Ytjidmmjbgffapaa
