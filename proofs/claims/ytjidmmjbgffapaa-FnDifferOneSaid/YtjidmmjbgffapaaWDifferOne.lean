/- The walk of FnDifferOne. -/
import Derived.Test.YtjidmmjbgffapaaDiffFacts
import Derived.Test.YtjidmmjbgffapaaDrawDiffer
import Derived.Test.YtjidmmjbgffapaaImplDiffer
import Derived.Test.YtjidmmjbgffapaaWSumsSet
namespace Go.Proofs.Ytjidmmjbgffapaa
open Go.RowKit
set_option linter.unusedVariables false
set_option linter.unusedSimpArgs false

set_option maxHeartbeats 600000 in
theorem differOne_walk (v : Value) (zs : List Int) (v2 : Value) (zs2 : List Int) (w : World) (hr : RBytes w v zs) (hr2 : RBytes w v2 zs2) :
    Calls Try.prog 14 #[v, v2] w fun e w' => e = .returned (.bool true) ∧ Below w.heap.size w w' := by
  obtain ⟨⟨a, cap, rfl, g1, g2, -⟩, -⟩ := id hr
  obtain ⟨⟨a', cap', rfl, g1', g2', -⟩, -⟩ := hr2
  have HR := Lib.hid hr; clear hr
  by_cases hl : zs.length ≤ 1048576
  · by_cases hl2 : zs2.length ≤ 1048576
    · go_enter Try.func14, Try.ntmps14
      go_wp2_with fail
      refine (drawSumsDiffer_any _ zs _ HR.out hl).mono ?_
      rintro e w1 ⟨u1, u2, xs, ys, rfl, o1, o2, hxl, hyl, b1⟩
      go_wp2_with fail
      refine (implSumsDiffer_any _ _ xs ys _ (by omega) (by omega) o1.reads o2.reads).mono ?_
      rintro e w2 ⟨u3, rfl, o3, b3⟩
      have o1b := o1.below b3
      have o2b := o2.below b3
      go_wp2_with fail
      refine (specSumsDiffer_any _ _ xs ys _ (by omega) (by omega) o1b.reads o2b.reads).mono ?_
      rintro e w3 ⟨u4, rfl, o4, b4⟩
      have o1c := o1b.below b4
      have o2c := o2b.below b4
      have o3c := o3.below b4
      have c3 := bNext (bNext b1 b3) b4
      clear o1 o2 o1b o2b o3
      rcases diffM_cases xs ys with hT | ⟨hx, hy⟩
      · rw [hT] at o3c o4 ⊢
        clear hT
        go_wp2_with fail
        refine (sameInts_any _ _ [] [] _ (by simp) o3c.reads o4.reads).mono ?_
        rintro e w4 ⟨rfl, n4, rfl⟩
        go_wp2_with fail
        refine (sameInts_any _ _ [] [] _ (by simp) (o3c.drewN n4).reads (o4.drewN n4).reads).mono ?_
        rintro e w5 ⟨rfl, n5, rfl⟩
        go_wp2
        go_ret
        exact ⟨by simp, (by first | exact bNextD c3 _ | exact bNextD (bNextD c3 _) _)⟩
      · have hE := diffM_good hx hy
        have hT31 : (diffL xs ys).length ≤ 31 := by have := lvsTo_le (dif xs ys) 31; unfold diffL; omega
        have hN31 : 0 ≤ diffN xs ys ∧ diffN xs ys ≤ 31 := by have := cntTo_le (dif xs ys) 31; unfold diffN; omega
        rw [hE] at o3c o4 ⊢
        obtain ⟨hx31, h16, hxr, hxt⟩ := validM_true hx
        clear hx hy hE o2c
        generalize diffL xs ys = T at *
        generalize diffN xs ys = N at *
        generalize xs.drop 15 = vs at *
        subst hxt
        obtain ⟨hN0, hN1⟩ := hN31
        have hlt : decide (N < 0) = false := decide_eq_false (by omega)
        obtain ⟨l, hl'⟩ : ∃ l, l = zs2.length % 16 := ⟨_, rfl⟩
        have hll : l < 16 := by omega
        have hlm : (zs2.length : Int) % 16 = l := by omega
        obtain ⟨b1', off1, cq1, rfl, hp1, hp2, hR1, hcell1⟩ := o1c.reads.shape (length_treeL vs) (by omega)
        obtain ⟨hbl1, hx1⟩ := hcell1 (15 + l) (by simp; omega)
        rw [treeL_get, tr_leaf _ (by omega)] at hx1
        have hgl : vs.getD (15 + l - 15) 0 = vs[l]'(by omega) := by
          rw [List.getD_eq_getElem?_getD, List.getElem?_eq_getElem (by omega)]; simp
        rw [hgl] at hx1
        have hzr := hxr _ (List.getElem_mem (show l < vs.length by omega))
        obtain ⟨z, hz⟩ : ∃ z, z = vs[l]'(by omega) := ⟨_, rfl⟩
        rw [← hz] at hx1 hzr
        obtain ⟨y, hy⟩ : ∃ y, y = (z + 1) % 991 := ⟨_, rfl⟩
        have hy0 : 0 ≤ y ∧ y ≤ 990 := by omega
        have HS := Lib.hid (setM_tree h16 hxr hll hy0.1 hy0.2)
        have HO := Lib.hid (diffM_one h16 hxr hll hy0.1 hy0.2 (by rw [← hz]; omega))
        obtain ⟨hz0, hz1⟩ := hzr
        have hM2 : (z + 1) % 991 = y := hy.symm
        have hM4 : (15 : Int) + l < 31 := by omega
        have hM5 : (l : Int) < 16 := by omega
        clear hcell1 hgl hz hy hl' h16 hxr hx31 hxl o1c
        go_wp2_with fail
        refine (sameInts_any _ _ T T _ (by omega) o3c.reads o4.reads).mono ?_
        rintro e w4 ⟨rfl, n4, rfl⟩
        have c4 := bNextD c3 n4
        have hx4 : (w3.drewN n4).cell? ⟨b1', off1 + (15 + l), none⟩ = some (.int .i64 z) := hx1
        go_wp2_with fail
        refine (implSumsSet_any _ (treeL vs) _ _ _ (by simp) (hR1.drewN _)).mono ?_
        rw [HS.out]
        rintro e w6 ⟨u6, rfl, o6, b6⟩
        have c6 := bNext c4 b6
        have hR6 := (hR1.drewN n4).below b6
        go_wp2_with fail
        refine (implSumsDiffer_any _ _ (treeL vs) (treeL (vs.set l y)) _ (by simp) (by simp) hR6 o6.reads).mono ?_
        rw [HO.out]
        rintro e w7 ⟨u7, rfl, o7, b7⟩
        have c7 := bNext c6 b7
        go_wp2_with fail
        refine (sameInts_any _ _ [(l : Int)] [(l : Int)] _ (by simp) (o7.below (below_alloc _ _)).reads ?lit).mono ?_
        case lit =>
          refine ⟨_, 1, rfl, by simp, by decide, fun i hi => ?_⟩
          obtain rfl : i = 0 := by simp at hi; exact hi
          exact ⟨_, 0, rfl, by simp, cell_one_new _ _ _ 0 _ rfl⟩
        rintro e w8 ⟨rfl, n8, rfl⟩
        go_wp2
        go_ret
        exact ⟨by simp, bNextD (bNext c7 (below_alloc _ _)) _⟩
    · have hl2' : decide ((1048576 : Int) < zs2.length) = true := decide_eq_true (by omega)
      go_enter Try.func14, Try.ntmps14
      go_wp2
      go_ret
      exact ⟨rfl, Below.refl _ _⟩
  · have hl' : decide ((1048576 : Int) < zs.length) = true := decide_eq_true (by omega)
    go_enter Try.func14, Try.ntmps14
    go_wp2
    go_ret
    exact ⟨rfl, Below.refl _ _⟩
end Go.Proofs.Ytjidmmjbgffapaa
