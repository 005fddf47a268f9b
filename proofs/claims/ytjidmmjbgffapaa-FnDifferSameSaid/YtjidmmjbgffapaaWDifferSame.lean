/- The walks of FnDifferSame and FnDifferOne. -/
import Derived.Test.YtjidmmjbgffapaaDiffFacts
import Derived.Test.YtjidmmjbgffapaaDrawDiffer
import Derived.Test.YtjidmmjbgffapaaImplDiffer
import Derived.Test.YtjidmmjbgffapaaWSumsSet
namespace Go.Proofs.Ytjidmmjbgffapaa
open Go.RowKit
set_option linter.unusedVariables false
set_option linter.unusedSimpArgs false

set_option maxHeartbeats 600000 in
theorem differSame_walk (v : Value) (zs : List Int) (w : World) (hr : RBytes w v zs) :
    Calls Try.prog 13 #[v] w fun e w' => e = .returned (.bool true) ∧ Below w.heap.size w w' := by
  obtain ⟨⟨a, cap, rfl, g1, g2, -⟩, -⟩ := id hr
  have HR := Lib.hid hr; clear hr
  by_cases hl : zs.length ≤ 1048576
  · go_enter Try.func13, Try.ntmps13
    go_wp2_with fail
    refine (drawSumsDiffer_any _ zs _ HR.out hl).mono ?_
    rintro e w1 ⟨u1, u2, xs, ys, rfl, o1, o2, hxl, hyl, b1⟩
    go_wp2_with fail
    refine (implSumsDiffer_any _ _ xs ys _ (by omega) (by omega) o1.reads o2.reads).mono ?_
    rintro e w2 ⟨u3, rfl, o3, b3⟩
    have o1b := o1.below b3
    have o2b := o2.below b3
    go_wp2_with fail
    refine (specSumsDiffer_any _ _ xs ys _ (by omega) (by omega) o1b.reads o2b.reads).mono ?_
    rintro e w3 ⟨u4, rfl, o4, b4⟩
    have o1c := o1b.below b4
    have o2c := o2b.below b4
    have o3c := o3.below b4
    have c3 := bNext (bNext b1 b3) b4
    clear o1 o2 o1b o2b o3
    rcases diffM_cases xs ys with hT | ⟨hx, hy⟩
    · rw [hT] at o3c o4 ⊢
      clear hT
      go_wp2_with fail
      refine (sameInts_any _ _ [] [] _ (by simp) o3c.reads o4.reads).mono ?_
      rintro e w4 ⟨rfl, n4, rfl⟩
      go_wp2_with fail
      refine (sameInts_any _ _ [] [] _ (by simp) (o3c.drewN n4).reads (o4.drewN n4).reads).mono ?_
      rintro e w5 ⟨rfl, n5, rfl⟩
      go_wp2
      go_ret
      exact ⟨by simp, (by first | exact bNextD c3 _ | exact bNextD (bNextD c3 _) _)⟩
    · have HS := Lib.hid (diffM_self hx)
      have HC := Lib.hid (diffM_comm hx hy)
      have hE := diffM_good hx hy
      have hT31 : (diffL xs ys).length ≤ 31 := by have := lvsTo_le (dif xs ys) 31; unfold diffL; omega
      have hN31 : 0 ≤ diffN xs ys ∧ diffN xs ys ≤ 31 := by have := cntTo_le (dif xs ys) 31; unfold diffN; omega
      rw [hE] at o3c o4 HC ⊢
      clear hx hy hE
      generalize diffL xs ys = T at *
      generalize diffN xs ys = N at *
      obtain ⟨hN0, hN1⟩ := hN31
      have hlt : decide (N < 0) = false := decide_eq_false (by omega)
      go_wp2_with fail
      refine (sameInts_any _ _ T T _ (by omega) o3c.reads o4.reads).mono ?_
      rintro e w4 ⟨rfl, n4, rfl⟩
      have c4 := bNextD c3 n4
      go_wp2_with fail
      refine (implSumsDiffer_any _ _ ys xs _ (by omega) (by omega) (o2c.drewN n4).reads (o1c.drewN n4).reads).mono ?_
      rw [HC.out]
      rintro e w5 ⟨u5, rfl, o5, b5⟩
      have c5 := bNext c4 b5
      have o1d := (o1c.drewN n4).below b5
      have o3d := (o3c.drewN n4).below b5
      go_wp2_with fail
      refine (implSumsDiffer_any _ _ xs xs _ (by omega) (by omega) o1d.reads o1d.reads).mono ?_
      rw [HS.out]
      rintro e w6 ⟨u6, rfl, o6, b6⟩
      have c6 := bNext c5 b6
      obtain ⟨a6, cap6, rfl, -, -, -⟩ := o6.reads
      go_wp2_with fail
      refine (sameInts_any _ _ T T _ (by omega) (o5.below b6).reads (o3d.below b6).reads).mono ?_
      rintro e w7 ⟨rfl, n7, rfl⟩
      go_wp2
      go_ret
      exact ⟨by simp, bNextD c6 _⟩
  · have hl' : decide ((1048576 : Int) < zs.length) = true := decide_eq_true (by omega)
    go_enter Try.func13, Try.ntmps13
    go_wp2
    go_ret
    exact ⟨rfl, Below.refl _ _⟩
end Go.Proofs.Ytjidmmjbgffapaa
