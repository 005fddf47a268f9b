/- The walk of FnExactSumsDiffer: the law returns true. -/
import Derived.Test.YtjidmmjbgffapaaImplDiffer
import Derived.Test.YtjidmmjbgffapaaToInts
import Derived.Test.YtjidmmjbgffapaaEq
import Derived.Test.YtjidmmjbgffapaaMark
import Derived.Test.YtjidmmjbgffapaaHeld
namespace Go.Proofs.Ytjidmmjbgffapaa
open Go.RowKit
set_option linter.unusedVariables false
set_option linter.unusedSimpArgs false

theorem length_diffM (ls ms : List Int) : (diffM ls ms).1.length ≤ 16 := by
  unfold diffM
  split
  · exact lvsTo_le _ 31
  · simp

set_option maxHeartbeats 1000000 in
theorem exactSumsDiffer_walk (v1 : Value) (xs : List Int) (v2 : Value) (ys : List Int) (w : World) (hr1 : RInts w v1 xs) (hw1 : ∀ n ∈ xs, (Lit.int .i64 n).wf = true) (hr2 : RInts w v2 ys) (hw2 : ∀ n ∈ ys, (Lit.int .i64 n).wf = true) :
    Calls Try.prog 7 #[v1, v2] w fun e w' => e = .returned (.bool true) ∧ Below w.heap.size w w' := by
  obtain ⟨a, cap, rfl, hc, hm, -⟩ := id hr1
  obtain ⟨a', cap', rfl, hc', hm', -⟩ := id hr2
  have HX := Lib.hid hr1; clear hr1 hw1
  have HY := Lib.hid hr2; clear hr2 hw2
  by_cases hl : xs.length ≤ 1048576
  · by_cases hl2 : ys.length ≤ 1048576
    · have hl' : decide ((1048576 : Int) < xs.length) = false := by simp; omega
      have hl2' : decide ((1048576 : Int) < ys.length) = false := by simp; omega
      obtain ⟨T, hT⟩ : ∃ T, T = (diffM xs ys).1 := ⟨_, rfl⟩
      obtain ⟨N, hN⟩ : ∃ N, N = (diffM xs ys).2 := ⟨_, rfl⟩
      have hTl : T.length ≤ 16 := by rw [hT]; exact length_diffM xs ys
      have HT := Lib.hid hT; clear hT
      have HN := Lib.hid hN; clear hN
      go_enter Try.func7, Try.ntmps7
      go_wp2_with fail
      refine (toIntS_any _ xs _ (by omega) HX.out).mono ?_
      rintro e w1 ⟨t1, rfl, o1, b1⟩
      go_wp2_with fail
      refine (toIntS_any _ ys _ (by omega) (HY.out.below b1)).mono ?_
      rintro e w2 ⟨t2, rfl, o2, b2⟩
      have c2 := bNext b1 b2
      go_wp2_with fail
      refine (specSumsDiffer_any _ _ xs ys _ (by omega) (by omega) (o1.below b2).reads o2.reads).mono ?_
      rw [← HT.out, ← HN.out]
      rintro e w3 ⟨t3, rfl, o3, b3⟩
      have c3 := bNext c2 b3
      go_wp2_with fail
      refine (toIntS_any _ xs _ (by omega) (HX.out.below c3)).mono ?_
      rintro e w4 ⟨t4, rfl, o4, b4⟩
      have c4 := bNext c3 b4
      go_wp2_with fail
      refine (toIntS_any _ ys _ (by omega) (HY.out.below c4)).mono ?_
      rintro e w5 ⟨t5, rfl, o5, b5⟩
      have c5 := bNext c4 b5
      go_wp2_with fail
      refine (implSumsDiffer_any _ _ xs ys _ (by omega) (by omega) (o4.below b5).reads o5.reads).mono ?_
      rw [← HT.out, ← HN.out]
      rintro e w6 ⟨t6, rfl, o6, b6⟩
      have c6 := bNext c5 b6
      have o3f := (((o3.below b4).below b5).below b6)
      have o4f := (o4.below b5).below b6
      have o5f := o5.below b6
      have ap34 := OwnA.apart o3.any o4.any (Nat.le_refl _)
      have ap35 := OwnA.apart o3.any o5.any b4.size
      have ap36 := OwnA.apart o3.any o6.any (Nat.le_trans b4.size b5.size)
      have ap45 := OwnA.apart o4.any o5.any (Nat.le_refl _)
      have ap46 := OwnA.apart o4.any o6.any b5.size
      have ap64 := OwnA.apart' o4.any o6.any b5.size
      have ap54 := OwnA.apart' o4.any o5.any (Nat.le_refl _)
      have ap65 := OwnA.apart' o5.any o6.any (Nat.le_refl _)
      have z3 : w.heap.size ≤ w3.heap.size := c3.size
      have z4 : w.heap.size ≤ w4.heap.size := c4.size
      have z5 : w.heap.size ≤ w5.heap.size := c5.size
      go_wp2_with fail
      refine (eqIntS_any _ _ T T _ (by omega) o6.reads o3f.reads).mono ?_
      rintro e w7 ⟨rfl, n7, rfl⟩
      go_wp2_with fail
      refine (toIntS_any _ xs _ (by omega) ((HX.out.below c6).drewN n7)).mono ?_
      rintro e w8 ⟨t8, rfl, o8, b8⟩
      have c8 := bNext (bNextD c6 n7) b8
      have o3h := (o3f.drewN n7).below b8
      have o4h := (o4f.drewN n7).below b8
      have o5h := (o5f.drewN n7).below b8
      have o6h := (o6.drewN n7).below b8
      go_wp2_with fail
      refine (eqIntS_any _ _ xs xs _ (by omega) o4h.reads o8.reads).mono ?_
      rintro e w9 ⟨rfl, n9, rfl⟩
      go_wp2_with fail
      refine (toIntS_any _ ys _ (by omega) ((HY.out.below c8).drewN n9)).mono ?_
      rintro e w10 ⟨t10, rfl, o10, b10⟩
      have c10 := bNext (bNextD c8 n9) b10
      have o3j := (o3h.drewN n9).below b10
      have o4j := (o4h.drewN n9).below b10
      have o5j := (o5h.drewN n9).below b10
      have o6j := (o6h.drewN n9).below b10
      go_wp2_with fail
      refine (eqIntS_any _ _ ys ys _ (by omega) o5j.reads o10.reads).mono ?_
      rintro e w11 ⟨rfl, n11, rfl⟩
      go_wp2_with fail
      refine (markIntS_any _ xs _ _ _ (by omega) (by omega) (by omega) (o4j.any.drewN n11)).mono ?_
      rintro e w12 ⟨rfl, o4k, g12⟩
      have c12 := bNextA (bNextD c10 n11) (o4j.any.drewN n11) z3 g12
      have o3k := (o3j.any.drewN n11).kept g12 ap34
      have o5k := (o5j.any.drewN n11).kept g12 ap54
      have o6k := (o6j.any.drewN n11).kept g12 ap64
      go_wp2_with fail
      refine (markIntS_any _ ys _ _ _ (by omega) (by omega) (by omega) o5k).mono ?_
      rintro e w13 ⟨rfl, o5l, g13⟩
      have c13 := bNextA c12 o5k z4 g13
      have o3l := o3k.kept g13 ap35
      have o6l := o6k.kept g13 ap65
      go_wp2_with fail
      refine (eqIntS_any _ _ T T _ (by omega) o6l.reads o3l.reads).mono ?_
      rintro e w14 ⟨rfl, n14, rfl⟩
      go_wp2_with fail
      refine (markIntS_any _ T _ _ _ (by omega) (by omega) (by omega) (o6l.drewN n14)).mono ?_
      rintro e w15 ⟨rfl, o6m, g15⟩
      have c15 := bNextA (bNextD c13 n14) (o6l.drewN n14) z5 g15
      have o3m := (o3l.drewN n14).kept g15 ap36
      go_wp2_with fail
      refine (heldIntS_any _ (upFrom 1 T.length) _ _ (by omega) (by omega) (by rw [length_upFrom]; omega) o6m.reads).mono ?_
      rw [heldFrom_up]
      rintro e w16 ⟨rfl, rfl⟩
      go_wp2_with fail
      refine (toIntS_any _ xs _ (by omega) (HX.out.below c15)).mono ?_
      rintro e w17 ⟨t17, rfl, o17, b17⟩
      have c17 := bNext c15 b17
      go_wp2_with fail
      refine (toIntS_any _ ys _ (by omega) (HY.out.below c17)).mono ?_
      rintro e w18 ⟨t18, rfl, o18, b18⟩
      have c18 := bNext c17 b18
      go_wp2_with fail
      refine (implSumsDiffer_any _ _ xs ys _ (by omega) (by omega) (o17.below b18).reads o18.reads).mono ?_
      rw [← HT.out, ← HN.out]
      rintro e w19 ⟨t19, rfl, o19, b19⟩
      have c19 := bNext c18 b19
      have o3n := ((o3m.below b17).below b18).below b19
      have o6n := ((o6m.below b17).below b18).below b19
      go_wp2_with fail
      refine (eqIntS_any _ _ T T _ (by omega) o19.reads o3n.reads).mono ?_
      rintro e w20 ⟨rfl, n20, rfl⟩
      go_wp2_with fail
      refine (heldIntS_any _ (upFrom 1 T.length) _ _ (by omega) (by omega) (by rw [length_upFrom]; omega) (o6n.drewN n20).reads).mono ?_
      rw [heldFrom_up]
      rintro e w21 ⟨rfl, rfl⟩
      go_wp2
      go_ret
      exact ⟨rfl, bNextD c19 n20⟩
    · have hl' : decide ((1048576 : Int) < xs.length) = false := by simp; omega
      have hl2' : decide ((1048576 : Int) < ys.length) = true := by simp; omega
      go_enter Try.func7, Try.ntmps7
      go_wp2
      go_ret
      exact ⟨rfl, Below.refl _ _⟩
  · have hl' : decide ((1048576 : Int) < xs.length) = true := by simp; omega
    go_enter Try.func7, Try.ntmps7
    go_wp2
    go_ret
    exact ⟨rfl, Below.refl _ _⟩
end Go.Proofs.Ytjidmmjbgffapaa
