/- The walk of FnExactSumsSet: the law returns true. -/
import Derived.Test.YtjidmmjbgffapaaSpecTree
import Derived.Test.YtjidmmjbgffapaaToInts
import Derived.Test.YtjidmmjbgffapaaEq
import Derived.Test.YtjidmmjbgffapaaMark
import Derived.Test.YtjidmmjbgffapaaHeld
namespace Go.Proofs.Ytjidmmjbgffapaa
open Go.RowKit
set_option linter.unusedVariables false
set_option linter.unusedSimpArgs false

set_option maxHeartbeats 1000000 in
theorem exactSumsSet_walk (v : Value) (zs : List Int) (x y : Int) (w : World) (hr : RInts w v zs) (hw : ∀ n ∈ zs, (Lit.int .i64 n).wf = true) (h1 : -9223372036854775808 ≤ x) (h1b : x ≤ 9223372036854775807) (h2 : -9223372036854775808 ≤ y) (h2b : y ≤ 9223372036854775807) :
    Calls Try.prog 6 #[v, .int .i64 x, .int .i64 y] w fun e w' => e = .returned (.bool true) ∧ Below w.heap.size w w' := by
  obtain ⟨a, cap, rfl, hc, hm, -⟩ := id hr
  have HR := Lib.hid hr; clear hr hw
  by_cases hl : zs.length ≤ 1048576
  · have hl' : decide ((1048576 : Int) < zs.length) = false := by simp; omega
    obtain ⟨T, hT⟩ : ∃ T, T = setM zs x y := ⟨_, rfl⟩
    have hTl : T.length ≤ 31 := by rw [hT]; exact length_setM zs x y
    have HT := Lib.hid hT; clear hT
    go_enter Try.func6, Try.ntmps6
    go_wp2_with fail
    refine (toIntS_any _ zs _ (by omega) HR.out).mono ?_
    rintro e w1 ⟨v1, rfl, o1, b1⟩
    go_wp2_with fail
    refine (specSumsSet_any _ zs _ _ _ (by omega) o1.reads).mono ?_
    rw [← HT.out]
    rintro e w2 ⟨v2, rfl, o2, b2⟩
    have c2 := bNext b1 b2
    go_wp2_with fail
    refine (toIntS_any _ zs _ (by omega) (HR.out.below c2)).mono ?_
    rintro e w3 ⟨v3, rfl, o3, b3⟩
    have c3 := bNext c2 b3
    go_wp2_with fail
    refine (implSumsSet_any _ zs _ _ _ (by omega) o3.reads).mono ?_
    rw [← HT.out]
    rintro e w4 ⟨v4, rfl, o4, b4⟩
    have c4 := bNext c3 b4
    have o2d := (o2.below b3).below b4
    have o3d := o3.below b4
    go_wp2_with fail
    refine (eqIntS_any _ _ T T _ (by omega) o4.reads o2d.reads).mono ?_
    rintro e w5 ⟨rfl, n5, rfl⟩
    go_wp2_with fail
    refine (toIntS_any _ zs _ (by omega) ((HR.out.below c4).drewN n5)).mono ?_
    rintro e w6 ⟨v6, rfl, o6, b6⟩
    have c6 := bNext (bNextD c4 n5) b6
    have o2e := (o2d.drewN n5).below b6
    have o3e := (o3d.drewN n5).below b6
    have o4e := (o4.drewN n5).below b6
    go_wp2_with fail
    refine (eqIntS_any _ _ zs zs _ (by omega) o3e.reads o6.reads).mono ?_
    rintro e w7 ⟨rfl, n7, rfl⟩
    go_wp2_with fail
    refine (markIntS_any _ zs _ _ _ (by omega) (by omega) (by omega) (o3e.any.drewN n7)).mono ?_
    rintro e w8 ⟨rfl, o3f, g8⟩
    have c8 := bNextA (bNextD c6 n7) (o3e.any.drewN n7) c2.size g8
    have o2f := (o2e.any.drewN n7).kept g8 (OwnA.apart o2.any o3.any (Nat.le_refl _))
    have o4f := (o4e.drewN n7).kept g8 (OwnA.apart' o3.any o4 (Nat.le_refl _))
    go_wp2_with fail
    refine (eqIntS_any _ _ T T _ (by omega) o4f.reads o2f.reads).mono ?_
    rintro e w9 ⟨rfl, n9, rfl⟩
    go_wp2_with fail
    refine (markIntS_any _ T _ _ _ (by omega) (by omega) (by omega) (o4f.drewN n9)).mono ?_
    rintro e w10 ⟨rfl, o4g, g10⟩
    have c10 := bNextA (bNextD c8 n9) (o4f.drewN n9) c3.size g10
    have o2g := (o2f.drewN n9).kept g10 (OwnA.apart o2.any o4 b3.size)
    go_wp2_with fail
    refine (heldIntS_any _ (upFrom 1 T.length) _ _ (by omega) (by omega) (by rw [length_upFrom]; omega) o4g.reads).mono ?_
    rw [heldFrom_up]
    rintro e w11 ⟨rfl, rfl⟩
    go_wp2_with fail
    refine (toIntS_any _ zs _ (by omega) (HR.out.below c10)).mono ?_
    rintro e w12 ⟨v12, rfl, o12, b12⟩
    have c12 := bNext c10 b12
    go_wp2_with fail
    refine (implSumsSet_any _ zs _ _ _ (by omega) o12.reads).mono ?_
    rw [← HT.out]
    rintro e w13 ⟨v13, rfl, o13, b13⟩
    have c13 := bNext c12 b13
    have o2h := (o2g.below b12).below b13
    have o4h := (o4g.below b12).below b13
    go_wp2_with fail
    refine (eqIntS_any _ _ T T _ (by omega) o13.reads o2h.reads).mono ?_
    rintro e w14 ⟨rfl, n14, rfl⟩
    go_wp2_with fail
    refine (heldIntS_any _ (upFrom 1 T.length) _ _ (by omega) (by omega) (by rw [length_upFrom]; omega) (o4h.drewN n14).reads).mono ?_
    rw [heldFrom_up]
    rintro e w15 ⟨rfl, rfl⟩
    go_wp2
    go_ret
    exact ⟨rfl, bNextD c13 n14⟩
  · have hl' : decide ((1048576 : Int) < zs.length) = true := by simp; omega
    go_enter Try.func6, Try.ntmps6
    go_wp2
    go_ret
    exact ⟨rfl, Below.refl _ _⟩
end Go.Proofs.Ytjidmmjbgffapaa
