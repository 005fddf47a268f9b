/- The walk of FnExactTokensOf: the law returns true. -/
import Derived.Test.YtmlibgpdlhimbaaTok
namespace Go.Proofs.Ytmlibgpdlhimbaa
open Go.RowKit
set_option linter.unusedVariables false
set_option linter.unusedSimpArgs false

set_option maxHeartbeats 1000000 in
theorem exactTokensOf_walk (a0 : Int) (h0 : -9223372036854775808 ≤ a0) (h0b : a0 ≤ 9223372036854775807) (a1 : Int) (h1 : -9223372036854775808 ≤ a1) (h1b : a1 ≤ 9223372036854775807) (w : World) :
    Calls Try.prog 3 #[.int .i64 a0, .int .i64 a1] w fun e w' => e = .returned (.bool true) ∧ Below w.heap.size w w' := by
  obtain ⟨T, hT⟩ : ∃ T, T = tokensM a0 a1 := ⟨_, rfl⟩
  have hl : T.length ≤ 5 := by rw [hT]; exact length_tokensM _ _
  have HT := Lib.hid hT; clear hT
  go_enter Try.func3, Try.ntmps3
  go_wp2_with fail
  refine (specTokensOf_any _ _ _).mono ?_
  rw [← HT.out]
  rintro e w1 ⟨v1, rfl, o1, b1⟩
  go_wp2_with fail
  refine (implTokensOf_any _ _ _).mono ?_
  rw [← HT.out]
  rintro e w2 ⟨v2, rfl, o2, b2⟩
  have s1 := b1.size
  have ap := own_apart o1 o2 (Nat.le_refl _)
  have o1b := o1.below b2
  have c2 := bNext b1 b2
  go_wp2_with fail
  refine (eqIntS_any _ _ T T _ (by omega) o2.reads o1b.reads).mono ?_
  rintro e w3 ⟨rfl, n3, rfl⟩
  go_wp2_with fail
  refine (markIntS_any _ T _ _ _ (by omega) (by omega) (by omega) (o2.drewN n3)).mono ?_
  rintro e w4 ⟨rfl, o2c, g4⟩
  have c4 := bNextOwn (bNextD c2 n3) (o2.drewN n3) s1 g4
  have o1c := (o1b.drewN n3).kept g4 ap
  go_wp2_with fail
  refine (heldIntS_any _ (upFrom 1 T.length) _ _ (by omega) (by omega) (by rw [length_upFrom]; omega) o2c.reads).mono ?_
  rw [heldFrom_up]
  rintro e w5 ⟨rfl, rfl⟩
  go_wp2_with fail
  refine (implTokensOf_any _ _ _).mono ?_
  rw [← HT.out]
  rintro e w6 ⟨v6, rfl, o6, b6⟩
  have c6 := bNext c4 b6
  have o1d := o1c.below b6
  have o2d := o2c.below b6
  go_wp2_with fail
  refine (eqIntS_any _ _ T T _ (by omega) o6.reads o1d.reads).mono ?_
  rintro e w7 ⟨rfl, n7, rfl⟩
  go_wp2_with fail
  refine (heldIntS_any _ (upFrom 1 T.length) _ _ (by omega) (by omega) (by rw [length_upFrom]; omega) (o2d.drewN n7).reads).mono ?_
  rw [heldFrom_up]
  rintro e w8 ⟨rfl, rfl⟩
  go_wp2
  go_ret
  exact ⟨rfl, bNextD c6 n7⟩
end Go.Proofs.Ytmlibgpdlhimbaa
