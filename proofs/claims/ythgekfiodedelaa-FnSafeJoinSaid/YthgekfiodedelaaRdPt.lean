/- What l91Point draws. -/
import Derived.Test.YthgekfiodedelaaRd
namespace Go.Proofs.Ythgekfiodedelaa
open Go.RowKit
set_option linter.unusedVariables false
set_option linter.unusedSimpArgs false

set_option maxHeartbeats 1000000 in
theorem l91Point_any (S b : Nat) (p : Int) (w : World) (hr : IsRd w S b p) (hp : p ≤ 900000) :
    Calls Try.prog 40 #[.pointer (some ⟨b, 0, none⟩)] w fun e w' => ∃ m, e = .returned (.int .i64 m) ∧ (-1 ≤ m ∧ m ≤ 64) ∧ IsRd w' S b (p + 2) ∧ w.grownBy w' (some b) := by
  go_enter Try.func40, Try.ntmps40
  go_wp2_with fail
  refine (pick_any S b p _ _ hr (by omega) (by omega) (by omega)).mono ?_
  rintro e w1 ⟨m1, rfl, ⟨hm, hm'⟩, hr1, hg1⟩
  cases h0 : (m1 == 0) with
  | true =>
    go_wp2_with fail
    refine (pick_any S b (p + 1) _ _ hr1 (by omega) (by omega) (by omega)).mono ?_
    rintro e w2 ⟨m2, rfl, ⟨hm2, hm2'⟩, hr2, hg2⟩
    go_wp2
    go_ret
    exact ⟨_, rfl, ⟨by omega, by omega⟩, by rw [show p + 2 = p + 1 + 1 by omega]; exact hr2, hg1.trans hg2⟩
  | false =>
    go_wp2_with fail
    refine (pick_any S b (p + 1) _ _ hr1 (by omega) (by omega) (by omega)).mono ?_
    rintro e w2 ⟨m2, rfl, ⟨hm2, hm2'⟩, hr2, hg2⟩
    go_wp2
    go_ret
    exact ⟨_, rfl, ⟨by omega, by omega⟩, by rw [show p + 2 = p + 1 + 1 by omega]; exact hr2, hg1.trans hg2⟩

end Go.Proofs.Ythgekfiodedelaa
