/- Positions: what ok and l1Point answer. -/
import Derived.Test.YthgekfiodedelaaRange
namespace Go.Proofs.Ythgekfiodedelaa
open Go.RowKit
set_option linter.unusedVariables false
set_option linter.unusedSimpArgs false

set_option maxHeartbeats 400000 in
theorem ok_any (n : Int) (w : World) : Calls Try.prog 64 #[.int .i64 n] w fun e w' => e = .returned (.bool (ptB n)) ∧ w = w' := by
  by_cases h1 : 0 ≤ n
  · have h1' : decide (0 ≤ n) = true := by simp [h1]
    go_enter Try.func64, Try.ntmps64
    go_wp2
    all_goals (go_ret; exact ⟨ret_bool (by simp [ptB, h1]; omega), rfl⟩)
  · have h1' : decide (0 ≤ n) = false := by simp [h1]
    go_enter Try.func64, Try.ntmps64
    go_wp2
    go_ret
    exact ⟨ret_bool (by simp [ptB, h1]; omega), rfl⟩

set_option maxHeartbeats 400000 in
theorem l1Point_any (n : Int) (w : World) : Calls Try.prog 44 #[.int .i64 n] w fun e w' => e = .returned (.bool (ptB n)) ∧ w = w' := by
  go_enter Try.func44, Try.ntmps44
  go_wp2_with (go_at_call 76; refine (l6In_any _ _ _ _).mono ?_; rintro e w' ⟨rfl, rfl⟩)
  go_ret
  exact ⟨ret_bool (ptB_inB n).symm, rfl⟩
end Go.Proofs.Ythgekfiodedelaa
