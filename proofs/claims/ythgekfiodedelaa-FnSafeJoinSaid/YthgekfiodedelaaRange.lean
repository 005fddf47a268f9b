/- Ranges: what l6In and inRange answer. -/
import Derived.Test.YthgekfiodedelaaChecked
import Derived.Test.YthgekfiodedelaaBase
namespace Go.Proofs.Ythgekfiodedelaa
open Go.RowKit
set_option linter.unusedVariables false
set_option linter.unusedSimpArgs false

def ptB (n : Int) : Bool := decide (0 ≤ n ∧ n ≤ 63)
def inB (n low high : Int) : Bool := decide (low ≤ n ∧ n ≤ high)
theorem ptB_true {n : Int} (h : ptB n = true) : 0 ≤ n ∧ n ≤ 63 := by simpa [ptB] using h
theorem ptB_false {n : Int} (h : ptB n = false) : ¬ (0 ≤ n ∧ n ≤ 63) := by simpa [ptB] using h
theorem ptB_of {n : Int} (h : 0 ≤ n ∧ n ≤ 63) : ptB n = true := by simpa [ptB] using h
theorem inB_true {n a b : Int} (h : inB n a b = true) : a ≤ n ∧ n ≤ b := by simpa [inB] using h
theorem inB_of {n a b : Int} (h : a ≤ n ∧ n ≤ b) : inB n a b = true := by simpa [inB] using h
theorem inB_false {n a b : Int} (h : inB n a b = false) : ¬ (a ≤ n ∧ n ≤ b) := by simpa [inB] using h
theorem ptB_inB (n : Int) : ptB n = inB n 0 63 := by simp [ptB, inB]

set_option maxHeartbeats 400000 in
theorem l6In_any (n a b : Int) (w : World) : Calls Try.prog 76 #[.int .i64 n, .int .i64 a, .int .i64 b] w fun e w' => e = .returned (.bool (inB n a b)) ∧ w = w' := by
  by_cases h1 : a ≤ n
  · have h1' : decide (a ≤ n) = true := by simp [h1]
    by_cases h2 : n ≤ b
    · go_enter Try.func76, Try.ntmps76
      go_wp2
      go_ret
      exact ⟨ret_bool (by simp [inB, h1, h2]), rfl⟩
    · go_enter Try.func76, Try.ntmps76
      go_wp2
      go_ret
      exact ⟨ret_bool (by simp [inB, h1, h2]), rfl⟩
  · have h1' : decide (a ≤ n) = false := by simp [h1]
    go_enter Try.func76, Try.ntmps76
    go_wp2
    go_ret
    exact ⟨ret_bool (by simp [inB, h1]; omega), rfl⟩

set_option maxHeartbeats 400000 in
theorem inRange_any (n a b : Int) (w : World) : Calls Try.prog 91 #[.int .i64 n, .int .i64 a, .int .i64 b] w fun e w' => e = .returned (.bool (inB n a b)) ∧ w = w' := by
  by_cases h1 : a ≤ n
  · have h1' : decide (a ≤ n) = true := by simp [h1]
    by_cases h2 : n ≤ b
    · go_enter Try.func91, Try.ntmps91
      go_wp2
      go_ret
      exact ⟨ret_bool (by simp [inB, h1, h2]), rfl⟩
    · go_enter Try.func91, Try.ntmps91
      go_wp2
      go_ret
      exact ⟨ret_bool (by simp [inB, h1, h2]), rfl⟩
  · have h1' : decide (a ≤ n) = false := by simp [h1]
    go_enter Try.func91, Try.ntmps91
    go_wp2
    go_ret
    exact ⟨ret_bool (by simp [inB, h1]; omega), rfl⟩

end Go.Proofs.Ythgekfiodedelaa
