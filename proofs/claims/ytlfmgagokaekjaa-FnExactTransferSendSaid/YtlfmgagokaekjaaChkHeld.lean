/- heldChunk of the laws. -/
import Derived.Test.YtlfmgagokaekjaaChk0
namespace Go.Proofs.Ytlfmgagokaekjaa
open Go.RowKit
set_option linter.unusedVariables false
set_option linter.unusedSimpArgs false

set_option maxHeartbeats 400000 in
theorem heldChunk_any (u : Value) (n q : Int) (m : Nat) (w : World) (h1 : 0 ≤ q) (h2 : q ≤ 1000000000) (hl : m ≤ 4194304) (hr : RInts w u (upFrom q m)) :
    Calls Try.prog 38 #[chV n u, .int .i64 q] w fun e w' => e = .returned (.int .i64 (q + m)) ∧ Below w.heap.size w w' := by
  obtain ⟨a1, cap1, rfl, -, -, -⟩ := id hr
  have HR := Lib.hid hr; clear hr
  unfold chV
  go_enter Try.func38, Try.ntmps38
  go_wp2_with fail
  refine (heldIntS_up _ q m _ h1 h2 hl (HR.out.al _)).mono ?_
  rintro e w1 ⟨rfl, rfl⟩
  have hlt : decide (q + (m : Int) < 0) = false := decide_eq_false (by omega)
  go_wp2
  go_ret
  exact ⟨rfl, below_alloc _ _⟩

end Go.Proofs.Ytlfmgagokaekjaa
