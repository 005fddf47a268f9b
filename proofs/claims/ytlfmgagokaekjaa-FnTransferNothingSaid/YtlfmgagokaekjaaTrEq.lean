/- eqTransfer, markTransfer, heldTransfer. -/
import Derived.Test.YtlfmgagokaekjaaTrNew
import Derived.Test.YtlfmgagokaekjaaEq
import Derived.Test.YtlfmgagokaekjaaMark
import Derived.Test.YtlfmgagokaekjaaHeld
namespace Go.Proofs.Ytlfmgagokaekjaa
open Go.RowKit
set_option linter.unusedVariables false
set_option linter.unusedSimpArgs false

set_option maxHeartbeats 400000 in
theorem eqTransfer_any (u1 u2 : Value) (n k : Int) (xs : List Int) (w : World) (hl : xs.length ≤ 4194304) (hr1 : RInts w u1 xs) (hr2 : RInts w u2 xs) :
    Calls Try.prog 33 #[trV u1 n k, trV u2 n k] w fun e w' => e = .returned (.bool true) ∧ Below w.heap.size w w' := by
  obtain ⟨a1, cap1, rfl, -, -, -⟩ := id hr1
  obtain ⟨a2, cap2, rfl, -, -, -⟩ := id hr2
  have HR1 := Lib.hid hr1; clear hr1
  have HR2 := Lib.hid hr2; clear hr2
  unfold trV
  go_enter Try.func33, Try.ntmps33
  go_wp2_with fail
  refine (eqIntS_any _ _ xs xs _ hl ((HR1.out.below (below_alloc _ _)).below (below_alloc _ _)) ((HR2.out.below (below_alloc _ _)).below (below_alloc _ _))).mono ?_
  rintro e w1 ⟨rfl, n1, rfl⟩
  go_wp2
  go_ret
  exact ⟨rfl, bNextD (bNext (below_alloc _ _) (below_alloc _ _)) _⟩

set_option maxHeartbeats 400000 in
theorem heldTransfer_any (u : Value) (n k q : Int) (m : Nat) (w : World) (h1 : 0 ≤ q) (h2 : q ≤ 1000000000) (hl : m ≤ 4194304) (hr : RInts w u (upFrom q m)) :
    Calls Try.prog 37 #[trV u n k, .int .i64 q] w fun e w' => e = .returned (.int .i64 (q + m)) ∧ Below w.heap.size w w' := by
  obtain ⟨a1, cap1, rfl, -, -, -⟩ := id hr
  have HR := Lib.hid hr; clear hr
  unfold trV
  go_enter Try.func37, Try.ntmps37
  go_wp2_with fail
  refine (heldIntS_any _ (upFrom q m) _ _ h1 (by omega) (by rw [length_upFrom]; omega) (HR.out.below (below_alloc _ _))).mono ?_
  rw [heldFrom_up]
  rintro e w1 ⟨rfl, rfl⟩
  have hlt : decide (q + (m : Int) < 0) = false := decide_eq_false (by omega)
  go_wp2
  go_ret
  exact ⟨rfl, below_alloc _ _⟩

set_option maxHeartbeats 400000 in
theorem markTransfer_any (u : Value) (n k q : Int) (zs : List Int) (w : World) (B : Nat) (h1 : 0 ≤ q) (h2 : q ≤ 1000000000) (hl : zs.length ≤ 4194304) (ho : OwnA w B u zs) :
    Calls Try.prog 35 #[trV u n k, .int .i64 q] w fun e w' => e = .returned (.int .i64 (q + zs.length)) ∧ OwnA w' B u (upFrom q zs.length) ∧ w.grownBy w' u.ownBlock := by
  obtain ⟨a1, cap1, rfl, -, -, -⟩ := id ho.reads
  have HO := Lib.hid ho; clear ho
  unfold trV
  go_enter Try.func35, Try.ntmps35
  go_wp2_with fail
  refine (markIntS_any _ zs q _ B h1 (by omega) hl (HO.out.below (below_alloc _ _))).mono ?_
  rintro e w1 ⟨rfl, o1, g1⟩
  go_wp2
  go_ret
  exact ⟨rfl, o1, (World.grownBy_alloc _ _ _).trans g1⟩
end Go.Proofs.Ytlfmgagokaekjaa
