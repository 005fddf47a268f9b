/- sameTransfer, TransferValid of both sides, DrawTransferNew. -/
import Derived.Test.YtlfmgagokaekjaaTrNew
import Derived.Test.YtlfmgagokaekjaaSame
import Derived.Test.YtlfmgagokaekjaaDrawItems
namespace Go.Proofs.Ytlfmgagokaekjaa
open Go.RowKit
set_option linter.unusedVariables false
set_option linter.unusedSimpArgs false

def validB (n k : Int) (xs : List Int) : Bool := itemsB xs && inB n 0 xs.length && inB k 0 n

set_option maxHeartbeats 400000 in
theorem sameTransfer_any (u1 u2 : Value) (n k : Int) (xs : List Int) (w : World) (hl : xs.length ≤ 4194304) (hr1 : RInts w u1 xs) (hr2 : RInts w u2 xs) :
    Calls Try.prog 20 #[trV u1 n k, trV u2 n k] w fun e w' => e = .returned (.bool true) ∧ Below w.heap.size w w' := by
  obtain ⟨a1, cap1, rfl, -, -, -⟩ := id hr1
  obtain ⟨a2, cap2, rfl, -, -, -⟩ := id hr2
  have HR1 := Lib.hid hr1; clear hr1
  have HR2 := Lib.hid hr2; clear hr2
  unfold trV
  go_enter Try.func20, Try.ntmps20
  go_wp2_with fail
  refine (sameInts_any _ _ xs xs _ hl ((HR1.out.below (below_alloc _ _)).below (below_alloc _ _)) ((HR2.out.below (below_alloc _ _)).below (below_alloc _ _))).mono ?_
  rintro e w1 ⟨rfl, n1, rfl⟩
  go_wp2
  go_ret
  exact ⟨by simp, bNextD (bNext (below_alloc _ _) (below_alloc _ _)) _⟩

set_option maxHeartbeats 400000 in
theorem implTransferValid_any (u : Value) (n k : Int) (xs : List Int) (w : World) (hl : xs.length ≤ 4194304) (hr : RInts w u xs) :
    Calls Try.prog 22 #[trV u n k] w fun e w' => e = .returned (.bool (validB n k xs)) ∧ Below w.heap.size w w' := by
  obtain ⟨a1, cap1, rfl, -, -, -⟩ := id hr
  have HR := Lib.hid hr; clear hr
  unfold trV
  cases hI : itemsB xs with
  | false =>
    have hv : validB n k xs = false := by rw [validB, hI]; rfl
    have HI := Lib.hid hI; clear hI
    rw [hv]; clear hv
    go_enter Try.func22, Try.ntmps22
    go_wp2_with fail
    refine (itemsOk20_any _ xs _ hl (HR.out.below (below_alloc _ _))).mono ?_
    rw [HI.out]
    rintro e w1 ⟨rfl, rfl⟩
    go_wp2
    go_ret
    exact ⟨rfl, below_alloc _ _⟩
  | true =>
    cases hJ : inB n 0 xs.length with
    | false =>
      have hv : validB n k xs = false := by rw [validB, hI, hJ]; rfl
      have HI := Lib.hid hI; clear hI
      have HJ := Lib.hid hJ; clear hJ
      rw [hv]; clear hv
      go_enter Try.func22, Try.ntmps22
      go_wp2_with fail
      refine (itemsOk20_any _ xs _ hl (HR.out.below (below_alloc _ _))).mono ?_
      rw [HI.out]
      rintro e w1 ⟨rfl, rfl⟩
      go_wp2_with fail
      refine (inRange_any _ _ _ _).mono ?_
      rw [HJ.out]
      rintro e w2 ⟨rfl, rfl⟩
      go_wp2
      go_ret
      exact ⟨rfl, below_alloc _ _⟩
    | true =>
      have hv : validB n k xs = inB k 0 n := by rw [validB, hI, hJ]; rfl
      have HI := Lib.hid hI; clear hI
      have HJ := Lib.hid hJ; clear hJ
      rw [hv]; clear hv
      go_enter Try.func22, Try.ntmps22
      go_wp2_with fail
      refine (itemsOk20_any _ xs _ hl (HR.out.below (below_alloc _ _))).mono ?_
      rw [HI.out]
      rintro e w1 ⟨rfl, rfl⟩
      go_wp2_with fail
      refine (inRange_any _ _ _ _).mono ?_
      rw [HJ.out]
      rintro e w2 ⟨rfl, rfl⟩
      go_wp2_with fail
      refine (inRange_any _ _ _ _).mono ?_
      rintro e w2 ⟨rfl, rfl⟩
      go_wp2
      go_ret
      exact ⟨rfl, below_alloc _ _⟩

set_option maxHeartbeats 400000 in
theorem specTransferValid_any (u : Value) (n k : Int) (xs : List Int) (w : World) (hl : xs.length ≤ 4194304) (hr : RInts w u xs) :
    Calls Try.prog 21 #[trV u n k] w fun e w' => e = .returned (.bool (validB n k xs)) ∧ Below w.heap.size w w' := by
  obtain ⟨a1, cap1, rfl, -, -, -⟩ := id hr
  have HR := Lib.hid hr; clear hr
  unfold trV
  cases hI : itemsB xs with
  | false =>
    have hv : validB n k xs = false := by rw [validB, hI]; rfl
    have HI := Lib.hid hI; clear hI
    rw [hv]; clear hv
    go_enter Try.func21, Try.ntmps21
    go_wp2_with fail
    refine (l22Items_any _ xs _ hl (HR.out.below (below_alloc _ _))).mono ?_
    rw [HI.out]
    rintro e w1 ⟨rfl, rfl⟩
    go_wp2
    go_ret
    exact ⟨rfl, below_alloc _ _⟩
  | true =>
    cases hJ : inB n 0 xs.length with
    | false =>
      have hv : validB n k xs = false := by rw [validB, hI, hJ]; rfl
      have HI := Lib.hid hI; clear hI
      have HJ := Lib.hid hJ; clear hJ
      rw [hv]; clear hv
      go_enter Try.func21, Try.ntmps21
      go_wp2_with fail
      refine (l22Items_any _ xs _ hl (HR.out.below (below_alloc _ _))).mono ?_
      rw [HI.out]
      rintro e w1 ⟨rfl, rfl⟩
      go_wp2_with fail
      refine (l6In_any _ _ _ _).mono ?_
      rw [HJ.out]
      rintro e w2 ⟨rfl, rfl⟩
      go_wp2
      go_ret
      exact ⟨rfl, below_alloc _ _⟩
    | true =>
      have hv : validB n k xs = inB k 0 n := by rw [validB, hI, hJ]; rfl
      have HI := Lib.hid hI; clear hI
      have HJ := Lib.hid hJ; clear hJ
      rw [hv]; clear hv
      go_enter Try.func21, Try.ntmps21
      go_wp2_with fail
      refine (l22Items_any _ xs _ hl (HR.out.below (below_alloc _ _))).mono ?_
      rw [HI.out]
      rintro e w1 ⟨rfl, rfl⟩
      go_wp2_with fail
      refine (l6In_any _ _ _ _).mono ?_
      rw [HJ.out]
      rintro e w2 ⟨rfl, rfl⟩
      go_wp2_with fail
      refine (l6In_any _ _ _ _).mono ?_
      rintro e w2 ⟨rfl, rfl⟩
      go_wp2
      go_ret
      exact ⟨rfl, below_alloc _ _⟩

set_option maxHeartbeats 400000 in
theorem drawTransferNew_any (v : Value) (zs : List Int) (w : World) (hr : RBytes w v zs) (hl : zs.length ≤ 1048576) :
    Calls Try.prog 23 #[v] w fun e w' => ∃ u xs, e = .returned u ∧ OwnInts w' w.heap.size u xs ∧ xs.length ≤ 21 ∧ Below w.heap.size w w' := by
  go_enter Try.func23, Try.ntmps23
  go_wp2_with fail
  refine (l6Open_any v zs _ hr hl).mono ?_
  rintro e w1 ⟨b, rfl, hb, r1, b1⟩
  go_wp2_with fail
  refine (l92Items_any _ b 0 _ r1 (by omega)).mono ?_
  rintro e w2 ⟨u, xs, rfl, o2, hl2, -, g2⟩
  go_wp2
  go_ret
  exact ⟨_, _, rfl, o2.base b1.size, hl2, b1.grown g2 b1.size (fun j hj => by cases hj; exact hb)⟩
end Go.Proofs.Ytlfmgagokaekjaa
