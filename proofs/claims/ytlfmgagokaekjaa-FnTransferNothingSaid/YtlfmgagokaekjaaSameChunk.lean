/- sameChunk of the laws; what a chunk that was sent tells. -/
import Derived.Test.YtlfmgagokaekjaaSteps
namespace Go.Proofs.Ytlfmgagokaekjaa
open Go.RowKit
set_option linter.unusedVariables false
set_option linter.unusedSimpArgs false

set_option maxHeartbeats 400000 in
theorem sameChunk_any (u1 u2 : Value) (n : Int) (xs : List Int) (w : World) (hl : xs.length ≤ 4194304) (hr1 : RInts w u1 xs) (hr2 : RInts w u2 xs) :
    Calls Try.prog 30 #[chV n u1, chV n u2] w fun e w' => e = .returned (.bool true) ∧ Below w.heap.size w w' := by
  obtain ⟨a1, cap1, rfl, -, -, -⟩ := id hr1
  obtain ⟨a2, cap2, rfl, -, -, -⟩ := id hr2
  have HR1 := Lib.hid hr1; clear hr1
  have HR2 := Lib.hid hr2; clear hr2
  unfold chV
  go_enter Try.func30, Try.ntmps30
  go_wp2_with fail
  refine (sameInts_any _ _ xs xs _ hl ((HR1.out.al _).al _) ((HR2.out.al _).al _)).mono ?_
  rintro e w1 ⟨rfl, n1, rfl⟩
  go_wp2
  go_ret
  exact ⟨by simp, bDr (bAl (below_alloc _ _) _) _⟩

/-- What is known where something is sent. -/
theorem sent_parts {n k m : Int} {xs : List Int} (h : sendB n k m xs = true) : ∃ a b E : Nat, n = a ∧ k = b ∧ b ≤ a ∧ a < E ∧ E ≤ xs.length ∧ E ≤ a + 4 ∧ (E : Int) ≤ b + m ∧ xs.length ≤ 20 ∧ itemsB xs = true ∧
    sendL n k m xs = xs ∧ sendN n k m xs = E ∧ sendK n k m xs = b ∧ sendA n k m xs = a ∧ sendC n k m xs = (xs.take E).drop a := by
  have hg : sendG n k m xs = true := by simp only [sendB, Bool.and_eq_true] at h; exact h.1
  have hE : n < sendE n k m xs := by simp only [sendB, Bool.and_eq_true, decide_eq_true_eq] at h; exact h.2
  obtain ⟨hv, _, h1, h2, h3, h4, h5, h6⟩ := sendG_parts hg
  obtain ⟨e1, e2, e3, e4, e5, _⟩ := send_some hg hE
  have hi : itemsB xs = true := by simp only [validB, Bool.and_eq_true] at hv; exact hv.1.1
  obtain ⟨a, rfl⟩ := Int.eq_ofNat_of_zero_le (show 0 ≤ n by omega)
  obtain ⟨b, rfl⟩ := Int.eq_ofNat_of_zero_le h2
  obtain ⟨E, hEe⟩ := Int.eq_ofNat_of_zero_le (show 0 ≤ sendE a b m xs by omega)
  have hE1 : sendE a b m xs ≤ xs.length := by unfold sendE; omega
  have hE2 : sendE a b m xs ≤ a + 4 := by unfold sendE; omega
  have hE3 : sendE a b m xs ≤ b + m := by unfold sendE; omega
  refine ⟨a, b, E, rfl, rfl, by omega, by omega, by omega, by omega, by omega, h1, hi, e1, by rw [e2, hEe], e3, e4, by rw [e5, hEe]; simp⟩
/-- What is known where nothing is sent although the transfer and the window are good. -/
theorem unsent_parts {n k m : Int} {xs : List Int} (hv : validB n k xs = true) (hm0 : ¬ m < 0) (hm : ¬ 20 < m) (h : sendB n k m xs = false) : (n = xs.length ∨ m ≤ n - k) ∧ sendL n k m xs = xs ∧ sendN n k m xs = n ∧ sendK n k m xs = k := by
  have hg : sendG n k m xs = true := by simp only [sendG, hv, Bool.true_and]; exact inB_of ⟨by omega, by omega⟩
  have hE : sendE n k m xs ≤ n := by
    simp only [sendB, hg, Bool.true_and, decide_eq_false_iff_not] at h; omega
  obtain ⟨_, _, h1, h2, h3, h4, h5, h6⟩ := sendG_parts hg
  obtain ⟨e1, e2, e3, _⟩ := send_none hg hE
  refine ⟨?_, e1, e2, e3⟩
  unfold sendE at hE; omega
theorem sent_more {n k m : Int} {xs : List Int} (h : sendB n k m xs = true) : ¬ n = xs.length ∧ ¬ m ≤ n - k := by
  obtain ⟨a, b, E, rfl, rfl, h1, h2, h3, h4, h5, -⟩ := sent_parts h
  omega
end Go.Proofs.Ytlfmgagokaekjaa
