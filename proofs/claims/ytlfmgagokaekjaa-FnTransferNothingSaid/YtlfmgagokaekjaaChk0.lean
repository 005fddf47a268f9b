/- Chunks: what the laws' helpers and chunkOk of both sides answer. -/
import Derived.Test.YtlfmgagokaekjaaTrAck
namespace Go.Proofs.Ytlfmgagokaekjaa
open Go.RowKit
set_option linter.unusedVariables false
set_option linter.unusedSimpArgs false

def chV (n : Int) (u : Value) : Value := .agg #[.int .i64 n, u]
theorem infoCh : (Try.prog.info? 25).map (·.size) = some 2 := by kernel_rfl
def chunkB (n : Int) (zs : List Int) : Bool := decide (1 ≤ zs.length) && (allB zs && decide (zs.length ≤ 4)) && inB n 0 (20 - zs.length)

set_option maxHeartbeats 400000 in
theorem eqChunk_any (u1 u2 : Value) (n : Int) (xs : List Int) (w : World) (hl : xs.length ≤ 4194304) (hr1 : RInts w u1 xs) (hr2 : RInts w u2 xs) :
    Calls Try.prog 34 #[chV n u1, chV n u2] w fun e w' => e = .returned (.bool true) ∧ Below w.heap.size w w' := by
  obtain ⟨a1, cap1, rfl, -, -, -⟩ := id hr1
  obtain ⟨a2, cap2, rfl, -, -, -⟩ := id hr2
  have HR1 := Lib.hid hr1; clear hr1
  have HR2 := Lib.hid hr2; clear hr2
  unfold chV
  go_enter Try.func34, Try.ntmps34
  go_wp2_with fail
  refine (eqIntS_same _ _ xs _ hl ((HR1.out.al _).al _) ((HR2.out.al _).al _)).mono ?_
  rintro e w1 ⟨rfl, n1, rfl⟩
  go_wp2
  go_ret
  exact ⟨rfl, bDr (bAl (below_alloc _ _) _) _⟩

set_option maxHeartbeats 400000 in
theorem markChunk_any (u : Value) (n q : Int) (zs : List Int) (w : World) (B : Nat) (h1 : 0 ≤ q) (h2 : q ≤ 1000000000) (hl : zs.length ≤ 4194304) (ho : OwnA w B u zs) :
    Calls Try.prog 36 #[chV n u, .int .i64 q] w fun e w' => e = .returned (.int .i64 (q + zs.length)) ∧ OwnA w' B u (upFrom q zs.length) ∧ w.grownBy w' u.ownBlock := by
  obtain ⟨a1, cap1, rfl, -, -, -⟩ := id ho.reads
  have HO := Lib.hid ho; clear ho
  unfold chV
  go_enter Try.func36, Try.ntmps36
  go_wp2_with fail
  refine (markIntS_any _ zs q _ B h1 (by omega) hl (HO.out.al _)).mono ?_
  rintro e w1 ⟨rfl, o1, g1⟩
  go_wp2
  go_ret
  exact ⟨rfl, o1, (World.grownBy_alloc _ _ _).trans g1⟩

set_option maxHeartbeats 600000 in
theorem implChunkOk_any (u : Value) (n : Int) (zs : List Int) (w : World) (hl : zs.length ≤ 4194304) (hr : RInts w u zs) :
    Calls Try.prog 43 #[chV n u] w fun e w' => e = .returned (.bool (chunkB n zs)) ∧ Below w.heap.size w w' := by
  obtain ⟨a1, cap1, rfl, hcap, hmax, -⟩ := id hr
  have HR := Lib.hid hr; clear hr
  unfold chV
  by_cases h1 : 1 ≤ zs.length
  · have hd1 : decide ((0 : Int) < zs.length) = true := decide_eq_true (by omega)
    have hd1' : decide (0 < zs.length) = true := decide_eq_true (by omega)
    cases h2 : (allB zs && decide (zs.length ≤ 4)) with
    | false =>
      have hv : chunkB n zs = false := by rw [chunkB, h2, Bool.and_false, Bool.false_and]
      have H2 := Lib.hid h2; clear h2
      rw [hv]; clear hv
      go_enter Try.func43, Try.ntmps43
      go_wp2_with fail
      refine (itemsOk_any _ zs 4 _ hl (HR.out.al _)).mono ?_
      rw [H2.out]
      rintro e w1 ⟨rfl, rfl⟩
      go_wp2
      go_ret
      exact ⟨rfl, below_alloc _ _⟩
    | true =>
      have hv : chunkB n zs = inB n 0 (20 - zs.length) := by rw [chunkB, h2, decide_eq_true h1]; rfl
      have hl4 : zs.length ≤ 4 := by simp at h2; exact h2.2
      have H2 := Lib.hid h2; clear h2
      rw [hv]; clear hv
      go_enter Try.func43, Try.ntmps43
      go_wp2_with fail
      refine (itemsOk_any _ zs 4 _ hl (HR.out.al _)).mono ?_
      rw [H2.out]
      rintro e w1 ⟨rfl, rfl⟩
      go_wp2_with fail
      refine (inRange_any _ _ _ _).mono ?_
      rintro e w2 ⟨rfl, rfl⟩
      go_wp2
      go_ret
      exact ⟨rfl, below_alloc _ _⟩
  · have hd1 : decide ((0 : Int) < zs.length) = false := decide_eq_false (by omega)
    have hd1' : decide (0 < zs.length) = false := decide_eq_false (by omega)
    have hv : chunkB n zs = false := by rw [chunkB, decide_eq_false h1]; rfl
    rw [hv]; clear hv
    go_enter Try.func43, Try.ntmps43
    go_wp2
    go_ret
    exact ⟨rfl, below_alloc _ _⟩

set_option maxHeartbeats 600000 in
theorem specChunkOk_any (u : Value) (n : Int) (zs : List Int) (w : World) (hl : zs.length ≤ 4194304) (hr : RInts w u zs) :
    Calls Try.prog 46 #[chV n u] w fun e w' => e = .returned (.bool (chunkB n zs)) ∧ Below w.heap.size w w' := by
  obtain ⟨a1, cap1, rfl, hcap, hmax, -⟩ := id hr
  have HR := Lib.hid hr; clear hr
  unfold chV
  cases h2 : itemsB zs with
  | false =>
    have hv : chunkB n zs = false := by
      simp only [itemsB, chunkB] at h2 ⊢
      cases ha : allB zs with
      | false => simp
      | true => simp [ha] at h2 ⊢; intros; omega
    have H2 := Lib.hid h2; clear h2
    rw [hv]; clear hv
    go_enter Try.func46, Try.ntmps46
    go_wp2_with fail
    refine (l22Items_any _ zs _ hl (HR.out.al _)).mono ?_
    rw [H2.out]
    rintro e w1 ⟨rfl, rfl⟩
    go_wp2
    go_ret
    exact ⟨rfl, below_alloc _ _⟩
  | true =>
    have ha : allB zs = true := by simp [itemsB] at h2; exact h2.1
    have hl20 : zs.length ≤ 20 := by simp [itemsB] at h2; exact h2.2
    cases h3 : inB zs.length 1 4 with
    | false =>
      have hv : chunkB n zs = false := by
        simp [chunkB, inB, ha] at h3 ⊢; intros; omega
      have H2 := Lib.hid h2; clear h2 ha
      have H3 := Lib.hid h3; clear h3
      rw [hv]; clear hv
      go_enter Try.func46, Try.ntmps46
      go_wp2_with fail
      refine (l22Items_any _ zs _ hl (HR.out.al _)).mono ?_
      rw [H2.out]
      rintro e w1 ⟨rfl, rfl⟩
      go_wp2_with fail
      refine (l6In_any _ _ _ _).mono ?_
      rw [H3.out]
      rintro e w2 ⟨rfl, rfl⟩
      go_wp2
      go_ret
      exact ⟨rfl, below_alloc _ _⟩
    | true =>
      have h14 := inB_true h3
      have hv : chunkB n zs = inB n 0 (20 - zs.length) := by rw [chunkB, ha, decide_eq_true (show 1 ≤ zs.length by omega), decide_eq_true (show zs.length ≤ 4 by omega)]; rfl
      have H2 := Lib.hid h2; clear h2 ha
      have H3 := Lib.hid h3; clear h3
      rw [hv]; clear hv
      go_enter Try.func46, Try.ntmps46
      go_wp2_with fail
      refine (l22Items_any _ zs _ hl (HR.out.al _)).mono ?_
      rw [H2.out]
      rintro e w1 ⟨rfl, rfl⟩
      go_wp2_with fail
      refine (l6In_any _ _ _ _).mono ?_
      rw [H3.out]
      rintro e w2 ⟨rfl, rfl⟩
      go_wp2_with fail
      refine (l6In_any _ _ _ _).mono ?_
      rintro e w2 ⟨rfl, rfl⟩
      go_wp2
      go_ret
      exact ⟨rfl, below_alloc _ _⟩
end Go.Proofs.Ytlfmgagokaekjaa
