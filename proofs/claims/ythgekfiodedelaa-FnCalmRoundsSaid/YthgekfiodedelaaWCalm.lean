/- The walk of FnCalm: the law returns true. -/
import Derived.Test.YthgekfiodedelaaDrawRg
import Derived.Test.YthgekfiodedelaaImN
namespace Go.Proofs.Ythgekfiodedelaa
open Go.RowKit
set_option linter.unusedVariables false
set_option linter.unusedSimpArgs false

theorem sameRing_same (v1 v2 : Value) (D : List Rn) (w : World) (hl : D.length ≤ 4096) (hls : ∀ e ∈ D, e.2.2.length ≤ 4096) (hr1 : RRing w v1 D) (hr2 : RRing w v2 D) :
    Calls Try.prog 11 #[v1, v2] w fun e w' => e = .returned (.bool true) ∧ Below w.heap.size w w' :=
  (sameRing_any v1 v2 D D w hl hls hr1 hr2).mono (fun e w' h => ⟨by rw [h.1]; simp, h.2⟩)
theorem sameInts_same' (v1 v2 : Value) (xs : List Int) (w : World) (hl : xs.length ≤ 4096) (hr1 : RInts w v1 xs) (hr2 : RInts w v2 xs) :
    Calls Try.prog 15 #[v1, v2] w fun e w' => e = .returned (.bool true) ∧ ∃ n, w' = w.drewN n :=
  (sameInts_any v1 v2 xs xs w (by omega) hr1 hr2).mono (fun e w' h => ⟨by rw [h.1]; simp, h.2⟩)
theorem vs_ring_ideal {R : List Nd} (hv : VS R) : VS (idealS (idsL R)) := vs_ideal hv.1.ascI (by have := three_of hv.2; simpa [idsL] using this) (by have := hv.1.len; simpa [idsL] using this)

set_option maxRecDepth 100000 in
set_option maxHeartbeats 4000000 in
theorem calm_walk (v : Value) (zs : List Int) (w : World) (hr : RBytes w v zs) :
    Calls Try.prog 4 #[v] w fun e w' => e = .returned (.bool true) ∧ Below w.heap.size w w' := by
  obtain ⟨⟨a, cap, rfl, g1, g2, -⟩, -⟩ := id hr
  have HR := Lib.hid hr; clear hr
  by_cases hl : zs.length ≤ 1048576
  · have d0 : decide ((1048576 : Int) < (zs.length : Int)) = false := decide_eq_false (by omega)
    have d0' : decide (1048576 < zs.length) = false := decide_eq_false (by omega)
    go_enter Try.func4, Try.ntmps4
    go_wp2_with fail
    refine (drawRingCalm_any _ zs _ HR.out hl).mono ?_
    rintro e w1 ⟨u1, D, rfl, r1, m1, b1⟩
    have R1 := Lib.hid r1; have M1 := Lib.hid m1; have B1 := Lib.hid b1
    have hD10 := m1.1
    obtain ⟨a1, c1, rfl, -, -⟩ := RRing.sl r1
    clear r1 m1 b1 d0 d0'
    cases hs : sfD D with
    | false =>
      have HS := Lib.hid hs; clear hs
      go_wp2_with fail
      refine (implRingCalm_bad _ D _ (by omega) M1.out.small HS.out R1.out).mono ?_
      rintro e w2 ⟨rfl, b2⟩
      have R2 := Lib.hid (R1.out.bl b2); have B2 := Lib.hid (bNext B1.out b2)
      clear b2
      go_wp2_with fail
      refine (specRingCalm_bad _ D _ (by omega) HS.out R2.out).mono ?_
      rintro e w3 ⟨u3, rfl, r3, b3⟩
      have R3 := Lib.hid r3; have RD3 := Lib.hid (R2.out.bl b3); have B3 := Lib.hid (bNext B2.out b3)
      obtain ⟨a3, c3, rfl, -, -⟩ := RRing.sl r3
      clear r3 b3
      go_wp2_with fail
      refine (sameRing_same _ _ [] _ (by simp) (by simp) (RRing.empty _) R3.out).mono ?_
      rintro e w4 ⟨rfl, b4⟩
      have R4 := Lib.hid (R3.out.bl b4); have RD4 := Lib.hid (RD3.out.bl b4); have B4 := Lib.hid (bNext B3.out b4)
      clear b4
      go_wp2_with fail
      refine (specRingSafe_any _ D _ (by omega) RD4.out).mono ?_
      rw [HS.out]
      rintro e w5 ⟨rfl, b5⟩
      have R5 := Lib.hid (R4.out.bl b5); have B5 := Lib.hid (bNext B4.out b5)
      clear b5
      go_wp2_with fail
      refine (sameRing_same _ _ [] _ (by simp) (by simp) (RRing.empty _) R5.out).mono ?_
      rintro e w6 ⟨rfl, b6⟩
      have B6 := Lib.hid (bNext B5.out b6)
      clear b6
      go_wp2
      go_ret
      exact ⟨rfl, B6.out⟩
    | true =>
      obtain ⟨R, rfl, hv, hsf⟩ := sfD_of hs
      have HS := Lib.hid hs
      have HV := Lib.hid hv; have HF := Lib.hid hsf
      have HVI := Lib.hid (vs_ring_ideal ⟨hv, hsf⟩)
      have h10 := hv.len
      have HIL : Hid ((idealS (idsL R)).length ≤ 10) := Lib.hid HVI.out.1.len
      have HID := Lib.hid (ideal_ids (idsL R))
      have HIQ : Hid (decide (dats (idealS (idsL R)) = dats (idealS (idsL (idealS (idsL R))))) = true) := Lib.hid (decide_eq_true (by rw [HID.out]))
      have DS := Lib.hid (dats_small (idealS (idsL R)))
      have HDL : Hid ((dats (idealS (idsL R))).length ≤ 4096) := Lib.hid (by rw [dats_len]; have := HIL.out; omega)
      rw [dats_len] at R1 ⊢
      have R1' : Hid (RR w1 (.slice a1 R.length c1) R) := R1
      clear hs hv hsf hD10 R1
      go_wp2_with fail
      refine (implRingCalm_ok _ R _ HV.out HF.out R1'.out).mono ?_
      rintro e w2 ⟨u2, rfl, r2, b2⟩
      have X2 := Lib.hid r2
      have R2 := Lib.hid (R1'.out.bl b2); have B2 := Lib.hid (bNext B1.out b2)
      obtain ⟨a2, c2, rfl, -, -⟩ := RR.sl r2
      clear r2 b2
      go_wp2_with fail
      refine (specRingCalm_ok _ R _ HV.out HF.out R2.out).mono ?_
      rintro e w3 ⟨u3, rfl, o3, b3⟩
      have Y3 := Lib.hid o3.reads
      have X3 := Lib.hid (X2.out.bl b3); have R3 := Lib.hid (R2.out.bl b3); have B3 := Lib.hid (bNext B2.out b3)
      obtain ⟨a3, c3, rfl, -, -⟩ := RRing.sl o3.reads
      clear o3 b3
      go_wp2_with fail
      refine (sameRing_same _ _ (dats (idealS (idsL R))) _ HDL.out DS.out X3.out Y3.out).mono ?_
      rintro e w4 ⟨rfl, b4⟩
      have X4 := Lib.hid (X3.out.bl b4); have R4 := Lib.hid (R3.out.bl b4); have B4 := Lib.hid (bNext B3.out b4)
      clear b4
      go_wp2_with fail
      refine (specRingSafe_any _ (dats R) _ (by rw [dats_len]; omega) R4.out).mono ?_
      rw [HS.out]
      rintro e w5 ⟨rfl, b5⟩
      have X5 := Lib.hid (X4.out.bl b5); have R5 := Lib.hid (R4.out.bl b5); have B5 := Lib.hid (bNext B4.out b5)
      clear b5
      go_wp2_with fail
      refine (implRingIdeal_ok _ (idealS (idsL R)) _ HVI.out.1 HVI.out.2 X5.out).mono ?_
      rw [HIQ.out]
      rintro e w6 ⟨rfl, b6⟩
      have X6 := Lib.hid (X5.out.bl b6); have R6 := Lib.hid (R5.out.bl b6); have B6 := Lib.hid (bNext B5.out b6)
      clear b6
      go_wp2_with fail
      refine (ringIds_any _ (idealS (idsL R)) _ HVI.out.1 X6.out).mono ?_
      rw [HID.out]
      rintro e w7 ⟨u7, rfl, o7, b7⟩
      have I7 := Lib.hid o7.reads
      have R7 := Lib.hid (R6.out.bl b7); have B7 := Lib.hid (bNext B6.out b7)
      obtain ⟨a7, c7, rfl, -, -, -⟩ := id o7.reads
      clear o7 b7
      go_wp2_with fail
      refine (ringIds_any _ R _ HV.out R7.out).mono ?_
      rintro e w8 ⟨u8, rfl, o8, b8⟩
      have J8 := Lib.hid o8.reads
      have I8 := Lib.hid (I7.out.bl b8); have B8 := Lib.hid (bNext B7.out b8)
      obtain ⟨a8, c8, rfl, -, -, -⟩ := id o8.reads
      clear o8 b8
      have hil : (idsL R).length ≤ 4096 := by simp [idsL]; omega
      go_wp2_with fail
      refine (sameInts_same' _ _ (idsL R) _ hil I8.out J8.out).mono ?_
      rintro e w9 ⟨rfl, n9, rfl⟩
      have B9 := Lib.hid (bDr B8.out n9)
      go_wp2
      go_ret
      exact ⟨rfl, B9.out⟩
  · have d0 : decide ((1048576 : Int) < (zs.length : Int)) = true := decide_eq_true (by omega)
    have d0' : decide (1048576 < zs.length) = true := decide_eq_true (by omega)
    go_enter Try.func4, Try.ntmps4
    go_wp2
    go_ret
    exact ⟨rfl, Below.refl _ _⟩
end Go.Proofs.Ythgekfiodedelaa
