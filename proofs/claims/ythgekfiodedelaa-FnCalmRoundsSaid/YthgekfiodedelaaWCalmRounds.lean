/- The walk of FnCalmRounds: the law returns true. -/
import Derived.Test.YthgekfiodedelaaWCalm
namespace Go.Proofs.Ythgekfiodedelaa
open Go.RowKit
set_option linter.unusedVariables false
set_option linter.unusedSimpArgs false

set_option maxRecDepth 100000 in
set_option maxHeartbeats 4000000 in
theorem calmRounds_walk (v : Value) (zs : List Int) (w : World) (hr : RBytes w v zs) :
    Calls Try.prog 3 #[v] w fun e w' => e = .returned (.bool true) ∧ Below w.heap.size w w' := by
  obtain ⟨⟨a, cap, rfl, g1, g2, -⟩, -⟩ := id hr
  have HR := Lib.hid hr; clear hr
  by_cases hl : zs.length ≤ 1048576
  · have d0 : decide ((1048576 : Int) < (zs.length : Int)) = false := decide_eq_false (by omega)
    have d0' : decide (1048576 < zs.length) = false := decide_eq_false (by omega)
    go_enter Try.func3, Try.ntmps3
    go_wp2_with fail
    refine (drawRingCalm_any _ zs _ HR.out hl).mono ?_
    rintro e w1 ⟨u1, D, rfl, r1, m1, b1⟩
    have R1 := Lib.hid r1; have M1 := Lib.hid m1; have B1 := Lib.hid b1
    have hD10 := m1.1
    obtain ⟨a1, c1, rfl, -, -⟩ := RRing.sl r1
    clear r1 m1 b1 d0 d0'
    cases hs : sfD D with
    | false =>
      have HS := Lib.hid hs; clear hs
      go_wp2_with fail
      refine (implRingCalm_bad _ D _ (by omega) M1.out.small HS.out R1.out).mono ?_
      rintro e w2 ⟨rfl, b2⟩
      have R2 := Lib.hid (R1.out.bl b2); have B2 := Lib.hid (bNext B1.out b2)
      clear b2
      go_wp2_with fail
      refine (specRingCalm_bad _ D _ (by omega) HS.out R2.out).mono ?_
      rintro e w3 ⟨u3, rfl, r3, b3⟩
      have R3 := Lib.hid r3; have RD3 := Lib.hid (R2.out.bl b3); have B3 := Lib.hid (bNext B2.out b3)
      obtain ⟨a3, c3, rfl, -, -⟩ := RRing.sl r3
      clear r3 b3
      go_wp2_with fail
      refine (sameRing_same _ _ [] _ (by simp) (by simp) (RRing.empty _) R3.out).mono ?_
      rintro e w4 ⟨rfl, b4⟩
      have R4 := Lib.hid (R3.out.bl b4); have RD4 := Lib.hid (RD3.out.bl b4); have B4 := Lib.hid (bNext B3.out b4)
      clear b4
      go_wp2_with fail
      refine (specRingSafe_any _ D _ (by omega) RD4.out).mono ?_
      rw [HS.out]
      rintro e w5 ⟨rfl, b5⟩
      have R5 := Lib.hid (R4.out.bl b5); have B5 := Lib.hid (bNext B4.out b5)
      clear b5
      go_wp2_with fail
      refine (sameRing_same _ _ [] _ (by simp) (by simp) (RRing.empty _) R5.out).mono ?_
      rintro e w6 ⟨rfl, b6⟩
      have B6 := Lib.hid (bNext B5.out b6)
      clear b6
      go_wp2
      go_ret
      exact ⟨rfl, B6.out⟩
    | true =>
      obtain ⟨R, rfl, hv, hsf⟩ := sfD_of hs
      obtain ⟨p, q, r, hG⟩ := good_of hv hsf
      have HG := Lib.hid hG
      have HS := Lib.hid hs
      have HV := Lib.hid hv; have HF := Lib.hid hsf
      have HVI := Lib.hid (vs_ring_ideal ⟨hv, hsf⟩)
      have h10 := hv.len
      have hI : (idsL R).length ≤ 10 := by simpa [idsL] using h10
      have HIL : Hid ((idealS (idsL R)).length ≤ 10) := Lib.hid HVI.out.1.len
      have DS := Lib.hid (dats_small (idealS (idsL R)))
      have HDL : Hid ((dats (idealS (idsL R))).length ≤ 4096) := Lib.hid (by rw [dats_len]; have := HIL.out; omega)
      rw [dats_len] at R1 ⊢
      have R1' : Hid (RR w1 (.slice a1 R.length c1) R) := R1
      clear hs hv hsf hD10 R1 hG
      go_wp2_with fail
      refine (implRingCalm_ok _ R _ HV.out HF.out R1'.out).mono ?_
      rintro e w2 ⟨u2, rfl, r2, b2⟩
      have X2 := Lib.hid r2
      have R2 := Lib.hid (R1'.out.bl b2); have B2 := Lib.hid (bNext B1.out b2)
      obtain ⟨a2, c2, rfl, -, -⟩ := RR.sl r2
      clear r2 b2
      go_wp2_with fail
      refine (specRingCalm_ok _ R _ HV.out HF.out R2.out).mono ?_
      rintro e w3 ⟨u3, rfl, o3, b3⟩
      have Y3 := Lib.hid o3.reads
      have X3 := Lib.hid (X2.out.bl b3); have R3 := Lib.hid (R2.out.bl b3); have B3 := Lib.hid (bNext B2.out b3)
      obtain ⟨a3, c3, rfl, -, -⟩ := RRing.sl o3.reads
      clear o3 b3
      go_wp2_with fail
      refine (sameRing_same _ _ (dats (idealS (idsL R))) _ HDL.out DS.out X3.out Y3.out).mono ?_
      rintro e w4 ⟨rfl, b4⟩
      have X4 := Lib.hid (X3.out.bl b4); have R4 := Lib.hid (R3.out.bl b4); have B4 := Lib.hid (bNext B3.out b4)
      clear b4
      go_wp2_with fail
      refine (specRingSafe_any _ (dats R) _ (by rw [dats_len]; omega) R4.out).mono ?_
      rw [HS.out]
      rintro e w5 ⟨rfl, b5⟩
      have X5 := Lib.hid (X4.out.bl b5); have R5 : Hid (RR w5 (.slice a1 R.length c1) (turns R 0)) := Lib.hid (R4.out.bl b5); have B5 := Lib.hid (bNext B4.out b5)
      clear b5
      go_wp2
      go_loopw [6, 7] (fun x i wr => ∃ j : Nat, j ≤ 500 ∧ i = .int .i64 j ∧ Hid (RR wr x (turns R j)) ∧ Hid (Below w5.heap.size w5 wr)) (fun _ i _ => 500 - (intOf i).toNat)
      case atStart => exact ⟨0, by omega, rfl, R5, Lib.hid (Below.refl _ _)⟩
      case round =>
        obtain ⟨j, hj, rfl, RJ, BJ⟩ := hrel
        obtain ⟨x, rfl⟩ : ∃ z, z = u6 := ⟨_, rfl⟩
        clear R5
        have XJ := Lib.hid (X5.out.bl BJ.out)
        have GJ := HG.out.turns j
        have hidj : idsL (turns R j) = idsL R := GJ.ids
        have VJ := Lib.hid (GJ.valid (by rw [turns_len]; exact h10)); have FJ := Lib.hid GJ.safe
        have HIJ := Lib.hid hidj
        clear GJ hidj
        by_cases hlt : j < 500
        · have d1 : decide ((j : Int) < 500) = true := decide_eq_true (by omega)
          have d1' : decide (j < 500) = true := decide_eq_true hlt
          have HC := Lib.hid (implRingIdeal_ok x (turns R j) wr VJ.out FJ.out RJ.out)
          rw [HIJ.out] at HC
          by_cases hq : dats (turns R j) = dats (idealS (idsL R))
          · have hq2 : decide (dats (turns R j) = dats (idealS (idsL R))) = true := decide_eq_true hq
            rw [hq2] at HC
            have RQ : Hid (RRing wr x (dats (idealS (idsL R)))) := Lib.hid (by rw [← hq]; exact RJ.out)
            clear hq hq2
            go_wp2_with fail
            refine HC.out.mono ?_
            rintro e w6 ⟨rfl, b6⟩
            have X6 := Lib.hid (XJ.out.bl b6); have R6 := Lib.hid (RQ.out.bl b6); have B6 := Lib.hid (bNext BJ.out b6)
            clear b6
            go_wp2_with fail
            refine (sameRing_same _ _ (dats (idealS (idsL R))) _ HDL.out DS.out R6.out X6.out).mono ?_
            rintro e w7 ⟨rfl, b7⟩
            have B7 := Lib.hid (bNext B5.out (bNext B6.out b7))
            clear b7
            go_wp2
            go_ret
            exact ⟨rfl, B7.out⟩
          · have hq2 : decide (dats (turns R j) = dats (idealS (idsL R))) = false := decide_eq_false hq
            rw [hq2] at HC
            have HSUC : Hid (roundS (turns R j) = turns R (j + 1)) := Lib.hid rfl
            clear hq hq2
            go_wp2_with fail
            refine HC.out.mono ?_
            rintro e w6 ⟨rfl, b6⟩
            have R6 := Lib.hid (RJ.out.bl b6); have B6 := Lib.hid (bNext BJ.out b6)
            clear b6
            go_wp2_with fail
            refine (implRingRound_ok x (turns R j) _ VJ.out FJ.out R6.out).mono ?_
            rw [HSUC.out]
            rintro e w7 ⟨x7, rfl, o7, b7⟩
            have R7 : Hid (RR w7 x7 (turns R (j + 1))) := Lib.hid o7.reads
            have B7 := Lib.hid (bNext B6.out b7)
            clear o7 b7
            go_wp2
            go_roundw
            case rel => exact ⟨j + 1, by omega, by go_num, R7, B7⟩
            case measure => simp [intOf]; omega
        · obtain rfl : j = 500 := by omega
          have RQ : Hid (RRing wr x (dats (idealS (idsL R)))) := Lib.hid (by
            have e : turns R 500 = idealS (idsL R) := conv_all HG.out hI 500 (by omega)
            rw [← e]; exact RJ.out)
          have d1 : decide (((500 : Nat) : Int) < 500) = false := by decide
          go_wp2_with fail
          refine (sameRing_same _ _ (dats (idealS (idsL R))) _ HDL.out DS.out RQ.out XJ.out).mono ?_
          rintro e w7 ⟨rfl, b7⟩
          have B7 := Lib.hid (bNext B5.out (bNext BJ.out b7))
          clear b7
          go_wp2
          go_ret
          exact ⟨rfl, B7.out⟩
  · have d0 : decide ((1048576 : Int) < (zs.length : Int)) = true := decide_eq_true (by omega)
    have d0' : decide (1048576 < zs.length) = true := decide_eq_true (by omega)
    go_enter Try.func3, Try.ntmps3
    go_wp2
    go_ret
    exact ⟨rfl, Below.refl _ _⟩
end Go.Proofs.Ythgekfiodedelaa
