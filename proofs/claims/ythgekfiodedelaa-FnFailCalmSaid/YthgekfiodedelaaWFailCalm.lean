/- The walk of FnFailCalm: the law returns true. -/
import Derived.Test.YthgekfiodedelaaDrawRg
import Derived.Test.YthgekfiodedelaaImN
import Derived.Test.YthgekfiodedelaaImY
namespace Go.Proofs.Ythgekfiodedelaa
open Go.RowKit
set_option linter.unusedVariables false
set_option linter.unusedSimpArgs false

theorem sameRing_same (v1 v2 : Value) (D : List Rn) (w : World) (hl : D.length ≤ 4096) (hls : ∀ e ∈ D, e.2.2.length ≤ 4096) (hr1 : RRing w v1 D) (hr2 : RRing w v2 D) :
    Calls Try.prog 11 #[v1, v2] w fun e w' => e = .returned (.bool true) ∧ Below w.heap.size w w' :=
  (sameRing_any v1 v2 D D w hl hls hr1 hr2).mono (fun e w' h => ⟨by rw [h.1]; simp, h.2⟩)
theorem sameInts_same' (v1 v2 : Value) (xs : List Int) (w : World) (hl : xs.length ≤ 4096) (hr1 : RInts w v1 xs) (hr2 : RInts w v2 xs) :
    Calls Try.prog 15 #[v1, v2] w fun e w' => e = .returned (.bool true) ∧ ∃ n, w' = w.drewN n :=
  (sameInts_any v1 v2 xs xs w (by omega) hr1 hr2).mono (fun e w' h => ⟨by rw [h.1]; simp, h.2⟩)
theorem vs_ring_ideal {R : List Nd} (hv : VS R) : VS (idealS (idsL R)) := vs_ideal hv.1.ascI (by have := three_of hv.2; simpa [idsL] using this) (by have := hv.1.len; simpa [idsL] using this)

theorem atI_dead {R : List Nd} {x : Int} (h : x ∉ idsL R) : atI R x = -1 := by
  unfold atI
  cases q : liveR R x with
  | true => exact absurd ((live_iff R x).1 q) h
  | false => rfl
theorem atI_live {R : List Nd} {x : Int} (h : x ∈ idsL R) : atI R x = x := by rw [atI, (live_iff R x).2 h]; rfl

set_option maxRecDepth 100000 in
set_option maxHeartbeats 4000000 in
theorem failCalm_walk (v : Value) (zs : List Int) (w : World) (hr : RBytes w v zs) :
    Calls Try.prog 7 #[v] w fun e w' => e = .returned (.bool true) ∧ Below w.heap.size w w' := by
  obtain ⟨⟨a, cap, rfl, g1, g2, -⟩, -⟩ := id hr
  have HR := Lib.hid hr; clear hr
  by_cases hl : zs.length ≤ 1048576
  · have d0 : decide ((1048576 : Int) < (zs.length : Int)) = false := decide_eq_false (by omega)
    have d0' : decide (1048576 < zs.length) = false := decide_eq_false (by omega)
    go_enter Try.func7, Try.ntmps7
    go_wp2_with fail
    refine (drawRingFail_any _ zs _ HR.out hl).mono ?_
    rintro e w1 ⟨u1, x, D, rfl, r1, m1, b1⟩
    have R1 := Lib.hid r1; have M1 := Lib.hid m1; have B1 := Lib.hid b1
    have hD10 := m1.1
    obtain ⟨a1, c1, rfl, -, -⟩ := RRing.sl r1
    clear r1 m1 b1 d0 d0'
    cases hs : (sfD D && ptB x) with
    | false =>
      have HS := Lib.hid hs; clear hs
      go_wp2_with fail
      refine (implRingFail_bad _ D x _ (by omega) HS.out R1.out).mono ?_
      rintro e w2 ⟨rfl, b2⟩
      have R2 := Lib.hid (R1.out.bl b2); have B2 := Lib.hid (bNext B1.out b2)
      clear b2
      go_wp2_with fail
      refine (specRingFail_bad _ D x _ (by omega) HS.out R2.out).mono ?_
      rintro e w3 ⟨u3, rfl, r3, b3⟩
      have R3 := Lib.hid r3; have B3 := Lib.hid (bNext B2.out b3)
      obtain ⟨a3, c3, rfl, -, -⟩ := RRing.sl r3
      clear r3 b3
      go_wp2_with fail
      refine (sameRing_same _ _ [] _ (by simp) (by simp) (RRing.empty _) R3.out).mono ?_
      rintro e w4 ⟨rfl, b4⟩
      have R4 := Lib.hid (R3.out.bl b4); have B4 := Lib.hid (bNext B3.out b4)
      clear b4
      go_wp2_with fail
      refine (sameRing_same _ _ [] _ (by simp) (by simp) (RRing.empty _) R4.out).mono ?_
      rintro e w5 ⟨rfl, b5⟩
      have B5 := Lib.hid (bNext B4.out b5)
      clear b5
      go_wp2
      go_ret
      exact ⟨rfl, B5.out⟩
    | true =>
      rw [Bool.and_eq_true] at hs
      obtain ⟨R, rfl, hv, hsf⟩ := sfD_of hs.1
      have HX := Lib.hid hs.2
      have HV := Lib.hid hv; have HF := Lib.hid hsf
      have h10 := hv.len
      have HVF := Lib.hid (fail_valid hv x); have HFF := Lib.hid (fail_safe hsf x)
      have h10F := HVF.out.len
      have DS := Lib.hid (dats_small (failS R x))
      have HDL : Hid ((dats (failS R x)).length ≤ 4096) := Lib.hid (by rw [dats_len]; omega)
      rw [dats_len] at R1 ⊢
      have R1' : Hid (RR w1 (.slice a1 R.length c1) R) := R1
      have HCUT : Hid (failG R x = true → (failS R x).length = R.length - 1 ∧ 1 ≤ R.length ∧ x ∉ idsL (failS R x)) := Lib.hid (fun h => by
        have h1 := h
        simp only [failG, Bool.and_eq_true] at h1
        have hm := (live_iff R x).1 h1.1
        have hk := fnd_lt hm
        rw [failS, if_pos h]
        exact ⟨cut_len hk, by omega, cut_gone hv hm⟩)
      clear hs hv hsf hD10 R1
      go_wp2_with fail
      refine (implRingFail_ok _ R x _ HV.out HF.out HX.out R1'.out).mono ?_
      rintro e w2 ⟨u2, rfl, o2, b2⟩
      have X2 := Lib.hid o2.reads
      have R2 := Lib.hid (R1'.out.bl b2); have B2 := Lib.hid (bNext B1.out b2)
      obtain ⟨a2, c2, rfl, -, -⟩ := RRing.sl o2.reads
      clear o2 b2
      go_wp2_with fail
      refine (specRingFail_ok _ R x _ HV.out HF.out HX.out R2.out).mono ?_
      rintro e w3 ⟨u3, rfl, o3, b3⟩
      have Y3 := Lib.hid o3.reads
      have X3 := Lib.hid (X2.out.bl b3); have B3 := Lib.hid (bNext B2.out b3)
      obtain ⟨a3, c3, rfl, -, -⟩ := RRing.sl o3.reads
      clear o3 b3
      rw [dats_len] at X3 Y3 ⊢
      cases hG : failG R x with
      | false =>
        clear hG HCUT
        go_wp2_with fail
        refine (sameRing_same _ _ (dats (failS R x)) _ HDL.out DS.out X3.out Y3.out).mono ?_
        rintro e w4 ⟨rfl, b4⟩
        have X4 := Lib.hid (X3.out.bl b4); have Y4 := Lib.hid (Y3.out.bl b4); have B4 := Lib.hid (bNext B3.out b4)
        clear b4
        go_wp2_with fail
        refine (sameRing_same _ _ (dats (failS R x)) _ HDL.out DS.out X4.out Y4.out).mono ?_
        rintro e w5 ⟨rfl, b5⟩
        have B5 := Lib.hid (bNext B4.out b5)
        clear b5
        go_wp2
        go_ret
        exact ⟨rfl, B5.out⟩
      | true =>
        obtain ⟨hlen, h1, hgone⟩ := HCUT.out hG
        have HGN := Lib.hid hgone
        have HLEN := Lib.hid hlen
        clear hG HCUT hgone hlen
        have X3' : Hid (RR w3 (.slice a2 (failS R x).length c2) (failS R x)) := X3
        generalize failS R x = F at *
        have HVI := Lib.hid (vs_ring_ideal ⟨HVF.out, HFF.out⟩)
        have HID := Lib.hid (ideal_ids (idsL F))
        have HIQ : Hid (decide (dats (idealS (idsL F)) = dats (idealS (idsL (idealS (idsL F))))) = true) := Lib.hid (decide_eq_true (by rw [HID.out]))
        have HIL : Hid ((idealS (idsL F)).length ≤ 10) := Lib.hid HVI.out.1.len
        have HILN : Hid ((idealS (idsL F)).length = F.length) := Lib.hid (by
          have := congrArg List.length HID.out
          simpa [idsL] using this)
        have HAT : Hid (atI (idealS (idsL F)) x = -1) := Lib.hid (atI_dead (by rw [HID.out]; exact HGN.out))
        go_wp2_with fail
        refine (sameRing_same _ _ (dats F) _ HDL.out DS.out X3.out Y3.out).mono ?_
        rintro e w4 ⟨rfl, b4⟩
        have X4 := Lib.hid (X3'.out.bl b4); have B4 := Lib.hid (bNext B3.out b4)
        clear b4
        go_wp2_with fail
        refine (implRingCalm_ok _ F _ HVF.out HFF.out X4.out).mono ?_
        rintro e w5 ⟨u5, rfl, r5, b5⟩
        have Z5 := Lib.hid r5
        have B5 := Lib.hid (bNext B4.out b5)
        obtain ⟨a5, c5, rfl, -, -⟩ := RR.sl r5
        rw [HILN.out] at Z5 ⊢
        clear r5 b5
        go_wp2_with fail
        refine (implRingIdeal_ok _ (idealS (idsL F)) _ HVI.out.1 HVI.out.2 Z5.out).mono ?_
        rw [HIQ.out]
        rintro e w6 ⟨rfl, b6⟩
        have Z6 := Lib.hid (Z5.out.bl b6); have B6 := Lib.hid (bNext B5.out b6)
        clear b6
        go_wp2_with fail
        refine (lawNodeAt_any _ (idealS (idsL F)) x _ (by have := HIL.out; omega) Z6.out).mono ?_
        rw [HAT.out]
        rintro e w7 ⟨y7, s7, n7, q7, rfl, b7⟩
        have B7 := Lib.hid (bNext B6.out b7)
        clear b7
        have hfld := fun w => run_field_nd (-1) y7 s7 n7 q7 w
        have e1 : IntKind.i64.wrap ((R.length : Int) - 1) = (R.length : Int) - 1 := IntWalk.i64_in _ (by omega)
        have e2 : ((F.length : Int) == (R.length : Int) - 1) = true := by rw [beq_iff_eq]; have := HLEN.out; omega
        go_wp2
        go_ret
        exact ⟨rfl, B7.out⟩
  · have d0 : decide ((1048576 : Int) < (zs.length : Int)) = true := decide_eq_true (by omega)
    have d0' : decide (1048576 < zs.length) = true := decide_eq_true (by omega)
    go_enter Try.func7, Try.ntmps7
    go_wp2
    go_ret
    exact ⟨rfl, Below.refl _ _⟩
end Go.Proofs.Ythgekfiodedelaa
