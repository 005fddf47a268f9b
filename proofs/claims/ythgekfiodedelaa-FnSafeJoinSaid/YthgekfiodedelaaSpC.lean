/- spec.l4Round, l4Calm, RingCalm. -/
import Derived.Test.YthgekfiodedelaaNdW
import Derived.Test.YthgekfiodedelaaSm
import Derived.Deep.LoopGhost
namespace Go.Proofs.Ythgekfiodedelaa
open Go.RowKit
set_option linter.unusedVariables false
set_option linter.unusedSimpArgs false

theorem dats_inj {R R' : List Nd} (h : dats R = dats R') : R = R' := by rw [← undat_dats R, ← undat_dats R', h]
theorem dats_small (R : List Nd) : ∀ e ∈ dats R, e.2.2.length ≤ 4096 := fun e he => by
  obtain ⟨n, -, rfl⟩ := List.mem_map.1 he; simp [dat]
theorem turns_len (R : List Nd) : ∀ i, (turns R i).length = R.length
  | 0 => rfl
  | i + 1 => by show (roundS (turns R i)).length = _; rw [roundS, rounds_len, turns_len R i]
theorem turns_same {I : List Int} {p q r : Int} {R : List Nd} (h : Good I p q r R) (h10 : I.length ≤ 10) {i : Nat} (e : turns R (i + 1) = turns R i) : turns R (i + 1) = idealS I := by
  rw [e]; exact fix_ideal (h.turns i) h10 e
theorem turns_late {I : List Int} {p q r : Int} {R : List Nd} (h : Good I p q r R) (h10 : I.length ≤ 10) {i : Nat} (hi : 212 ≤ i) : turns R (i + 1) = turns R i := by
  rw [conv_all h h10 i hi, conv_all h h10 (i + 1) (by omega)]

set_option maxRecDepth 100000 in
set_option maxHeartbeats 4000000 in
theorem l4Round_any (v : Value) (R : List Nd) (w : World) {I : List Int} {p q r : Int} (hG : Good I p q r R) (hl : R.length ≤ 10) (hr : RR w v R) :
    Calls Try.prog 61 #[v] w fun e w' => ∃ x, e = .returned x ∧ RR w' x (roundS R) ∧ Below w.heap.size w w' := by
  have HG := Lib.hid hG; have HR := Lib.hid hr; clear hG hr
  go_enter Try.func61, Try.ntmps61
  go_wp2
  go_loopw [0, 3] (fun v0 i wr => ∃ j : Nat, j ≤ R.length ∧ i = .int .i64 j ∧ Hid (RR wr v0 (rounds R j)) ∧ Hid (Below w.heap.size w wr)) (fun _ i _ => R.length - (intOf i).toNat)
  case atStart => exact ⟨0, Nat.zero_le _, rfl, HR, Lib.hid (Below.refl _ _)⟩
  case round =>
    obtain ⟨j, hj, rfl, RJ, BJ⟩ := hrel
    obtain ⟨v0, rfl⟩ : ∃ z, z = u0 := ⟨_, rfl⟩
    obtain ⟨a, cap, hv, -, -⟩ := RJ.out.sl
    rw [rounds_len] at hv
    subst hv
    by_cases hlt : j < R.length
    · have GJ := Lib.hid (HG.out.rounds j hj)
      have LJ := Lib.hid (rounds_len R j)
      have HSUC : Hid (stabS (rounds R j) j = rounds R (j + 1)) := Lib.hid rfl
      go_wp2_with fail
      refine (l4Stabilize_any _ (rounds R j) j _ GJ.out (by rw [LJ.out]; exact hl) (by rw [LJ.out]; exact hlt) RJ.out).mono ?_
      rw [HSUC.out]
      rintro e w2 ⟨x2, rfl, o2, b2⟩
      have R2 := Lib.hid (show RR w2 x2 (rounds R (j + 1)) from o2.reads)
      have c2 := Lib.hid (bNext BJ.out b2)
      clear o2 b2
      go_wp2
      go_roundw
      case rel => exact ⟨j + 1, by omega, by go_num, R2, c2⟩
      case measure => simp [intOf]; omega
    · obtain rfl : j = R.length := by omega
      go_wp2
      go_ret
      exact ⟨_, rfl, RJ.out, BJ.out⟩

set_option maxRecDepth 100000 in
set_option maxHeartbeats 4000000 in
theorem l4Calm_any (v : Value) (R : List Nd) (w : World) {I : List Int} {p q r : Int} (hG : Good I p q r R) (hl : R.length ≤ 10) (hr : RR w v R) :
    Calls Try.prog 30 #[v] w fun e w' => ∃ x, e = .returned x ∧ OwnRingS w' w.heap.size x (dats (idealS I)) ∧ Below w.heap.size w w' := by
  have hI : I.length ≤ 10 := by rw [← hG.len]; exact hl
  have HG := Lib.hid hG; have HR := Lib.hid hr; clear hG hr
  go_enter Try.func30, Try.ntmps30
  go_wp2
  go_loopg [0, 3, 4, 5] 214 (fun gm v0 mo _ _ wr => ∃ (m : Bool) (i : Nat), mo = .bool m ∧ Hid (RR wr v0 (turns R i)) ∧ Hid (Below w.heap.size w wr) ∧ Hid (m = false → turns R i = idealS I) ∧ i ≤ 213 ∧ gm = (if m then 214 - i else 0))
  case atStart => exact ⟨true, 0, rfl, HR, Lib.hid (Below.refl _ _), Lib.hid (fun h => by cases h), by omega, rfl⟩
  case round =>
    obtain ⟨m, i, rfl, RJ, BJ, FJ, hi, hgm⟩ := hrel
    obtain ⟨v0, rfl⟩ : ∃ z, z = u0 := ⟨_, rfl⟩
    have HGM := Lib.hid hgm; clear hgm
    cases m with
    | false =>
      have HE := Lib.hid (FJ.out rfl)
      have LJ : Hid ((turns R i).length ≤ 4096) := Lib.hid (by rw [turns_len]; omega)
      go_wp2_with fail
      refine (l3Copy_any v0 (turns R i) _ LJ.out RJ.out).mono ?_
      rw [HE.out]
      rintro e w2 ⟨x2, rfl, o2, b2⟩
      have c2 := Lib.hid (bNext BJ.out b2)
      have O2 := Lib.hid (OwnRingS.base o2 BJ.out.size)
      clear o2 b2
      go_wp2
      go_ret
      exact ⟨_, rfl, O2.out, c2.out⟩
    | true =>
      have LJ : Hid ((turns R i).length ≤ 10) := Lib.hid (by rw [turns_len]; exact hl)
      have LJ1 : Hid ((turns R (i + 1)).length ≤ 10) := Lib.hid (by rw [turns_len]; exact hl)
      have GJ := Lib.hid (HG.out.turns i)
      have HSUC : Hid (roundS (turns R i) = turns R (i + 1)) := Lib.hid rfl
      have DS := Lib.hid (dats_small (turns R (i + 1)))
      go_wp2_with fail
      refine (l4Round_any v0 (turns R i) _ GJ.out LJ.out RJ.out).mono ?_
      rw [HSUC.out]
      rintro e w2 ⟨x2, rfl, r2, b2⟩
      have R2 := Lib.hid r2
      have RJ2 := Lib.hid (RJ.out.bl b2)
      have c2 := Lib.hid (bNext BJ.out b2)
      clear r2 b2
      have HSM := Lib.hid (l3Same_any x2 v0 (dats (turns R (i + 1))) (dats (turns R i)) w2 (by rw [dats_len]; have := LJ1.out; omega) DS.out R2.out RJ2.out)
      by_cases hs : turns R (i + 1) = turns R i
      · have hq : decide (dats (turns R (i + 1)) = dats (turns R i)) = true := decide_eq_true (by rw [hs])
        rw [hq] at HSM
        have HE := Lib.hid (turns_same HG.out hI hs)
        clear hs hq
        go_wp2_with fail
        refine HSM.out.mono ?_
        rintro e w3 ⟨rfl, b3⟩
        have R3 := Lib.hid (R2.out.bl b3)
        have c3 := Lib.hid (bNext c2.out b3)
        clear b3
        go_wp2
        by_cases hi2 : i + 1 ≤ 213
        · go_roundg 0
          case measure => have := HGM.out; simp at this; omega
          case rel => exact ⟨false, i + 1, rfl, R3, c3, Lib.hid (fun _ => HE.out), hi2, rfl⟩
        · have HT : Hid (turns R 213 = turns R (i + 1)) := Lib.hid (by rw [conv_all HG.out hI 213 (by omega), conv_all HG.out hI (i + 1) (by omega)])
          go_roundg 0
          case measure => have := HGM.out; simp at this; omega
          case rel => exact ⟨false, 213, rfl, Lib.hid (by rw [HT.out]; exact R3.out), c3, Lib.hid (fun _ => by rw [HT.out, HE.out]), by omega, rfl⟩
      · have hq : decide (dats (turns R (i + 1)) = dats (turns R i)) = false := decide_eq_false (fun h => hs (dats_inj h))
        rw [hq] at HSM
        have hi2 : i < 212 := by
          by_cases h : i < 212
          · exact h
          · exact absurd (turns_late HG.out hI (by omega)) hs
        clear hs hq
        go_wp2_with fail
        refine HSM.out.mono ?_
        rintro e w3 ⟨rfl, b3⟩
        have R3 := Lib.hid (R2.out.bl b3)
        have c3 := Lib.hid (bNext c2.out b3)
        clear b3
        go_wp2
        go_roundg (214 - (i + 1))
        case measure => have := HGM.out; simp at this; omega
        case rel => exact ⟨true, i + 1, rfl, R3, c3, Lib.hid (fun h => by cases h), by omega, rfl⟩

set_option maxRecDepth 100000 in
set_option maxHeartbeats 2000000 in
theorem specRingCalm_ok (v : Value) (R : List Nd) (w : World) (hv : ValidL R) (hs : safeL R = true) (hr : RR w v R) :
    Calls Try.prog 10 #[v] w fun e w' => ∃ x, e = .returned x ∧ OwnRingS w' w.heap.size x (dats (idealS (idsL R))) ∧ Below w.heap.size w w' := by
  have HSF : Hid (sfD (dats R) = true) := Lib.hid (by rw [sfD_dats hv]; exact hs)
  have h10 := hv.len
  obtain ⟨p, q, r, hG⟩ := good_of hv hs
  have HG := Lib.hid hG; have HR := Lib.hid hr
  clear hG hr hv hs
  go_enter Try.func10, Try.ntmps10
  go_wp2_with fail
  refine (specRingSafe_any v (dats R) _ (by rw [dats_len]; omega) HR.out).mono ?_
  rw [HSF.out]
  rintro e w1 ⟨rfl, b1⟩
  have B1 := Lib.hid b1; clear b1
  go_wp2_with fail
  refine (l4Calm_any v R _ HG.out h10 (HR.out.bl B1.out)).mono ?_
  rintro e w2 ⟨x2, rfl, o2, b2⟩
  have c2 := Lib.hid (bNext B1.out b2)
  have O2 := Lib.hid (OwnRingS.base o2 B1.out.size)
  clear o2 b2
  go_wp2
  go_ret
  exact ⟨_, rfl, O2.out, c2.out⟩

set_option maxRecDepth 100000 in
set_option maxHeartbeats 2000000 in
theorem specRingCalm_bad (v : Value) (D : List Rn) (w : World) (hl : D.length ≤ 4096) (hs : sfD D = false) (hr : RRing w v D) :
    Calls Try.prog 10 #[v] w fun e w' => ∃ x, e = .returned x ∧ RRing w' x [] ∧ Below w.heap.size w w' := by
  have HSF := Lib.hid hs
  have HR := Lib.hid hr
  clear hr hs
  go_enter Try.func10, Try.ntmps10
  go_wp2_with fail
  refine (specRingSafe_any v D _ hl HR.out).mono ?_
  rw [HSF.out]
  rintro e w1 ⟨rfl, b1⟩
  have B1 := Lib.hid b1; clear b1
  go_wp2
  go_ret
  exact ⟨_, rfl, (OwnRingS.empty w1).reads, bAl B1.out _⟩
end Go.Proofs.Ythgekfiodedelaa
