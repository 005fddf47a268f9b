/- spec.l4Stabilize. -/
import Derived.Test.YthgekfiodedelaaNdU
namespace Go.Proofs.Ythgekfiodedelaa
open Go.RowKit
set_option linter.unusedVariables false
set_option linter.unusedSimpArgs false

def curS (R : List Nd) (k : Nat) : Nat → List Nd
  | 0 => R
  | _ + 1 => dropS R k

set_option maxRecDepth 100000 in
set_option maxHeartbeats 8000000 in
theorem l4Stabilize_any (v : Value) (R : List Nd) (k : Nat) (w : World) {I : List Int} {p q r : Int} (hG : Good I p q r R) (hl : R.length ≤ 10) (hk : k < R.length) (hr : RR w v R) :
    Calls Try.prog 88 #[v, .int .i64 k] w fun e w' => ∃ x, e = .returned x ∧ OwnRingS w' w.heap.size x (dats (stabS R k)) ∧ Below w.heap.size w w' := by
  have HR := Lib.hid hr; clear hr
  have HG := Lib.hid hG
  have hk1 : k < (dropS R k).length := by rw [drop_len]; exact hk
  have HL1 : Hid ((nth (dropS R k) k).a0 ∈ I) := Lib.hid (drop_live hG hk)
  have HG1 : Hid (Good I p q r (dropS R k)) := Lib.hid (hG.drop hk)
  have HV1 : Hid (liveR (dropS R k) (nth (dropS R k) k).a0 = true) := Lib.hid ((live_iff _ _).2 (by rw [HG1.out.ids]; exact HL1.out))
  have HDD : Hid (dropS (dropS R k) k = dropS R k) := Lib.hid (nth_drop hk1 HG1.out HL1.out)
  have hla : ∀ m, (curS R k m).length = R.length := fun m => by cases m with | zero => rfl | succ m => exact drop_len R k
  have hr0 : 0 ≤ (nth R k).a1 ∧ (nth R k).a1 < 64 := ⟨(hG.ok k hk).r1.1, (hG.ok k hk).r1.2⟩
  have hr1 : 0 ≤ (nth (dropS R k) k).a1 ∧ (nth (dropS R k) k).a1 < 64 := ⟨(HG1.out.ok k hk1).r1.1, (HG1.out.ok k hk1).r1.2⟩
  have hd10 : (dropS R k).length ≤ 10 := by rw [drop_len]; exact hl
  have HLA := Lib.hid hla; have HR0 := Lib.hid hr0; have HR1 := Lib.hid hr1
  clear hG hla hr0 hr1
  go_enter Try.func88, Try.ntmps88
  go_wp2
  go_loopw [0, 5, 6, 7, 8] (fun v0 dead i _ _ wr => ∃ (m : Nat) (d : Bool), m ≤ 2 ∧ i = .int .i64 m ∧ dead = .bool d ∧ (m = 0 → d = true) ∧ (m = 2 → d = false) ∧ Hid (RR wr v0 (curS R k m)) ∧ Hid (Below w.heap.size w wr)) (fun _ _ i _ _ _ => 2 - (intOf i).toNat)
  case atStart => exact ⟨0, true, by omega, rfl, rfl, fun _ => rfl, fun h => absurd h (by omega), HR, Lib.hid (Below.refl _ _)⟩
  case round =>
    obtain ⟨m, d, hm, rfl, rfl, h0, h2, RJ, BJ⟩ := hrel
    obtain ⟨v0, rfl⟩ : ∃ z, z = u0 := ⟨_, rfl⟩
    cases d with
    | true =>
      have hm2 : m < 2 := by
        by_cases e : m = 2
        · exact absurd (h2 e) (by simp)
        · omega
      by_cases e0 : m = 0
      · subst e0
        have HX := Lib.hid (show RR wr v0 R from RJ.out)
        clear h0 h2 RJ
        go_wp2_with fail
        refine (l4Drop_any v0 R k _ (by omega) hk HR0.out HX.out).mono ?_
        rintro e w2 ⟨u2, rfl, o2, b2⟩
        have c2 := Lib.hid (bNext BJ.out b2)
        have O2 : Hid (RR w2 u2 (curS R k 1)) := Lib.hid o2.reads
        generalize (!liveR R (nth R k).a0) = d2 at *
        clear o2 b2
        go_wp2
        go_roundw
        case rel => exact ⟨1, d2, by omega, by go_num, rfl, fun h => absurd h (by omega), fun h => absurd h (by omega), O2, c2⟩
        case measure => simp [intOf]
      · obtain rfl : m = 1 := by omega
        have HX := Lib.hid (show RR wr v0 (dropS R k) from RJ.out)
        clear h0 h2 RJ
        go_wp2_with fail
        refine (l4Drop_any v0 (dropS R k) k _ (by omega) hk1 HR1.out HX.out).mono ?_
        rw [HV1.out, HDD.out]
        rintro e w2 ⟨u2, rfl, o2, b2⟩
        have c2 := Lib.hid (bNext BJ.out b2)
        have O2 : Hid (RR w2 u2 (curS R k 2)) := Lib.hid o2.reads
        clear o2 b2
        go_wp2
        go_roundw
        case rel => exact ⟨2, false, by omega, by go_num, rfl, fun h => absurd h (by omega), fun _ => rfl, O2, c2⟩
        case measure => simp [intOf]
    | false =>
      have HX : Hid (RR wr v0 (dropS R k)) := by
        cases m with
        | zero => exact absurd (h0 rfl) (by simp)
        | succ m => exact RJ
      clear h0 h2 RJ
      obtain ⟨R2, hR2⟩ : ∃ R2, R2 = adoptS (dropS R k) k := ⟨_, rfl⟩
      have HG2 : Hid (Good I p q r R2) := Lib.hid (by rw [hR2]; exact HG1.out.adopt hk1)
      have hl2 : R2.length = R.length := by rw [hR2, adopt_len, drop_len]
      have HA2 : Hid ((nth R2 k).a0 ∈ I) := Lib.hid (by rw [hR2, (adopt_a0 HG1.out hk1 HL1.out k).1]; exact HL1.out)
      have hk2 : k < R2.length := by omega
      have hlv2 : liveR R2 (nth R2 k).a0 = true := (live_iff _ _).2 (by rw [HG2.out.ids]; exact HA2.out)
      obtain ⟨S, hS⟩ : ∃ S, S = nextOf R2 k := ⟨_, rfl⟩
      have hSl : S < R2.length := by rw [hS]; exact (fdI_live hlv2).2
      have HF2 : Hid (fdI R2 (nth R2 k).a0 = S) := Lib.hid (by rw [hS]; exact (fdI_live hlv2).1)
      have HE : Hid (stabS R k = stab4 (stab3 R2 k) k) := Lib.hid (by rw [hR2]; rfl)
      have HS3 : Hid (stab3 R2 k = if 0 ≤ (nth R2 S).bf then closerS R2 k (nth R2 S).bf else R2) := Lib.hid (by rw [hS]; rfl)
      have HS4 : Hid (stab4 R2 k = notifyS R2 S (nth R2 k).id) := Lib.hid (by rw [hS]; rfl)
      have HR2 := Lib.hid hR2
      have h210 : R2.length ≤ 10 := by omega
      have HL2 := Lib.hid hl2
      clear hR2 hS hlv2 hl2
      by_cases hmt : m < 2
      all_goals
        go_wp2_with fail
        refine (l4Adopt_any v0 (dropS R k) k _ (by omega) hk1 HX.out).mono ?_
        rw [← HR2.out]
        rintro e w2 ⟨u2, rfl, o2, b2⟩
        have c2 := Lib.hid (bNext BJ.out b2)
        have X2 : Hid (RR w2 u2 R2) := Lib.hid o2.reads
        generalize liveR (dropS R k) (nth (dropS R k) k).a0 = fl at *
        clear o2 b2
        obtain ⟨a2, q2, rfl, -, -⟩ := X2.out.sl
        obtain ⟨b, off, bs, os, c, rfl, hb, hbs, x0, x1, x2, -, z0, z1⟩ := X2.out.nd k hk2
        obtain ⟨b', off', _, _, _, he, -, -, -, t1, -, -, -, -⟩ := X2.out.nd S hSl
        simp only [Option.some.injEq, Addr.mk.injEq, and_true] at he
        obtain ⟨rfl, rfl⟩ := he
        go_wp2_with fail
        refine (l3Find_any _ R2 _ _ (by omega) X2.out).mono ?_
        rw [HF2.out]
        rintro e w3 ⟨rfl, rfl⟩
        by_cases hbf : 0 ≤ (nth R2 S).bf
        · have d1 : decide (0 ≤ (nth R2 S).bf) = true := decide_eq_true hbf
          have HR3 : Hid (stab3 R2 k = closerS R2 k (nth R2 S).bf) := Lib.hid (by rw [HS3.out, if_pos hbf])
          obtain ⟨R3, hR3⟩ : ∃ R3, R3 = stab3 R2 k := ⟨_, rfl⟩
          obtain ⟨g3, a3⟩ := HG2.out.stab3 hk2 HA2.out
          rw [← hR3] at g3 a3
          have hl3 : R3.length = R.length := by rw [hR3, stab3_len, HL2.out]
          have hk3 : k < R3.length := by omega
          have hlv3 : liveR R3 (nth R3 k).a0 = true := (live_iff _ _).2 (by rw [g3.ids]; exact a3)
          obtain ⟨S3, hS3⟩ : ∃ S, S = nextOf R3 k := ⟨_, rfl⟩
          have hSl3 : S3 < R3.length := by rw [hS3]; exact (fdI_live hlv3).2
          have HF3 : Hid (fdI R3 (nth R3 k).a0 = S3) := Lib.hid (by rw [hS3]; exact (fdI_live hlv3).1)
          have HE3 : Hid (stabS R k = notifyS R3 S3 (nth R3 k).id) := Lib.hid (by rw [HE.out, ← hR3, hS3]; rfl)
          have HC3 : Hid (closerS R2 k (nth R2 S).bf = R3) := Lib.hid (by rw [← HR3.out, hR3])
          have h310 : R3.length ≤ 10 := by omega
          clear hbf hR3 g3 a3 hlv3 hS3 hl3
          generalize (nth R2 S).bf = bf at *
          go_wp2_with fail
          refine (l4Closer_any _ R2 k bf _ (by omega) hk2 X2.out).mono ?_
          rw [HC3.out]
          rintro e w4 ⟨u4, rfl, o4, b4⟩
          have c4 := Lib.hid (bNext c2.out b4)
          have X4 : Hid (RR w4 u4 R3) := Lib.hid o4.reads
          generalize closerG R2 k bf = fl2 at *
          clear o4 b4 x0 x1 x2 z0 z1 t1 hb hbs
          obtain ⟨a4, q4, rfl, -, -⟩ := X4.out.sl
          obtain ⟨b, off, bs, os, c, rfl, hb, hbs, x0, x1, x2, -, z0, z1⟩ := X4.out.nd k hk3
          go_wp2_with fail
          refine (l3Find_any _ R3 _ _ (by omega) X4.out).mono ?_
          rw [HF3.out]
          rintro e w5 ⟨rfl, rfl⟩
          go_wp2_with fail
          refine (l4Notify_any _ R3 S3 (nth R3 k).id _ (by omega) hSl3 X4.out).mono ?_
          rw [← HE3.out]
          rintro e w6 ⟨u6, rfl, o6, b6⟩
          have c6 := bNext c4.out b6
          have o7 := o6.base (B' := w.heap.size) c4.out.size
          generalize notifyG R3 S3 (nth R3 k).id = fl3 at *
          go_wp2
          go_ret
          exact ⟨_, rfl, o7, c6⟩
        · have d1 : decide (0 ≤ (nth R2 S).bf) = false := decide_eq_false hbf
          have HR3 : Hid (stab3 R2 k = R2) := Lib.hid (by rw [HS3.out, if_neg hbf])
          have HE3 : Hid (stabS R k = notifyS R2 S (nth R2 k).id) := Lib.hid (by rw [HE.out, HR3.out, HS4.out])
          clear hbf
          generalize (nth R2 S).bf = bf at *
          go_wp2_with fail
          refine (l4Notify_any _ R2 S (nth R2 k).id _ (by omega) hSl X2.out).mono ?_
          rw [← HE3.out]
          rintro e w6 ⟨u6, rfl, o6, b6⟩
          have c6 := bNext c2.out b6
          have o7 := o6.base (B' := w.heap.size) c2.out.size
          generalize notifyG R2 S (nth R2 k).id = fl3 at *
          go_wp2
          go_ret
          exact ⟨_, rfl, o7, c6⟩

set_option maxRecDepth 100000 in
set_option maxHeartbeats 4000000 in
theorem specRingStabilize_ok (v : Value) (R : List Nd) (x : Int) (w : World) (hv : ValidL R) (hs : safeL R = true) (hx : liveR R x = true) (hr : RR w v R) :
    Calls Try.prog 111 #[v, .int .i64 x] w fun e w' => ∃ u t, e = .returned (.tuple #[u, .bool t]) ∧ OwnRingS w' w.heap.size u (dats (stabS R (fnd R x))) ∧ Below w.heap.size w w' := by
  have HR := Lib.hid hr
  have h1 := (fdI_live hx).2
  have h10 := hv.len
  obtain ⟨p, q, r, hG⟩ := good_of hv hs
  have HG := Lib.hid hG
  go_enter Try.func111, Try.ntmps111
  go_wp2_with fail
  refine (l4One_ok v R x _ hv hs hx HR.out).mono ?_
  rintro e w1 ⟨rfl, b1⟩
  clear hs hv hx hr hG
  generalize hk : fnd R x = k at *
  have HK := Lib.hid hk; clear hk
  go_wp2_with fail
  refine (l4Stabilize_any v R k _ HG.out h10 h1 (HR.out.bl b1)).mono ?_
  rintro e w2 ⟨u, rfl, o2, b2⟩
  have c2 := bNext b1 b2
  have o3 := o2.base (B' := w.heap.size) b1.size
  go_wp2
  go_ret2
  exact ⟨u, _, rfl, by rw [HK.out]; exact o3, c2⟩
end Go.Proofs.Ythgekfiodedelaa
