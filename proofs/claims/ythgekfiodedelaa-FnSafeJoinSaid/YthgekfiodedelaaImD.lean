/- impl.RingSafe. -/
import Derived.Test.YthgekfiodedelaaImC
namespace Go.Proofs.Ythgekfiodedelaa
open Go.RowKit
set_option linter.unusedVariables false
set_option linter.unusedSimpArgs false

/-- The function value g over the cell cp says p of every number, in every world that keeps W. -/
def SaysI (W : World) (g : Nat) (cp : Value) (p : Int → Bool) : Prop :=
  (∀ (args : Array Value) (w : World), (callFunc g args).run Try.prog w = .ok (.enter g args) w) ∧
  ∀ (n : Int) (w : World), Below W.heap.size W w → Calls Try.prog g #[.int .i64 n, cp] w fun e w' => e = .returned (.bool (p n)) ∧ Below w.heap.size w w'
def fstZ (p : Int → Bool) : Nat → List Int → Int
  | _, [] => -1
  | i, z :: zs => if p z then (i : Int) else fstZ p (i + 1) zs
theorem fstZ_any (p : Int → Bool) (zs : List Int) : ∀ i, decide (0 ≤ fstZ p i zs) = zs.any p := by
  induction zs with
  | nil => intro i; rfl
  | cons z zs ih =>
    intro i
    cases h : p z with
    | true => simp [fstZ, h]
    | false => simp only [fstZ, h, List.any_cons, Bool.false_or]; exact ih (i + 1)

set_option maxHeartbeats 2000000 in
theorem indexFuncI_any (g : Nat) (cp : Value) (p : Int → Bool) (v : Value) (zs : List Int) (w : World) (hl : zs.length ≤ 4194304) (hr : RInts w v zs) (hp : SaysI w g cp p) :
    Calls Try.prog 79 #[v, .func (.func g) #[] #[cp]] w fun e w' => e = .returned (.int .i64 (fstZ p 0 zs)) ∧ Below w.heap.size w w' := by
  obtain ⟨a, cap, rfl, hc, hm, -⟩ := id hr
  have HR := Lib.hid hr; clear hr
  obtain ⟨eg, hp⟩ := hp
  have HP := Lib.hid hp; clear hp
  go_enter Try.func79, Try.ntmps79
  go_wp2
  go_loopw [5, 8] (fun _ i wr => ∃ j : Nat, j ≤ zs.length ∧ i = .int .i64 j ∧ Hid (fstZ p 0 zs = fstZ p j (zs.drop j)) ∧ Hid (Below w.heap.size w wr)) (fun _ i _ => zs.length - (intOf i).toNat)
  case atStart => exact ⟨0, Nat.zero_le _, rfl, Lib.hid rfl, Lib.hid (Below.refl _ _)⟩
  case round =>
    obtain ⟨j, hj, rfl, hH, BJ⟩ := hrel
    by_cases hlt : j < zs.length
    · obtain ⟨_, _, e0, -, -, hcell⟩ := HR.out.bl BJ.out
      cases e0
      obtain ⟨b, off, rfl, hb, hcj⟩ := hcell j hlt
      have hD : Hid (zs.drop j = zs[j] :: zs.drop (j + 1)) := Lib.hid (List.drop_eq_getElem_cons hlt)
      obtain ⟨z, hz⟩ : ∃ z, z = zs[j] := ⟨_, rfl⟩
      rw [← hz] at hcj hD
      clear hz hcell
      have HC := Lib.hid (HP.out z wr BJ.out)
      cases q : p z with
      | true =>
        have Q := Lib.hid q; clear q
        go_wp2_with fail
        refine HC.out.mono ?_
        rw [Q.out]
        rintro e w1 ⟨rfl, b1⟩
        have c1 := Lib.hid (bNext BJ.out b1)
        clear b1
        go_wp2
        go_ret
        exact ⟨ret_int (by rw [hH.out, hD.out, fstZ, Q.out]; rfl), c1.out⟩
      | false =>
        have Q := Lib.hid q; clear q
        go_wp2_with fail
        refine HC.out.mono ?_
        rw [Q.out]
        rintro e w1 ⟨rfl, b1⟩
        have c1 := Lib.hid (bNext BJ.out b1)
        clear b1
        go_wp2
        go_roundw
        case rel => exact ⟨j + 1, by omega, by go_num, Lib.hid (by rw [hH.out, hD.out, fstZ, Q.out]; rfl), c1⟩
        case measure => simp [intOf]; omega
    · go_wp2
      go_ret
      exact ⟨ret_int (by rw [hH.out, List.drop_of_length_le (by omega)]; rfl), BJ.out⟩

set_option maxHeartbeats 1000000 in
theorem containsFuncI_any (g : Nat) (cp : Value) (p : Int → Bool) (v : Value) (zs : List Int) (w : World) (hl : zs.length ≤ 4194304) (hr : RInts w v zs) (hp : SaysI w g cp p) :
    Calls Try.prog 50 #[v, .func (.func g) #[] #[cp]] w fun e w' => e = .returned (.bool (zs.any p)) ∧ Below w.heap.size w w' := by
  have HP := Lib.hid hp; clear hp
  have HR := Lib.hid hr; clear hr
  have HA := Lib.hid (fstZ_any p zs 0)
  go_enter Try.func50, Try.ntmps50
  go_wp2_with fail
  refine (indexFuncI_any g cp p v zs _ hl HR.out HP.out).mono ?_
  rintro e w' ⟨rfl, b1⟩
  generalize fstZ p 0 zs = q at *
  go_wp2
  go_ret
  exact ⟨ret_bool HA.out, b1⟩

theorem ptrAt_live {w : World} {v : Value} {R : List Nd} (hr : RR w v R) {x : Int} (h : liveR R x = true) : ∃ p, ptrAt v R x = .pointer (some p) := by
  obtain ⟨a, cap, rfl, -, -⟩ := hr.sl
  obtain ⟨b, off, bs, os, c, rfl, -⟩ := hr.nd _ (fdI_live h).2
  exact ⟨_, by unfold ptrAt; rw [if_pos h]⟩
theorem ptrAt_dead {v : Value} {R : List Nd} {x : Int} (h : liveR R x = false) : ptrAt v R x = .pointer none := by
  unfold ptrAt; rw [if_neg (by rw [h]; exact Bool.false_ne_true)]

set_option maxHeartbeats 1000000 in
theorem safe1_any (v : Value) (R : List Nd) (x : Int) (g : Nat) (w : World) (hl : R.length ≤ 4096) (hr : RR w v R) (hg : g < w.heap.size) (hc : w.cell? ⟨g, 0, none⟩ = some v) :
    Calls Try.prog 48 #[.int .i64 x, .pointer (some ⟨g, 0, none⟩)] w fun e w' => e = .returned (.bool (liveR R x)) ∧ Below w.heap.size w w' := by
  have HR := Lib.hid hr
  cases h : liveR R x with
  | true =>
    obtain ⟨p, hp⟩ := ptrAt_live hr h
    clear hr h
    have HP := Lib.hid hp; clear hp
    go_enter Try.func48, Try.ntmps48
    go_wp2_with fail
    refine (nodeAt_any v R x _ hl HR.out).mono ?_
    rw [HP.out]
    rintro e w1 ⟨rfl, b1⟩
    go_wp2
    go_ret
    exact ⟨rfl, b1⟩
  | false =>
    have hp := ptrAt_dead (v := v) h
    clear hr h
    have HP := Lib.hid hp; clear hp
    go_enter Try.func48, Try.ntmps48
    go_wp2_with fail
    refine (nodeAt_any v R x _ hl HR.out).mono ?_
    rw [HP.out]
    rintro e w1 ⟨rfl, b1⟩
    go_wp2
    go_ret
    exact ⟨rfl, b1⟩
theorem enters48 : ∀ (args : Array Value) (w : World), (callFunc 48 args).run Try.prog w = .ok (.enter 48 args) w := enters_of Try.func48 (by kernel_rfl) rfl

set_option maxRecDepth 100000 in
set_option maxHeartbeats 4000000 in
theorem implRingSafe_any (v : Value) (D : List Rn) (w : World) (hl : D.length ≤ 4096) (hr : RRing w v D) :
    Calls Try.prog 21 #[v] w fun e w' => e = .returned (.bool (sfD D)) ∧ Below w.heap.size w w' := by
  have A1 := below_alloc w (.cells #[v] 23)
  have C1 := Lib.hid A1
  have hx : (w.alloc (.cells #[v] 23)).cell? ⟨w.heap.size, 0, none⟩ = some v := (Blk.new w #[v] 23).get1
  obtain ⟨W, hW⟩ : ∃ W, W = w.alloc (.cells #[v] 23) := ⟨_, rfl⟩
  obtain ⟨G, hG⟩ : ∃ G, G = w.heap.size := ⟨_, rfl⟩
  have hGW : G < W.heap.size := by rw [hW, hG]; simp
  have HWR := hr.bl A1
  rw [← hW] at C1 HWR
  rw [← hW, ← hG] at hx
  have HWR := Lib.hid HWR
  obtain ⟨a, cap, rfl, hc, hm⟩ := id hr.sl
  clear A1
  cases hvd : vD D with
  | false =>
    have HV := Lib.hid hvd; clear hvd hr
    have HF : Hid (sfD D = false) := Lib.hid (by rw [sfD, HV.out]; rfl)
    go_enter Try.func21, Try.ntmps21
    go_wp2_with fail
    rw [← hW, ← hG]
    clear hW hG
    refine (implRingValid_any _ D _ (by omega) HWR.out).mono ?_
    rw [HV.out]
    rintro e w1 ⟨rfl, b1⟩
    have c1 := Lib.hid (bNext C1.out b1)
    clear b1
    go_wp2
    go_ret
    exact ⟨ret_bool HF.out.symm, c1.out⟩
  | true =>
    obtain ⟨R, rfl, hv⟩ := vD_of hvd
    have HV := Lib.hid hvd; clear hvd hr
    rw [dats_len] at hl hc HWR hx ⊢
    rw [dats_len] at hW
    have h10 := hv.len
    have HX := Lib.hid hx
    have HSF : Hid (sfD (dats R) = safeL R) := Lib.hid (sfD_dats hv)
    have HVL := Lib.hid hv; clear hv
    have SI : Hid (SaysI W 48 (.pointer (some ⟨G, 0, none⟩)) (liveR R)) := Lib.hid ⟨enters48, fun n w' hb => by
      refine safe1_any _ R n G w' hl (RR.bl HWR.out hb) (by have := hb.size; omega) ?_
      rw [hb.cell (p := ⟨G, 0, none⟩) hGW]; exact HX.out⟩
    go_enter Try.func21, Try.ntmps21
    go_wp2_with fail
    rw [← hW, ← hG]
    clear hW hG
    refine (implRingValid_any _ (dats R) _ (by rw [dats_len]; omega) HWR.out).mono ?_
    rw [HV.out]
    rintro e w1 ⟨rfl, b1⟩
    have B1 := Lib.hid b1
    have hx1 := (b1.cell (p := ⟨G, 0, none⟩) hGW).trans hx
    clear b1
    go_wp2
    clear hx1
    go_loopw [5, 12] (fun _ i wr => ∃ j : Nat, j ≤ R.length ∧ i = .int .i64 j ∧ Hid (∀ i, i < j → (liveR R (nth R i).a0 || liveR R (nth R i).a1) = true) ∧ Hid (Below W.heap.size W wr)) (fun _ i _ => R.length - (intOf i).toNat)
    case atStart => exact ⟨0, Nat.zero_le _, rfl, Lib.hid (fun i h => absurd h (by omega)), B1⟩
    case round =>
      obtain ⟨j, hj, rfl, HJ, BJ⟩ := hrel
      have hxj := (BJ.out.cell (p := ⟨G, 0, none⟩) hGW).trans hx
      by_cases hlt : j < R.length
      · have RJ : RR wr (.slice a R.length cap) R := RR.bl HWR.out BJ.out
        obtain ⟨b, off, bs, os, c, rfl, hb, hbs, x0, x1, x2, r3, -, -⟩ := RJ.nd j hlt
        have HA : Hid ([(nth R j).a0, (nth R j).a1].any (liveR R) = (liveR R (nth R j).a0 || liveR R (nth R j).a1)) := Lib.hid (by simp)
        have HM := Lib.hid (nth_mem hlt)
        obtain ⟨n, hn⟩ : ∃ n, n = nth R j := ⟨_, rfl⟩
        rw [← hn] at x0 x1 r3 HA HM
        have HN := Lib.hid hn
        clear hn RJ
        have BK := Blk.new wr #[.int .i64 n.id, .int .i64 n.bf, .slice (some ⟨bs, os, none⟩) 2 c] 37
        obtain ⟨y0, y1, y2⟩ := BK.get3
        have A2 := below_alloc wr (.cells #[.int .i64 n.id, .int .i64 n.bf, .slice (some ⟨bs, os, none⟩) 2 c] 37)
        have C2 := Lib.hid (bNext BJ.out A2)
        have R3 := Lib.hid (r3.bl A2)
        clear r3 A2 BK
        have SJ : Hid (SaysI (wr.alloc (.cells #[.int .i64 n.id, .int .i64 n.bf, .slice (some ⟨bs, os, none⟩) 2 c] 37)) 48 (.pointer (some ⟨G, 0, none⟩)) (liveR R)) := Lib.hid ⟨SI.out.1, fun n w' hb => SI.out.2 n w' (bNext C2.out hb)⟩
        cases q : (liveR R n.a0 || liveR R n.a1) with
        | true =>
          rw [q] at HA
          have HJ1 : Hid (∀ i, i < j + 1 → (liveR R (nth R i).a0 || liveR R (nth R i).a1) = true) := Lib.hid (fun i hi => by
            by_cases e : i = j
            · subst e; rw [← HN.out]; exact q
            · exact HJ.out i (by omega))
          clear q
          go_wp2_with fail
          refine (containsFuncI_any _ _ _ _ [n.a0, n.a1] _ (by simp) R3.out SJ.out).mono ?_
          rw [HA.out]
          rintro e w5 ⟨rfl, b5⟩
          have c5 := Lib.hid (bNext C2.out b5)
          clear b5
          go_wp2
          go_roundw
          case rel => exact ⟨j + 1, by omega, by go_num, HJ1, c5⟩
          case measure => simp [intOf]; omega
        | false =>
          rw [q] at HA
          have HE : Hid (sfD (dats R) = false) := Lib.hid (by
            rw [HSF.out, safeL, Bool.and_eq_false_iff]; left
            rw [List.all_eq_false]
            exact ⟨n, HM.out, by rw [q]; simp⟩)
          clear q
          go_wp2_with fail
          refine (containsFuncI_any _ _ _ _ [n.a0, n.a1] _ (by simp) R3.out SJ.out).mono ?_
          rw [HA.out]
          rintro e w5 ⟨rfl, b5⟩
          have c5 := Lib.hid (bNext C1.out (bNext C2.out b5))
          clear b5
          go_wp2
          go_ret
          exact ⟨ret_bool HE.out.symm, c5.out⟩
      · obtain rfl : j = R.length := by omega
        have HE : Hid (sfD (dats R) = decide (3 ≤ (princ R).length)) := Lib.hid (by
          have h1 : R.all (fun n => liveR R n.a0 || liveR R n.a1) = true := by
            rw [List.all_eq_true]
            intro n hn
            obtain ⟨k, hk, rfl⟩ := mem_nth hn
            exact HJ.out k hk
          rw [HSF.out, safeL, h1]; rfl)
        go_wp2_with fail
        refine (implPrincipals_any _ R _ HVL.out (RR.bl HWR.out BJ.out)).mono ?_
        rintro e w9 ⟨u9, rfl, o9, b9⟩
        have c9 := Lib.hid (bNext C1.out (bNext BJ.out b9))
        clear b9
        obtain ⟨a9, q9, rfl, -, -, -⟩ := o9.reads
        generalize (princ R).length = z at *
        clear o9
        go_wp2
        go_ret
        exact ⟨ret_bool (by rw [HE.out]; exact decide_eq_decide.2 (by omega)), c9.out⟩
end Go.Proofs.Ythgekfiodedelaa
