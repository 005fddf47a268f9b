/- The walk of FnSafeJoin: the law returns true. -/
import Derived.Test.YthgekfiodedelaaDrawRg
import Derived.Test.YthgekfiodedelaaImN
import Derived.Test.YthgekfiodedelaaImZ
namespace Go.Proofs.Ythgekfiodedelaa
open Go.RowKit
set_option linter.unusedVariables false
set_option linter.unusedSimpArgs false

theorem sameRing_same (v1 v2 : Value) (D : List Rn) (w : World) (hl : D.length ≤ 4096) (hls : ∀ e ∈ D, e.2.2.length ≤ 4096) (hr1 : RRing w v1 D) (hr2 : RRing w v2 D) :
    Calls Try.prog 11 #[v1, v2] w fun e w' => e = .returned (.bool true) ∧ Below w.heap.size w w' :=
  (sameRing_any v1 v2 D D w hl hls hr1 hr2).mono (fun e w' h => ⟨by rw [h.1]; simp, h.2⟩)
theorem sameInts_same' (v1 v2 : Value) (xs : List Int) (w : World) (hl : xs.length ≤ 4096) (hr1 : RInts w v1 xs) (hr2 : RInts w v2 xs) :
    Calls Try.prog 15 #[v1, v2] w fun e w' => e = .returned (.bool true) ∧ ∃ n, w' = w.drewN n :=
  (sameInts_any v1 v2 xs xs w (by omega) hr1 hr2).mono (fun e w' h => ⟨by rw [h.1]; simp, h.2⟩)
theorem vs_ring_ideal {R : List Nd} (hv : VS R) : VS (idealS (idsL R)) := vs_ideal hv.1.ascI (by have := three_of hv.2; simpa [idsL] using this) (by have := hv.1.len; simpa [idsL] using this)

theorem atI_dead {R : List Nd} {x : Int} (h : x ∉ idsL R) : atI R x = -1 := by
  unfold atI
  cases q : liveR R x with
  | true => exact absurd ((live_iff R x).1 q) h
  | false => rfl
theorem atI_live {R : List Nd} {x : Int} (h : x ∈ idsL R) : atI R x = x := by rw [atI, (live_iff R x).2 h]; rfl

theorem run_maxJ {P : Program} (w : World) (ts : Array TypeId) (t : TypeId) (x y E : Int) (h : max x y = E) : (Builtin.max_ ts t #[.int .i64 x, .int .i64 y]).run P w = .ok (.int .i64 E) w := by
  have e : (if y < x then x else y) = E := by rw [← h]; split <;> omega
  have e' : (if x < y then y else x) = E := by rw [← h]; split <;> omega
  first | (rw [← e]; simp [Builtin.max_, Builtin.max2]; done) | (rw [← e']; simp [Builtin.max_, Builtin.max2]; done)
set_option maxRecDepth 100000 in
set_option maxHeartbeats 4000000 in
theorem drawRingJoin_any (v : Value) (zs : List Int) (w : World) (hr : RBytes w v zs) (hl : zs.length ≤ 1048576) :
    Calls Try.prog 17 #[v] w fun e w' => ∃ u x y D, e = .returned (.tuple #[u, .int .i64 x, .int .i64 y]) ∧ RRing w' u D ∧ Mild D ∧ Below w.heap.size w w' := by
  obtain ⟨⟨a, cap, rfl, -, -, -⟩, -⟩ := id hr
  have HR := Lib.hid hr; clear hr
  go_enter Try.func17, Try.ntmps17
  go_wp2_with fail
  refine (l6Open_any _ zs _ HR.out hl).mono ?_
  rintro e w1 ⟨b, rfl, hb, r1, b1⟩
  have RD1 := Lib.hid r1; have B1 := Lib.hid b1
  clear r1 b1
  go_wp2_with fail
  refine (l91Spoilt_any w.heap.size b 0 _ RD1.out (by omega)).mono ?_
  rintro e w2 ⟨u2, D, q, rfl, r2, m2, hq, rd2, g2⟩
  have R2 := Lib.hid r2; have M2 := Lib.hid m2; have RD2 := Lib.hid rd2
  have c2 := Lib.hid (bGr B1.out g2 (fun k hk => by cases hk; exact hb))
  obtain ⟨a2, q2, rfl, -, -⟩ := RRing.sl r2.reads
  clear r2 m2 g2 rd2
  go_wp2_with fail
  refine (l91Member_any w.heap.size b q _ D _ RD2.out (by omega) R2.out M2.out).mono ?_
  rintro e w3 ⟨x3, q3, rfl, hx3, hq3, rd3, g3⟩
  have R3 := Lib.hid (R2.out.gr g3)
  have RD3 := Lib.hid rd3
  have c3 := Lib.hid (bGr c2.out g3 (fun k hk => by cases hk; exact hb))
  clear g3 rd3
  obtain ⟨M, hM⟩ : ∃ M, max x3 0 = M := ⟨_, rfl⟩
  have hMr : 0 ≤ M ∧ M ≤ 64 := by omega
  have hmx := fun w ts t => run_maxJ (P := Try.prog) w ts t x3 0 M hM
  have e1 : IntKind.i64.wrap (M + 1) = M + 1 := IntWalk.i64_in _ (by omega)
  clear hM
  go_wp2_with fail
  refine (pick_any w.heap.size b q3 12 _ RD3.out (by omega) (by omega) (by omega)).mono ?_
  rintro e w4 ⟨m4, rfl, ⟨hm4, hm4'⟩, rd4, g4⟩
  have R4 := Lib.hid (R3.out.gr g4)
  have RD4 := Lib.hid rd4
  have c4 := Lib.hid (bGr c3.out g4 (fun k hk => by cases hk; exact hb))
  clear g4 rd4
  have e2 : IntKind.i64.wrap (M + 1 + m4) = M + 1 + m4 := IntWalk.i64_in _ (by omega)
  have e3 : Int.tmod (M + 1 + m4) 64 = (M + 1 + m4) % 64 := Int.tmod_eq_emod_of_nonneg (by omega)
  have e4 : (0 : Int) ≤ M + 1 + m4 := by omega
  go_wp2_with fail
  refine (pick_any w.heap.size b (q3 + 1) 10 _ RD4.out (by omega) (by omega) (by omega)).mono ?_
  rintro e w5 ⟨m5, rfl, -, rd5, g5⟩
  have R5 := Lib.hid (R4.out.gr g5)
  have RD5 := Lib.hid rd5
  have c5 := Lib.hid (bGr c4.out g5 (fun k hk => by cases hk; exact hb))
  clear g5 rd5
  cases hz : (m5 == 0) with
  | false =>
    go_wp2
    go_ret3
    exact ⟨_, _, _, D, rfl, R5.out.reads, M2.out, c5.out⟩
  | true =>
    go_wp2_with fail
    refine (l91Point_any w.heap.size b (q3 + 1 + 1) _ RD5.out (by omega)).mono ?_
    rintro e w6 ⟨x6, rfl, -, rd6, g6⟩
    have R6 := Lib.hid (R5.out.gr g6)
    have c6 := Lib.hid (bGr c5.out g6 (fun k hk => by cases hk; exact hb))
    clear g6 rd6
    go_wp2
    go_ret3
    exact ⟨_, _, _, D, rfl, R6.out.reads, M2.out, c6.out⟩

theorem join_len {R : List Nd} {x y : Int} (h : joinG R x y = true) : (joinS R x y).length = R.length + 1 := by rw [joinS, if_pos h, insS_len _ _ _ (place_le R x)]
theorem join_in {R : List Nd} {x y : Int} (h : joinG R x y = true) : x ∈ idsL (joinS R x y) := by
  rw [joinS, if_pos h, insS_ids]
  exact List.mem_append.2 (.inr (List.mem_cons_self))

set_option maxHeartbeats 400000 in
theorem hasInt_any (v : Value) (zs : List Int) (n : Int) (w : World) (hlen : zs.length ≤ 4194304) (hr : RInts w v zs) :
    Calls Try.prog 52 #[v, .int .i64 n] w fun e w' => e = .returned (.bool (decide (n ∈ zs))) ∧ w = w' := by
  obtain ⟨a, cap, rfl, hc, hm, hcell⟩ := hr
  go_enter Try.func52, Try.ntmps52
  go_wp2
  go_loop [5] (fun i => ∃ j : Nat, j ≤ zs.length ∧ i = .int .i64 j ∧ Hid (n ∉ zs.take j)) (fun i => zs.length - (intOf i).toNat)
  case atStart => exact ⟨0, Nat.zero_le _, rfl, by simp [Hid]⟩
  case round =>
    obtain ⟨j, hj, rfl, hH⟩ := hrel
    by_cases hlt : j < zs.length
    · obtain ⟨b, off, rfl, hb, hcj⟩ := hcell j hlt
      have hD : Hid (zs.take (j + 1) = zs.take j ++ [zs[j]]) := List.take_succ_eq_append_getElem hlt
      have hM : Hid (zs[j] ∈ zs) := List.getElem_mem hlt
      obtain ⟨z, hz⟩ : ∃ z, z = zs[j] := ⟨_, rfl⟩
      rw [← hz] at hcj hD hM
      clear hz
      by_cases hzk : z = n
      · have hzk' : (z == n) = true := by simp [hzk]
        have HZ := Lib.hid hzk; clear hzk
        go_wp2
        go_ret
        exact ⟨ret_bool (by rw [decide_eq_true]; rw [← HZ.out]; exact hM.out), rfl⟩
      · have hzk' : (z == n) = false := by simp [hzk]
        go_wp2
        go_round
        case rel => exact ⟨j + 1, by omega, by go_num, by show n ∉ _; rw [hD.out]; simp; exact ⟨hH.out, fun h => hzk h.symm⟩⟩
        case measure => simp [intOf]; omega
    · go_wp2
      go_ret
      exact ⟨ret_bool (by rw [decide_eq_false]; have := hH.out; rw [List.take_of_length_le (by omega)] at this; exact this), rfl⟩


set_option maxRecDepth 100000 in
set_option maxHeartbeats 4000000 in
theorem lawKeeps_any (v1 v2 : Value) (R1 R2 : List Nd) (w : World) (hv1 : ValidL R1) (hv2 : ValidL R2) (hsub : ∀ x, x ∈ princ R1 → x ∈ princ R2) (hr1 : RR w v1 R1) (hr2 : RR w v2 R2) :
    Calls Try.prog 22 #[v1, v2] w fun e w' => e = .returned (.bool true) ∧ Below w.heap.size w w' := by
  obtain ⟨a2, c2, rfl, -, -⟩ := id hr2.sl
  have HR1 := Lib.hid hr1; have HR2 := Lib.hid hr2
  have HV1 := Lib.hid hv1; have HV2 := Lib.hid hv2
  have HSUB := Lib.hid hsub
  have h10 := hv2.len
  have hp1 : (princ R1).length ≤ 10 := by
    have h := List.length_filter_le (prcB R1) (idsL R1)
    have h2 : (idsL R1).length = R1.length := by simp [idsL]
    have h3 := hv1.len
    show ((idsL R1).filter (prcB R1)).length ≤ 10
    omega
  have hp2 : (princ R2).length ≤ 10 := by
    have h := List.length_filter_le (prcB R2) (idsL R2)
    have h2 : (idsL R2).length = R2.length := by simp [idsL]
    show ((idsL R2).filter (prcB R2)).length ≤ 10
    omega
  clear hr1 hr2 hv1 hv2 hsub
  go_enter Try.func22, Try.ntmps22
  go_wp2_with fail
  refine (implPrincipals_any _ R1 _ HV1.out HR1.out).mono ?_
  rintro e w1 ⟨u1, rfl, o1, b1⟩
  have P1 := Lib.hid o1.reads; have B1 := Lib.hid b1
  obtain ⟨a3, c3, rfl, -, -, -⟩ := id o1.reads
  clear o1 b1
  go_wp2_with fail
  refine (implPrincipals_any _ R2 _ HV2.out (HR2.out.bl B1.out)).mono ?_
  rintro e w2 ⟨u2, rfl, o2, b2⟩
  have P2 := Lib.hid o2.reads; have B2 := Lib.hid (bNext B1.out b2)
  have Q1 := Lib.hid (P1.out.bl b2)
  obtain ⟨a4, c4, rfl, -, -, -⟩ := id o2.reads
  clear o2 b2
  go_wp2
  go_loopw [7] (fun i wr => ∃ j : Nat, j ≤ (princ R1).length ∧ i = .int .i64 j ∧ Hid (Below w2.heap.size w2 wr)) (fun i _ => (princ R1).length - (intOf i).toNat)
  case atStart => exact ⟨0, Nat.zero_le _, rfl, Lib.hid (Below.refl _ _)⟩
  case round =>
    obtain ⟨j, hj, rfl, hB⟩ := hrel
    by_cases hlt : j < (princ R1).length
    · obtain ⟨b, off, hbe, hbl, hcell⟩ : ∃ b off, a3 = some ⟨b, off, none⟩ ∧ b < w2.heap.size ∧ w2.cell? ⟨b, off + j, none⟩ = some (.int .i64 (princ R1)[j]) := by
        obtain ⟨a', cap', hv, hn, hc, hx⟩ := Q1.out
        simp only [Value.slice.injEq] at hv
        obtain ⟨rfl, -, rfl⟩ := hv
        obtain ⟨b, off, e1, e2, e3⟩ := hx j hlt
        exact ⟨b, off, e1, e2, e3⟩
      subst hbe
      have hc1 := (hB.out.cell (p := ⟨b, off + j, none⟩) hbl).trans hcell
      have hmem := HSUB.out _ (List.getElem_mem hlt)
      have hids := (mem_princ.1 hmem).1
      have HM := Lib.hid hmem
      have HAT := Lib.hid (atI_live hids)
      have hge : (0 : Int) ≤ (princ R1)[j] := by
        obtain ⟨n, hn, e⟩ := List.mem_map.1 hids
        rw [← e]; exact (HV2.out.ok n hn).i0.1
      clear hcell hmem hids
      have hbwr : b < wr.heap.size := Nat.lt_of_lt_of_le hbl hB.out.size
      generalize (princ R1)[j] = p at *
      have dge : decide (p < 0) = false := decide_eq_false (by omega)
      go_wp2_with fail
      refine (lawNodeAt_any _ R2 p _ (by omega) ((HR2.out.bl B2.out).bl hB.out)).mono ?_
      rw [HAT.out]
      rintro e w3 ⟨y7, s7, n7, q7, rfl, b3⟩
      have hB3 := Lib.hid (bNext hB.out b3)
      have hc3 := (b3.cell (p := ⟨b, off + j, none⟩) hbwr).trans hc1
      have hfld := fun w => run_field_nd p y7 s7 n7 q7 w
      have HIN : Hid (decide (p ∈ princ R2) = true) := Lib.hid (decide_eq_true HM.out)
      clear b3
      go_wp2_with fail
      refine (hasInt_any _ (princ R2) p _ (by omega) (P2.out.bl hB3.out)).mono ?_
      rw [HIN.out]
      rintro e w4 ⟨rfl, rfl⟩
      go_wp2
      go_roundw
      case rel => exact ⟨j + 1, by omega, by go_num, hB3⟩
      case measure => simp [intOf]; omega
    · go_wp2
      go_ret
      exact ⟨rfl, bNext B2.out hB.out⟩

set_option maxRecDepth 100000 in
set_option maxHeartbeats 4000000 in
theorem safeJoin_walk (v : Value) (zs : List Int) (w : World) (hr : RBytes w v zs) :
    Calls Try.prog 6 #[v] w fun e w' => e = .returned (.bool true) ∧ Below w.heap.size w w' := by
  obtain ⟨⟨a, cap, rfl, g1, g2, -⟩, -⟩ := id hr
  have HR := Lib.hid hr; clear hr
  by_cases hl : zs.length ≤ 1048576
  · have d0 : decide ((1048576 : Int) < (zs.length : Int)) = false := decide_eq_false (by omega)
    have d0' : decide (1048576 < zs.length) = false := decide_eq_false (by omega)
    go_enter Try.func6, Try.ntmps6
    go_wp2_with fail
    refine (drawRingJoin_any _ zs _ HR.out hl).mono ?_
    rintro e w1 ⟨u1, x, y, D, rfl, r1, m1, b1⟩
    have R1 := Lib.hid r1; have M1 := Lib.hid m1; have B1 := Lib.hid b1
    have hD10 := m1.1
    obtain ⟨a1, c1, rfl, -, -⟩ := RRing.sl r1
    clear r1 m1 b1 d0 d0'
    cases hs : (sfD D && ptB x && ptB y) with
    | false =>
      have HS := Lib.hid hs; clear hs
      go_wp2_with fail
      refine (implRingJoin_bad _ D x y _ (by omega) (by rw [← Bool.and_assoc]; exact HS.out) R1.out).mono ?_
      rintro e w2 ⟨rfl, b2⟩
      have R2 := Lib.hid (R1.out.bl b2); have B2 := Lib.hid (bNext B1.out b2)
      clear b2
      go_wp2_with fail
      refine (specRingJoin_bad _ D x y _ (by omega) HS.out R2.out).mono ?_
      rintro e w3 ⟨u3, rfl, r3, b3⟩
      have R3 := Lib.hid r3; have B3 := Lib.hid (bNext B2.out b3)
      obtain ⟨a3, c3, rfl, -, -⟩ := RRing.sl r3
      clear r3 b3
      go_wp2_with fail
      refine (sameRing_same _ _ [] _ (by simp) (by simp) (RRing.empty _) R3.out).mono ?_
      rintro e w4 ⟨rfl, b4⟩
      have R4 := Lib.hid (R3.out.bl b4); have B4 := Lib.hid (bNext B3.out b4)
      clear b4
      go_wp2_with fail
      refine (sameRing_same _ _ [] _ (by simp) (by simp) (RRing.empty _) R4.out).mono ?_
      rintro e w5 ⟨rfl, b5⟩
      have B5 := Lib.hid (bNext B4.out b5)
      clear b5
      go_wp2
      go_ret
      exact ⟨rfl, B5.out⟩
    | true =>
      rw [Bool.and_eq_true, Bool.and_eq_true] at hs
      obtain ⟨R, rfl, hv, hsf⟩ := sfD_of hs.1.1
      have HX := Lib.hid hs.1.2; have HY := Lib.hid hs.2
      obtain ⟨hx1, hx2⟩ := ptB_true hs.1.2
      obtain ⟨hy1, hy2⟩ := ptB_true hs.2
      have HV := Lib.hid hv; have HF := Lib.hid hsf
      have h10 := hv.len
      have HVF := Lib.hid (join_valid (id := x) (at_ := y) hv ⟨hx1, by omega⟩ ⟨hy1, by omega⟩); have HFF := Lib.hid (join_safe (id := x) (at_ := y) hv hsf)
      have h10F := HVF.out.len
      have DS := Lib.hid (dats_small (joinS R x y))
      have HDL : Hid ((dats (joinS R x y)).length ≤ 4096) := Lib.hid (by rw [dats_len]; omega)
      rw [dats_len] at R1 ⊢
      have R1' : Hid (RR w1 (.slice a1 R.length c1) R) := R1
      have HCUT : Hid (joinG R x y = true → (joinS R x y).length = R.length + 1 ∧ 1 ≤ R.length ∧ x ∈ idsL (joinS R x y)) := Lib.hid (fun h => ⟨join_len h, by have := three_of hsf; omega, join_in h⟩)
      clear hs hv hsf hD10 R1 hx1 hx2 hy1 hy2
      go_wp2_with fail
      refine (implRingJoin_ok _ R x y _ HV.out HF.out HX.out HY.out R1'.out).mono ?_
      rintro e w2 ⟨u2, rfl, o2, b2⟩
      have X2 := Lib.hid o2.reads
      have R2 := Lib.hid (R1'.out.bl b2); have B2 := Lib.hid (bNext B1.out b2)
      obtain ⟨a2, c2, rfl, -, -⟩ := RRing.sl o2.reads
      have HB2 := Lib.hid b2
      clear o2 b2
      go_wp2_with fail
      refine (specRingJoin_ok _ R x y _ HV.out HF.out HX.out HY.out R2.out).mono ?_
      rintro e w3 ⟨u3, rfl, o3, b3⟩
      have Y3 := Lib.hid o3.reads
      have X3 := Lib.hid (X2.out.bl b3); have B3 := Lib.hid (bNext B2.out b3)
      obtain ⟨a3, c3, rfl, -, -⟩ := RRing.sl o3.reads
      have HB13 := Lib.hid (bNext HB2.out b3)
      clear o3 b3
      rw [dats_len] at X3 Y3 ⊢
      cases hG : joinG R x y with
      | false =>
        clear hG HCUT
        go_wp2_with fail
        refine (sameRing_same _ _ (dats (joinS R x y)) _ HDL.out DS.out X3.out Y3.out).mono ?_
        rintro e w4 ⟨rfl, b4⟩
        have X4 := Lib.hid (X3.out.bl b4); have Y4 := Lib.hid (Y3.out.bl b4); have B4 := Lib.hid (bNext B3.out b4)
        clear b4
        go_wp2_with fail
        refine (sameRing_same _ _ (dats (joinS R x y)) _ HDL.out DS.out X4.out Y4.out).mono ?_
        rintro e w5 ⟨rfl, b5⟩
        have B5 := Lib.hid (bNext B4.out b5)
        clear b5
        go_wp2
        go_ret
        exact ⟨rfl, B5.out⟩
      | true =>
        obtain ⟨hlen, h1, hgone⟩ := HCUT.out hG
        have HGN := Lib.hid hgone
        have HLEN := Lib.hid hlen
        clear hG HCUT hgone hlen
        have HPR : Hid (∀ z, z ∈ princ R → z ∈ princ (joinS R x y)) := Lib.hid (fun z hz => join_princ hz)
        have X3' : Hid (RR w3 (.slice a2 (joinS R x y).length c2) (joinS R x y)) := X3
        generalize joinS R x y = F at *
        have HSF2 : Hid (sfD (dats F) = true) := Lib.hid (by rw [sfD_dats HVF.out]; exact HFF.out)
        have R3 := Lib.hid (R1'.out.bl (show Below w1.heap.size w1 w3 from HB13.out))
        go_wp2_with fail
        refine (sameRing_same _ _ (dats F) _ HDL.out DS.out X3.out Y3.out).mono ?_
        rintro e w4 ⟨rfl, b4⟩
        have X4 := Lib.hid (X3'.out.bl b4); have B4 := Lib.hid (bNext B3.out b4)
        have HB4 := Lib.hid b4
        clear b4
        have R4 := Lib.hid (R3.out.bl HB4.out)
        go_wp2_with fail
        refine (implRingSafe_any _ (dats F) _ HDL.out X4.out).mono ?_
        rw [HSF2.out]
        rintro e w5 ⟨rfl, b5⟩
        have X5 := Lib.hid (X4.out.bl b5); have R5 := Lib.hid (R4.out.bl b5); have B5 := Lib.hid (bNext B4.out b5)
        clear b5
        go_wp2_with fail
        refine (lawKeeps_any _ _ R F _ HV.out HVF.out HPR.out R5.out X5.out).mono ?_
        rintro e w7 ⟨rfl, b7⟩
        have B7 := Lib.hid (bNext B5.out b7)
        clear b7
        go_wp2
        go_ret
        exact ⟨rfl, B7.out⟩
  · have d0 : decide ((1048576 : Int) < (zs.length : Int)) = true := decide_eq_true (by omega)
    have d0' : decide (1048576 < zs.length) = true := decide_eq_true (by omega)
    go_enter Try.func6, Try.ntmps6
    go_wp2
    go_ret
    exact ⟨rfl, Below.refl _ _⟩
end Go.Proofs.Ythgekfiodedelaa
