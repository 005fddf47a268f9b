/- The walk of FnJoinCalm: the law returns true. -/
import Derived.Test.YthgekfiodedelaaDrawRg
import Derived.Test.YthgekfiodedelaaImN
import Derived.Test.YthgekfiodedelaaImZ
namespace Go.Proofs.Ythgekfiodedelaa
open Go.RowKit
set_option linter.unusedVariables false
set_option linter.unusedSimpArgs false

theorem sameRing_same (v1 v2 : Value) (D : List Rn) (w : World) (hl : D.length ≤ 4096) (hls : ∀ e ∈ D, e.2.2.length ≤ 4096) (hr1 : RRing w v1 D) (hr2 : RRing w v2 D) :
    Calls Try.prog 11 #[v1, v2] w fun e w' => e = .returned (.bool true) ∧ Below w.heap.size w w' :=
  (sameRing_any v1 v2 D D w hl hls hr1 hr2).mono (fun e w' h => ⟨by rw [h.1]; simp, h.2⟩)
theorem sameInts_same' (v1 v2 : Value) (xs : List Int) (w : World) (hl : xs.length ≤ 4096) (hr1 : RInts w v1 xs) (hr2 : RInts w v2 xs) :
    Calls Try.prog 15 #[v1, v2] w fun e w' => e = .returned (.bool true) ∧ ∃ n, w' = w.drewN n :=
  (sameInts_any v1 v2 xs xs w (by omega) hr1 hr2).mono (fun e w' h => ⟨by rw [h.1]; simp, h.2⟩)
theorem vs_ring_ideal {R : List Nd} (hv : VS R) : VS (idealS (idsL R)) := vs_ideal hv.1.ascI (by have := three_of hv.2; simpa [idsL] using this) (by have := hv.1.len; simpa [idsL] using this)

theorem atI_dead {R : List Nd} {x : Int} (h : x ∉ idsL R) : atI R x = -1 := by
  unfold atI
  cases q : liveR R x with
  | true => exact absurd ((live_iff R x).1 q) h
  | false => rfl
theorem atI_live {R : List Nd} {x : Int} (h : x ∈ idsL R) : atI R x = x := by rw [atI, (live_iff R x).2 h]; rfl

theorem run_maxJ {P : Program} (w : World) (ts : Array TypeId) (t : TypeId) (x y E : Int) (h : max x y = E) : (Builtin.max_ ts t #[.int .i64 x, .int .i64 y]).run P w = .ok (.int .i64 E) w := by
  have e : (if y < x then x else y) = E := by rw [← h]; split <;> omega
  have e' : (if x < y then y else x) = E := by rw [← h]; split <;> omega
  first | (rw [← e]; simp [Builtin.max_, Builtin.max2]; done) | (rw [← e']; simp [Builtin.max_, Builtin.max2]; done)
set_option maxRecDepth 100000 in
set_option maxHeartbeats 4000000 in
theorem drawRingJoin_any (v : Value) (zs : List Int) (w : World) (hr : RBytes w v zs) (hl : zs.length ≤ 1048576) :
    Calls Try.prog 17 #[v] w fun e w' => ∃ u x y D, e = .returned (.tuple #[u, .int .i64 x, .int .i64 y]) ∧ RRing w' u D ∧ Mild D ∧ Below w.heap.size w w' := by
  obtain ⟨⟨a, cap, rfl, -, -, -⟩, -⟩ := id hr
  have HR := Lib.hid hr; clear hr
  go_enter Try.func17, Try.ntmps17
  go_wp2_with fail
  refine (l6Open_any _ zs _ HR.out hl).mono ?_
  rintro e w1 ⟨b, rfl, hb, r1, b1⟩
  have RD1 := Lib.hid r1; have B1 := Lib.hid b1
  clear r1 b1
  go_wp2_with fail
  refine (l91Spoilt_any w.heap.size b 0 _ RD1.out (by omega)).mono ?_
  rintro e w2 ⟨u2, D, q, rfl, r2, m2, hq, rd2, g2⟩
  have R2 := Lib.hid r2; have M2 := Lib.hid m2; have RD2 := Lib.hid rd2
  have c2 := Lib.hid (bGr B1.out g2 (fun k hk => by cases hk; exact hb))
  obtain ⟨a2, q2, rfl, -, -⟩ := RRing.sl r2.reads
  clear r2 m2 g2 rd2
  go_wp2_with fail
  refine (l91Member_any w.heap.size b q _ D _ RD2.out (by omega) R2.out M2.out).mono ?_
  rintro e w3 ⟨x3, q3, rfl, hx3, hq3, rd3, g3⟩
  have R3 := Lib.hid (R2.out.gr g3)
  have RD3 := Lib.hid rd3
  have c3 := Lib.hid (bGr c2.out g3 (fun k hk => by cases hk; exact hb))
  clear g3 rd3
  obtain ⟨M, hM⟩ : ∃ M, max x3 0 = M := ⟨_, rfl⟩
  have hMr : 0 ≤ M ∧ M ≤ 64 := by omega
  have hmx := fun w ts t => run_maxJ (P := Try.prog) w ts t x3 0 M hM
  have e1 : IntKind.i64.wrap (M + 1) = M + 1 := IntWalk.i64_in _ (by omega)
  clear hM
  go_wp2_with fail
  refine (pick_any w.heap.size b q3 12 _ RD3.out (by omega) (by omega) (by omega)).mono ?_
  rintro e w4 ⟨m4, rfl, ⟨hm4, hm4'⟩, rd4, g4⟩
  have R4 := Lib.hid (R3.out.gr g4)
  have RD4 := Lib.hid rd4
  have c4 := Lib.hid (bGr c3.out g4 (fun k hk => by cases hk; exact hb))
  clear g4 rd4
  have e2 : IntKind.i64.wrap (M + 1 + m4) = M + 1 + m4 := IntWalk.i64_in _ (by omega)
  have e3 : Int.tmod (M + 1 + m4) 64 = (M + 1 + m4) % 64 := Int.tmod_eq_emod_of_nonneg (by omega)
  have e4 : (0 : Int) ≤ M + 1 + m4 := by omega
  go_wp2_with fail
  refine (pick_any w.heap.size b (q3 + 1) 10 _ RD4.out (by omega) (by omega) (by omega)).mono ?_
  rintro e w5 ⟨m5, rfl, -, rd5, g5⟩
  have R5 := Lib.hid (R4.out.gr g5)
  have RD5 := Lib.hid rd5
  have c5 := Lib.hid (bGr c4.out g5 (fun k hk => by cases hk; exact hb))
  clear g5 rd5
  cases hz : (m5 == 0) with
  | false =>
    go_wp2
    go_ret3
    exact ⟨_, _, _, D, rfl, R5.out.reads, M2.out, c5.out⟩
  | true =>
    go_wp2_with fail
    refine (l91Point_any w.heap.size b (q3 + 1 + 1) _ RD5.out (by omega)).mono ?_
    rintro e w6 ⟨x6, rfl, -, rd6, g6⟩
    have R6 := Lib.hid (R5.out.gr g6)
    have c6 := Lib.hid (bGr c5.out g6 (fun k hk => by cases hk; exact hb))
    clear g6 rd6
    go_wp2
    go_ret3
    exact ⟨_, _, _, D, rfl, R6.out.reads, M2.out, c6.out⟩

theorem join_len {R : List Nd} {x y : Int} (h : joinG R x y = true) : (joinS R x y).length = R.length + 1 := by rw [joinS, if_pos h, insS_len _ _ _ (place_le R x)]
theorem join_in {R : List Nd} {x y : Int} (h : joinG R x y = true) : x ∈ idsL (joinS R x y) := by
  rw [joinS, if_pos h, insS_ids]
  exact List.mem_append.2 (.inr (List.mem_cons_self))

set_option maxRecDepth 100000 in
set_option maxHeartbeats 4000000 in
theorem joinCalm_walk (v : Value) (zs : List Int) (w : World) (hr : RBytes w v zs) :
    Calls Try.prog 5 #[v] w fun e w' => e = .returned (.bool true) ∧ Below w.heap.size w w' := by
  obtain ⟨⟨a, cap, rfl, g1, g2, -⟩, -⟩ := id hr
  have HR := Lib.hid hr; clear hr
  by_cases hl : zs.length ≤ 1048576
  · have d0 : decide ((1048576 : Int) < (zs.length : Int)) = false := decide_eq_false (by omega)
    have d0' : decide (1048576 < zs.length) = false := decide_eq_false (by omega)
    go_enter Try.func5, Try.ntmps5
    go_wp2_with fail
    refine (drawRingJoin_any _ zs _ HR.out hl).mono ?_
    rintro e w1 ⟨u1, x, y, D, rfl, r1, m1, b1⟩
    have R1 := Lib.hid r1; have M1 := Lib.hid m1; have B1 := Lib.hid b1
    have hD10 := m1.1
    obtain ⟨a1, c1, rfl, -, -⟩ := RRing.sl r1
    clear r1 m1 b1 d0 d0'
    cases hs : (sfD D && ptB x && ptB y) with
    | false =>
      have HS := Lib.hid hs; clear hs
      go_wp2_with fail
      refine (implRingJoin_bad _ D x y _ (by omega) (by rw [← Bool.and_assoc]; exact HS.out) R1.out).mono ?_
      rintro e w2 ⟨rfl, b2⟩
      have R2 := Lib.hid (R1.out.bl b2); have B2 := Lib.hid (bNext B1.out b2)
      clear b2
      go_wp2_with fail
      refine (specRingJoin_bad _ D x y _ (by omega) HS.out R2.out).mono ?_
      rintro e w3 ⟨u3, rfl, r3, b3⟩
      have R3 := Lib.hid r3; have B3 := Lib.hid (bNext B2.out b3)
      obtain ⟨a3, c3, rfl, -, -⟩ := RRing.sl r3
      clear r3 b3
      go_wp2_with fail
      refine (sameRing_same _ _ [] _ (by simp) (by simp) (RRing.empty _) R3.out).mono ?_
      rintro e w4 ⟨rfl, b4⟩
      have R4 := Lib.hid (R3.out.bl b4); have B4 := Lib.hid (bNext B3.out b4)
      clear b4
      go_wp2_with fail
      refine (sameRing_same _ _ [] _ (by simp) (by simp) (RRing.empty _) R4.out).mono ?_
      rintro e w5 ⟨rfl, b5⟩
      have B5 := Lib.hid (bNext B4.out b5)
      clear b5
      go_wp2
      go_ret
      exact ⟨rfl, B5.out⟩
    | true =>
      rw [Bool.and_eq_true, Bool.and_eq_true] at hs
      obtain ⟨R, rfl, hv, hsf⟩ := sfD_of hs.1.1
      have HX := Lib.hid hs.1.2; have HY := Lib.hid hs.2
      obtain ⟨hx1, hx2⟩ := ptB_true hs.1.2
      obtain ⟨hy1, hy2⟩ := ptB_true hs.2
      have HV := Lib.hid hv; have HF := Lib.hid hsf
      have h10 := hv.len
      have HVF := Lib.hid (join_valid (id := x) (at_ := y) hv ⟨hx1, by omega⟩ ⟨hy1, by omega⟩); have HFF := Lib.hid (join_safe (id := x) (at_ := y) hv hsf)
      have h10F := HVF.out.len
      have DS := Lib.hid (dats_small (joinS R x y))
      have HDL : Hid ((dats (joinS R x y)).length ≤ 4096) := Lib.hid (by rw [dats_len]; omega)
      rw [dats_len] at R1 ⊢
      have R1' : Hid (RR w1 (.slice a1 R.length c1) R) := R1
      have HCUT : Hid (joinG R x y = true → (joinS R x y).length = R.length + 1 ∧ 1 ≤ R.length ∧ x ∈ idsL (joinS R x y)) := Lib.hid (fun h => ⟨join_len h, by have := three_of hsf; omega, join_in h⟩)
      clear hs hv hsf hD10 R1 hx1 hx2 hy1 hy2
      go_wp2_with fail
      refine (implRingJoin_ok _ R x y _ HV.out HF.out HX.out HY.out R1'.out).mono ?_
      rintro e w2 ⟨u2, rfl, o2, b2⟩
      have X2 := Lib.hid o2.reads
      have R2 := Lib.hid (R1'.out.bl b2); have B2 := Lib.hid (bNext B1.out b2)
      obtain ⟨a2, c2, rfl, -, -⟩ := RRing.sl o2.reads
      clear o2 b2
      go_wp2_with fail
      refine (specRingJoin_ok _ R x y _ HV.out HF.out HX.out HY.out R2.out).mono ?_
      rintro e w3 ⟨u3, rfl, o3, b3⟩
      have Y3 := Lib.hid o3.reads
      have X3 := Lib.hid (X2.out.bl b3); have B3 := Lib.hid (bNext B2.out b3)
      obtain ⟨a3, c3, rfl, -, -⟩ := RRing.sl o3.reads
      clear o3 b3
      rw [dats_len] at X3 Y3 ⊢
      cases hG : joinG R x y with
      | false =>
        clear hG HCUT
        go_wp2_with fail
        refine (sameRing_same _ _ (dats (joinS R x y)) _ HDL.out DS.out X3.out Y3.out).mono ?_
        rintro e w4 ⟨rfl, b4⟩
        have X4 := Lib.hid (X3.out.bl b4); have Y4 := Lib.hid (Y3.out.bl b4); have B4 := Lib.hid (bNext B3.out b4)
        clear b4
        go_wp2_with fail
        refine (sameRing_same _ _ (dats (joinS R x y)) _ HDL.out DS.out X4.out Y4.out).mono ?_
        rintro e w5 ⟨rfl, b5⟩
        have B5 := Lib.hid (bNext B4.out b5)
        clear b5
        go_wp2
        go_ret
        exact ⟨rfl, B5.out⟩
      | true =>
        obtain ⟨hlen, h1, hgone⟩ := HCUT.out hG
        have HGN := Lib.hid hgone
        have HLEN := Lib.hid hlen
        clear hG HCUT hgone hlen
        have X3' : Hid (RR w3 (.slice a2 (joinS R x y).length c2) (joinS R x y)) := X3
        generalize joinS R x y = F at *
        have HVI := Lib.hid (vs_ring_ideal ⟨HVF.out, HFF.out⟩)
        have HID := Lib.hid (ideal_ids (idsL F))
        have HIQ : Hid (decide (dats (idealS (idsL F)) = dats (idealS (idsL (idealS (idsL F))))) = true) := Lib.hid (decide_eq_true (by rw [HID.out]))
        have HIL : Hid ((idealS (idsL F)).length ≤ 10) := Lib.hid HVI.out.1.len
        have HILN : Hid ((idealS (idsL F)).length = F.length) := Lib.hid (by
          have := congrArg List.length HID.out
          simpa [idsL] using this)
        have HAT : Hid (atI (idealS (idsL F)) x = x) := Lib.hid (atI_live (by rw [HID.out]; exact HGN.out))
        go_wp2_with fail
        refine (sameRing_same _ _ (dats F) _ HDL.out DS.out X3.out Y3.out).mono ?_
        rintro e w4 ⟨rfl, b4⟩
        have X4 := Lib.hid (X3'.out.bl b4); have B4 := Lib.hid (bNext B3.out b4)
        clear b4
        go_wp2_with fail
        refine (implRingCalm_ok _ F _ HVF.out HFF.out X4.out).mono ?_
        rintro e w5 ⟨u5, rfl, r5, b5⟩
        have Z5 := Lib.hid r5
        have B5 := Lib.hid (bNext B4.out b5)
        obtain ⟨a5, c5, rfl, -, -⟩ := RR.sl r5
        rw [HILN.out] at Z5 ⊢
        clear r5 b5
        go_wp2_with fail
        refine (implRingIdeal_ok _ (idealS (idsL F)) _ HVI.out.1 HVI.out.2 Z5.out).mono ?_
        rw [HIQ.out]
        rintro e w6 ⟨rfl, b6⟩
        have Z6 := Lib.hid (Z5.out.bl b6); have B6 := Lib.hid (bNext B5.out b6)
        clear b6
        go_wp2_with fail
        refine (lawNodeAt_any _ (idealS (idsL F)) x _ (by have := HIL.out; omega) Z6.out).mono ?_
        rw [HAT.out]
        rintro e w7 ⟨y7, s7, n7, q7, rfl, b7⟩
        have B7 := Lib.hid (bNext B6.out b7)
        clear b7
        have hfld := fun w => run_field_nd x y7 s7 n7 q7 w
        have e1 : IntKind.i64.wrap ((R.length : Int) + 1) = (R.length : Int) + 1 := IntWalk.i64_in _ (by omega)
        have e2 : ((F.length : Int) == (R.length : Int) + 1) = true := by rw [beq_iff_eq]; have := HLEN.out; omega
        go_wp2
        go_ret
        exact ⟨rfl, B7.out⟩
  · have d0 : decide ((1048576 : Int) < (zs.length : Int)) = true := decide_eq_true (by omega)
    have d0' : decide (1048576 < zs.length) = true := decide_eq_true (by omega)
    go_enter Try.func5, Try.ntmps5
    go_wp2
    go_ret
    exact ⟨rfl, Below.refl _ _⟩
end Go.Proofs.Ythgekfiodedelaa
