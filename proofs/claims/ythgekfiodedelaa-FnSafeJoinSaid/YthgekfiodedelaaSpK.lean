/- spec.RingJoin. -/
import Derived.Test.YthgekfiodedelaaSpJ
namespace Go.Proofs.Ythgekfiodedelaa
open Go.RowKit
set_option linter.unusedVariables false
set_option linter.unusedSimpArgs false

theorem RRow.hdc {w : World} {b off n cap : Nat} {hs : List Hd} (h : RRow HL w (.slice (some ⟨b, off, none⟩) n cap) hs) (i : Nat) (hi : i < hs.length) :
    b < w.heap.size ∧ w.cell? ⟨b, off + i * 3, none⟩ = some (.int .i64 hs[i].1) ∧ w.cell? ⟨b, off + i * 3 + 1, none⟩ = some (.int .i64 hs[i].2.1) ∧ w.cell? ⟨b, off + i * 3 + 2, none⟩ = some (slV hs[i].2.2) := by
  obtain ⟨a', cap', hv, hn, hc, hcell⟩ := h
  simp only [Value.slice.injEq] at hv
  obtain ⟨rfl, rfl, rfl⟩ := hv
  obtain ⟨b', off', ha, hb, hx⟩ := hcell i hi
  simp only [Option.some.injEq, Addr.mk.injEq, and_true] at ha
  obtain ⟨rfl, rfl⟩ := ha
  exact ⟨hb, hx 0 _ rfl, hx 1 _ rfl, hx 2 _ rfl⟩

set_option maxRecDepth 100000 in
set_option maxHeartbeats 8000000 in
theorem specRingJoin_ok (v : Value) (R : List Nd) (x y : Int) (w : World) (hv : ValidL R) (hs : safeL R = true) (hx : ptB x = true) (hy : ptB y = true) (hr : RR w v R) :
    Calls Try.prog 19 #[v, .int .i64 x, .int .i64 y] w fun e w' => ∃ u, e = .returned (.tuple #[u, .bool (joinG R x y)]) ∧ OwnRingS w' w.heap.size u (dats (joinS R x y)) ∧ Below w.heap.size w w' := by
  have h10 := hv.len
  have h3 := three_of hs
  have HSF : Hid (sfD (dats R) = true) := Lib.hid (by rw [sfD_dats hv]; exact hs)
  have HX := Lib.hid hx; have HY := Lib.hid hy
  have HR := Lib.hid hr
  have HG : Hid (joinG R x y = (liveR R y && !liveR R x && decide (R.length < 10) && btw y x (nth R (fnd R y)).a0)) := Lib.hid rfl
  have HF : Hid (joinS R x y = if joinG R x y then insS R (place R x) (newNd R x y) else R) := Lib.hid rfl
  obtain ⟨i0, hi, hz0, hz1, hz2⟩ := info_parts infoNd4
  clear hr hv hs hx hy
  -- the way out without a change
  have BAD : Hid (joinG R x y = false → ∀ W, Below w.heap.size w W → RR W v R → Calls Try.prog 47 #[v] W fun e w' => ∃ u, e = .returned u ∧ joinG R x y = false ∧ OwnRingS w' w.heap.size u (dats (joinS R x y)) ∧ Below w.heap.size w w') := Lib.hid (fun hg W hb hr => (l3Copy_any v R W (by omega) hr).mono (fun e w' h => by
    obtain ⟨u, rfl, o, b⟩ := h
    exact ⟨u, rfl, hg, by rw [HF.out, hg]; exact OwnRingS.base o hb.size, bNext hb b⟩))
  go_enter Try.func19, Try.ntmps19
  go_wp2_with fail
  refine (specRingSafe_any v (dats R) _ (by rw [dats_len]; omega) HR.out).mono ?_
  rw [HSF.out]
  rintro e w1 ⟨rfl, b1⟩
  have B1 := Lib.hid b1; have R1 := Lib.hid (HR.out.bl b1); clear b1
  go_wp2_with fail
  refine (l1Point_any x _).mono ?_
  rw [HX.out]
  rintro e w2 ⟨rfl, rfl⟩
  go_wp2_with fail
  refine (l1Point_any y _).mono ?_
  rw [HY.out]
  rintro e w2 ⟨rfl, rfl⟩
  go_wp2_with fail
  refine (l3Find_any v R y _ (by omega) R1.out).mono ?_
  rintro e w2 ⟨rfl, rfl⟩
  cases hly : liveR R y with
  | false =>
    rw [fdI_dead hly]
    have HC := Lib.hid (BAD.out (by rw [HG.out, hly]; rfl) _ B1.out R1.out)
    clear hly
    obtain ⟨a, cap, rfl, hc, hm⟩ := id R1.out.sl
    go_wp2_with fail
    refine HC.out.mono ?_
    rintro e w3 ⟨x3, rfl, g3, o3, b3⟩
    have G3 := Lib.hid g3; have O3 := Lib.hid o3; have c3 := Lib.hid b3
    clear g3 o3 b3
    go_wp2
    go_ret2
    exact ⟨_, by rw [G3.out]; rfl, O3.out, c3.out⟩
  | true =>
    obtain ⟨h1, hk⟩ := fdI_live hly
    rw [h1]
    have HG2 : Hid (joinG R x y = (!liveR R x && decide (R.length < 10) && btw y x (nth R (fnd R y)).a0)) := Lib.hid (by rw [HG.out, hly]; rfl)
    have HN : Hid (newNd R x y = ⟨x, y, (nth R (fnd R y)).a0, (nth R (fnd R y)).a1⟩) := Lib.hid rfl
    clear hly h1
    generalize fnd R y = k at *
    have d0 : decide ((k : Int) < 0) = false := decide_eq_false (by omega)
    obtain ⟨a, cap, rfl, hc, hm⟩ := id R1.out.sl
    go_wp2_with fail
    refine (l3Find_any _ R x _ (by omega) R1.out).mono ?_
    rintro e w2 ⟨rfl, rfl⟩
    cases hlx : liveR R x with
    | true =>
      have d1 : decide (0 ≤ fdI R x) = true := by rw [fdI_nonneg, hlx]
      have HC := Lib.hid (BAD.out (by rw [HG2.out, hlx]; rfl) _ B1.out R1.out)
      clear hlx
      generalize fdI R x = z at *
      go_wp2_with fail
      refine HC.out.mono ?_
      rintro e w3 ⟨x3, rfl, g3, o3, b3⟩
      have G3 := Lib.hid g3; have O3 := Lib.hid o3; have c3 := Lib.hid b3
      clear g3 o3 b3
      go_wp2
      go_ret2
      exact ⟨_, by rw [G3.out]; rfl, O3.out, c3.out⟩
    | false =>
      have d1 : decide (0 ≤ fdI R x) = false := by rw [fdI_nonneg, hlx]
      have HLX := Lib.hid hlx
      clear hlx
      generalize fdI R x = z at *
      by_cases h9 : R.length < 10
      · have d2 : decide (10 ≤ (R.length : Int)) = false := decide_eq_false (by omega)
        have d2' : decide (10 ≤ R.length) = false := decide_eq_false (by omega)
        obtain ⟨b, off, bs, os, c, rfl, hb, hbs, x0, x1, x2, r3, v0, v1⟩ := R1.out.nd k hk
        have HG3 : Hid (joinG R x y = btw y x (nth R k).a0) := Lib.hid (by rw [HG2.out, HLX.out, decide_eq_true h9]; simp)
        cases hbt : btw y x (nth R k).a0 with
        | false =>
          have HC := Lib.hid (BAD.out (by rw [HG3.out, hbt]) _ B1.out R1.out)
          have HB := Lib.hid (fun W => l1Between_any y x (nth R k).a0 W)
          rw [hbt] at HB
          clear hbt
          go_wp2_with fail
          refine (HB.out _).mono ?_
          rintro e w2 ⟨rfl, rfl⟩
          go_wp2_with fail
          refine HC.out.mono ?_
          rintro e w3 ⟨x3, rfl, g3, o3, b3⟩
          have G3 := Lib.hid g3; have O3 := Lib.hid o3; have c3 := Lib.hid b3
          clear g3 o3 b3
          go_wp2
          go_ret2
          exact ⟨_, by rw [G3.out]; rfl, O3.out, c3.out⟩
        | true =>
          have HGT : Hid (joinG R x y = true) := Lib.hid (by rw [HG3.out, hbt])
          have HJ : Hid (joinS R x y = insS R (place R x) (newNd R x y)) := Lib.hid (by rw [HF.out, HGT.out]; rfl)
          have HB := Lib.hid (fun W => l1Between_any y x (nth R k).a0 W)
          rw [hbt] at HB
          clear hbt BAD
          obtain ⟨hs0, hrow, hfit⟩ := id R1.out
          have hhl : hs0.length = R.length := by rw [hfit.1, dats_len]
          have hrow' : RRow HL w1 (.slice (some ⟨b, off, none⟩) R.length cap) hs0 := hrow
          have HROW := Lib.hid hrow'
          have HFIT := Lib.hid hfit
          have HHL := Lib.hid hhl
          have HID : Hid (∀ i (h : i < hs0.length), hs0[i].1 = (nth R i).id) := Lib.hid (fun i h => by
            have h2 : i < (dats R).length := by rw [dats_len]; omega
            have := (hfit.2 i h h2).1
            rw [this, dats_at]; rfl)
          have HPL := Lib.hid (place_le R x)
          have HP1 := Lib.hid (fun i h => place_lt (R := R) (id := x) (i := i) h)
          have HP2 := Lib.hid (fun h => place_ge (R := R) (id := x) h)
          have HDI := Lib.hid (dats_ins R (place R x) (newNd R x y))
          have hj0 := place_le R x
          obtain ⟨P, hP⟩ : ∃ P, P = place R x := ⟨_, rfl⟩
          rw [← hP] at HPL HP2 HDI HJ hj0
          have HP1' : Hid (∀ i, i < P → (nth R i).id < x) := Lib.hid (fun i h => HP1.out i (by rw [← hP]; exact h))
          clear hP HP1 hrow hrow' hfit hhl
          go_wp2_with fail
          refine (HB.out _).mono ?_
          rintro e w2 ⟨rfl, rfl⟩
          have HR3 := Lib.hid r3
          clear x0 x1 v0 v1 r3
          have x2h := x2
          clear x2
          go_wp2
          go_loopw [9, 10] (fun o i wr => ∃ j : Nat, j ≤ P ∧ i = .int .i64 j ∧ Hid (OwnRow HL 37 wr w1.heap.size o (hs0.take j)) ∧ Hid (Below w1.heap.size w1 wr)) (fun _ i _ => P - (intOf i).toNat)
          case atStart => exact ⟨0, Nat.zero_le _, rfl, Lib.hid (OwnRow.empty HL _ w1), Lib.hid (below_alloc w1 _)⟩
          case round =>
            obtain ⟨j, hj, rfl, HOW, BJ⟩ := hrel
            obtain ⟨vo, rfl⟩ : ∃ z, z = u9 := ⟨_, rfl⟩
            have hsz := BJ.out.size
            by_cases hlt : j < P
            · have hjl : j < R.length := by omega
              have hjh : j < hs0.length := by rw [HHL.out]; exact hjl
              obtain ⟨-, x0, x1, x2⟩ := (HROW.out.bl BJ.out).hdc j hjh
              have HIDj := HID.out j hjh
              have hpj := HP1'.out j hlt
              rw [← HIDj] at hpj
              have q1 : decide ((j : Int) < (R.length : Int)) = true := decide_eq_true (by omega)
              have q1' : decide (j < R.length) = true := decide_eq_true hjl
              have q2 : decide (hs0[j].1 < x) = true := decide_eq_true hpj
              have HTK : Hid (hs0.take (j + 1) = hs0.take j ++ [hs0[j]]) := Lib.hid (List.take_succ_eq_append_getElem hjh)
              have hlen : (hs0.take j).length = j := by rw [List.length_take]; omega
              have HLEN := Lib.hid hlen
              obtain ⟨h, hh⟩ : ∃ h, h = hs0[j] := ⟨_, rfl⟩
              rw [← hh] at x0 x1 x2 q2 HTK
              clear hh HIDj hpj hlen
              obtain ⟨e0, e1, sa, sn, sc⟩ := h
              have x2' : wr.cell? ⟨b, off + j * 3 + 2, none⟩ = some (.slice sa sn sc) := x2
              dsimp only at x0 x1 q2
              clear x2
              go_wp2_with (at_builtin; refine wpList_append_own _ rfl _ _ 23 rfl w1.heap.size 37 i0 (.agg #[.int .i64 0, .int .i64 0, .slice none 0 0]) 3 40 Try.underlying23 hi hz0 hz1 hz2 rfl (by decide) _ _ _ rfl (HOW.out.al (.cells #[.int .i64 e0, .int .i64 e1, .slice sa sn sc] 37)) ⟨wr.heap.size, 0, none⟩ 1 1 [.int .i64 e0, .int .i64 e1, .slice sa sn sc] rfl rfl (cells_nd _ e0 e1 sa sn sc rfl _) (oneCell_nd _ _ _ _ _) ?c3 ?c4 ?c5 ?_)
              case c3 => rw [HLEN.out]; unfold maxLen; omega
              case c4 => rw [HLEN.out]; omega
              case c5 => simp; omega
              intro v10 w10 hown10 hg10 _
              have HN10 : Hid (OwnRow HL 37 w10 w1.heap.size v10 (hs0.take (j + 1))) := Lib.hid (by
                rw [HTK.out]; exact OwnRow.snoc (L := HL) (y := (e0, e1, sa, sn, sc)) hown10 rfl (by rw [List.length_take]))
              have C10 : Hid (Below w1.heap.size w1 w10) := Lib.hid (bGr (bAl BJ.out _) hg10 (fun k hk => (HOW.out.lts k hk).1))
              clear hown10 hg10 x0 x1 x2' q1 q1' q2
              go_wp2
              go_roundw
              case rel => exact ⟨j + 1, by omega, by go_num, HN10, C10⟩
              case measure => simp [intOf]; omega
            · obtain rfl : j = P := by omega
              have hlen : (hs0.take j).length = j := by rw [List.length_take, HHL.out]; omega
              obtain ⟨ao, qo, hvo, hqo1, hqo2, -⟩ := id HOW.out.reads
              rw [hlen] at hvo
              subst hvo
              have HLEN := Lib.hid hlen
              clear hlen
              have x2w := (BJ.out.cell (p := ⟨b, off + k * 3 + 2, none⟩) hb).trans x2h
              obtain ⟨A, hA⟩ : ∃ A : Addr, (if cap = j then some (⟨b, off, none⟩ : Addr) else some ⟨b, off + j * 3, none⟩) = some A := by split <;> exact ⟨_, rfl⟩
              have HRD := Lib.hid (dropH HROW.out (j := j) (by rw [HHL.out]; exact hj0) hA)
              rw [HHL.out] at HRD
              have HDL : Hid ((hs0.drop j).length = R.length - j) := Lib.hid (by rw [List.length_drop, HHL.out])
              have p0 : (0 : Int) ≤ (j : Int) := by omega
              have p1 : (j : Int) ≤ (R.length : Int) := by omega
              have p2 : j ≤ cap := by omega
              have HFX : Hid (Fits w1 (hs0.take j ++ [(x, y, some ⟨bs, os, none⟩, 2, c)] ++ hs0.drop j) (dats (insS R j (newNd R x y)))) := Lib.hid (by
                rw [HDI.out]
                have f1 := HFIT.out.sub 0 j
                have f2 := HFIT.out.sub j (hs0.length + 1)
                rw [List.take_of_length_le (by omega), List.take_of_length_le (by have := HFIT.out.1; omega)] at f2
                have f3 : Fits w1 [((x, y, some ⟨bs, os, none⟩, 2, c) : Hd)] [dat (newNd R x y)] := ⟨rfl, fun i h1 h2 => by
                  have : i = 0 := by simp at h1; exact h1
                  subst this
                  rw [HN.out]
                  exact ⟨rfl, rfl, HR3.out⟩⟩
                have := (Fits.app (by simpa using f1) f3).app f2
                simpa using this)
              have hinl : (insS R j (newNd R x y)).length ≤ 4096 := by rw [insS_len _ _ _ (by omega)]; omega
              have HINL := Lib.hid hinl
              clear hinl x2h
              rcases (show (cap = j ∧ ¬ j < R.length) ∨ (¬ cap = j ∧ j < R.length) ∨ (¬ cap = j ∧ ¬ j < R.length) by omega) with ⟨hcj, hPl⟩ | ⟨hcj, hPl⟩ | ⟨hcj, hPl⟩
              all_goals
                first
                | (have hcj2 := hcj.symm
                   subst hcj2
                   rw [if_pos rfl] at hA
                   cases hA
                   clear hcj)
                | (rw [if_neg hcj] at hA
                   cases hA)
                first
                | (have q1 : decide ((j : Int) < (R.length : Int)) = true := decide_eq_true (by omega)
                   have q1' : decide (j < R.length) = true := decide_eq_true hPl
                   have hjh : j < hs0.length := by rw [HHL.out]; exact hPl
                   obtain ⟨-, y0, -, -⟩ := (HROW.out.bl BJ.out).hdc j hjh
                   have hge := HP2.out hPl
                   rw [HID.out j hjh] at y0
                   have q2 : decide ((nth R j).id < x) = false := decide_eq_false (by omega)
                   clear hge
                   generalize (nth R j).id = z0 at *)
                | (have q1 : decide ((j : Int) < (R.length : Int)) = false := decide_eq_false (by omega)
                   have q1' : decide (j < R.length) = false := decide_eq_false hPl)
                have HO1 := HOW.out.al (.cells #[.int .i64 x, .int .i64 y, .slice (some ⟨bs, os, none⟩) 2 c] 37)
                unfold OwnRow at HO1
                rw [HLEN.out] at HO1
                go_wp2_with (at_builtin; refine wpList_append_own _ rfl _ _ 23 rfl w1.heap.size 37 i0 (.agg #[.int .i64 0, .int .i64 0, .slice none 0 0]) 3 40 Try.underlying23 hi hz0 hz1 hz2 rfl (by decide) _ j _ rfl HO1 ⟨wr.heap.size, 0, none⟩ 1 1 [.int .i64 x, .int .i64 y, .slice (some ⟨bs, os, none⟩) 2 c] rfl rfl (cells_nd _ x y (some ⟨bs, os, none⟩) 2 c rfl _) (oneCell_nd _ _ _ _ _) (by unfold maxLen; omega) (by omega) (by simp; omega) ?_)
                intro v11 w11 hown11 hg11 _
                have o11 : OwnRow HL 37 w11 w1.heap.size v11 (hs0.take j ++ [(x, y, some ⟨bs, os, none⟩, 2, c)]) := OwnRow.snoc (L := HL) (y := (x, y, some ⟨bs, os, none⟩, 2, c)) hown11 rfl (by rw [HLEN.out])
                have C11 : Hid (Below w1.heap.size w1 w11) := Lib.hid (bGr (bAl BJ.out _) hg11 (fun q hq => (HOW.out.lts q hq).1))
                obtain ⟨a11, q11, hv11, -, -, -⟩ := id o11.reads
                have hl11 : (hs0.take j ++ [((x, y, some ⟨bs, os, none⟩, 2, c) : Hd)]).length = j + 1 := by rw [List.length_append, HLEN.out]; rfl
                have HO11 := o11
                unfold OwnRow at HO11
                rw [hl11] at hv11 HO11
                subst hv11
                have HRD11 := (HRD.out.bl C11.out).addr.2
                have hsz11 := C11.out.size
                have O11 := Lib.hid o11
                clear hown11 hg11 x2w o11 hl11
                go_wp2_with (at_builtin; refine wpList_append_own _ rfl _ _ 23 rfl w1.heap.size 37 i0 (.agg #[.int .i64 0, .int .i64 0, .slice none 0 0]) 3 40 Try.underlying23 hi hz0 hz1 hz2 rfl (by decide) _ (j + 1) _ rfl HO11 _ _ _ (flat HL (hs0.drop j)) rfl (by rw [flat_len, HDL.out]; first | rfl | (rw [show R.length - j = 0 by omega]; rfl)) (fun i u hu => (HRD11 i u hu).2) (flat_one HL _) (by unfold maxLen; omega) (by omega) (by omega) ?_)
                intro v12 w12 hown12 hg12 _
                have o12 : OwnRow HL 37 w12 w1.heap.size v12 (hs0.take j ++ [(x, y, some ⟨bs, os, none⟩, 2, c)] ++ hs0.drop j) := OwnRow.app hown12 rfl (by rw [List.length_append, HLEN.out, HDL.out]; first | rfl | (rw [show R.length - j = 0 by omega]; rfl))
                have C12 := bGr C11.out hg12 (fun q hq => (O11.out.lts q hq).1)
                have R12 : Hid (RR w12 v12 (insS R j (newNd R x y))) := Lib.hid (RRing.ofRow o12 HFX.out C12)
                have C12h := Lib.hid (bNext B1.out C12)
                clear hown12 hg12 o12 C12 HRD11 HO11
                obtain ⟨a12, q12, hv12, -, -⟩ := R12.out.sl
                subst hv12
                go_wp2_with fail
                refine (l3Copy_any _ (insS R j (newNd R x y)) _ HINL.out R12.out).mono ?_
                rintro e w13 ⟨x13, rfl, o13, b13⟩
                have c13 := Lib.hid (bNext C12h.out b13)
                have O13 := Lib.hid (OwnRingS.base o13 C12h.out.size)
                clear o13 b13
                go_wp2
                go_ret2
                exact ⟨_, by rw [HGT.out]; rfl, by rw [HJ.out]; exact O13.out, c13.out⟩
      · have d2 : decide (10 ≤ (R.length : Int)) = true := decide_eq_true (by omega)
        have d2' : decide (10 ≤ R.length) = true := decide_eq_true (by omega)
        have HC := Lib.hid (BAD.out (by rw [HG2.out, decide_eq_false h9]; simp) _ B1.out R1.out)
        clear h9
        go_wp2_with fail
        refine HC.out.mono ?_
        rintro e w3 ⟨x3, rfl, g3, o3, b3⟩
        have G3 := Lib.hid g3; have O3 := Lib.hid o3; have c3 := Lib.hid b3
        clear g3 o3 b3
        go_wp2
        go_ret2
        exact ⟨_, by rw [G3.out]; rfl, O3.out, c3.out⟩
end Go.Proofs.Ythgekfiodedelaa
