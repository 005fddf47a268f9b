/- impl.idsOf, RingIds, RingRound, RingCalm. -/
import Derived.Test.YthgekfiodedelaaImJ
import Derived.Test.YthgekfiodedelaaSpC
namespace Go.Proofs.Ythgekfiodedelaa
open Go.RowKit
set_option linter.unusedVariables false
set_option linter.unusedSimpArgs false

theorem cell_one_at (w : World) (v : Value) {g : Nat} (hg : g = w.heap.size) (t : TypeId) : ∀ j u, [v][j]? = some u → (w.alloc (.cells #[v] t)).cell? ((⟨g, 0, none⟩ : Addr).add j) = some u := by
  subst hg
  intro j u hj
  rw [Addr.add_mid, Nat.zero_add, cell_of_row _ _ j _ _ (0, 0) (heap_alloc_new _ _)]
  simpa using hj
theorem ids_take {R : List Nd} {j : Nat} (h : j < R.length) : (idsL R).take (j + 1) = (idsL R).take j ++ [(nth R j).id] := by
  have h' : j < (idsL R).length := by simpa [idsL] using h
  rw [List.take_succ_eq_append_getElem h', ids_get h]

set_option maxRecDepth 100000 in
set_option maxHeartbeats 4000000 in
theorem idsOf_any (v : Value) (R : List Nd) (w : World) (hl : R.length ≤ 10) (hr : RR w v R) :
    Calls Try.prog 36 #[v] w fun e w' => ∃ x, e = .returned x ∧ OwnInts w' w.heap.size x (idsL R) ∧ Below w.heap.size w w' := by
  obtain ⟨i0, hi, hz0, hz1, hz2⟩ := info_parts infoInt
  obtain ⟨a, cap, rfl, hc, hm⟩ := id hr.sl
  have HR := Lib.hid hr; clear hr
  go_enter Try.func36, Try.ntmps36
  go_wp2
  go_loopw [3, 5, 8] (fun vo _ i wr => ∃ j : Nat, j ≤ R.length ∧ i = .int .i64 j ∧ Hid (OwnInts wr w.heap.size vo ((idsL R).take j)) ∧ Hid (Below w.heap.size w wr)) (fun _ _ i _ => R.length - (intOf i).toNat)
  case atStart => exact ⟨0, Nat.zero_le _, rfl, Lib.hid (OwnInts.nil _ _), Lib.hid (Below.refl _ _)⟩
  case round =>
    obtain ⟨j, hj, rfl, HOW, BJ⟩ := hrel
    obtain ⟨vo, rfl⟩ : ∃ v, v = u3 := ⟨_, rfl⟩
    by_cases hlt : j < R.length
    · have RJ := HR.out.bl BJ.out
      obtain ⟨b, off, bs, os, c, rfl, hb, hbs, x0, x1, x2, r3, -, -⟩ := RJ.nd j hlt
      have HE := Lib.hid (ids_take hlt)
      have hlen : ((idsL R).take j).length ≤ 10 := by rw [List.length_take]; omega
      clear RJ r3
      generalize (nth R j).id = x at *
      generalize (nth R j).bf = y at *
      have BK := Blk.new wr #[.int .i64 x, .int .i64 y, .slice (some ⟨bs, os, none⟩) 2 c] 37
      have A1 := below_alloc wr (.cells #[.int .i64 x, .int .i64 y, .slice (some ⟨bs, os, none⟩) 2 c] 37)
      have C1 := Lib.hid (bNext BJ.out A1)
      have O1 := HOW.out.bl A1
      obtain ⟨y0, y1, y2⟩ := BK.get3
      have hszw := BJ.out.size
      clear A1
      go_wp2_with (at_builtin; refine wpList_append_own _ rfl _ _ 30 rfl w.heap.size 3 i0 (.int .i64 0) 1 8 Try.underlying30 hi hz0 hz1 hz2 rfl (by decide) _ _ _ rfl (World.ownsRow.alloc O1 _) ⟨wr.heap.size + 1, 0, none⟩ 1 1 [.int .i64 x] rfl rfl (cell_one_at _ _ (by simp) _) (oneCell_int _) ?c3 ?c4 ?c5 ?_)
      case c3 => (try simp); (try unfold maxLen); omega
      case c4 => (try simp); omega
      case c5 => simp; omega
      intro v' w7 hown' hgrow _
      have hown2 := Lib.hid (show OwnInts w7 w.heap.size v' ((idsL R).take (j + 1)) by rw [HE.out]; exact own_snoc hown' (by simp))
      have hbel2 : Hid (Below w.heap.size w w7) := Lib.hid (by
        have c1 := C1.out
        exact (bAl c1 _).grown hgrow (by simp; omega) (fun k hk => by have := (ownsRow_lt O1 hk).1; omega))
      clear hown' hgrow
      go_wp2
      go_roundw
      case rel => exact ⟨j + 1, by omega, by go_num, hown2, hbel2⟩
      case measure => simp [intOf]; omega
    · obtain rfl : j = R.length := by omega
      have HE : Hid ((idsL R).take R.length = idsL R) := Lib.hid (List.take_of_length_le (by simp [idsL]))
      go_wp2
      go_ret
      exact ⟨_, rfl, by rw [← HE.out]; exact HOW.out, BJ.out⟩

set_option maxHeartbeats 1000000 in
theorem ringIds_any (v : Value) (R : List Nd) (w : World) (hv : ValidL R) (hr : RR w v R) :
    Calls Try.prog 16 #[v] w fun e w' => ∃ x, e = .returned x ∧ OwnInts w' w.heap.size x (idsL R) ∧ Below w.heap.size w w' := by
  have h10 := hv.len
  have HV := Lib.hid (vD_dats hv)
  have HR := Lib.hid hr; clear hr hv
  go_enter Try.func16, Try.ntmps16
  go_wp2_with fail
  refine (implRingValid_any v (dats R) _ (by rw [dats_len]; omega) HR.out).mono ?_
  rw [HV.out]
  rintro e w1 ⟨rfl, b1⟩
  have B1 := Lib.hid b1; clear b1
  go_wp2_with fail
  refine (idsOf_any v R _ h10 (HR.out.bl B1.out)).mono ?_
  rintro e w2 ⟨x2, rfl, o2, b2⟩
  have c2 := Lib.hid (bNext B1.out b2)
  have O2 := Lib.hid (ownsRow_base o2 B1.out.size)
  clear o2 b2
  go_wp2
  go_ret
  exact ⟨_, rfl, O2.out, c2.out⟩

set_option maxRecDepth 100000 in
set_option maxHeartbeats 4000000 in
theorem implRingRound_ok (v : Value) (R : List Nd) (w : World) (hv : ValidL R) (hs : safeL R = true) (hr : RR w v R) :
    Calls Try.prog 14 #[v] w fun e w' => ∃ x, e = .returned x ∧ OwnRingS w' w.heap.size x (dats (roundS R)) ∧ Below w.heap.size w w' := by
  have h10 := hv.len
  have HSF : Hid (sfD (dats R) = true) := Lib.hid (by rw [sfD_dats hv]; exact hs)
  obtain ⟨p, q, r, hG⟩ := good_of hv hs
  have HG := Lib.hid hG; have HR := Lib.hid hr; have HV := Lib.hid hv
  clear hr hv hs hG
  go_enter Try.func14, Try.ntmps14
  go_wp2_with fail
  refine (implRingSafe_any v (dats R) _ (by rw [dats_len]; omega) HR.out).mono ?_
  rw [HSF.out]
  rintro e w1 ⟨rfl, b1⟩
  have B1 := Lib.hid b1; clear b1
  have DS := Lib.hid (dats_small R)
  go_wp2_with fail
  refine (copyRing_any v (dats R) _ (by rw [dats_len]; omega) DS.out (HR.out.bl B1.out)).mono ?_
  rintro e w2 ⟨x2, rfl, o2, b2⟩
  have B2 := Lib.hid (bNext B1.out b2)
  have O2 := Lib.hid (OwnRingS.base o2 B1.out.size)
  clear o2 b2 B1
  go_wp2_with fail
  refine (idsOf_any v R _ h10 (HR.out.bl B2.out)).mono ?_
  rintro e w3 ⟨x3, rfl, o3, b3⟩
  have B3 := Lib.hid (bNext B2.out b3)
  have O3 := Lib.hid (O2.out.bl b3)
  have I3 := Lib.hid o3.reads
  obtain ⟨a3, q3, rfl, -, -, -⟩ := o3.reads
  have HIL : Hid ((idsL R).length = R.length) := Lib.hid (by simp [idsL])
  rw [HIL.out] at I3 ⊢
  clear o3 b3 B2 O2
  go_wp2
  go_loopw [3, 5, 6, 7, 16, 20] (fun o _ _ _ i _ wr => ∃ j : Nat, j ≤ R.length ∧ i = .int .i64 j ∧ Hid (OwnRingS wr w.heap.size o (dats (rounds R j))) ∧ Hid (Below w3.heap.size w3 wr)) (fun _ _ _ _ i _ _ => R.length - (intOf i).toNat)
  case atStart => exact ⟨0, Nat.zero_le _, rfl, O3, Lib.hid (Below.refl _ _)⟩
  case round =>
    obtain ⟨j, hj, rfl, OJ, BJ⟩ := hrel
    obtain ⟨o, rfl⟩ : ∃ z, z = u3 := ⟨_, rfl⟩
    clear O3
    by_cases hlt : j < R.length
    · obtain ⟨_, _, e0, -, -, hcell⟩ := I3.out.bl BJ.out
      simp only [Value.slice.injEq] at e0
      obtain ⟨rfl, -, rfl⟩ := e0
      obtain ⟨b, off, rfl, hb, x0⟩ := hcell j (by rw [HIL.out]; exact hlt)
      rw [ids_get hlt] at x0
      have GJ := HG.out.rounds j hj
      have LJ := rounds_len R j
      have e1 : (nth (rounds R j) j).id = (nth R j).id := id_of (R := R) (R' := rounds R j) GJ.ids hlt
      have VJ := Lib.hid (GJ.valid (by rw [LJ]; exact h10)); have FJ := Lib.hid GJ.safe
      have XJ : Hid (liveR (rounds R j) (nth R j).id = true) := Lib.hid ((live_iff _ _).2 (by rw [GJ.ids]; exact nth_id hlt))
      have NJ : Hid (fnd (rounds R j) (nth R j).id = j) := Lib.hid (by rw [← e1]; exact fnd_nth (by rw [GJ.ids]; exact GJ.asc) (by rw [LJ]; exact hlt))
      have HSUC : Hid (stabS (rounds R j) j = rounds R (j + 1)) := Lib.hid rfl
      clear hcell GJ LJ e1
      generalize (nth R j).id = x at *
      go_wp2_with fail
      refine (implRingStabilize_ok o (rounds R j) x _ VJ.out FJ.out XJ.out OJ.out.reads).mono ?_
      rw [NJ.out, HSUC.out]
      rintro e w5 ⟨x5, rfl, o5, b5⟩
      have O5 := Lib.hid (OwnRingS.base o5 (Nat.le_trans B3.out.size BJ.out.size))
      have c5 := Lib.hid (bNext BJ.out b5)
      clear o5 b5
      go_wp2
      go_roundw
      case rel => exact ⟨j + 1, by omega, by go_num, O5, c5⟩
      case measure => simp [intOf]; omega
    · obtain rfl : j = R.length := by omega
      have c5 := Lib.hid (bNext B3.out BJ.out)
      go_wp2
      go_ret
      exact ⟨_, rfl, OJ.out, c5.out⟩

set_option maxRecDepth 100000 in
set_option maxHeartbeats 2000000 in
theorem implRingRound_bad (v : Value) (D : List Rn) (w : World) (hl : D.length ≤ 4096) (hs : sfD D = false) (hr : RRing w v D) :
    Calls Try.prog 14 #[v] w fun e w' => e = .returned (.slice none 0 0) ∧ Below w.heap.size w w' := by
  have HSF := Lib.hid hs
  have HR := Lib.hid hr
  clear hr hs
  go_enter Try.func14, Try.ntmps14
  go_wp2_with fail
  refine (implRingSafe_any v D _ hl HR.out).mono ?_
  rw [HSF.out]
  rintro e w1 ⟨rfl, b1⟩
  have B1 := Lib.hid b1; clear b1
  go_wp2
  go_ret
  exact ⟨rfl, B1.out⟩

set_option maxRecDepth 100000 in
set_option maxHeartbeats 4000000 in
theorem implRingCalm_ok (v : Value) (R : List Nd) (w : World) (hv : ValidL R) (hs : safeL R = true) (hr : RR w v R) :
    Calls Try.prog 9 #[v] w fun e w' => ∃ x, e = .returned x ∧ RR w' x (idealS (idsL R)) ∧ Below w.heap.size w w' := by
  have h10 := hv.len
  have hI : (idsL R).length ≤ 10 := by simpa [idsL] using h10
  obtain ⟨p, q, r, hG⟩ := good_of hv hs
  have HG := Lib.hid hG; have HR := Lib.hid hr
  clear hr hv hs hG
  have DS := Lib.hid (dats_small R)
  go_enter Try.func9, Try.ntmps9
  go_wp2_with fail
  refine (copyRing_any v (dats R) _ (by rw [dats_len]; omega) DS.out HR.out).mono ?_
  rintro e w1 ⟨x1, rfl, o1, b1⟩
  have B1 := Lib.hid b1; have R1 : Hid (RR w1 x1 (turns R 0)) := Lib.hid o1.reads
  clear o1 b1
  go_wp2
  go_loopg [3, 4] 213 (fun gm v0 _ wr => ∃ i : Nat, Hid (RR wr v0 (turns R i)) ∧ Hid (Below w.heap.size w wr) ∧ i ≤ 212 ∧ gm = 213 - i)
  case atStart => exact ⟨0, R1, B1, by omega, rfl⟩
  case round =>
    obtain ⟨i, RJ, BJ, hi, hgm⟩ := hrel
    obtain ⟨v0, rfl⟩ : ∃ z, z = u3 := ⟨_, rfl⟩
    have HGM := Lib.hid hgm; clear hgm R1 B1
    have LJ1 : Hid ((turns R (i + 1)).length ≤ 10) := Lib.hid (by rw [turns_len]; exact h10)
    have GJ := HG.out.turns i
    have VJ := Lib.hid (GJ.valid (by rw [turns_len]; exact h10)); have FJ := Lib.hid GJ.safe
    have HSUC : Hid (roundS (turns R i) = turns R (i + 1)) := Lib.hid rfl
    have DS1 := Lib.hid (dats_small (turns R (i + 1)))
    clear GJ
    go_wp2_with fail
    refine (implRingRound_ok v0 (turns R i) _ VJ.out FJ.out RJ.out).mono ?_
    rw [HSUC.out]
    rintro e w2 ⟨x2, rfl, o2, b2⟩
    have R2 := Lib.hid (show RR w2 x2 (turns R (i + 1)) from o2.reads)
    have RJ2 := Lib.hid (RJ.out.bl b2)
    have c2 := Lib.hid (bNext BJ.out b2)
    clear o2 b2
    have HSM := Lib.hid (implSameRing_any x2 v0 (dats (turns R (i + 1))) (dats (turns R i)) w2 (by rw [dats_len]; have := LJ1.out; omega) DS1.out R2.out RJ2.out)
    by_cases hs : turns R (i + 1) = turns R i
    · have hq : decide (dats (turns R (i + 1)) = dats (turns R i)) = true := decide_eq_true (by rw [hs])
      rw [hq] at HSM
      have HE := Lib.hid (turns_same HG.out hI hs)
      clear hs hq
      go_wp2_with fail
      refine HSM.out.mono ?_
      rintro e w3 ⟨rfl, b3⟩
      have R3 := Lib.hid (R2.out.bl b3)
      have c3 := Lib.hid (bNext c2.out b3)
      rw [HE.out] at R3
      clear b3
      go_wp2
      go_ret
      exact ⟨_, rfl, R3.out, c3.out⟩
    · have hq : decide (dats (turns R (i + 1)) = dats (turns R i)) = false := decide_eq_false (fun h => hs (dats_inj h))
      rw [hq] at HSM
      have hi2 : i < 212 := by
        by_cases h : i < 212
        · exact h
        · exact absurd (turns_late HG.out hI (by omega)) hs
      clear hs hq
      go_wp2_with fail
      refine HSM.out.mono ?_
      rintro e w3 ⟨rfl, b3⟩
      have R3 := Lib.hid (R2.out.bl b3)
      have c3 := Lib.hid (bNext c2.out b3)
      clear b3
      go_wp2
      go_roundg (213 - (i + 1))
      case measure => have := HGM.out; omega
      case rel => exact ⟨i + 1, R3, c3, by omega, rfl⟩

theorem sfD_nil : sfD [] = false := by rfl

set_option maxRecDepth 100000 in
set_option maxHeartbeats 4000000 in
theorem implRingCalm_bad (v : Value) (D : List Rn) (w : World) (hl : D.length ≤ 4096) (hls : ∀ e ∈ D, e.2.2.length ≤ 4096) (hs : sfD D = false) (hr : RRing w v D) :
    Calls Try.prog 9 #[v] w fun e w' => e = .returned (.slice none 0 0) ∧ Below w.heap.size w w' := by
  have HS := Lib.hid hs; have HR := Lib.hid hr; have HLS := Lib.hid hls
  clear hr hs hls
  go_enter Try.func9, Try.ntmps9
  go_wp2_with fail
  refine (copyRing_any v D _ hl HLS.out HR.out).mono ?_
  rintro e w1 ⟨x1, rfl, o1, b1⟩
  have B1 := Lib.hid b1; have R1 := Lib.hid o1.reads
  clear o1 b1
  go_wp2
  go_loopg [3, 4] 1 (fun gm v0 _ wr => ∃ E : List Rn, Hid (RRing wr v0 E) ∧ Hid (Below w.heap.size w wr) ∧ Hid (sfD E = false) ∧ Hid (gm = 0 → E = []) ∧ Hid (E.length ≤ 4096))
  case atStart => exact ⟨D, R1, B1, HS, Lib.hid (fun h => by cases h), Lib.hid hl⟩
  case round =>
    obtain ⟨E, RJ, BJ, SJ, EJ, LJ⟩ := hrel
    obtain ⟨v0, rfl⟩ : ∃ z, z = u3 := ⟨_, rfl⟩
    clear R1 B1
    go_wp2_with fail
    refine (implRingRound_bad v0 E _ LJ.out SJ.out RJ.out).mono ?_
    rintro e w2 ⟨rfl, b2⟩
    have RJ2 := Lib.hid (RJ.out.bl b2)
    have c2 := Lib.hid (bNext BJ.out b2)
    clear b2
    have HSM := Lib.hid (implSameRing_any (.slice none 0 0) v0 [] E w2 (by simp) (by simp) (RRing.empty w2) RJ2.out)
    by_cases hE : E = []
    · have hq : decide (([] : List Rn) = E) = true := decide_eq_true hE.symm
      rw [hq] at HSM
      clear hE hq
      go_wp2_with fail
      refine HSM.out.mono ?_
      rintro e w3 ⟨rfl, b3⟩
      have c3 := Lib.hid (bNext c2.out b3)
      clear b3
      go_wp2
      go_ret
      exact ⟨rfl, c3.out⟩
    · have hq : decide (([] : List Rn) = E) = false := decide_eq_false (fun h => hE h.symm)
      rw [hq] at HSM
      have hgk : 0 < gk := by
        by_cases h : gk = 0
        · exact absurd (EJ.out h) hE
        · omega
      clear hE hq
      go_wp2_with fail
      refine HSM.out.mono ?_
      rintro e w3 ⟨rfl, b3⟩
      have c3 := Lib.hid (bNext c2.out b3)
      clear b3
      go_wp2
      go_roundg 0
      case measure => omega
      case rel => exact ⟨[], Lib.hid (RRing.empty _), c3, Lib.hid sfD_nil, Lib.hid (fun _ => rfl), Lib.hid (by simp)⟩
end Go.Proofs.Ythgekfiodedelaa
