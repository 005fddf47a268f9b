/- spec.RingNew, RingJoin, RingFail. -/
import Derived.Test.YthgekfiodedelaaNdX
import Derived.Test.YthgekfiodedelaaNdW
import Derived.Test.YthgekfiodedelaaImN
import Derived.Test.YthgekfiodedelaaRgPlain3
namespace Go.Proofs.Ythgekfiodedelaa
open Go.RowKit
set_option linter.unusedVariables false
set_option linter.unusedSimpArgs false

theorem dropH {w : World} {b off n cp j : Nat} {es : List Hd} {A : Addr} (h : RRow HL w (.slice (some ⟨b, off, none⟩) n cp) es) (hj : j ≤ es.length) (hA : (if cp = j then some (⟨b, off, none⟩ : Addr) else some ⟨b, off + j * 3, none⟩) = some A) :
    RRow HL w (.slice (some A) (es.length - j) (cp - j)) (es.drop j) := by
  obtain ⟨a', cap', hv, hn, hc, -⟩ := id h
  simp only [Value.slice.injEq] at hv
  obtain ⟨-, -, rfl⟩ := hv
  by_cases hcj : cp = j
  · rw [if_pos hcj] at hA
    have hz : es.drop j = [] := List.drop_of_length_le (by omega)
    rw [hz]
    exact ⟨some A, cp - j, by congr 1; simp; omega, by simp, by omega, fun i hi => absurd hi (by simp)⟩
  · rw [if_neg hcj] at hA
    cases hA
    have h1 := h.sub j es.length hj (Nat.le_refl _) (cp - j) (by omega) (by omega)
    rw [List.take_length] at h1
    exact h1
theorem takeH {w : World} {b off n cp j : Nat} {es : List Hd} (h : RRow HL w (.slice (some ⟨b, off, none⟩) n cp) es) (hj : j ≤ es.length) : RRow HL w (.slice (some ⟨b, off, none⟩) j cp) (es.take j) := by
  obtain ⟨a', cap', hv, hn, hc, -⟩ := id h
  simp only [Value.slice.injEq] at hv
  obtain ⟨-, -, rfl⟩ := hv
  have h1 := h.sub 0 j (Nat.zero_le _) hj cp (by omega) (by omega)
  simpa using h1
/-- The run of an append of nodes. -/
theorem run_appH (w : World) (B : Nat) (v : Value) (xs : List Hd) (hown : OwnRow HL 37 w B v xs) (ad : Addr) (m c : Nat) (ys : List Hd) (hu : RRow HL w (.slice (some ad) m c) ys) (h63 : xs.length + ys.length ≤ 4096) (hB : B ≤ w.heap.size) :
    ∃ v' w', (Builtin.append_ #[23, 23] 23 #[v, .slice (some ad) m c]).run Try.prog w = .ok v' w' ∧ OwnRow HL 37 w' B v' (xs ++ ys) ∧ w.grownBy w' v.ownBlock := by
  obtain ⟨i0, hi, hz0, hz1, hz2⟩ := info_parts infoNd4
  obtain ⟨hm, hcell⟩ := hu.addr
  subst hm
  obtain ⟨v', w', h0, h1, h2, h3⟩ := run_append_own (P := Try.prog) w B 23 23 37 i0 (.agg #[.int .i64 0, .int .i64 0, .slice none 0 0]) 3 40 Try.underlying23 hi hz0 hz1 hz2 rfl (by decide) v xs.length (flat HL xs) hown ad ys.length c (flat HL ys) (flat_len HL ys) (fun j u hj => (hcell j u hj).2) (flat_one HL ys) (by unfold maxLen; omega) (by omega) hB
  exact ⟨v', w', h0, OwnRow.app h1 rfl rfl, h2⟩
theorem Fits.sub {w : World} {hs : List Hd} {D : List Rn} (h : Fits w hs D) (lo hi : Nat) : Fits w ((hs.take hi).drop lo) ((D.take hi).drop lo) := by
  refine ⟨by simp [h.1], fun i h1 h2 => ?_⟩
  simp only [List.getElem_drop, List.getElem_take]
  exact h.2 _ (by simp at h1; omega) (by simp at h2; omega)
theorem Fits.app {w : World} {hs hs' : List Hd} {D D' : List Rn} (h : Fits w hs D) (h' : Fits w hs' D') : Fits w (hs ++ hs') (D ++ D') := by
  refine ⟨by simp [h.1, h'.1], fun i h1 h2 => ?_⟩
  have hl := h.1
  by_cases hi : i < hs.length
  · rw [List.getElem_append_left hi, List.getElem_append_left (by omega)]; exact h.2 i hi (by omega)
  · rw [List.getElem_append_right (by omega), List.getElem_append_right (by omega)]
    simp only [hl]
    exact h'.2 _ (by simp at h1; omega) (by simp at h2; omega)
theorem Fits.cut {w : World} {hs : List Hd} {D : List Rn} (h : Fits w hs D) (k : Nat) : Fits w (hs.take k ++ hs.drop (k + 1)) (D.take k ++ D.drop (k + 1)) := by
  refine Fits.app ?_ ?_
  · have := h.sub 0 k; simpa using this
  · have := h.sub (k + 1) (hs.length + 1)
    rw [List.take_of_length_le (by omega), List.take_of_length_le (by have := h.1; omega)] at this; exact this
theorem dats_cut (R : List Nd) (k : Nat) : dats (cutS R k) = (dats R).take k ++ (dats R).drop (k + 1) := by simp [cutS, dats, List.map_take, List.map_drop]
theorem dats_ins (R : List Nd) (k : Nat) (n : Nd) : dats (insS R k n) = (dats R).take k ++ dat n :: (dats R).drop k := by simp [insS, dats, List.map_take, List.map_drop]
theorem RRing.ofRow {w w' : World} {B : Nat} {v : Value} {hs : List Hd} {D : List Rn} (h : OwnRow HL 37 w' B v hs) (hf : Fits w hs D) (hb : Below w.heap.size w w') : RRing w' v D := ⟨hs, h.reads, hf.bl hb⟩

set_option maxRecDepth 100000 in
set_option maxHeartbeats 2000000 in
theorem specRingNew_ok (v : Value) (I : List Int) (w : World) (hn : nodesB I = true) (h3 : 3 ≤ I.length) (hr : RInts w v I) :
    Calls Try.prog 85 #[v] w fun e w' => ∃ x, e = .returned (.tuple #[x, .bool true]) ∧ OwnRingS w' w.heap.size x (dats (idealS I)) ∧ Below w.heap.size w w' := by
  have hl : I.length ≤ 10 := by
    rw [nodesB, Bool.and_eq_true] at hn
    have := inB_true hn.1; omega
  obtain ⟨a, cap, rfl, -, -, -⟩ := id hr
  have HR := Lib.hid hr
  have HNB := Lib.hid hn
  have d3 : decide ((I.length : Int) < 3) = false := decide_eq_false (by omega)
  have d3' : decide (I.length < 3) = false := decide_eq_false (by omega)
  clear hr hn
  go_enter Try.func85, Try.ntmps85
  go_wp2_with fail
  refine (specNodesValid_any _ I _ (by omega) HR.out).mono ?_
  rw [HNB.out]
  rintro e w1 ⟨rfl, n1, rfl⟩
  go_wp2_with fail
  refine (l3Ideal_any _ I _ hl (by omega) (HR.out.dr n1)).mono ?_
  rintro e w2 ⟨x2, rfl, o2, b2⟩
  have c2 := Lib.hid (bNext (bDr (Below.refl _ _) n1) b2)
  have O2 := Lib.hid (OwnRingS.base (B' := w.heap.size) o2 (Nat.le_refl _))
  clear o2 b2
  go_wp2
  go_ret2
  exact ⟨_, rfl, O2.out, c2.out⟩

set_option maxRecDepth 100000 in
set_option maxHeartbeats 4000000 in
theorem specRingFail_ok (v : Value) (R : List Nd) (x : Int) (w : World) (hv : ValidL R) (hs : safeL R = true) (hx : ptB x = true) (hr : RR w v R) :
    Calls Try.prog 25 #[v, .int .i64 x] w fun e w' => ∃ u, e = .returned (.tuple #[u, .bool (failG R x)]) ∧ OwnRingS w' w.heap.size u (dats (failS R x)) ∧ Below w.heap.size w w' := by
  have h10 := hv.len
  have h3 := three_of hs
  have HSF : Hid (sfD (dats R) = true) := Lib.hid (by rw [sfD_dats hv]; exact hs)
  have HX := Lib.hid hx
  have HR := Lib.hid hr
  have HG : Hid (failG R x = (liveR R x && safeL (cutS R (fnd R x)))) := Lib.hid rfl
  have HF : Hid (failS R x = if failG R x then cutS R (fnd R x) else R) := Lib.hid rfl
  clear hr hv hs hx
  go_enter Try.func25, Try.ntmps25
  go_wp2_with fail
  refine (specRingSafe_any v (dats R) _ (by rw [dats_len]; omega) HR.out).mono ?_
  rw [HSF.out]
  rintro e w1 ⟨rfl, b1⟩
  have B1 := Lib.hid b1; have R1 := Lib.hid (HR.out.bl b1); clear b1
  go_wp2_with fail
  refine (l1Point_any x _).mono ?_
  rw [HX.out]
  rintro e w2 ⟨rfl, rfl⟩
  go_wp2_with fail
  refine (l3Find_any v R x _ (by omega) R1.out).mono ?_
  rintro e w2 ⟨rfl, rfl⟩
  cases hlv : liveR R x with
  | false =>
    rw [fdI_dead hlv]
    have HG1 : Hid (failG R x = false) := Lib.hid (by rw [HG.out, hlv]; rfl)
    have HF1 : Hid (failS R x = R) := Lib.hid (by rw [HF.out, HG1.out]; rfl)
    clear hlv
    go_wp2_with fail
    refine (l3Copy_any v R _ (by omega) R1.out).mono ?_
    rintro e w3 ⟨x3, rfl, o3, b3⟩
    have c3 := Lib.hid (bNext B1.out b3)
    have O3 := Lib.hid (OwnRingS.base o3 B1.out.size)
    clear o3 b3
    go_wp2
    go_ret2
    exact ⟨_, by rw [HG1.out]; rfl, by rw [HF1.out]; exact O3.out, c3.out⟩
  | true =>
    obtain ⟨h1, hk⟩ := fdI_live hlv
    rw [h1]
    have HG2 : Hid (failG R x = safeL (cutS R (fnd R x))) := Lib.hid (by rw [HG.out, hlv]; rfl)
    clear hlv h1
    generalize fnd R x = k at *
    have d0 : decide ((k : Int) < 0) = false := decide_eq_false (by omega)
    obtain ⟨hs0, hrow, hfit⟩ := id R1.out
    have hhl : hs0.length = R.length := by rw [hfit.1, dats_len]
    obtain ⟨a, cap, rfl, hc, hm⟩ := id R1.out.sl
    obtain ⟨b, off, _, _, _, rfl, hb, -⟩ := R1.out.nd k hk
    obtain ⟨A, hA⟩ : ∃ A : Addr, (if cap = k + 1 then some (⟨b, off, none⟩ : Addr) else some ⟨b, off + (k + 1) * 3, none⟩) = some A := by split <;> exact ⟨_, rfl⟩
    have hrow' : RRow HL w1 (.slice (some ⟨b, off, none⟩) R.length cap) hs0 := hrow
    have rt := takeH hrow' (j := k) (by omega)
    have rd := dropH hrow' (j := k + 1) (by omega) hA
    rw [hhl] at rd
    have e1 : IntKind.i64.wrap ((k : Int) + 1) = (k : Int) + 1 := IntWalk.i64_in _ (by omega)
    have e2 : (0 : Int) ≤ (k : Int) + 1 := by omega
    have e3 : (k : Int) + 1 ≤ (R.length : Int) := by omega
    have e4 : ((k : Int) + 1).toNat = k + 1 := by omega
    have e5 : k ≤ cap := by omega
    -- the runs of the two appends
    obtain ⟨A1, hA1⟩ : ∃ A1, A1 = w1.drew.alloc (.cells #[] 37) := ⟨_, rfl⟩
    have ob : Below w1.heap.size w1 A1 := by rw [hA1]; exact bAl (Below.refl _ _).drew _
    have o1 : OwnRow HL 37 A1 w1.heap.size (.slice (some ⟨w1.heap.size, 0, none⟩) 0 0) [] := by rw [hA1]; exact OwnRow.empty HL _ w1.drew
    obtain ⟨v2, A2, run2, o2, g2⟩ := run_appH A1 w1.heap.size _ [] o1 ⟨b, off, none⟩ k cap _ (rt.bl ob) (by simp; omega) ob.size
    have b2 : Below w1.heap.size w1 A2 := bGr ob g2 (fun q hq => (o1.lts q hq).1)
    obtain ⟨v3, A3, run3, o3, g3⟩ := run_appH A2 w1.heap.size v2 _ o2 A (R.length - (k + 1)) (cap - (k + 1)) _ (rd.bl b2) (by simp; omega) b2.size
    have b3 : Below w1.heap.size w1 A3 := bGr b2 g3 (fun q hq => (o2.lts q hq).1)
    obtain ⟨a2, q2, rfl, -, -, -⟩ := id o2.reads
    have R3 : Hid (RR A3 v3 (cutS R k)) := Lib.hid (by
      show RRing A3 v3 (dats (cutS R k))
      rw [dats_cut]
      refine RRing.ofRow o3 ?_ b3
      have := hfit.cut k
      simpa using this)
    obtain ⟨a3, q3, hv3, -, -⟩ := R3.out.sl
    have HA1 := Lib.hid hA1; have RUN2 := Lib.hid run2; have RUN3 := Lib.hid run3
    have B3 := Lib.hid (bNext B1.out b3)
    have HB3 := Lib.hid b3
    have hcl : (cutS R k).length ≤ 10 := by rw [cut_len hk]; omega
    generalize hn2 : ([] ++ hs0.take k).length = n2 at *
    clear hA1 run2 run3 o1 o2 o3 g2 g3 ob b2 b3 rt rd hrow hrow' hfit hn2
    subst hv3
    go_wp2
    refine wp_region_facts [[], [], [], [1, 2], [0, 3, 1, 2], [], [], [6], [5, 7, 6], [4, 8, 0, 3, 1, 2, 5, 7, 6], [9, 4, 8, 0, 3, 1, 2, 5, 7, 6]] (PW 0 4 9 (fun w' => w' = w1.drew) (fun w' => w' = A1) (fun w' => w' = A2) (fun w' => w' = A3)) (fun q0 v w => match q0 with | 0 => v = .slice (some ⟨w1.heap.size, 0, none⟩) 0 0 | 1 => v = .slice (some ⟨b, off, none⟩) R.length cap | 2 => v = .int .i64 k | 3 => v = .slice (some ⟨b, off, none⟩) k cap | 4 => v = .slice a2 n2 q2 | 5 => v = .slice (some ⟨b, off, none⟩) R.length cap | 6 => v = .int .i64 k | 7 => v = .int .i64 ((k : Int) + 1) | 8 => v = .slice (some A) (R.length - (k + 1)) (cap - (k + 1)) | 9 => v = .slice a3 (cutS R k).length q3 | 10 => v = .slice a3 (cutS R k).length q3 | _ => True) (fun _ _ => True) (by kernel_rfl) (by kernel_rfl) (fun _ _ _ _ _ h => h) (PW.start rfl) ?_ ?_
    · refine ⟨?_, ?_, ?_, ?_, ?_, ?_, ?_, ?_, ?_, ?_, ?_, trivial⟩
      · intro a wq vs L hW hL hN hO hk hd K hK
        have ha := hW.a hL
        have h4 := hN 4 (by decide)
        have h9 := hN 9 (by decide)
        subst ha
        clear hN hO hL hk hd
        go_simp
        exact hK _ _ (PW.to2 h4 h9 (by decide) (by decide) HA1.out.symm) trivial rfl
      · intro a wq vs L hW hL hN hO hk hd K hK
        have p0 := hO 0 (by decide)
        clear hN hO hL hk hd
        go_simp
        exact hK _ _ (hW.skip (by decide) (by decide) (by decide)) trivial rfl
      · intro a wq vs L hW hL hN hO hk hd K hK
        have p6 := hO 6 (by decide)
        clear hN hO hL hk hd
        go_simp
        exact hK _ _ (hW.skip (by decide) (by decide) (by decide)) trivial rfl
      · intro a wq vs L hW hL hN hO hk hd K hK
        have d1 := hd 1 25 (by decide) rfl
        rw [show vs 1 = .slice (some ⟨b, off, none⟩) R.length cap from (hk 1 (by decide)).2] at d1
        have d2 := hd 2 26 (by decide) rfl
        rw [show vs 2 = .int .i64 k from (hk 2 (by decide)).2] at d2
        clear hN hO hL hk hd
        go_simp
        exact hK _ _ (hW.skip (by decide) (by decide) (by decide)) trivial rfl
      · intro a wq vs L hW hL hN hO hk hd K hK
        have d0 := hd 0 24 (by decide) rfl
        rw [show vs 0 = .slice (some ⟨w1.heap.size, 0, none⟩) 0 0 from (hk 0 (by decide)).2] at d0
        have d3 := hd 3 27 (by decide) rfl
        rw [show vs 3 = .slice (some ⟨b, off, none⟩) k cap from (hk 3 (by decide)).2] at d3
        have h0 := (hk 0 (by decide)).1
        have hb := hW.b h0 hL
        have h9 := hN 9 (by decide)
        subst hb
        exact step_append_run rfl (.tmp 24) (.tmp 27) 23 rfl _ _ (by simp [Act.eval, d0]) (by simp [Act.eval, d3]) _ _ RUN2.out (hK _ _ (PW.to3 h0 h9 (by decide) (by decide) rfl) trivial rfl)
      · intro a wq vs L hW hL hN hO hk hd K hK
        have p0 := hO 0 (by decide)
        clear hN hO hL hk hd
        go_simp
        exact hK _ _ (hW.skip (by decide) (by decide) (by decide)) trivial rfl
      · intro a wq vs L hW hL hN hO hk hd K hK
        have p6 := hO 6 (by decide)
        clear hN hO hL hk hd
        go_simp
        exact hK _ _ (hW.skip (by decide) (by decide) (by decide)) trivial rfl
      · intro a wq vs L hW hL hN hO hk hd K hK
        have d6 := hd 6 30 (by decide) rfl
        rw [show vs 6 = .int .i64 k from (hk 6 (by decide)).2] at d6
        clear hN hO hL hk hd
        go_simp
        exact hK _ _ (hW.skip (by decide) (by decide) (by decide)) trivial rfl
      · intro a wq vs L hW hL hN hO hk hd K hK
        have d5 := hd 5 29 (by decide) rfl
        rw [show vs 5 = .slice (some ⟨b, off, none⟩) R.length cap from (hk 5 (by decide)).2] at d5
        have d7 := hd 7 31 (by decide) rfl
        rw [show vs 7 = .int .i64 ((k : Int) + 1) from (hk 7 (by decide)).2] at d7
        clear hN hO hL hk hd
        go_simp
        exact hK _ _ (hW.skip (by decide) (by decide) (by decide)) trivial rfl
      · intro a wq vs L hW hL hN hO hk hd K hK
        have d4 := hd 4 28 (by decide) rfl
        rw [show vs 4 = .slice a2 n2 q2 from (hk 4 (by decide)).2] at d4
        have d8 := hd 8 32 (by decide) rfl
        rw [show vs 8 = .slice (some A) (R.length - (k + 1)) (cap - (k + 1)) from (hk 8 (by decide)).2] at d8
        have h0 := (hk 0 (by decide)).1
        have h4 := (hk 4 (by decide)).1
        have hc := hW.c h4 hL
        subst hc
        exact step_append_run rfl (.tmp 28) (.tmp 32) 23 rfl _ _ (by simp [Act.eval, d4]) (by simp [Act.eval, d8]) _ _ RUN3.out (hK _ _ (PW.to4 h0 h4 (by decide) (by decide) rfl) trivial rfl)
      · intro a wq vs L hW hL hN hO hk hd K hK
        have d9 := hd 9 33 (by decide) rfl
        rw [show vs 9 = .slice a3 (cutS R k).length q3 from (hk 9 (by decide)).2] at d9
        clear hN hO hL hk hd
        go_simp
        exact hK _ _ (hW.skip (by decide) (by decide) (by decide)) trivial rfl
    · intro vs wq hW hG
      have g10 : vs 10 = .slice a3 (cutS R k).length q3 := hG 10 (by decide)
      clear hG
      simp only [putAll, Act.put, Nat.zero_add, Nat.reduceAdd]
      rw [g10]
      generalize vs 0 = y0
      generalize vs 1 = y1
      generalize vs 2 = y2
      generalize vs 3 = y3
      generalize vs 4 = y4
      generalize vs 5 = y5
      generalize vs 6 = y6
      generalize vs 7 = y7
      generalize vs 8 = y8
      generalize vs 9 = y9
      simp only [List.setIfInBounds_toArray, List.set_cons_succ, List.set_cons_zero]
      have e6 := hW.e (by decide)
      subst e6
      clear hW
      go_wp2_with fail
      refine (l3Safe_any _ (cutS R k) _ (by omega) R3.out).mono ?_
      rw [← HG2.out]
      rintro e w5 ⟨rfl, b5⟩
      have B5 := Lib.hid (bNext B3.out b5)
      have R5 := Lib.hid (R3.out.bl b5)
      have R5' := Lib.hid (R1.out.bl (bNext HB3.out b5))
      clear b5
      cases hg : failG R x with
      | false =>
        have HF1 : Hid (failS R x = R) := Lib.hid (by rw [HF.out, hg]; rfl)
        go_wp2_with fail
        refine (l3Copy_any _ R _ (by omega) R5'.out).mono ?_
        rintro e w6 ⟨x6, rfl, o6, b6⟩
        have c6 := Lib.hid (bNext B5.out b6)
        have O6 := Lib.hid (OwnRingS.base o6 B5.out.size)
        have HGF := Lib.hid hg
        clear o6 b6 hg
        go_wp2
        go_ret2
        exact ⟨_, by rw [HGF.out]; rfl, by rw [HF1.out]; exact O6.out, c6.out⟩
      | true =>
        have HF1 : Hid (failS R x = cutS R k) := Lib.hid (by rw [HF.out, hg]; rfl)
        go_wp2_with fail
        refine (l3Copy_any _ (cutS R k) _ (by omega) R5.out).mono ?_
        rintro e w6 ⟨x6, rfl, o6, b6⟩
        have c6 := Lib.hid (bNext B5.out b6)
        have O6 := Lib.hid (OwnRingS.base o6 B5.out.size)
        have HGF := Lib.hid hg
        clear o6 b6 hg
        go_wp2
        go_ret2
        exact ⟨_, by rw [HGF.out]; rfl, by rw [HF1.out]; exact O6.out, c6.out⟩

set_option maxRecDepth 100000 in
set_option maxHeartbeats 2000000 in
theorem specRingFail_bad (v : Value) (D : List Rn) (x : Int) (w : World) (hl : D.length ≤ 4096) (hbad : (sfD D && ptB x) = false) (hr : RRing w v D) :
    Calls Try.prog 25 #[v, .int .i64 x] w fun e w' => ∃ u, e = .returned (.tuple #[u, .bool false]) ∧ RRing w' u [] ∧ Below w.heap.size w w' := by
  have HR := Lib.hid hr; clear hr
  cases q : sfD D with
  | false =>
    have Q := Lib.hid q; clear q hbad
    go_enter Try.func25, Try.ntmps25
    go_wp2_with fail
    refine (specRingSafe_any v D _ hl HR.out).mono ?_
    rw [Q.out]
    rintro e w1 ⟨rfl, b1⟩
    have B1 := Lib.hid b1; clear b1
    go_wp2
    go_ret2
    exact ⟨_, rfl, (OwnRingS.empty w1).reads, bAl B1.out _⟩
  | true =>
    rw [q, Bool.true_and] at hbad
    have HB := Lib.hid hbad
    have Q := Lib.hid q; clear q hbad
    go_enter Try.func25, Try.ntmps25
    go_wp2_with fail
    refine (specRingSafe_any v D _ hl HR.out).mono ?_
    rw [Q.out]
    rintro e w1 ⟨rfl, b1⟩
    have B1 := Lib.hid b1; clear b1
    go_wp2_with fail
    refine (l1Point_any x _).mono ?_
    rw [HB.out]
    rintro e w2 ⟨rfl, rfl⟩
    go_wp2
    go_ret2
    exact ⟨_, rfl, (OwnRingS.empty w1).reads, bAl B1.out _⟩
end Go.Proofs.Ythgekfiodedelaa
