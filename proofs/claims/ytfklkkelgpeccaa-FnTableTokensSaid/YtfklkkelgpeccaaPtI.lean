/- PlaceTable of the program. -/
import Derived.Test.YtfklkkelgpeccaaPtM
import Derived.Test.YtfklkkelgpeccaaPtS
namespace Go.Proofs.Ytfklkkelgpeccaa
open Go.RowKit Go.Maps
set_option linter.unusedVariables false
set_option linter.unusedSimpArgs false

theorem toks_get (node : Int) (n t : Nat) (h : t < (toks node n).length) : (toks node n)[t] = tok node t := by simp [toks]

set_option maxRecDepth 1000000 in
set_option maxHeartbeats 8000000 in
theorem implPlaceTable_any (v u : Value) (ns ws : List Int) (w : World) (hl : ns.length ≤ 4194304) (hl2 : ws.length ≤ 4194304) (hr : RInts w v ns) (hr2 : RInts w u ws) :
    Calls Try.prog 34 #[v, u] w fun e w' => ∃ x, e = .returned x ∧ OwnRow TL tokT w' w.heap.size x (ptL ns ws) ∧ Below w.heap.size w w' := by
  obtain ⟨i0, hi, hz0, hz1, hz2⟩ := info_parts infoTk4
  obtain ⟨a, cap, rfl, hc, hm, -⟩ := id hr
  obtain ⟨a2, cap2, rfl, hc2, hm2, -⟩ := id hr2
  have HR := Lib.hid hr; have HR2 := Lib.hid hr2; clear hr hr2
  have hmm := @run_makeMap Try.prog
  cases hv : nodesB ns with
  | false =>
    have hG : ptG ns ws = false := by simp [ptG, hv]
    rw [pt_bad hG]
    have HV := Lib.hid hv; clear hv hG
    go_enter Try.func34, Try.ntmps34
    go_wp2_with fail
    refine (implNodesValid_any _ ns _ hl HR.out).mono ?_
    rw [HV.out]
    rintro e w1 ⟨rfl, n1, rfl⟩
    go_wp2
    go_ret
    exact ⟨_, rfl, OwnRow.nil _ _ _ _, bDr (Below.refl _ w) _⟩
  | true =>
    by_cases hlen : ws.length = ns.length
    · have q1 : ((ws.length : Int) != (ns.length : Int)) = false := by simp [hlen]
      have HV := Lib.hid hv
      obtain ⟨⟨hn1, hn10⟩, hasc⟩ := nodesB_parts hv
      have HN : Hid (∀ i (h : i < ns.length), 0 ≤ ns[i] ∧ ns[i] ≤ 63) := Lib.hid (fun i h => asc_pt hasc _ (List.getElem_mem h))
      have HLen := Lib.hid hlen
      have HB : Hid (∀ i (h : i < ws.length), inB ws[i] 1 5 = false → ptL ns ws = []) := Lib.hid (fun i h hb => pt_bad (by
        have : ws.all (fun w => inB w 1 5) = false := by
          rw [List.all_eq_false]; exact ⟨_, List.getElem_mem h, by simp [hb]⟩
        simp [ptG, this]))
      obtain ⟨P, hP⟩ : ∃ P, P = pairsL ns ws := ⟨_, rfl⟩
      have HPl : Hid (P.length = ns.length) := Lib.hid (by rw [hP]; exact pairs_len hlen)
      have HPg : Hid (∀ i (h : i < ns.length) (h' : i < P.length) (h2 : i < ws.length), P[i] = (ns[i], ws[i].toNat)) := Lib.hid (fun i h h' h2 => by subst hP; exact pairs_get hlen i h)
      have HE : Hid ((∀ i (h : i < ws.length), inB ws[i] 1 5 = true) → ptL ns ws = (keys64 (fun x => ownFrom x P) 64).map fun x => (x, (ownFrom x P).getD 0)) := Lib.hid (fun h => by
        have hall : ws.all (fun w => inB w 1 5) = true := by
          rw [List.all_eq_true]; intro x hx; obtain ⟨i, hi, rfl⟩ := List.getElem_of_mem hx; exact h i hi
        rw [pt_good (by simp [ptG, hv, hlen, hall]), ← hP]; exact tabTo_keys P 64)
      obtain ⟨T, hT⟩ : ∃ T, T = ptL ns ws := ⟨_, rfl⟩
      rw [← hT] at HB HE ⊢
      have hwl : ws.length ≤ 10 := by omega
      clear hv hlen hasc hP hT
      go_enter Try.func34, Try.ntmps34
      go_wp2_with fail
      refine (implNodesValid_any _ ns _ hl HR.out).mono ?_
      rw [HV.out]
      rintro e w1 ⟨rfl, n1, hw1⟩
      have hs1 : w1.heap.size = w.heap.size := by rw [hw1]; rfl
      have b1 : Below w.heap.size w w1 := by rw [hw1]; exact bDr (Below.refl _ w) _
      have b2 := Lib.hid (bAl b1 (.map #[] 0))
      have M2 := Lib.hid (MapIs.made w1)
      have HS1 := Lib.hid hs1
      clear hw1 hs1
      go_wp2
      go_loopw [6, 7, 8, 10, 11, 12, 29] (fun s6 s7 s8 s10 s11 s12 i wr => ∃ m : Nat, m ≤ ns.length ∧ i = .int .i64 m ∧ Hid (∀ k (h : k < ws.length), k < m → inB ws[k] 1 5 = true) ∧ Hid (MapIs wr w1.heap.size (5 * m) (fun x => ownFrom x (P.take m))) ∧ Hid (Below w.heap.size w wr)) (fun _ _ _ _ _ _ i _ => ns.length - (intOf i).toNat)
      case atStart => exact ⟨0, Nat.zero_le _, rfl, Lib.hid (fun k h hk => by omega), Lib.hid (M2.out.congr (fun x => by simp [ownFrom])), b2⟩
      case round =>
        obtain ⟨m, hm', rfl, HW, MM, BB⟩ := hrel
        obtain ⟨wo, rfl⟩ : ∃ wo : World, wo = wr := ⟨_, rfl⟩
        by_cases hlt : m < ns.length
        · have hiw : m < ws.length := by have := HLen.out; omega
          have hiP : m < P.length := by have := HPl.out; omega
          have HRm := HR.out.bl BB.out
          obtain ⟨_, _, he, -, -, hcn⟩ := HRm
          simp only [Value.slice.injEq, true_and] at he
          obtain ⟨rfl, rfl⟩ := he
          obtain ⟨bn, ofn, rfl, hbn, hn0⟩ := hcn m hlt
          have HWm := HR2.out.bl BB.out
          obtain ⟨_, _, he, -, -, hcw⟩ := HWm
          simp only [Value.slice.injEq, true_and] at he
          obtain ⟨rfl, rfl⟩ := he
          obtain ⟨bw, ofw, rfl, hbw, hw0⟩ := hcw m hiw
          have HPm := Lib.hid (HPg.out m hlt hiP hiw)
          obtain ⟨nlo, nhi⟩ := HN.out m hlt
          clear hcn hcw
          cases hb : inB ws[m] 1 5 with
          | false =>
            have HBm := Lib.hid (HB.out m hiw hb)
            have HTm := Lib.hid (tokensM_bad (node := ns[m]) (.inr hb))
            clear hb
            go_wp2_with fail
            refine (implTokensOf_any _ _ _).mono ?_
            rw [HTm.out]
            rintro e w3 ⟨v3, rfl, o3, b3⟩
            obtain ⟨av3, cv3, rfl, -, -, -⟩ := o3.reads
            simp only [List.length_nil]
            have c3 := bNext BB.out b3
            go_wp2
            go_ret
            exact ⟨_, rfl, by rw [HBm.out]; exact OwnRow.nil _ _ _ _, c3⟩
          | true =>
            have hwr := inB_true hb
            obtain ⟨K, hK⟩ : ∃ K : Nat, ws[m] = (K : Int) := ⟨ws[m].toNat, by omega⟩
            have HTm := Lib.hid (tokensM_good (node := ns[m]) (weight := ws[m]) (ptB_of ⟨nlo, nhi⟩) hb)
            have hK5 : 1 ≤ K ∧ K ≤ 5 := by omega
            have e1 : ws[m].toNat = K := by omega
            rw [e1] at HTm HPm
            have HW1 : Hid (∀ k (h : k < ws.length), k < m + 1 → inB ws[k] 1 5 = true) := by
              have hb' := Lib.hid hb
              exact Lib.hid (fun k h hk => by
                by_cases hkm : k = m
                · subst hkm; exact hb'.out
                · exact HW.out k h (by omega))
            rw [hK] at hw0 HTm
            obtain ⟨nd, hnd⟩ : ∃ nd, nd = ns[m] := ⟨_, rfl⟩
            rw [← hnd] at hn0 HTm HPm nlo nhi
            clear hb hwr hK e1 hnd
            go_wp2_with fail
            refine (implTokensOf_any _ _ _).mono ?_
            rw [HTm.out]
            rintro e w3 ⟨v3, rfl, o3, b3⟩
            have c3 := bNext BB.out b3
            have M3 := Lib.hid (MM.out.bl MM.out.lt b3)
            have hbm := MM.out.lt
            obtain ⟨av3, cv3, rfl, -, -, -⟩ := o3.reads
            have O3 := Lib.hid o3
            have C3 := Lib.hid c3
            have HTl : (toks nd K).length = K := length_toks nd K
            have L3 := Lib.hid o3.lts
            clear o3 c3 b3
            rw [HTl]
            have qK : ((K : Int) == 0) = false := by rw [beq_eq_false_iff_ne]; omega
            go_wp2
            go_loopw [10, 11, 12, 45] (fun s10 s11 s12 k wr => ∃ t : Nat, t ≤ K ∧ k = .int .i64 t ∧ Hid (MapIs wr w1.heap.size (5 * m + t) (ownK P m nd t)) ∧ Hid (OwnInts wr wo.heap.size (.slice av3 (toks nd K).length cv3) (toks nd K)) ∧ Hid (Below w.heap.size w wr)) (fun _ _ _ k _ => K - (intOf k).toNat)
            case atStart => exact ⟨0, Nat.zero_le _, rfl, Lib.hid (M3.out.congr (fun x => (ownK_zero P m nd x).symm)), O3, C3⟩
            case round =>
              obtain ⟨t, ht, rfl, MT, OT, BT⟩ := hrel
              clear MM BB M3 O3 C3
              by_cases htK : t < K
              · have hOT := OT.out.reads
                obtain ⟨_, _, he, -, -, hct⟩ := hOT
                simp only [Value.slice.injEq, true_and] at he
                obtain ⟨rfl, rfl⟩ := he
                obtain ⟨bt, oft, rfl, hbt, ht0⟩ := hct t (by rw [HTl]; exact htK)
                rw [toks_get] at ht0
                clear hct
                have HMT := MT.out
                obtain ⟨D, hown, h1, h2⟩ := HMT
                have HOW := Lib.hid hown; have H1 := Lib.hid h1; have H2 := Lib.hid h2
                have hyr := tok_range nd t
                have hkey : keyOf Try.prog 3 (.int .i64 (tok nd t)) = some (.int .i64 (tok nd t)) := keyOf_int_mk Try.underlying3 (wf_small (by omega) (by omega))
                have HKEY := Lib.hid hkey
                have HB0 := Lib.hid (h1 (tok nd t))
                clear hown h1 h2 hkey
                cases hs : (ownK P m nd t (tok nd t)).isSome with
                | true =>
                  have hh : Maps.has D (.int .i64 (tok nd t)) = true := by rw [HB0.out, hs]
                  have MN : Hid (MapIs wr w1.heap.size (5 * m + (t + 1)) (ownK P m nd (t + 1))) := Lib.hid ((MT.out.congr (fun x => ownK_taken hs x)).mono (by omega))
                  clear hs
                  generalize tok nd t = y at *
                  go_wp2_with (at_lookup; refine wpList_lookup_own_ok_int _ rfl _ _ 65 rfl 3 3 .i64 keyedI Try.underlying65 Try.underlying3 (zeroI _) w1.heap.size (5 * m + t) D rfl HOW.out _ _ rfl HKEY.out ?_; intro c hat hwc)
                  go_roundw
                  case rel => exact ⟨t + 1, by omega, by go_num, MN, OT, BT⟩
                  case measure => simp [intOf]; omega
                | false =>
                  have hh : Maps.has D (.int .i64 (tok nd t)) = false := by rw [HB0.out, hs]
                  have HP2 := Lib.hid (fun x => ownK_put hs x)
                  clear hs
                  generalize tok nd t = y at *
                  have hval : plainElem (H := Unit) Try.prog 3 (.int .i64 nd) = some (i64d nd, []) := plainElem_int Try.underlying3 (wf_small (by omega) (by omega))
                  have HVAL := Lib.hid hval; clear hval
                  go_wp2_with (first
                    | (at_lookup; refine wpList_lookup_own_ok_int _ rfl _ _ 65 rfl 3 3 .i64 keyedI Try.underlying65 Try.underlying3 (zeroI _) w1.heap.size (5 * m + t) D rfl HOW.out _ _ rfl HKEY.out ?_; intro c hat hwc)
                    | (at_mapUpdate; refine wpList_mapUpdate_own _ rfl _ _ _ 65 rfl 3 3 keyedI Try.underlying65 _ w1.heap.size (5 * m + t) D rfl HOW.out (by unfold maxLen; omega) _ _ _ rfl rfl HKEY.out _ [] HVAL.out ?_; intro w5 hown5 hg5))
                  have MN : Hid (MapIs w5 w1.heap.size (5 * m + (t + 1)) (ownK P m nd (t + 1))) := Lib.hid ((MapIs.put hown5 HOW.out.isMap H1.out H2.out).congr HP2.out)
                  have ON := Lib.hid (OT.out.gr hg5 (ap_ne fun k hk => by have := (OT.out.lts k hk).1; omega))
                  have BN := Lib.hid (bGr BT.out hg5 (fun k hk => by cases hk; have := HS1.out; omega))
                  clear hown5 hg5
                  go_roundw
                  case rel => exact ⟨t + 1, by omega, by go_num, MN, ON, BN⟩
                  case measure => simp [intOf]; omega
              · obtain rfl : t = K := by omega
                have MN : Hid (MapIs wr w1.heap.size (5 * (m + 1)) (fun x => ownFrom x (P.take (m + 1)))) := Lib.hid ((MT.out.congr (fun x => ownK_end P m nd t hiP HPm.out x)).mono (by omega))
                go_wp2
                go_roundw
                case rel => exact ⟨m + 1, by omega, by go_num, HW1, MN, BT⟩
                case measure => simp [intOf]; omega
        · obtain rfl : m = ns.length := by omega
          have hPt : P.take ns.length = P := List.take_of_length_le (by rw [HPl.out]; exact Nat.le_refl _)
          have HTE := Lib.hid (HE.out (fun i h => HW.out i h (by have := HLen.out; omega)))
          have MF : MapIs wo w1.heap.size 50 (fun x => ownFrom x P) := (MM.out.congr (fun x => by rw [hPt])).mono (by omega)
          have HR0 : Hid (∀ x, (ownFrom x P).isSome = true → 0 ≤ x ∧ x < 64) := Lib.hid (fun x h => ownFrom_range x P h)
          obtain ⟨f, hf⟩ : ∃ f : Int → Option Int, f = fun x => ownFrom x P := ⟨_, rfl⟩
          have MF' : MapIs wo w1.heap.size 50 f := by rw [hf]; exact MF
          have HR1 : Hid (∀ x, (f x).isSome = true → 0 ≤ x ∧ x < 64) := Lib.hid (by rw [hf]; exact HR0.out)
          have HTE2 : Hid (T = (keys64 f 64).map fun x => (x, (f x).getD 0)) := Lib.hid (by rw [hf]; exact HTE.out)
          have hbm := MF'.lt
          have HMF := Lib.hid MF'
          clear hPt HTE MF HR0 hf MF' MM HE HB HPg HN
          go_wp2_with fail
          refine (mapKeys_any w1.heap.size _).mono ?_
          rintro e w3 ⟨rfl, rfl⟩
          have HMO := HMF.out
          obtain ⟨D, hown, h1, h2⟩ := HMO
          have hsz := hown.size_le
          have HOW := Lib.hid hown; have H1 := Lib.hid h1; have HDR := Lib.hid (hown.isMap)
          clear hown h1 h2
          go_wp2_with fail
          refine (sortedKeys_any w1.heap.size _ D _ _ HOW.out (by unfold maxLen; omega) (by omega)).mono ?_
          rintro e w4 ⟨v4, ss, rfl, hp, o4, b4⟩
          rw [sorted_keys HOW.out H1.out HR1.out hp] at o4
          have HSM : Hid (∀ j (h : j < (keys64 f 64).length), ∃ c, f (keys64 f 64)[j] = some c ∧ 0 ≤ (keys64 f 64)[j] ∧ (keys64 f 64)[j] < 64) := Lib.hid (fun j h => by
            have := List.getElem_mem h
            unfold keys64 at this
            rw [List.mem_filter] at this
            obtain ⟨c, hc⟩ := Option.isSome_iff_exists.1 this.2
            exact ⟨c, hc, HR1.out _ this.2⟩)
          have HSl : (keys64 f 64).length ≤ 64 := by
            unfold keys64
            have := List.length_filter_le (fun x => (f x).isSome) ((List.range 64).map fun (i : Nat) => (i : Int))
            simpa using this
          obtain ⟨S, hS⟩ : ∃ S, S = keys64 f 64 := ⟨_, rfl⟩
          rw [← hS] at o4 HSM HSl HTE2
          obtain ⟨av4, cv4, rfl, -, -, -⟩ := o4.reads
          have O4 := Lib.hid o4
          have M4 := Lib.hid (HMF.out.bl hbm b4)
          have C4 := Lib.hid (bNext BB.out b4)
          have hwo := BB.out.size
          have hwo4 := b4.size
          have E0 := Lib.hid (OwnRow.nil TL tokT w4 w4.heap.size)
          have L4 := Lib.hid o4.lts
          have hw4 := C4.out.size
          clear hS hp o4 b4 BB HMF HOW H1 HDR
          go_wp2
          go_loopw [13, 15, 66] (fun o s15 i wr => ∃ j : Nat, j ≤ S.length ∧ i = .int .i64 j ∧ Hid (OwnRow TL tokT wr w4.heap.size o ((S.take j).map fun x => (x, (f x).getD 0))) ∧ Hid (MapIs wr w1.heap.size 50 f) ∧ Hid (OwnInts wr wo.heap.size (.slice av4 S.length cv4) S) ∧ Hid (Below w.heap.size w wr) ∧ w4.heap.size ≤ wr.heap.size) (fun _ _ i _ => S.length - (intOf i).toNat)
          case atStart => exact ⟨0, Nat.zero_le _, rfl, by simpa using E0, M4, O4, C4, Nat.le_refl _⟩
          case round =>
            obtain ⟨j, hj, rfl, OJ, MJ, SJ, BJ, hsz4⟩ := hrel
            clear O4 M4 C4 E0
            by_cases hjl : j < S.length
            · have hSJ := SJ.out.reads
              obtain ⟨_, _, he, -, -, hct⟩ := hSJ
              simp only [Value.slice.injEq, true_and] at he
              obtain ⟨rfl, rfl⟩ := he
              obtain ⟨bt, oft, rfl, hbt, ht0⟩ := hct j hjl
              obtain ⟨c0, hc0, y0, y1⟩ := HSM.out j hjl
              have HTK : Hid ((S.take (j + 1)).map (fun x => (x, (f x).getD 0)) = (S.take j).map (fun x => (x, (f x).getD 0)) ++ [(S[j], c0)]) := Lib.hid (by rw [List.take_succ_eq_append_getElem hjl, List.map_append]; simp [hc0])
              have HMJ := MJ.out
              obtain ⟨D2, hown, h1, h2⟩ := HMJ
              have hat0 := Lib.hid (h2 _ _ hc0)
              have HOW := Lib.hid hown
              obtain ⟨y, hy⟩ : ∃ y, y = S[j] := ⟨_, rfl⟩
              rw [← hy] at ht0 y0 y1 HTK hat0
              have HKEY := Lib.hid (keyOf_int_mk Try.underlying3 (wf_small (x := y) (by omega) (by omega)))
              have hll : ((S.take j).map (fun x => (x, (f x).getD 0))).length ≤ 64 := by simp; omega
              obtain ⟨xs, hxs⟩ : ∃ xs, xs = (S.take j).map (fun x => (x, (f x).getD 0)) := ⟨_, rfl⟩
              rw [← hxs] at OJ HTK hll
              have LO := Lib.hid OJ.out.lts
              clear hct hc0 hown h1 h2 hy hxs
              go_wp2_with (first
                | (at_lookup; refine wpList_lookup_own_int _ rfl _ _ 65 rfl 3 3 .i64 keyedI Try.underlying65 Try.underlying3 (zeroI _) w1.heap.size 50 D2 rfl HOW.out _ _ rfl HKEY.out ?_; intro c hat hwc; have HCC : Hid (c = c0) := Lib.hid (by have := (hat0.out (.lit (.int .i64 0))).symm.trans hat; simp [i64d] at this; exact this.symm); clear hat hwc)
                | (at_builtin; refine wpList_append_own _ rfl _ _ 25 rfl w4.heap.size 38 i0 (.agg #[.int .i64 0, .int .i64 0]) 2 16 Try.underlying25 hi hz0 hz1 hz2 rfl (by decide) _ _ _ rfl (OJ.out.al _) ⟨wr.heap.size, 0, none⟩ 1 1 [.int .i64 y, .int .i64 c] rfl rfl (cells_tok _ _ _ rfl _) (oneCell_tok _ _) (by unfold maxLen; omega) (by omega) (by simp; omega) ?_; intro v' w6 hown6 hg6 hnil6))
              have o6 := app_tok hown6 rfl
              rw [HCC.out, ← HTK.out] at o6
              have O6 := Lib.hid o6
              have LA := Lib.hid (OJ.out.al (.cells #[.int .i64 y, .int .i64 c] tokT)).lts
              have M6 := Lib.hid ((MJ.out.al (.cells #[.int .i64 y, .int .i64 c] tokT)).gr hg6 (fun h => by have := (LA.out _ h.symm).1; omega))
              have S6 := Lib.hid ((SJ.out.al (.cells #[.int .i64 y, .int .i64 c] tokT)).gr hg6 (ap_of fun k h1 h2 => by have := (L4.out k h1).2; have := (LA.out k h2).1; omega))
              have B6 := Lib.hid (bGr (bAl BJ.out (.cells #[.int .i64 y, .int .i64 c] tokT)) hg6 (fun k hk => by have := (LA.out k hk).1; omega))
              have hs6 := hg6.size
              have hs7 : w4.heap.size ≤ w6.heap.size := by simp at hs6; omega
              clear o6 hown6 hg6 hnil6 LA LO
              go_wp2
              go_roundw
              case rel => exact ⟨j + 1, by omega, by go_num, O6, M6, S6, B6, hs7⟩
              case measure => simp [intOf]; omega
            · obtain rfl : j = S.length := by omega
              rw [List.take_length, ← HTE2.out] at OJ
              go_wp2
              go_ret
              exact ⟨_, rfl, OJ.out.base hw4, BJ.out⟩
    · have q1 : ((ws.length : Int) != (ns.length : Int)) = true := by rw [bne_iff_ne]; omega
      have hG : ptG ns ws = false := by simp [ptG, hlen]
      rw [pt_bad hG]
      have HV := Lib.hid hv; clear hv hG hlen
      go_enter Try.func34, Try.ntmps34
      go_wp2_with fail
      refine (implNodesValid_any _ ns _ hl HR.out).mono ?_
      rw [HV.out]
      rintro e w1 ⟨rfl, n1, rfl⟩
      go_wp2
      go_ret
      exact ⟨_, rfl, OwnRow.nil _ _ _ _, bDr (Below.refl _ w) _⟩

theorem specPlaceTable_p (v u : Value) (ns ws : List Int) (w : World) (hl : ns.length ≤ 4194304) (hl2 : ws.length ≤ 4194304) (hr : RInts w v ns) (hr2 : RInts w u ws) :
    Calls Try.prog 32 #[v, u] w fun e w' => ∃ x, e = .returned x ∧ OwnRow TL tokT w' w.heap.size x (ptL ns ws) ∧ Below w.heap.size w w' :=
  (specPlaceTable_any v u ns ws w hl hl2 hr hr2).mono fun e w' ⟨x, h1, h2, h3, _⟩ => ⟨x, h1, h2, h3⟩
end Go.Proofs.Ytfklkkelgpeccaa
