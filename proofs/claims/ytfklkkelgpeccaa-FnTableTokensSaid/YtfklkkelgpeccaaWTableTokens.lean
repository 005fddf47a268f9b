/- The walk of FnTableTokens: the law returns true. -/
import Derived.Test.YtfklkkelgpeccaaPlLaws2
import Derived.Test.YtfklkkelgpeccaaDrawPl3
import Derived.Test.YtfklkkelgpeccaaTkEq
import Derived.Test.YtfklkkelgpeccaaPtI
import Derived.Test.YtfklkkelgpeccaaTokI
import Derived.Test.YtfklkkelgpeccaaHas
namespace Go.Proofs.Ytfklkkelgpeccaa
open Go.RowKit
set_option linter.unusedVariables false
set_option linter.unusedSimpArgs false

set_option maxRecDepth 100000 in
set_option maxHeartbeats 4000000 in
theorem tableTokens_walk (v : Value) (zs : List Int) (w : World) (hr : RBytes w v zs) :
    Calls Try.prog 10 #[v] w fun e w' => e = .returned (.bool true) ∧ Below w.heap.size w w' := by
  obtain ⟨⟨a, cap, rfl, g1, g2, -⟩, -⟩ := id hr
  have HR := Lib.hid hr; clear hr
  by_cases hl : zs.length ≤ 1048576
  · go_enter Try.func10, Try.ntmps10
    go_wp2_with fail
    refine (drawPlaceTable_any _ zs _ HR.out hl).mono ?_
    rintro e w1 ⟨u, x, ns, ws, rfl, o1, p1, hnl, hwl, b1⟩
    have O1 := Lib.hid o1.li; have P1 := Lib.hid p1.li; clear o1 p1
    obtain ⟨an, capn, rfl, -, -, -⟩ := O1.out.reads
    obtain ⟨aw, capw, rfl, -, -, -⟩ := P1.out.reads
    obtain ⟨T, hT⟩ : ∃ T, T = ptL ns ws := ⟨_, rfl⟩
    have hTl : T.length ≤ 64 := by rw [hT]; exact ptL_len ns ws
    have HT := Lib.hid hT; clear hT
    go_wp2_with fail
    refine (implPlaceTable_any _ _ ns ws _ (by omega) (by omega) O1.out.reads P1.out.reads).mono ?_
    rw [← HT.out]
    rintro e w2 ⟨u2, rfl, o2, b2⟩
    obtain ⟨a2, q2, rfl, -, -, -⟩ := o2.reads
    have c2 := bNext b1 b2
    go_wp2_with fail
    refine (specPlaceTable_p _ _ ns ws _ (by omega) (by omega) (O1.out.bl b2).reads (P1.out.bl b2).reads).mono ?_
    rw [← HT.out]
    rintro e w3 ⟨u3, rfl, o3, b3⟩
    obtain ⟨a3, q3, rfl, -, -, -⟩ := o3.reads
    have c3 := bNext c2 b3
    have N3 := Lib.hid ((O1.out.bl b2).bl b3).reads; have W3 := Lib.hid ((P1.out.bl b2).bl b3).reads; have X3 := Lib.hid (o2.bl b3).reads; have Y3 := Lib.hid o3.reads
    have P3 := Lib.hid ((P1.out.bl b2).bl b3)
    clear O1 P1 o2 o3 b1 b2 b3 c2
    by_cases h0 : T.length = 0
    · have q0 : ((T.length : Int) == 0) = true := by simp [h0]
      clear h0
      go_wp2_with fail
      refine (sameTokens_same _ _ T _ (by omega) X3.out Y3.out).mono ?_
      rintro e w4 ⟨rfl, b4⟩
      have c4 := bNext c3 b4
      go_wp2_with fail
      refine (sameTokens_same _ _ T _ (by omega) (X3.out.bl b4) (Y3.out.bl b4)).mono ?_
      rintro e w5 ⟨rfl, b5⟩
      have c5 := bNext c4 b5
      go_wp2
      go_ret
      exact ⟨rfl, c5⟩
    · have q0 : ((T.length : Int) == 0) = false := by simpa using h0
      have HG : Hid (ptG ns ws = true) := Lib.hid (table_none (by rw [← HT.out]; exact h0))
      have HV : Hid (tvB T = true) := Lib.hid (by rw [HT.out]; exact table_valid HG.out)
      clear h0
      go_wp2_with fail
      refine (sameTokens_same _ _ T _ (by omega) X3.out Y3.out).mono ?_
      rintro e w4 ⟨rfl, b4⟩
      have c4 := Lib.hid (bNext c3 b4)
      have N4 := Lib.hid (N3.out.bl b4); have W4 := Lib.hid (W3.out.bl b4); have X4 := Lib.hid (X3.out.bl b4)
      have P4 := Lib.hid (P3.out.bl b4)
      clear N3 W3 X3 Y3 P3 c3 b4
      obtain ⟨h1, h2, h3⟩ := ptG_parts HG.out
      have HPW : Hid (∀ i (h : i + 1 < T.length), T[i].1 < T[i + 1].1) := Lib.hid (fun i h => by
        have := List.pairwise_iff_getElem.1 (tvB_parts HV.out).2.1
        exact this i (i + 1) (by omega) h (by omega))
      have HND : Hid (∀ i (h : i < T.length), decide (T[i].2 ∈ ns) = true) := Lib.hid (fun i h => by
        refine decide_eq_true (table_node HG.out ?_)
        rw [← HT.out]; exact List.getElem_mem h)
      have HTM : Hid (∀ i (h : i < ns.length) (hw : i < ws.length), tokensM ns[i] ws[i] = toks ns[i] ws[i].toNat) := Lib.hid (fun i h hw => by
        have h4 := h3 _ (List.getElem_mem hw)
        have h5 := asc_pt (nodesB_parts h1).2 _ (List.getElem_mem h)
        exact tokensM_good (ptB_of h5) (inB_of h4))
      have HTH : Hid (∀ i (h : i < ns.length) (hw : i < ws.length) (k : Nat) (hk : k < (toks ns[i] ws[i].toNat).length), (T.take T.length).any (fun t => decide (t.1 = (toks ns[i] ws[i].toNat)[k]) && decide (t.2 ≤ ns[i])) = true) := Lib.hid (fun i h hw k hk => by
        have h4 := h3 _ (List.getElem_mem hw)
        have hk2 : k < ws[i].toNat := by simpa [toks] using hk
        obtain ⟨j, hj, e1, e2⟩ := table_has HG.out h (K := ws[i].toNat) ⟨hw, by omega⟩ hk2
        rw [List.take_length, List.any_eq_true]
        refine ⟨T[j]'(by rw [HT.out]; exact hj), List.getElem_mem _, ?_⟩
        have hTj : T[j]'(by rw [HT.out]; exact hj) = (ptL ns ws)[j] := by simp only [HT.out]
        rw [hTj, e1, decide_eq_true e2]
        simp [toks])
      have HL2 := Lib.hid h2
      clear h1 h2 h3 HG HV HT P4
      have hn4 := N4.out
      have hw4 := W4.out
      go_wp2
      go_loopw [7] (fun i wr => ∃ j : Nat, j ≤ T.length ∧ i = .int .i64 j ∧ ∃ n, wr = w4.drewN n) (fun i _ => T.length - (intOf i).toNat)
      case atStart => exact ⟨0, Nat.zero_le _, rfl, 0, rfl⟩
      case round =>
        obtain ⟨j, hj, rfl, n0, hwr⟩ := hrel
        by_cases hlt : j < T.length
        · have HB := Lib.hid (HND.out j hlt)
          obtain ⟨b, off, rfl, hbl, x0, x1⟩ := (X4.out.dr n0).tok j hlt
          rw [← hwr] at x0 x1 hbl
          have NJ : Hid (RInts wr _ ns) := Lib.hid (by rw [hwr]; exact N4.out.dr n0)
          have hB := HB.out
          have HQ : ∀ n, Calls Try.prog 31 #[.slice an ns.length capn, .int .i64 T[j].2] (wr.drewN n) fun e w2 => e = .returned (.bool true) ∧ wr.drewN n = w2 := fun n => (hasInt_any _ ns T[j].2 _ (by omega) (NJ.out.dr n)).mono (fun e w2 h => ⟨by rw [h.1, hB], h.2⟩)
          clear hB
          by_cases h0 : j = 0
          · have e3 : decide (0 < (j : Int)) = false := decide_eq_false (by omega)
            have e3' : decide (0 < j) = false := decide_eq_false (by omega)
            have HWR := Lib.hid hwr; clear hwr h0
            generalize T[j].1 = x at *
            generalize T[j].2 = y at *
            go_wp2
            go_quiet ((go_at_call 31; exact quiet_left (HQ _)))
            go_wp2
            go_roundw
            case rel => exact ⟨j + 1, by omega, by go_num, by rw [HWR.out]; exact draws_two _ _ _⟩
            case measure => simp [intOf]; omega
          · obtain ⟨k, hk⟩ : ∃ k, k + 1 = j := ⟨j - 1, by omega⟩
            have hkl : k < T.length := by omega
            have hP : T[k].1 < T[j].1 := by have := HPW.out k (by omega); simpa only [hk] using this
            obtain ⟨b2, off2, he, -, y0, -⟩ := (X4.out.dr n0).tok k hkl
            rw [← hwr] at y0
            simp only [Option.some.injEq, Addr.mk.injEq, and_true] at he
            obtain ⟨rfl, rfl⟩ := he
            have e1 : (j : Int) - 1 = k := by omega
            have e2 : IntKind.i64.wrap ((j : Int) - 1) = k := by rw [e1]; exact IntWalk.i64_in _ (by omega)
            have e3 : decide (0 < (j : Int)) = true := decide_eq_true (by omega)
            have e3' : decide (0 < j) = true := decide_eq_true (by omega)
            have e4 : decide (T[j].1 ≤ T[k].1) = false := decide_eq_false (by omega)
            have HWR := Lib.hid hwr; clear hwr h0 hP hk
            generalize T[j].1 = x at *
            generalize T[j].2 = y at *
            generalize T[k].1 = z at *
            go_wp2
            go_quiet ((go_at_call 31; exact quiet_left (HQ _)))
            go_wp2
            go_roundw
            case rel => exact ⟨j + 1, by omega, by go_num, by rw [HWR.out]; exact draws_two _ _ _⟩
            case measure => simp [intOf]; omega
        · obtain rfl : j = T.length := by omega
          have N5 : Hid (RInts wr _ ns) := Lib.hid (by rw [hwr]; exact N4.out.dr n0)
          have W5 : Hid (RInts wr _ ws) := Lib.hid (by rw [hwr]; exact W4.out.dr n0)
          have X5 : Hid (RRow TL wr _ T) := Lib.hid (by rw [hwr]; exact X4.out.dr n0)
          have c5 : Hid (Below w.heap.size w wr) := Lib.hid (by rw [hwr]; exact bDr c4.out n0)
          clear N4 W4 X4 c4 hwr HND HPW
          go_wp2
          go_loopw [8, 9, 10, 11, 12] (fun i l k f j wr => ∃ p : Nat, p ≤ ns.length ∧ i = .int .i64 p ∧ Hid (RInts wr (.slice an ns.length capn) ns) ∧ Hid (RInts wr (.slice aw ws.length capw) ws) ∧ Hid (RRow TL wr (.slice a2 T.length q2) T) ∧ Hid (Below w.heap.size w wr)) (fun i _ _ _ _ _ => ns.length - (intOf i).toNat)
          case atStart => exact ⟨0, Nat.zero_le _, rfl, N5, W5, X5, c5⟩
          case round =>
            obtain ⟨i, hi, rfl, NJ, WJ, XJ, BJ⟩ := hrel
            clear N5 W5 X5 c5
            by_cases hlt : i < ns.length
            · have hiw : i < ws.length := by have := HL2.out; omega
              obtain ⟨bn, ofn, rfl, hbn, kn⟩ : ∃ b off, an = some ⟨b, off, none⟩ ∧ b < wr.heap.size ∧ wr.cell? ⟨b, off + i, none⟩ = some (.int .i64 ns[i]) := by
                obtain ⟨_, _, e, -, -, hc⟩ := NJ.out
                cases e
                exact hc i hlt
              obtain ⟨bw, ofw, rfl, hbw, kw⟩ : ∃ b off, aw = some ⟨b, off, none⟩ ∧ b < wr.heap.size ∧ wr.cell? ⟨b, off + i, none⟩ = some (.int .i64 ws[i]) := by
                obtain ⟨_, _, e, -, -, hc⟩ := WJ.out
                cases e
                exact hc i hiw
              obtain ⟨K, hK⟩ : ∃ K, K = toks ns[i] ws[i].toNat := ⟨_, rfl⟩
              have HKM : Hid (tokensM ns[i] ws[i] = K) := Lib.hid (by rw [hK]; exact HTM.out i hlt hiw)
              have HKH : Hid (∀ k (hk : k < K.length), (T.take T.length).any (fun t => decide (t.1 = K[k]) && decide (t.2 ≤ ns[i])) = true) := Lib.hid (by subst hK; exact HTH.out i hlt hiw)
              have hKl : K.length ≤ 5 := by rw [← HKM.out]; exact length_tokensM _ _
              have hiw2 := Lib.hid hiw
              clear hK
              generalize ns[i] = nv at *
              generalize ws[i] = wv at *
              go_wp2_with fail
              have kk0 := And.intro (show wr.drew.cell? _ = _ from kn) (show wr.drew.cell? _ = _ from kw)
              go_region_held3 (fun w' => w'.cell? ⟨bn, ofn + i, none⟩ = some (.int .i64 nv) ∧ w'.cell? ⟨bw, ofw + i, none⟩ = some (.int .i64 wv)) (first | with_reducible exact kk0 | with_reducible exact kk5) ((go_at_call 38; refine (implTokensOf_any nv wv _).mono ?_; rw [HKM.out]; rintro e w5 ⟨v5, rfl, o5, b5⟩; obtain ⟨a5, q5, rfl, -, -, -⟩ := o5.reads; have kk5 := And.intro ((b5.cell hbn).trans kk0.1) ((b5.cell hbw).trans kk0.2); have K5 := Lib.hid o5.reads; have N5 := Lib.hid (NJ.out.d1.bl b5); have W5 := Lib.hid (WJ.out.d1.bl b5); have X5 := Lib.hid (XJ.out.d1.bl b5); have c5 := Lib.hid (bNext (bD1 BJ.out) b5)))
              all_goals
                have k5 := Lib.hid kk5.1
                clear kk0 kk5 kn kw NJ WJ XJ BJ b5 o5 HKM HTM HTH
                go_wp2
                go_loopw [10, 11, 12] (fun k f j wr => ∃ m : Nat, m ≤ K.length ∧ k = .int .i64 m ∧ ∃ n, wr = w5.drewN n) (fun k _ _ _ => K.length - (intOf k).toNat)
                case atStart => exact ⟨0, Nat.zero_le _, rfl, 0, rfl⟩
                case round =>
                  obtain ⟨m, hm, rfl, n1, hwr⟩ := hrel
                  by_cases hmt : m < K.length
                  · have HWR := Lib.hid hwr; clear hwr
                    have HF : Hid ((T.take T.length).any (fun t => decide (t.1 = K[m]) && decide (t.2 ≤ nv)) = true) := Lib.hid (HKH.out m hmt)
                    have HC : Hid (∃ b off, a5 = some ⟨b, off, none⟩ ∧ w5.cell? ⟨b, off + m, none⟩ = some (.int .i64 K[m])) := by
                      obtain ⟨_, _, e, -, -, hc⟩ := K5.out
                      cases e
                      obtain ⟨b, off, h1, -, h2⟩ := hc m hmt
                      exact Lib.hid ⟨b, off, h1, h2⟩
                    generalize K[m] = x at *
                    obtain ⟨F, hF⟩ : ∃ F : Nat → Bool, F = fun p => (T.take p).any (fun t => decide (t.1 = x) && decide (t.2 ≤ nv)) := ⟨_, rfl⟩
                    have HF0 : Hid (F 0 = false) := Lib.hid (by rw [hF]; simp)
                    have HFS : Hid (∀ p (h : p < T.length), F (p + 1) = (F p || (decide (T[p].1 = x) && decide (T[p].2 ≤ nv)))) := Lib.hid (fun p h => by rw [hF]; simp only; rw [List.take_succ_eq_append_getElem h, List.any_append]; simp only [List.any_cons, List.any_nil, Bool.or_false])
                    have HFE : Hid (F T.length = true) := Lib.hid (by rw [hF]; exact HF.out)
                    obtain ⟨bk, ofk, rfl, kk⟩ := HC.out
                    have KK := Lib.hid kk
                    clear hF HF HC kk
                    go_wp2
                    go_loopw [11, 12] (fun f j wr => ∃ p : Nat, p ≤ T.length ∧ j = .int .i64 p ∧ f = .bool (F p) ∧ ∃ n, wr = w5.drewN n) (fun _ j _ => T.length - (intOf j).toNat)
                    case atStart => exact ⟨0, Nat.zero_le _, rfl, by rw [HF0.out], n1, HWR.out⟩
                    case round =>
                      obtain ⟨p, hp, rfl, rfl, n2, hwr⟩ := hrel
                      by_cases hpt : p < T.length
                      · obtain ⟨bt, oft, rfl, hbt, t0, t1⟩ := (X5.out.dr n2).tok p hpt
                        rw [← hwr] at t0 t1 hbt
                        have HW2 := Lib.hid hwr
                        have c0 : wr.cell? ⟨bk, ofk + m, none⟩ = some (.int .i64 x) := by rw [hwr]; exact KK.out
                        have c1 : wr.cell? ⟨bn, ofn + i, none⟩ = some (.int .i64 nv) := by rw [hwr]; exact k5.out
                        have HFp := Lib.hid (HFS.out p hpt)
                        clear hwr
                        generalize T[p].1 = y at *
                        generalize T[p].2 = z at *
                        cases hf : F p with
                        | true =>
                          have HF1 : Hid (F (p + 1) = true) := Lib.hid (by rw [HFp.out, hf]; rfl)
                          clear hf HFp
                          go_wp2
                          go_quiet (fail)
                          go_wp2
                          go_roundw
                          case rel => exact ⟨p + 1, by omega, by go_num, by rw [HF1.out], by rw [HW2.out]; exact draws_two _ _ _⟩
                          case measure => simp [intOf]; omega
                        | false =>
                          have HF1 : Hid (F (p + 1) = (decide (y = x) && decide (z ≤ nv))) := Lib.hid (by rw [HFp.out, hf]; rfl)
                          clear hf HFp
                          by_cases h1 : y = x
                          · have e1 : (y == x) = true := by simp [h1]
                            cases e2 : decide (z ≤ nv) with
                            | true =>
                              have HF2 : Hid (F (p + 1) = true) := Lib.hid (by rw [HF1.out, e2]; simp [h1])
                              clear h1 HF1
                              go_wp2
                              go_quiet (fail)
                              go_wp2
                              go_roundw
                              case rel => exact ⟨p + 1, by omega, by go_num, by rw [HF2.out], by rw [HW2.out]; exact draws_two _ _ _⟩
                              case measure => simp [intOf]; omega
                            | false =>
                              have HF2 : Hid (F (p + 1) = false) := Lib.hid (by rw [HF1.out, e2]; simp)
                              clear h1 HF1
                              go_wp2
                              go_quiet (fail)
                              go_wp2
                              go_roundw
                              case rel => exact ⟨p + 1, by omega, by go_num, by rw [HF2.out], by rw [HW2.out]; exact draws_two _ _ _⟩
                              case measure => simp [intOf]; omega
                          · have e1 : (y == x) = false := by simp [h1]
                            have HF2 : Hid (F (p + 1) = false) := Lib.hid (by rw [HF1.out]; simp [h1])
                            clear h1 HF1
                            go_wp2
                            go_quiet (fail)
                            go_wp2
                            go_roundw
                            case rel => exact ⟨p + 1, by omega, by go_num, by rw [HF2.out], by rw [HW2.out]; exact draws_two _ _ _⟩
                            case measure => simp [intOf]; omega
                      · obtain rfl : p = T.length := by omega
                        have HW2 := Lib.hid hwr; clear hwr
                        rw [HFE.out]
                        go_wp2
                        go_roundw
                        case rel => exact ⟨m + 1, by omega, by go_num, n2, HW2.out⟩
                        case measure => simp [intOf]; omega
                  · obtain rfl : m = K.length := by omega
                    have N6 : Hid (RInts wr _ ns) := Lib.hid (by rw [hwr]; exact N5.out.dr n1)
                    have W6 : Hid (RInts wr _ ws) := Lib.hid (by rw [hwr]; exact W5.out.dr n1)
                    have X6 : Hid (RRow TL wr _ T) := Lib.hid (by rw [hwr]; exact X5.out.dr n1)
                    have c6 : Hid (Below w.heap.size w wr) := Lib.hid (by rw [hwr]; exact bDr c5.out n1)
                    clear hwr N5 W5 X5 c5
                    go_wp2
                    go_roundw
                    case rel => exact ⟨i + 1, by omega, by go_num, N6, W6, X6, c6⟩
                    case measure => simp [intOf]; omega
            · obtain rfl : i = ns.length := by omega
              go_wp2
              go_ret
              exact ⟨rfl, BJ.out⟩
  · have hl' : decide ((1048576 : Int) < zs.length) = true := decide_eq_true (by omega)
    go_enter Try.func10, Try.ntmps10
    go_wp2
    go_ret
    exact ⟨rfl, Below.refl _ _⟩
end Go.Proofs.Ytfklkkelgpeccaa
