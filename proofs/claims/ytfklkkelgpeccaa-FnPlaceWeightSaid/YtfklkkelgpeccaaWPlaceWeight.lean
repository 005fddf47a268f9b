/- The walk of FnPlaceWeight: the law returns true. -/
import Derived.Test.YtfklkkelgpeccaaPlLaws2
import Derived.Test.YtfklkkelgpeccaaDrawPl3
import Derived.Test.YtfklkkelgpeccaaTkEq
import Derived.Test.YtfklkkelgpeccaaPtI
import Derived.Test.YtfklkkelgpeccaaCopyP
namespace Go.Proofs.Ytfklkkelgpeccaa
open Go.RowKit
set_option linter.unusedVariables false
set_option linter.unusedSimpArgs false

set_option maxRecDepth 100000 in
set_option maxHeartbeats 4000000 in
theorem placeWeight_walk (v : Value) (zs : List Int) (v2 : Value) (zs2 : List Int) (w : World) (hr : RBytes w v zs) (hr2 : RBytes w v2 zs2) :
    Calls Try.prog 13 #[v, v2] w fun e w' => e = .returned (.bool true) ∧ Below w.heap.size w w' := by
  obtain ⟨⟨a, cap, rfl, g1, g2, -⟩, -⟩ := id hr
  have HR := Lib.hid hr; clear hr
  obtain ⟨⟨ab, capb, rfl, g3, g4, -⟩, -⟩ := id hr2
  have HR2 := Lib.hid hr2; clear hr2
  by_cases hl : zs.length ≤ 1048576
  · by_cases hlb : zs2.length ≤ 1048576
    · go_enter Try.func13, Try.ntmps13
      go_wp2_with fail
      refine (drawPlaceTable_any _ zs _ HR.out hl).mono ?_
      rintro e w1 ⟨u, x, ns, ws, rfl, o1, p1, hnl, hwl, b1⟩
      have O1 := Lib.hid o1.li; have P1 := Lib.hid p1.li; clear o1 p1
      obtain ⟨an, capn, rfl, -, -, -⟩ := O1.out.reads
      obtain ⟨aw, capw, rfl, -, -, -⟩ := P1.out.reads
      obtain ⟨T, hT⟩ : ∃ T, T = ptL ns ws := ⟨_, rfl⟩
      have hTl : T.length ≤ 64 := by rw [hT]; exact ptL_len ns ws
      have HT := Lib.hid hT; clear hT
      go_wp2_with fail
      refine (implPlaceTable_any _ _ ns ws _ (by omega) (by omega) O1.out.reads P1.out.reads).mono ?_
      rw [← HT.out]
      rintro e w2 ⟨u2, rfl, o2, b2⟩
      obtain ⟨a2, q2, rfl, -, -, -⟩ := o2.reads
      have c2 := bNext b1 b2
      go_wp2_with fail
      refine (specPlaceTable_p _ _ ns ws _ (by omega) (by omega) (O1.out.bl b2).reads (P1.out.bl b2).reads).mono ?_
      rw [← HT.out]
      rintro e w3 ⟨u3, rfl, o3, b3⟩
      obtain ⟨a3, q3, rfl, -, -, -⟩ := o3.reads
      have c3 := bNext c2 b3
      have N3 := Lib.hid ((O1.out.bl b2).bl b3).reads; have W3 := Lib.hid ((P1.out.bl b2).bl b3).reads; have X3 := Lib.hid (o2.bl b3).reads; have Y3 := Lib.hid o3.reads
      have P3 := Lib.hid ((P1.out.bl b2).bl b3)
      clear O1 P1 o2 o3 b1 b2 b3 c2
      by_cases h0 : T.length = 0
      · have q0 : ((T.length : Int) == 0) = true := by simp [h0]
        clear h0
        go_wp2_with fail
        refine (sameTokens_same _ _ T _ (by omega) X3.out Y3.out).mono ?_
        rintro e w4 ⟨rfl, b4⟩
        have c4 := bNext c3 b4
        go_wp2_with fail
        refine (sameTokens_same _ _ T _ (by omega) (X3.out.bl b4) (Y3.out.bl b4)).mono ?_
        rintro e w5 ⟨rfl, b5⟩
        have c5 := bNext c4 b5
        go_wp2
        go_ret
        exact ⟨rfl, c5⟩
      · have q0 : ((T.length : Int) == 0) = false := by simpa using h0
        have HG : Hid (ptG ns ws = true) := Lib.hid (table_none (by rw [← HT.out]; exact h0))
        have HV : Hid (tvB T = true) := Lib.hid (by rw [HT.out]; exact table_valid HG.out)
        clear h0
        go_wp2_with fail
        refine (sameTokens_same _ _ T _ (by omega) X3.out Y3.out).mono ?_
        rintro e w4 ⟨rfl, b4⟩
        have c4 := Lib.hid (bNext c3 b4)
        have N4 := Lib.hid (N3.out.bl b4); have W4 := Lib.hid (W3.out.bl b4); have X4 := Lib.hid (X3.out.bl b4)
        have P4 := Lib.hid (P3.out.bl b4)
        clear N3 W3 X3 Y3 P3 c3 b4
        obtain ⟨n0, -, -, -, hn0, -⟩ := single_good HG.out
        have hnl0 : 0 < ns.length := (List.getElem?_eq_some_iff.1 hn0).1
        obtain ⟨h1, h2, h3⟩ := ptG_parts HG.out
        obtain ⟨k, hk⟩ : ∃ k : Nat, k = zs2.length % ns.length := ⟨_, rfl⟩
        have hkn : k < ns.length := by rw [hk]; exact Nat.mod_lt _ hnl0
        have hkw : k < ws.length := by omega
        have hz : ((ns.length : Int) == 0) = false := by simpa using (show ns.length ≠ 0 by omega)
        have em : IntKind.i64.wrap (Int.tmod (zs2.length : Int) (ns.length : Int)) = (k : Int) := by
          rw [Int.tmod_eq_emod_of_nonneg (by omega), ← Int.natCast_emod, ← hk]; exact IntWalk.i64_in _ (by omega)
        have em2 : Int.tmod (zs2.length : Int) (ns.length : Int) = (k : Int) := by
          rw [Int.tmod_eq_emod_of_nonneg (by omega), hk, ← Int.natCast_emod]
        have em3 : (zs2.length : Int) % (ns.length : Int) = (k : Int) := by
          rw [hk, ← Int.natCast_emod]
        have hr := h3 _ (List.getElem_mem hkw)
        have hnr : 0 ≤ ns[k] ∧ ns[k] ≤ 63 := asc_pt (nodesB_parts h1).2 _ (List.getElem_mem hkn)
        obtain ⟨bn, ofn, han, hbbn, kn⟩ : ∃ b off, an = some ⟨b, off, none⟩ ∧ b < w4.heap.size ∧ w4.cell? ⟨b, off + k, none⟩ = some (.int .i64 ns[k]) := by
          obtain ⟨_, _, e, -, -, hc⟩ := N4.out
          cases e
          obtain ⟨b, off, ha, hb, hx⟩ := hc k hkn
          exact ⟨b, off, ha, hb, hx⟩
        subst han
        obtain ⟨bw, ofw, haw, hbbw, kw⟩ : ∃ b off, aw = some ⟨b, off, none⟩ ∧ b < w4.heap.size ∧ w4.cell? ⟨b, off + k, none⟩ = some (.int .i64 ws[k]) := by
          obtain ⟨_, _, e, -, -, hc⟩ := W4.out
          cases e
          obtain ⟨b, off, ha, hb, hx⟩ := hc k hkw
          exact ⟨b, off, ha, hb, hx⟩
        subst haw
        have HGD : Hid (ws[k] = ws.getD k 0) := Lib.hid (by simp [List.getD, hkw])
        by_cases h5 : ws[k] = 5
        · have q5 : (ws[k] == 5) = true := by simp [h5]
          clear h1 h2 h3 hk hr h5 hnr hn0
          generalize ws[k] = u at *
          go_wp2
          go_ret
          exact ⟨rfl, c4.out⟩
        · have q5 : (ws[k] == 5) = false := by simp [h5]
          have ew : IntKind.i64.wrap (ws[k] + 1) = ws[k] + 1 := IntWalk.i64_in _ (by omega)
          obtain ⟨hGU, hOU⟩ := weight_own HG.out hkn ⟨hkw, by omega⟩
          rw [← HGD.out] at hGU hOU
          obtain ⟨U, hU⟩ : ∃ U, U = ptL ns (ws.set k (ws[k] + 1)) := ⟨_, rfl⟩
          have hUl : U.length ≤ 64 := by rw [hU]; exact ptL_len _ _
          rw [← hU, ← HT.out] at hOU
          have HU := Lib.hid hU
          have hUV : tvB U = true := by rw [hU]; exact table_valid hGU
          have hnp : ptB ns[k] = true := ptB_of hnr
          obtain ⟨M, hM⟩ : ∃ M, M = mvL T U := ⟨_, rfl⟩
          have hMl : M.length ≤ 64 := by rw [hM]; exact mvL_len _ _
          have hMm : M = mvTo T U 64 := hM.trans (mv_good HV.out hUV)
          have HM := Lib.hid hM
          have HMP : Hid (∀ j (h : j < M.length), poN U M[j] = ns[k]) := Lib.hid (fun j h => by
            have hx : M[j] ∈ mvTo T U 64 := by rw [← hMm]; exact List.getElem_mem h
            obtain ⟨hx1, hx2⟩ := mv_owner hOU hx
            rw [poN_good hUV (ptB_of hx1), hx2])
          have HLU : Hid (plN U ns[k] = cntT T ns[k] 64 + M.length) := Lib.hid (by
            rw [plN_good hUV hnp, cnt_moved hOU 64 (Nat.le_refl _), hMm])
          have HLT : Hid (plN T ns[k] = cntT T ns[k] 64) := Lib.hid (plN_good HV.out hnp)
          have hcr := cntT_le T ns[k] 64
          have es : IntKind.i64.wrap (cntT T ns[k] 64 + (M.length : Int)) = cntT T ns[k] 64 + (M.length : Int) := IntWalk.i64_in _ (by omega)
          clear hGU hOU hU hUV hnp hM hMm hnr h1 h2 h3 h5 hn0 hk HG HV
          have HK := Lib.hid hkw
          generalize hu : ws[k] = u at *
          have HUV := Lib.hid hu; clear hu
          generalize ns[k] = n at *
          generalize cntT T n 64 = ct at *
          go_wp2_with (at_builtin; refine wpList_copyOwn w4 rfl _ _ rfl _ rfl (by simp) _ rfl w.heap.size ws P4.out (by omega) ?_)
          intro v5 w5 o5 b5
          have c5 := bNext c4.out b5
          rcases ownsRow_shape o5 with ⟨_, hz0⟩ | ⟨g, cap5, rfl, hB, hgl, hn, hc5⟩
          · omega
          · have hcj := (OwnInts.cellAt o5 (j := k) hkw).trans (congrArg (fun z => some (Value.int .i64 z)) HUV.out)
            have hfz := OwnInts.frozenAt o5 k
            have o6 := own_set o5 k (u + 1)
            have b6 : Below w4.heap.size w5 (w5.setCell ⟨g, k, none⟩ (.int .i64 (u + 1))) := (Below.refl _ _).setCell hB _
            have c6 := Lib.hid (bSc c5 (Nat.le_trans c4.out.size hB) k (.int .i64 (u + 1)))
            have b46 := b5.trans b6
            have O6 := Lib.hid o6.reads; have N6 := Lib.hid (N4.out.bl b46); have X6 := Lib.hid (X4.out.bl b46)
            have kn6 := (b46.cell hbbn).trans kn
            have hbn6 : bn < (w5.setCell ⟨g, k, none⟩ (.int .i64 (u + 1))).heap.size := Nat.lt_of_lt_of_le hbbn b46.size
            clear P4 N4 W4 X4 b5 b6 b46 o5 o6 c4 c5
            go_wp2_with fail
            refine (implPlaceTable_any _ _ ns (ws.set k (u + 1)) _ (by omega) (by simp; omega) N6.out O6.out).mono ?_
            rw [← HU.out]
            rintro e w7 ⟨u7, rfl, o7, b7⟩
            obtain ⟨a7, q7, rfl, -, -, -⟩ := o7.reads
            have c7 := Lib.hid (bNext c6.out b7)
            have U7 := Lib.hid o7.reads; have X7 := Lib.hid (X6.out.bl b7)
            have kn7 := (b7.cell hbn6).trans kn6
            have hbn7 : bn < w7.heap.size := Nat.lt_of_lt_of_le hbn6 b7.size
            clear O6 N6 X6 c6 b7 o7 kn6 hbn6
            go_wp2_with fail
            refine (implPlaceMoved_any _ _ T U _ (by omega) (by omega) X7.out U7.out).mono ?_
            rw [← HM.out]
            rintro e w8 ⟨u8, rfl, o8, b8⟩
            obtain ⟨a8, q8, rfl, -, -, -⟩ := o8.reads
            have c8 := Lib.hid (bNext c7.out b8)
            have U8 := Lib.hid (U7.out.bl b8); have X8 := Lib.hid (X7.out.bl b8); have M8 := Lib.hid o8.reads
            have kn8 := (b8.cell hbn7).trans kn7
            have hbn8 : bn < w8.heap.size := Nat.lt_of_lt_of_le hbn7 b8.size
            clear U7 X7 c7 b8 o8 kn7 hbn7
            go_wp2
            go_loopw [13] (fun i wr => ∃ j : Nat, j ≤ M.length ∧ i = .int .i64 j ∧ Hid (RRow TL wr (.slice a7 U.length q7) U) ∧ Hid (RRow TL wr (.slice a2 T.length q2) T) ∧ Hid (RInts wr (.slice a8 M.length q8) M) ∧ wr.cell? ⟨bn, ofn + k, none⟩ = some (.int .i64 n) ∧ bn < wr.heap.size ∧ Hid (Below w.heap.size w wr)) (fun i _ => M.length - (intOf i).toNat)
            case atStart => exact ⟨0, Nat.zero_le _, rfl, U8, X8, M8, kn8, hbn8, c8⟩
            case round =>
              obtain ⟨j, hj, rfl, UJ, XJ, MJ, kn, hbnj, BJ⟩ := hrel
              clear U8 X8 M8 kn8 hbn8 c8
              by_cases hlt : j < M.length
              · have HPj := Lib.hid (HMP.out j hlt)
                obtain ⟨b, off, rfl, hbl, x0⟩ : ∃ b off, a8 = some ⟨b, off, none⟩ ∧ b < wr.heap.size ∧ wr.cell? ⟨b, off + j, none⟩ = some (.int .i64 M[j]) := by
                  obtain ⟨_, _, e, -, -, hc⟩ := MJ.out
                  cases e
                  exact hc j hlt
                generalize M[j] = x at *
                have q1 : (n != n) = false := by simp
                go_wp2_with fail
                have kk0 := And.intro (show wr.drew.cell? _ = _ from x0) (show wr.drew.cell? _ = _ from kn)
                go_region_held3 (fun w' => w'.cell? ⟨b, off + j, none⟩ = some (.int .i64 x) ∧ w'.cell? ⟨bn, ofn + k, none⟩ = some (.int .i64 n)) (first | with_reducible exact kk0 | with_reducible exact kk5) ((go_at_call 17; refine (implPlaceOwner_any _ U x _ (by omega) UJ.out.d1).mono ?_; rw [HPj.out]; rintro e w9 ⟨rfl, b9⟩; have kk5 := And.intro ((b9.cell hbl).trans kk0.1) ((b9.cell hbnj).trans kk0.2); have U9 := Lib.hid (UJ.out.d1.bl b9); have X9 := Lib.hid (XJ.out.d1.bl b9); have M9 := Lib.hid (MJ.out.d1.bl b9); have c9 := Lib.hid (bNext (bD1 BJ.out) b9); have hbn9 : bn < w9.heap.size := Nat.lt_of_lt_of_le hbnj b9.size))
                all_goals
                  go_wp2
                  go_roundw
                  case rel => exact ⟨j + 1, by omega, by go_num, U9, X9, M9, kk5.2, hbn9, c9⟩
                  case measure => simp [intOf]; omega
              · obtain rfl : j = M.length := by omega
                have q1 : ((ct + (M.length : Int)) == (ct + (M.length : Int))) = true := by simp
                go_wp2_with fail
                have kk0 : wr.drew.cell? _ = _ := kn
                go_region_held3 (fun w' => w'.cell? ⟨bn, ofn + k, none⟩ = some (.int .i64 n)) (first | with_reducible exact kk0 | with_reducible exact kk5 | with_reducible exact kk6) (first | (go_at_call 20; first | ((with_reducible refine (implPlaceLoad_any _ U n _ ?_ UJ.out.d1).mono ?_); (· omega); rw [HLU.out]; rintro e w9 ⟨rfl, b9⟩; have kk5 := (b9.cell hbnj).trans kk0; have X9 := Lib.hid (XJ.out.d1.bl b9); have c9 := bNext (bD1 BJ.out) b9; have hbn9 : bn < w9.heap.size := Nat.lt_of_lt_of_le hbnj b9.size) | ((with_reducible refine (implPlaceLoad_any _ T n _ ?_ X9.out).mono ?_); (· omega); rw [HLT.out]; rintro e w10 ⟨rfl, b10⟩; have kk6 := (b10.cell hbn9).trans kk5; have c10 := bNext c9 b10)))
                all_goals
                  go_wp2
                  go_ret
                  exact ⟨rfl, c10⟩
    · have hl' : decide ((1048576 : Int) < zs2.length) = true := decide_eq_true (by omega)
      have hl0 : decide ((1048576 : Int) < zs.length) = false := decide_eq_false (by omega)
      go_enter Try.func13, Try.ntmps13
      go_wp2
      go_ret
      exact ⟨rfl, Below.refl _ _⟩
  · have hl' : decide ((1048576 : Int) < zs.length) = true := decide_eq_true (by omega)
    go_enter Try.func13, Try.ntmps13
    go_wp2
    go_ret
    exact ⟨rfl, Below.refl _ _⟩
end Go.Proofs.Ytfklkkelgpeccaa
