/- The walk of FnPlaceToken: the law returns true. -/
import Derived.Test.YtfklkkelgpeccaaPlLaws2
import Derived.Test.YtfklkkelgpeccaaDrawPl3
import Derived.Test.YtfklkkelgpeccaaTkEq
import Derived.Test.YtfklkkelgpeccaaPtI
namespace Go.Proofs.Ytfklkkelgpeccaa
open Go.RowKit
set_option linter.unusedVariables false
set_option linter.unusedSimpArgs false

set_option maxRecDepth 100000 in
set_option maxHeartbeats 4000000 in
theorem placeToken_walk (v : Value) (zs : List Int) (w : World) (hr : RBytes w v zs) :
    Calls Try.prog 11 #[v] w fun e w' => e = .returned (.bool true) ∧ Below w.heap.size w w' := by
  obtain ⟨⟨a, cap, rfl, g1, g2, -⟩, -⟩ := id hr
  have HR := Lib.hid hr; clear hr
  by_cases hl : zs.length ≤ 1048576
  · go_enter Try.func11, Try.ntmps11
    go_wp2_with fail
    refine (drawPlaceTable_any _ zs _ HR.out hl).mono ?_
    rintro e w1 ⟨u, x, ns, ws, rfl, o1, p1, hnl, hwl, b1⟩
    have O1 := Lib.hid o1.li; have P1 := Lib.hid p1.li; clear o1 p1
    obtain ⟨an, capn, rfl, -, -, -⟩ := O1.out.reads
    obtain ⟨aw, capw, rfl, -, -, -⟩ := P1.out.reads
    obtain ⟨T, hT⟩ : ∃ T, T = ptL ns ws := ⟨_, rfl⟩
    have hTl : T.length ≤ 64 := by rw [hT]; exact ptL_len ns ws
    have HT := Lib.hid hT; clear hT
    go_wp2_with fail
    refine (implPlaceTable_any _ _ ns ws _ (by omega) (by omega) O1.out.reads P1.out.reads).mono ?_
    rw [← HT.out]
    rintro e w2 ⟨u2, rfl, o2, b2⟩
    obtain ⟨a2, q2, rfl, -, -, -⟩ := o2.reads
    have c2 := bNext b1 b2
    go_wp2_with fail
    refine (specPlaceTable_p _ _ ns ws _ (by omega) (by omega) (O1.out.bl b2).reads (P1.out.bl b2).reads).mono ?_
    rw [← HT.out]
    rintro e w3 ⟨u3, rfl, o3, b3⟩
    obtain ⟨a3, q3, rfl, -, -, -⟩ := o3.reads
    have c3 := bNext c2 b3
    have N3 := Lib.hid ((O1.out.bl b2).bl b3).reads; have W3 := Lib.hid ((P1.out.bl b2).bl b3).reads; have X3 := Lib.hid (o2.bl b3).reads; have Y3 := Lib.hid o3.reads
    clear O1 P1 o2 o3 b1 b2 b3 c2
    by_cases h0 : T.length = 0
    · have q0 : ((T.length : Int) == 0) = true := by simp [h0]
      clear h0
      go_wp2_with fail
      refine (sameTokens_same _ _ T _ (by omega) X3.out Y3.out).mono ?_
      rintro e w4 ⟨rfl, b4⟩
      have c4 := bNext c3 b4
      go_wp2_with fail
      refine (sameTokens_same _ _ T _ (by omega) (X3.out.bl b4) (Y3.out.bl b4)).mono ?_
      rintro e w5 ⟨rfl, b5⟩
      have c5 := bNext c4 b5
      go_wp2
      go_ret
      exact ⟨rfl, c5⟩
    · have q0 : ((T.length : Int) == 0) = false := by simpa using h0
      have HG : Hid (ptG ns ws = true) := Lib.hid (table_none (by rw [← HT.out]; exact h0))
      have HV : Hid (tvB T = true) := Lib.hid (by rw [HT.out]; exact table_valid HG.out)
      clear h0
      go_wp2_with fail
      refine (sameTokens_same _ _ T _ (by omega) X3.out Y3.out).mono ?_
      rintro e w4 ⟨rfl, b4⟩
      have c4 := Lib.hid (bNext c3 b4)
      have N4 := Lib.hid (N3.out.bl b4); have W4 := Lib.hid (W3.out.bl b4); have X4 := Lib.hid (X3.out.bl b4)
      clear N3 W3 X3 Y3 c3 b4
      go_wp2
      go_loopw [7] (fun i wr => ∃ j : Nat, j ≤ T.length ∧ i = .int .i64 j ∧ Hid (RRow TL wr (.slice a2 T.length q2) T) ∧ Hid (Below w.heap.size w wr)) (fun i _ => T.length - (intOf i).toNat)
      case atStart => exact ⟨0, Nat.zero_le _, rfl, X4, c4⟩
      case round =>
        obtain ⟨j, hj, rfl, XJ, BJ⟩ := hrel
        clear X4 c4 N4 W4
        by_cases hlt : j < T.length
        · have HP : Hid (poN T T[j].1 = T[j].2) := Lib.hid (by
            have hr0 := (tvB_parts HV.out).1 T[j] (List.getElem_mem hlt)
            rw [poN_good HV.out (ptB_of hr0.1)]; exact own_self HV.out hlt)
          have HQ : Hid (plN T T[j].2 = cntT T T[j].2 64) := Lib.hid (by
            have hr0 := (tvB_parts HV.out).1 T[j] (List.getElem_mem hlt)
            exact plN_good HV.out (ptB_of hr0.2))
          have d1 : decide (cntT T T[j].2 64 < 1) = false := decide_eq_false (by have := load_self HV.out hlt; omega)
          obtain ⟨b, off, rfl, hbl, x0, x1⟩ := XJ.out.tok j hlt
          generalize T[j].1 = x at *
          generalize T[j].2 = y at *
          generalize cntT T y 64 = ld at *
          have q1 : (y != y) = false := by simp
          go_wp2_with fail
          have kk0 := And.intro (show wr.drew.cell? _ = _ from x0) (show wr.drew.cell? _ = _ from x1)
          go_region_held3 (fun w' => w'.cell? ⟨b, off + j * 2, none⟩ = some (.int .i64 x) ∧ w'.cell? ⟨b, off + j * 2 + 1, none⟩ = some (.int .i64 y)) (first | with_reducible exact kk0 | with_reducible exact kk5 | with_reducible exact kk6) (first | (go_at_call 17; refine (implPlaceOwner_any _ T x _ (by omega) XJ.out.d1).mono ?_; rw [HP.out]; rintro e w5 ⟨rfl, b5⟩; have kk5 := And.intro ((b5.cell hbl).trans kk0.1) ((b5.cell hbl).trans kk0.2); have X5 := Lib.hid (XJ.out.d1.bl b5); have c5 := bNext (bD1 BJ.out) b5) | (go_at_call 20; refine (implPlaceLoad_any _ T y _ (by omega) X5.out).mono ?_; rw [HQ.out]; rintro e w6 ⟨rfl, b6⟩; have X6 := Lib.hid (X5.out.bl b6); have c6 := Lib.hid (bNext c5 b6); have kk6 := And.intro ((b6.cell (Nat.lt_of_lt_of_le hbl b5.size)).trans kk5.1) ((b6.cell (Nat.lt_of_lt_of_le hbl b5.size)).trans kk5.2)))
          all_goals
            go_wp2
            go_roundw
            case rel => exact ⟨j + 1, by omega, by go_num, X6, c6⟩
            case measure => simp [intOf]; omega
        · obtain rfl : j = T.length := by omega
          go_wp2
          go_ret
          exact ⟨rfl, BJ.out⟩
  · have hl' : decide ((1048576 : Int) < zs.length) = true := decide_eq_true (by omega)
    go_enter Try.func11, Try.ntmps11
    go_wp2
    go_ret
    exact ⟨rfl, Below.refl _ _⟩
end Go.Proofs.Ytfklkkelgpeccaa
