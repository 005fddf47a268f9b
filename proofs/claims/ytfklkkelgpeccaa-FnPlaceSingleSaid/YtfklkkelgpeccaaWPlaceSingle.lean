/- The walk of FnPlaceSingle: the law returns true. -/
import Derived.Test.YtfklkkelgpeccaaPlLaws2
import Derived.Test.YtfklkkelgpeccaaDrawPl3
import Derived.Test.YtfklkkelgpeccaaTkEq
import Derived.Test.YtfklkkelgpeccaaPtI
namespace Go.Proofs.Ytfklkkelgpeccaa
open Go.RowKit
set_option linter.unusedVariables false
set_option linter.unusedSimpArgs false

set_option maxRecDepth 100000 in
set_option maxHeartbeats 4000000 in
theorem placeSingle_walk (v : Value) (zs : List Int) (w : World) (hr : RBytes w v zs) :
    Calls Try.prog 12 #[v] w fun e w' => e = .returned (.bool true) ∧ Below w.heap.size w w' := by
  obtain ⟨⟨a, cap, rfl, g1, g2, -⟩, -⟩ := id hr
  have HR := Lib.hid hr; clear hr
  by_cases hl : zs.length ≤ 1048576
  · go_enter Try.func12, Try.ntmps12
    go_wp2_with fail
    refine (drawPlaceTable_any _ zs _ HR.out hl).mono ?_
    rintro e w1 ⟨u, x, ns, ws, rfl, o1, p1, hnl, hwl, b1⟩
    have O1 := Lib.hid o1.li; have P1 := Lib.hid p1.li; clear o1 p1
    obtain ⟨an, capn, rfl, -, -, -⟩ := O1.out.reads
    obtain ⟨aw, capw, rfl, -, -, -⟩ := P1.out.reads
    obtain ⟨T, hT⟩ : ∃ T, T = ptL ns ws := ⟨_, rfl⟩
    have hTl : T.length ≤ 64 := by rw [hT]; exact ptL_len ns ws
    have HT := Lib.hid hT; clear hT
    go_wp2_with fail
    refine (implPlaceTable_any _ _ ns ws _ (by omega) (by omega) O1.out.reads P1.out.reads).mono ?_
    rw [← HT.out]
    rintro e w2 ⟨u2, rfl, o2, b2⟩
    obtain ⟨a2, q2, rfl, -, -, -⟩ := o2.reads
    have c2 := bNext b1 b2
    go_wp2_with fail
    refine (specPlaceTable_p _ _ ns ws _ (by omega) (by omega) (O1.out.bl b2).reads (P1.out.bl b2).reads).mono ?_
    rw [← HT.out]
    rintro e w3 ⟨u3, rfl, o3, b3⟩
    obtain ⟨a3, q3, rfl, -, -, -⟩ := o3.reads
    have c3 := bNext c2 b3
    have N3 := Lib.hid ((O1.out.bl b2).bl b3).reads; have W3 := Lib.hid ((P1.out.bl b2).bl b3).reads; have X3 := Lib.hid (o2.bl b3).reads; have Y3 := Lib.hid o3.reads
    clear O1 P1 o2 o3 b1 b2 b3 c2
    by_cases h0 : T.length = 0
    · have q0 : ((T.length : Int) == 0) = true := by simp [h0]
      clear h0
      go_wp2_with fail
      refine (sameTokens_same _ _ T _ (by omega) X3.out Y3.out).mono ?_
      rintro e w4 ⟨rfl, b4⟩
      have c4 := bNext c3 b4
      go_wp2_with fail
      refine (sameTokens_same _ _ T _ (by omega) (X3.out.bl b4) (Y3.out.bl b4)).mono ?_
      rintro e w5 ⟨rfl, b5⟩
      have c5 := bNext c4 b5
      go_wp2
      go_ret
      exact ⟨rfl, c5⟩
    · have q0 : ((T.length : Int) == 0) = false := by simpa using h0
      have HG : Hid (ptG ns ws = true) := Lib.hid (table_none (by rw [← HT.out]; exact h0))
      have HV : Hid (tvB T = true) := Lib.hid (by rw [HT.out]; exact table_valid HG.out)
      clear h0
      go_wp2_with fail
      refine (sameTokens_same _ _ T _ (by omega) X3.out Y3.out).mono ?_
      rintro e w4 ⟨rfl, b4⟩
      have c4 := Lib.hid (bNext c3 b4)
      have N4 := Lib.hid (N3.out.bl b4); have W4 := Lib.hid (W3.out.bl b4); have X4 := Lib.hid (X3.out.bl b4)
      clear N3 W3 X3 Y3 c3 b4
      obtain ⟨n, wt, hn, hw, hn0, hg1⟩ := single_good HG.out
      obtain ⟨hnl0, hn00⟩ := List.getElem?_eq_some_iff.1 hn0
      have hwl0 : 0 < ws.length := by
        have := congrArg List.length hw; simp at this; omega
      have RN : Hid (RInts w4 (.slice an 1 capn) [n]) := Lib.hid (by
        have h := N4.out.take (k := 1) (by omega)
        rw [hn] at h; exact h)
      have RW : Hid (RInts w4 (.slice aw 1 capw) [wt]) := Lib.hid (by
        have h := W4.out.take (k := 1) (by omega)
        rw [hw] at h; exact h)
      have hcn : 1 ≤ capn := by have := N4.out; obtain ⟨_, _, e, h1, -, -⟩ := this; cases e; omega
      have hcw : 1 ≤ capw := by have := W4.out; obtain ⟨_, _, e, h1, -, -⟩ := this; cases e; omega
      obtain ⟨bn, off, han, hbn, k0⟩ : ∃ b off, an = some ⟨b, off, none⟩ ∧ b < w4.heap.size ∧ w4.cell? ⟨b, off, none⟩ = some (.int .i64 n) := by
        obtain ⟨_, _, e, -, -, hc⟩ := N4.out
        cases e
        obtain ⟨b, off, ha, hb, hx⟩ := hc 0 hnl0
        rw [hn00] at hx
        exact ⟨b, off, ha, hb, hx⟩
      subst han
      obtain ⟨U, hU⟩ : ∃ U, U = ptL [n] [wt] := ⟨_, rfl⟩
      have hUl : U.length ≤ 64 := by rw [hU]; exact ptL_len _ _
      have HU := Lib.hid hU
      have hUV : tvB U = true := by rw [hU]; exact table_valid hg1
      have hUO : ∀ c, ownT U c = n := fun c => by rw [hU]; exact single_own hg1 c
      have hnp : ptB n = true := ptB_of (by have := ownT_range hUV 0; rw [hUO] at this; exact this)
      have HL : Hid (plN U n = 64) := Lib.hid ((plN_good hUV hnp).trans (cnt_all hUO 64))
      have HM : Hid (mvL U U = []) := Lib.hid ((mv_good hUV hUV).trans (mv_none U 64))
      have f1 : (1 : Int) ≤ (capn : Int) := by omega
      have f2 : (1 : Int) ≤ (capw : Int) := by omega
      clear hn hw hn0 hg1 hn00 hU hUV hUO hnp N4 W4 X4 HG HV
      go_wp2_with fail
      go_region_held3 (fun _ => True) (trivial) ((go_at_call 34; refine (implPlaceTable_any _ _ [n] [wt] _ (by simp) (by simp) RN.out.d1 RW.out.d1).mono ?_; rw [← HU.out]; rintro e w5 ⟨u5, rfl, o5, b5⟩; obtain ⟨a5, q5, rfl, -, -, -⟩ := o5.reads; have c5 := Lib.hid (bNext (bD1 c4.out) b5); have O5 := Lib.hid o5.reads; have k5 := (b5.cell hbn).trans (show w4.drew.cell? _ = _ from k0)))
      all_goals
        go_wp2_with fail
        refine (implPlaceLoad_any _ U n _ (by omega) O5.out).mono ?_
        rw [HL.out]
        rintro e w6 ⟨rfl, b6⟩
        have c6 := Lib.hid (bNext c5.out b6)
        have O6 := Lib.hid (O5.out.bl b6)
        clear O5 c5 b6
        go_wp2_with fail
        refine (implPlaceMoved_any _ _ U U _ (by omega) (by omega) O6.out O6.out).mono ?_
        rw [HM.out]
        rintro e w7 ⟨u7, rfl, o7, b7⟩
        obtain ⟨a7, q7, rfl, -, -, -⟩ := o7.reads
        have c7 := bNext c6.out b7
        go_wp2
        go_ret
        exact ⟨rfl, c7⟩
  · have hl' : decide ((1048576 : Int) < zs.length) = true := decide_eq_true (by omega)
    go_enter Try.func12, Try.ntmps12
    go_wp2
    go_ret
    exact ⟨rfl, Below.refl _ _⟩
end Go.Proofs.Ytfklkkelgpeccaa
