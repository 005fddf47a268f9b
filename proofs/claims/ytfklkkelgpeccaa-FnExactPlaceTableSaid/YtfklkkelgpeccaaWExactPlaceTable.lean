/- The walk of FnExactPlaceTable: the law returns true. -/
import Derived.Test.YtfklkkelgpeccaaPtI
import Derived.Test.YtfklkkelgpeccaaTkEq
import Derived.Test.YtfklkkelgpeccaaMemI
import Derived.Test.YtfklkkelgpeccaaToInts
namespace Go.Proofs.Ytfklkkelgpeccaa
open Go.RowKit
set_option linter.unusedVariables false
set_option linter.unusedSimpArgs false

set_option maxRecDepth 100000 in
set_option maxHeartbeats 2000000 in
theorem exactPlaceTable_walk (v0 : Value) (zs0 : List Int) (v1 : Value) (zs1 : List Int) (w : World) (hr0 : RInts w v0 zs0) (hw0 : ∀ n ∈ zs0, (Lit.int .i64 n).wf = true) (hr1 : RInts w v1 zs1) (hw1 : ∀ n ∈ zs1, (Lit.int .i64 n).wf = true) :
    Calls Try.prog 9 #[v0, v1] w fun e w' => e = .returned (.bool true) ∧ Below w.heap.size w w' := by
  obtain ⟨ad0, cap0, rfl, -, -, -⟩ := id hr0
  have HR0 := Lib.hid hr0; clear hr0 hw0
  obtain ⟨ad1, cap1, rfl, -, -, -⟩ := id hr1
  have HR1 := Lib.hid hr1; clear hr1 hw1
  by_cases hl0 : zs0.length ≤ 1048576
  · have hl'0 : decide ((1048576 : Int) < zs0.length) = false := decide_eq_false (by omega)
    by_cases hl1 : zs1.length ≤ 1048576
    · have hl'1 : decide ((1048576 : Int) < zs1.length) = false := decide_eq_false (by omega)
      obtain ⟨T, hT⟩ : ∃ T, T = ptL zs0 zs1 := ⟨_, rfl⟩
      have hTl : T.length ≤ 2200000 := by rw [hT]; exact Nat.le_trans (ptL_len zs0 zs1) (by omega)
      have HT := Lib.hid hT; clear hT
      go_enter Try.func9, Try.ntmps9
      go_wp2_with fail
      have r1 := (HR0.out.bl (Below.refl w.heap.size w))
      refine (toIntS_any _ zs0 _ (by omega) r1).mono ?_
      rintro e w2 ⟨u3, rfl, o4, b5⟩
      have c1 := bNext (Below.refl w.heap.size w) b5
      have s6 := b5.size
      have L7 := Lib.hid o4.lts
      go_wp2_with fail
      have r8 := (HR1.out.bl c1)
      refine (toIntS_any _ zs1 _ (by omega) r8).mono ?_
      rintro e w9 ⟨u10, rfl, o11, b12⟩
      have c2 := bNext c1 b12
      have s13 := b12.size
      have L14 := Lib.hid o11.lts
      go_wp2_with fail
      have r15 := (o4.bl b12)
      refine (specPlaceTable_p _ _ zs0 zs1 _ (by omega) (by omega) r15.reads o11.reads).mono ?_
      rw [← HT.out]
      rintro e w16 ⟨u18, rfl, o19, b17⟩
      have c3 := bNext c2 b17
      have s20 := b17.size
      have L21 := Lib.hid o19.lts
      go_wp2_with fail
      have r22 := (HR0.out.bl c3)
      refine (toIntS_any _ zs0 _ (by omega) r22).mono ?_
      rintro e w23 ⟨u24, rfl, o25, b26⟩
      have c4 := bNext c3 b26
      have s27 := b26.size
      have L28 := Lib.hid o25.lts
      go_wp2_with fail
      have r29 := (HR1.out.bl c4)
      refine (toIntS_any _ zs1 _ (by omega) r29).mono ?_
      rintro e w30 ⟨u31, rfl, o32, b33⟩
      have c5 := bNext c4 b33
      have s34 := b33.size
      have L35 := Lib.hid o32.lts
      go_wp2_with fail
      have r36 := (o25.bl b33)
      refine (implPlaceTable_any _ _ zs0 zs1 _ (by omega) (by omega) r36.reads o32.reads).mono ?_
      rw [← HT.out]
      rintro e w37 ⟨u39, rfl, o40, b38⟩
      have c6 := bNext c5 b38
      have s41 := b38.size
      have L42 := Lib.hid o40.lts
      go_wp2_with fail
      have r44 := (((o19.bl b26).bl b33).bl b38)
      refine (eqTokenS_same _ _ T _ (by omega) o40.reads r44.reads).mono ?_
      rintro e w43 ⟨rfl, b45⟩
      have c7 := bNext c6 b45
      have s46 := b45.size
      go_wp2_with fail
      have r47 := (HR0.out.bl c7)
      refine (toIntS_any _ zs0 _ (by omega) r47).mono ?_
      rintro e w48 ⟨u49, rfl, o50, b51⟩
      have c8 := bNext c7 b51
      have s52 := b51.size
      have L53 := Lib.hid o50.lts
      go_wp2_with fail
      have r55 := (((r36.bl b38).bl b45).bl b51)
      refine (eqIntS_same _ _ zs0 _ (by omega) r55.reads o50.reads).mono ?_
      rintro e w54 ⟨rfl, n56, rfl⟩
      have c9 := bDr c8 n56
      have s57 := sDr w48 n56
      go_wp2_with fail
      have r58 := (HR1.out.bl c9)
      refine (toIntS_any _ zs1 _ (by omega) r58).mono ?_
      rintro e w59 ⟨u60, rfl, o61, b62⟩
      have c10 := bNext c9 b62
      have s63 := b62.size
      have L64 := Lib.hid o61.lts
      go_wp2_with fail
      have r66 := (((((o32.bl b38).bl b45).bl b51).dr n56).bl b62)
      refine (eqIntS_same _ _ zs1 _ (by omega) r66.reads o61.reads).mono ?_
      rintro e w65 ⟨rfl, n67, rfl⟩
      have c11 := bDr c10 n67
      have s68 := sDr w59 n67
      go_wp2_with fail
      have r69 := (((r55.dr n56).bl b62).dr n67)
      refine (markIntS_any _ zs0 (1) _ _ (by omega) (by omega) (by omega) r69.any).mono ?_
      rintro e w70 ⟨rfl, o71, g72⟩
      have c12 := bGr c11 g72 (fun k h => by have e := L28.out k h; omega)
      have s73 := g72.size
      go_wp2_with fail
      have r74 := ((r66.dr n67).gr g72 (ap_of fun k h1 h2 => by have e1 := L35.out k h1; have e2 := L28.out k h2; omega))
      refine (markIntS_any _ zs1 (1 + (zs0.length : Int)) _ _ (by omega) (by omega) (by omega) r74.any).mono ?_
      rintro e w75 ⟨rfl, o76, g77⟩
      have c13 := bGr c12 g77 (fun k h => by have e := L35.out k h; omega)
      have s78 := g77.size
      have d79 : decide (1 + (zs0.length : Int) + (zs1.length : Int) < 0) = false := decide_eq_false (by omega)
      go_wp2_with fail
      have r81 := (((((((o40.bl b45).bl b51).dr n56).bl b62).dr n67).gr g72 (ap_of fun k h1 h2 => by have e1 := L42.out k h1; have e2 := L28.out k h2; omega)).gr g77 (ap_of fun k h1 h2 => by have e1 := L42.out k h1; have e2 := L35.out k h2; omega))
      have r82 := (((((((r44.bl b45).bl b51).dr n56).bl b62).dr n67).gr g72 (ap_of fun k h1 h2 => by have e1 := L21.out k h1; have e2 := L28.out k h2; omega)).gr g77 (ap_of fun k h1 h2 => by have e1 := L21.out k h1; have e2 := L35.out k h2; omega))
      refine (eqTokenS_same _ _ T _ (by omega) r81.reads r82.reads).mono ?_
      rintro e w80 ⟨rfl, b83⟩
      have c14 := bNext c13 b83
      have s84 := b83.size
      go_wp2_with fail
      have r85 := (r81.bl b83)
      refine (markTokenS_any _ T (1) _ _ (by omega) (by omega) (by omega) r85.any).mono ?_
      rintro e w86 ⟨rfl, o87, g88⟩
      have c15 := bGr c14 g88 (fun k h => by have e := L42.out k h; omega)
      have s89 := g88.size
      go_wp2_with fail
      refine (heldTokenS_up _ (1) T.length _ (by omega) (by omega) (by omega) o87.reads).mono ?_
      rintro e w90 ⟨rfl, rfl⟩
      have d91 : decide (1 + 2 * (T.length : Int) < 0) = false := decide_eq_false (by omega)
      go_wp2_with fail
      have r92 := (HR0.out.bl c15)
      refine (toIntS_any _ zs0 _ (by omega) r92).mono ?_
      rintro e w93 ⟨u94, rfl, o95, b96⟩
      have c16 := bNext c15 b96
      have s97 := b96.size
      have L98 := Lib.hid o95.lts
      go_wp2_with fail
      have r99 := (HR1.out.bl c16)
      refine (toIntS_any _ zs1 _ (by omega) r99).mono ?_
      rintro e w100 ⟨u101, rfl, o102, b103⟩
      have c17 := bNext c16 b103
      have s104 := b103.size
      have L105 := Lib.hid o102.lts
      go_wp2_with fail
      have r106 := (o95.bl b103)
      refine (implPlaceTable_any _ _ zs0 zs1 _ (by omega) (by omega) r106.reads o102.reads).mono ?_
      rw [← HT.out]
      rintro e w107 ⟨u109, rfl, o110, b108⟩
      have c18 := bNext c17 b108
      have s111 := b108.size
      have L112 := Lib.hid o110.lts
      go_wp2_with fail
      have r114 := (((((r82.bl b83).gr g88 (ap_of fun k h1 h2 => by have e1 := L21.out k h1; have e2 := L42.out k h2; omega)).bl b96).bl b103).bl b108)
      refine (eqTokenS_same _ _ T _ (by omega) o110.reads r114.reads).mono ?_
      rintro e w113 ⟨rfl, b115⟩
      have c19 := bNext c18 b115
      have s116 := b115.size
      go_wp2_with fail
      have r117 := ((((o87.bl b96).bl b103).bl b108).bl b115)
      refine (heldTokenS_up _ (1) T.length _ (by omega) (by omega) (by omega) r117.reads).mono ?_
      rintro e w118 ⟨rfl, rfl⟩
      have d119 : decide (1 + 2 * (T.length : Int) < 0) = false := decide_eq_false (by omega)
      go_wp2
      go_ret
      exact ⟨rfl, c19⟩
    · have hl' : decide ((1048576 : Int) < zs1.length) = true := decide_eq_true (by omega)
      go_enter Try.func9, Try.ntmps9
      go_wp2
      go_ret
      exact ⟨rfl, (Below.refl w.heap.size w)⟩
  · have hl' : decide ((1048576 : Int) < zs0.length) = true := decide_eq_true (by omega)
    go_enter Try.func9, Try.ntmps9
    go_wp2
    go_ret
    exact ⟨rfl, (Below.refl w.heap.size w)⟩
end Go.Proofs.Ytfklkkelgpeccaa
