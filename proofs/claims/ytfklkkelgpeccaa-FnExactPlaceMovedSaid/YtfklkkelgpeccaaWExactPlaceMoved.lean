/- The walk of FnExactPlaceMoved: the law returns true. -/
import Derived.Test.YtfklkkelgpeccaaPm
import Derived.Test.YtfklkkelgpeccaaTkEq
import Derived.Test.YtfklkkelgpeccaaMemI
namespace Go.Proofs.Ytfklkkelgpeccaa
open Go.RowKit
set_option linter.unusedVariables false
set_option linter.unusedSimpArgs false

set_option maxRecDepth 100000 in
set_option maxHeartbeats 2000000 in
theorem exactPlaceMoved_walk (v0 : Value) (zs0 : List Tok) (v1 : Value) (zs1 : List Tok) (w : World) (hr0 : RRow TL w v0 zs0) (hw0 : ∀ n ∈ zs0, Tok.wf n) (hr1 : RRow TL w v1 zs1) (hw1 : ∀ n ∈ zs1, Tok.wf n) :
    Calls Try.prog 5 #[v0, v1] w fun e w' => e = .returned (.bool true) ∧ Below w.heap.size w w' := by
  obtain ⟨ad0, cap0, rfl, -, -, -⟩ := id hr0
  have HR0 := Lib.hid hr0; clear hr0 hw0
  obtain ⟨ad1, cap1, rfl, -, -, -⟩ := id hr1
  have HR1 := Lib.hid hr1; clear hr1 hw1
  by_cases hl0 : (zs0.length : Int) ≤ 1048576
  · have hL0 : zs0.length ≤ 1048576 := by omega
    by_cases hl1 : (zs1.length : Int) ≤ 1048576 - (zs0.length : Int)
    · have hL1 : zs1.length ≤ 1048576 := by omega
      obtain ⟨T, hT⟩ : ∃ T, T = mvL zs0 zs1 := ⟨_, rfl⟩
      have hTl : T.length ≤ 2200000 := by rw [hT]; exact Nat.le_trans (mvL_len zs0 zs1) (by omega)
      have HT := Lib.hid hT; clear hT
      go_enter Try.func5, Try.ntmps5
      go_wp2_with fail
      have r1 := (HR0.out.bl (Below.refl w.heap.size w))
      refine (szTokenS_any _ (1048576) zs0 _ (by omega) (by omega) r1).mono ?_
      rw [if_neg (by omega)]
      rintro e w2 ⟨rfl, rfl⟩
      have d4 : decide (1048576 - (zs0.length : Int) < 0) = false := decide_eq_false (by omega)
      go_wp2_with fail
      have r5 := (HR1.out.bl (Below.refl w.heap.size w))
      refine (szTokenS_any _ (1048576 - (zs0.length : Int)) zs1 _ (by omega) (by omega) r5).mono ?_
      rw [if_neg (by omega)]
      rintro e w6 ⟨rfl, rfl⟩
      have d8 : decide (1048576 - (zs0.length : Int) - (zs1.length : Int) < 0) = false := decide_eq_false (by omega)
      go_wp2_with fail
      refine (toTokenS_any _ zs0 _ (by omega) r1).mono ?_
      rintro e w9 ⟨u10, rfl, o11, b12⟩
      have c1 := bNext (Below.refl w.heap.size w) b12
      have s13 := b12.size
      have L14 := Lib.hid o11.lts
      go_wp2_with fail
      have r15 := (HR1.out.bl c1)
      refine (toTokenS_any _ zs1 _ (by omega) r15).mono ?_
      rintro e w16 ⟨u17, rfl, o18, b19⟩
      have c2 := bNext c1 b19
      have s20 := b19.size
      have L21 := Lib.hid o18.lts
      go_wp2_with fail
      have r22 := (o11.bl b19)
      refine (specPlaceMoved_any _ _ zs0 zs1 _ (by omega) (by omega) r22.reads o18.reads).mono ?_
      rw [← HT.out]
      rintro e w23 ⟨u25, rfl, o26, b24⟩
      have c3 := bNext c2 b24
      have s27 := b24.size
      have L28 := Lib.hid o26.lts
      go_wp2_with fail
      have r29 := (HR0.out.bl c3)
      refine (toTokenS_any _ zs0 _ (by omega) r29).mono ?_
      rintro e w30 ⟨u31, rfl, o32, b33⟩
      have c4 := bNext c3 b33
      have s34 := b33.size
      have L35 := Lib.hid o32.lts
      go_wp2_with fail
      have r36 := (HR1.out.bl c4)
      refine (toTokenS_any _ zs1 _ (by omega) r36).mono ?_
      rintro e w37 ⟨u38, rfl, o39, b40⟩
      have c5 := bNext c4 b40
      have s41 := b40.size
      have L42 := Lib.hid o39.lts
      go_wp2_with fail
      have r43 := (o32.bl b40)
      refine (implPlaceMoved_any _ _ zs0 zs1 _ (by omega) (by omega) r43.reads o39.reads).mono ?_
      rw [← HT.out]
      rintro e w44 ⟨u46, rfl, o47, b45⟩
      have c6 := bNext c5 b45
      have s48 := b45.size
      have L49 := Lib.hid o47.lts
      go_wp2_with fail
      have r51 := (((o26.bl b33).bl b40).bl b45)
      refine (eqIntS_same _ _ T _ (by omega) o47.reads r51.reads).mono ?_
      rintro e w50 ⟨rfl, n52, rfl⟩
      have c7 := bDr c6 n52
      have s53 := sDr w44 n52
      go_wp2_with fail
      have r54 := (HR0.out.bl c7)
      refine (toTokenS_any _ zs0 _ (by omega) r54).mono ?_
      rintro e w55 ⟨u56, rfl, o57, b58⟩
      have c8 := bNext c7 b58
      have s59 := b58.size
      have L60 := Lib.hid o57.lts
      go_wp2_with fail
      have r62 := (((r43.bl b45).dr n52).bl b58)
      refine (eqTokenS_same _ _ zs0 _ (by omega) r62.reads o57.reads).mono ?_
      rintro e w61 ⟨rfl, b63⟩
      have c9 := bNext c8 b63
      have s64 := b63.size
      go_wp2_with fail
      have r65 := (HR1.out.bl c9)
      refine (toTokenS_any _ zs1 _ (by omega) r65).mono ?_
      rintro e w66 ⟨u67, rfl, o68, b69⟩
      have c10 := bNext c9 b69
      have s70 := b69.size
      have L71 := Lib.hid o68.lts
      go_wp2_with fail
      have r73 := (((((o39.bl b45).dr n52).bl b58).bl b63).bl b69)
      refine (eqTokenS_same _ _ zs1 _ (by omega) r73.reads o68.reads).mono ?_
      rintro e w72 ⟨rfl, b74⟩
      have c11 := bNext c10 b74
      have s75 := b74.size
      go_wp2_with fail
      have r76 := (((r62.bl b63).bl b69).bl b74)
      refine (markTokenS_any _ zs0 (1) _ _ (by omega) (by omega) (by omega) r76.any).mono ?_
      rintro e w77 ⟨rfl, o78, g79⟩
      have c12 := bGr c11 g79 (fun k h => by have e := L35.out k h; omega)
      have s80 := g79.size
      go_wp2_with fail
      have r81 := ((r73.bl b74).gr g79 (ap_of fun k h1 h2 => by have e1 := L42.out k h1; have e2 := L35.out k h2; omega))
      refine (markTokenS_any _ zs1 (1 + 2 * (zs0.length : Int)) _ _ (by omega) (by omega) (by omega) r81.any).mono ?_
      rintro e w82 ⟨rfl, o83, g84⟩
      have c13 := bGr c12 g84 (fun k h => by have e := L42.out k h; omega)
      have s85 := g84.size
      have d86 : decide (1 + 2 * (zs0.length : Int) + 2 * (zs1.length : Int) < 0) = false := decide_eq_false (by omega)
      go_wp2_with fail
      have r88 := (((((((o47.dr n52).bl b58).bl b63).bl b69).bl b74).gr g79 (ap_of fun k h1 h2 => by have e1 := L49.out k h1; have e2 := L35.out k h2; omega)).gr g84 (ap_of fun k h1 h2 => by have e1 := L49.out k h1; have e2 := L42.out k h2; omega))
      have r89 := (((((((r51.dr n52).bl b58).bl b63).bl b69).bl b74).gr g79 (ap_of fun k h1 h2 => by have e1 := L28.out k h1; have e2 := L35.out k h2; omega)).gr g84 (ap_of fun k h1 h2 => by have e1 := L28.out k h1; have e2 := L42.out k h2; omega))
      refine (eqIntS_same _ _ T _ (by omega) r88.reads r89.reads).mono ?_
      rintro e w87 ⟨rfl, n90, rfl⟩
      have c14 := bDr c13 n90
      have s91 := sDr w82 n90
      go_wp2_with fail
      have r92 := (r88.dr n90)
      refine (markIntS_any _ T (1) _ _ (by omega) (by omega) (by omega) r92.any).mono ?_
      rintro e w93 ⟨rfl, o94, g95⟩
      have c15 := bGr c14 g95 (fun k h => by have e := L49.out k h; omega)
      have s96 := g95.size
      go_wp2_with fail
      refine (heldIntS_up _ (1) T.length _ (by omega) (by omega) (by omega) o94.reads).mono ?_
      rintro e w97 ⟨rfl, rfl⟩
      have d98 : decide (1 + (T.length : Int) < 0) = false := decide_eq_false (by omega)
      go_wp2_with fail
      have r99 := (HR0.out.bl c15)
      refine (toTokenS_any _ zs0 _ (by omega) r99).mono ?_
      rintro e w100 ⟨u101, rfl, o102, b103⟩
      have c16 := bNext c15 b103
      have s104 := b103.size
      have L105 := Lib.hid o102.lts
      go_wp2_with fail
      have r106 := (HR1.out.bl c16)
      refine (toTokenS_any _ zs1 _ (by omega) r106).mono ?_
      rintro e w107 ⟨u108, rfl, o109, b110⟩
      have c17 := bNext c16 b110
      have s111 := b110.size
      have L112 := Lib.hid o109.lts
      go_wp2_with fail
      have r113 := (o102.bl b110)
      refine (implPlaceMoved_any _ _ zs0 zs1 _ (by omega) (by omega) r113.reads o109.reads).mono ?_
      rw [← HT.out]
      rintro e w114 ⟨u116, rfl, o117, b115⟩
      have c18 := bNext c17 b115
      have s118 := b115.size
      have L119 := Lib.hid o117.lts
      go_wp2_with fail
      have r121 := (((((r89.dr n90).gr g95 (ap_of fun k h1 h2 => by have e1 := L28.out k h1; have e2 := L49.out k h2; omega)).bl b103).bl b110).bl b115)
      refine (eqIntS_same _ _ T _ (by omega) o117.reads r121.reads).mono ?_
      rintro e w120 ⟨rfl, n122, rfl⟩
      have c19 := bDr c18 n122
      have s123 := sDr w114 n122
      go_wp2_with fail
      have r124 := ((((o94.bl b103).bl b110).bl b115).dr n122)
      refine (heldIntS_up _ (1) T.length _ (by omega) (by omega) (by omega) r124.reads).mono ?_
      rintro e w125 ⟨rfl, rfl⟩
      have d126 : decide (1 + (T.length : Int) < 0) = false := decide_eq_false (by omega)
      go_wp2
      go_ret
      exact ⟨rfl, c19⟩
    · go_enter Try.func5, Try.ntmps5
      go_wp2_with fail
      have r1 := (HR0.out.bl (Below.refl w.heap.size w))
      refine (szTokenS_any _ (1048576) zs0 _ (by omega) (by omega) r1).mono ?_
      rw [if_neg (by omega)]
      rintro e w2 ⟨rfl, rfl⟩
      have d4 : decide (1048576 - (zs0.length : Int) < 0) = false := decide_eq_false (by omega)
      go_wp2_with fail
      have r5 := (HR1.out.bl (Below.refl w.heap.size w))
      refine (szTokenS_any _ (1048576 - (zs0.length : Int)) zs1 _ (by omega) (by omega) r5).mono ?_
      rw [if_pos (by omega)]
      rintro e w6 ⟨rfl, rfl⟩
      go_wp2
      go_ret
      exact ⟨rfl, (Below.refl w.heap.size w)⟩
  · go_enter Try.func5, Try.ntmps5
    go_wp2_with fail
    have r1 := (HR0.out.bl (Below.refl w.heap.size w))
    refine (szTokenS_any _ (1048576) zs0 _ (by omega) (by omega) r1).mono ?_
    rw [if_pos (by omega)]
    rintro e w2 ⟨rfl, rfl⟩
    go_wp2
    go_ret
    exact ⟨rfl, (Below.refl w.heap.size w)⟩
end Go.Proofs.Ytfklkkelgpeccaa
