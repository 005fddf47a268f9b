/- The walk of FnExactCachePut: the law returns true. -/
import Derived.Test.YtcahemedlmagdaaCputI
import Derived.Test.YtcahemedlmagdaaEntEq
namespace Go.Proofs.Ytcahemedlmagdaa
open Go.RowKit
set_option linter.unusedVariables false
set_option linter.unusedSimpArgs false

set_option maxRecDepth 100000 in
set_option maxHeartbeats 2000000 in
theorem exactCachePut_walk (v0 : Value) (zs0 : List Ent) (a1 : Int) (a2 : Int) (a3 : Int) (w : World) (hr0 : RRow EL w v0 zs0) (hw0 : ∀ n ∈ zs0, Ent.wf n) (ha1 : -9223372036854775808 ≤ a1) (hb1 : a1 ≤ 9223372036854775807) (ha2 : -9223372036854775808 ≤ a2) (hb2 : a2 ≤ 9223372036854775807) (ha3 : -9223372036854775808 ≤ a3) (hb3 : a3 ≤ 9223372036854775807) :
    Calls Try.prog 5 #[v0, .int .i64 a1, .int .i64 a2, .int .i64 a3] w fun e w' => e = .returned (.bool true) ∧ Below w.heap.size w w' := by
  obtain ⟨ad0, cap0, rfl, -, -, -⟩ := id hr0
  have HR0 := Lib.hid hr0; clear hr0 hw0
  by_cases hl0 : (zs0.length : Int) ≤ 1048576
  · have hL0 : zs0.length ≤ 1048576 := by omega
    obtain ⟨T, hT⟩ : ∃ T, T = cpL zs0 a1 a2 a3 := ⟨_, rfl⟩
    have hTl : T.length ≤ 2200000 := by rw [hT]; exact Nat.le_trans (cpL_len zs0 a1 a2 a3) (by omega)
    have HT := Lib.hid hT; clear hT
    obtain ⟨ok, hok⟩ : ∃ ok, ok = cpG zs0 a1 a2 a3 := ⟨_, rfl⟩
    have Hok := Lib.hid hok; clear hok
    go_enter Try.func5, Try.ntmps5
    go_wp2_with fail
    have r1 := (HR0.out.bl (Below.refl w.heap.size w))
    refine (szEntryS_any _ (1048576) zs0 _ (by omega) (by omega) r1).mono ?_
    rw [if_neg (by omega)]
    rintro e w2 ⟨rfl, rfl⟩
    have d4 : decide (1048576 - (zs0.length : Int) < 0) = false := decide_eq_false (by omega)
    go_wp2_with fail
    refine (toEntryS_any _ zs0 _ (by omega) r1).mono ?_
    rintro e w5 ⟨u6, rfl, o7, b8⟩
    have c1 := bNext (Below.refl w.heap.size w) b8
    have s9 := b8.size
    have L10 := Lib.hid o7.lts
    go_wp2_with fail
    refine (specCachePut_p _ zs0 a1 a2 a3 _ (by omega) o7.reads).mono ?_
    rw [← HT.out, ← Hok.out]
    rintro e w11 ⟨u13, rfl, o14, b12⟩
    have c2 := bNext c1 b12
    have s15 := b12.size
    have L16 := Lib.hid o14.lts
    go_wp2_with fail
    have r17 := (HR0.out.bl c2)
    refine (toEntryS_any _ zs0 _ (by omega) r17).mono ?_
    rintro e w18 ⟨u19, rfl, o20, b21⟩
    have c3 := bNext c2 b21
    have s22 := b21.size
    have L23 := Lib.hid o20.lts
    go_wp2_with fail
    refine (implCachePut_any _ zs0 a1 a2 a3 _ (by omega) o20.reads).mono ?_
    rw [← HT.out, ← Hok.out]
    rintro e w24 ⟨u26, rfl, o27, b25⟩
    have c4 := bNext c3 b25
    have s28 := b25.size
    have L29 := Lib.hid o27.lts
    go_wp2_with fail
    have r31 := ((o14.bl b21).bl b25)
    refine (eqEntryS_same _ _ T _ (by omega) o27.reads r31.reads).mono ?_
    rintro e w30 ⟨rfl, b32⟩
    have c5 := bNext c4 b32
    have s33 := b32.size
    go_wp2_with fail
    have r34 := (HR0.out.bl c5)
    refine (toEntryS_any _ zs0 _ (by omega) r34).mono ?_
    rintro e w35 ⟨u36, rfl, o37, b38⟩
    have c6 := bNext c5 b38
    have s39 := b38.size
    have L40 := Lib.hid o37.lts
    go_wp2_with fail
    have r42 := (((o20.bl b25).bl b32).bl b38)
    refine (eqEntryS_same _ _ zs0 _ (by omega) r42.reads o37.reads).mono ?_
    rintro e w41 ⟨rfl, b43⟩
    have c7 := bNext c6 b43
    have s44 := b43.size
    go_wp2_with fail
    have r45 := (r42.bl b43)
    refine (markEntryS_any _ zs0 (1) _ _ (by omega) (by omega) (by omega) r45.any).mono ?_
    rintro e w46 ⟨rfl, o47, g48⟩
    have c8 := bGr c7 g48 (fun k h => by have e := L23.out k h; omega)
    have s49 := g48.size
    have d50 : decide (1 + 3 * (zs0.length : Int) < 0) = false := decide_eq_false (by omega)
    go_wp2_with fail
    have r52 := ((((o27.bl b32).bl b38).bl b43).gr g48 (ap_of fun k h1 h2 => by have e1 := L29.out k h1; have e2 := L23.out k h2; omega))
    have r53 := ((((r31.bl b32).bl b38).bl b43).gr g48 (ap_of fun k h1 h2 => by have e1 := L16.out k h1; have e2 := L23.out k h2; omega))
    refine (eqEntryS_same _ _ T _ (by omega) r52.reads r53.reads).mono ?_
    rintro e w51 ⟨rfl, b54⟩
    have c9 := bNext c8 b54
    have s55 := b54.size
    go_wp2_with fail
    have r56 := (r52.bl b54)
    refine (markEntryS_any _ T (1) _ _ (by omega) (by omega) (by omega) r56.any).mono ?_
    rintro e w57 ⟨rfl, o58, g59⟩
    have c10 := bGr c9 g59 (fun k h => by have e := L29.out k h; omega)
    have s60 := g59.size
    go_wp2_with fail
    refine (heldEntryS_up _ (1) T.length _ (by omega) (by omega) (by omega) o58.reads).mono ?_
    rintro e w61 ⟨rfl, rfl⟩
    have d62 : decide (1 + 3 * (T.length : Int) < 0) = false := decide_eq_false (by omega)
    go_wp2_with fail
    have r63 := (HR0.out.bl c10)
    refine (toEntryS_any _ zs0 _ (by omega) r63).mono ?_
    rintro e w64 ⟨u65, rfl, o66, b67⟩
    have c11 := bNext c10 b67
    have s68 := b67.size
    have L69 := Lib.hid o66.lts
    go_wp2_with fail
    refine (implCachePut_any _ zs0 a1 a2 a3 _ (by omega) o66.reads).mono ?_
    rw [← HT.out, ← Hok.out]
    rintro e w70 ⟨u72, rfl, o73, b71⟩
    have c12 := bNext c11 b71
    have s74 := b71.size
    have L75 := Lib.hid o73.lts
    go_wp2_with fail
    have r77 := ((((r53.bl b54).gr g59 (ap_of fun k h1 h2 => by have e1 := L16.out k h1; have e2 := L29.out k h2; omega)).bl b67).bl b71)
    refine (eqEntryS_same _ _ T _ (by omega) o73.reads r77.reads).mono ?_
    rintro e w76 ⟨rfl, b78⟩
    have c13 := bNext c12 b78
    have s79 := b78.size
    go_wp2_with fail
    have r80 := (((o58.bl b67).bl b71).bl b78)
    refine (heldEntryS_up _ (1) T.length _ (by omega) (by omega) (by omega) r80.reads).mono ?_
    rintro e w81 ⟨rfl, rfl⟩
    have d82 : decide (1 + 3 * (T.length : Int) < 0) = false := decide_eq_false (by omega)
    go_wp2
    go_ret
    exact ⟨rfl, c13⟩
  · go_enter Try.func5, Try.ntmps5
    go_wp2_with fail
    have r1 := (HR0.out.bl (Below.refl w.heap.size w))
    refine (szEntryS_any _ (1048576) zs0 _ (by omega) (by omega) r1).mono ?_
    rw [if_pos (by omega)]
    rintro e w2 ⟨rfl, rfl⟩
    go_wp2
    go_ret
    exact ⟨rfl, (Below.refl w.heap.size w)⟩
end Go.Proofs.Ytcahemedlmagdaa
