/- The walk of FnExactPlaceLoad: the law returns true. -/
import Derived.Test.YtfklkkelgpeccaaPl
import Derived.Test.YtfklkkelgpeccaaTkEq
namespace Go.Proofs.Ytfklkkelgpeccaa
open Go.RowKit
set_option linter.unusedVariables false
set_option linter.unusedSimpArgs false

set_option maxRecDepth 100000 in
set_option maxHeartbeats 2000000 in
theorem exactPlaceLoad_walk (v0 : Value) (zs0 : List Tok) (a1 : Int) (w : World) (hr0 : RRow TL w v0 zs0) (hw0 : ∀ n ∈ zs0, Tok.wf n) (ha1 : -9223372036854775808 ≤ a1) (hb1 : a1 ≤ 9223372036854775807) :
    Calls Try.prog 4 #[v0, .int .i64 a1] w fun e w' => e = .returned (.bool true) ∧ Below w.heap.size w w' := by
  obtain ⟨ad0, cap0, rfl, -, -, -⟩ := id hr0
  have HR0 := Lib.hid hr0; clear hr0 hw0
  by_cases hl0 : (zs0.length : Int) ≤ 1048576
  · have hL0 : zs0.length ≤ 1048576 := by omega
    obtain ⟨N, hN⟩ : ∃ N, N = plN zs0 a1 := ⟨_, rfl⟩
    have HN := Lib.hid hN; clear hN
    go_enter Try.func4, Try.ntmps4
    go_wp2_with fail
    have r1 := (HR0.out.bl (Below.refl w.heap.size w))
    refine (szTokenS_any _ (1048576) zs0 _ (by omega) (by omega) r1).mono ?_
    rw [if_neg (by omega)]
    rintro e w2 ⟨rfl, rfl⟩
    have d4 : decide (1048576 - (zs0.length : Int) < 0) = false := decide_eq_false (by omega)
    go_wp2_with fail
    refine (toTokenS_any _ zs0 _ (by omega) r1).mono ?_
    rintro e w5 ⟨u6, rfl, o7, b8⟩
    have c1 := bNext (Below.refl w.heap.size w) b8
    have s9 := b8.size
    have L10 := Lib.hid o7.lts
    go_wp2_with fail
    refine (specPlaceLoad_any _ zs0 a1 _ (by omega) o7.reads).mono ?_
    rw [← HN.out]
    rintro e w11 ⟨rfl, b12⟩
    have c2 := bNext c1 b12
    have s13 := b12.size
    go_wp2_with fail
    have r14 := (HR0.out.bl c2)
    refine (toTokenS_any _ zs0 _ (by omega) r14).mono ?_
    rintro e w15 ⟨u16, rfl, o17, b18⟩
    have c3 := bNext c2 b18
    have s19 := b18.size
    have L20 := Lib.hid o17.lts
    go_wp2_with fail
    refine (implPlaceLoad_any _ zs0 a1 _ (by omega) o17.reads).mono ?_
    rw [← HN.out]
    rintro e w21 ⟨rfl, b22⟩
    have c4 := bNext c3 b22
    have s23 := b22.size
    go_wp2_with fail
    have r24 := (HR0.out.bl c4)
    refine (toTokenS_any _ zs0 _ (by omega) r24).mono ?_
    rintro e w25 ⟨u26, rfl, o27, b28⟩
    have c5 := bNext c4 b28
    have s29 := b28.size
    have L30 := Lib.hid o27.lts
    go_wp2_with fail
    have r32 := ((o17.bl b22).bl b28)
    refine (eqTokenS_same _ _ zs0 _ (by omega) r32.reads o27.reads).mono ?_
    rintro e w31 ⟨rfl, b33⟩
    have c6 := bNext c5 b33
    have s34 := b33.size
    go_wp2
    go_ret
    exact ⟨rfl, c6⟩
  · go_enter Try.func4, Try.ntmps4
    go_wp2_with fail
    have r1 := (HR0.out.bl (Below.refl w.heap.size w))
    refine (szTokenS_any _ (1048576) zs0 _ (by omega) (by omega) r1).mono ?_
    rw [if_pos (by omega)]
    rintro e w2 ⟨rfl, rfl⟩
    go_wp2
    go_ret
    exact ⟨rfl, (Below.refl w.heap.size w)⟩
end Go.Proofs.Ytfklkkelgpeccaa
