/- The walk of FnCacheSweepGet: the law returns true. -/
import Derived.Test.YtldlaklddcekiaaCaLaws
namespace Go.Proofs.Ytldlaklddcekiaa
open Go.RowKit
set_option linter.unusedVariables false
set_option linter.unusedSimpArgs false

set_option maxHeartbeats 2000000 in
theorem cacheSweepGet_walk (v : Value) (zs : List Int) (v2 : Value) (zs2 : List Int) (w : World) (hr : RBytes w v zs) (hr2 : RBytes w v2 zs2) :
    Calls Try.prog 9 #[v, v2] w fun e w' => e = .returned (.bool true) ∧ Below w.heap.size w w' := by
  obtain ⟨⟨a, cap, rfl, g1, g2, -⟩, -⟩ := id hr
  obtain ⟨⟨a2, cap2, rfl, g3, g4, -⟩, -⟩ := id hr2
  have HR := Lib.hid hr; clear hr hr2
  unfold maxLen at g4
  by_cases hl : zs.length ≤ 1048576
  · have hl' : decide ((1048576 : Int) < zs.length) = false := decide_eq_false (by omega)
    by_cases hl2 : zs2.length ≤ 1048576
    · have hl2' : decide ((1048576 : Int) < zs2.length) = false := decide_eq_false (by omega)
      go_enter Try.func9, Try.ntmps9
      go_wp2_with fail
      refine (drawCacheSweep_any _ zs _ HR.out hl).mono ?_
      rintro e w1 ⟨u, xs, now, rfl, o1, hxl, hn, b1⟩
      obtain ⟨au, capu, rfl, -, -, -⟩ := o1.reads
      have O1 := Lib.hid o1; clear o1
      have hnB : inB now 0 999 = true := inB_of (by omega)
      obtain ⟨D, hD⟩ : ∃ D, D = sweepL xs now := ⟨_, rfl⟩
      have hDl : D.length ≤ 20 := by rw [hD]; exact Nat.le_trans (sweepL_len xs now) hxl
      have HD := Lib.hid hD; have HB := Lib.hid hnB; clear hD hnB
      go_wp2_with fail
      refine (implCacheSweep_any _ xs now _ (by omega) O1.out.reads).mono ?_
      rw [← HD.out]
      rintro e w2 ⟨u2, rfl, o2, b2⟩
      obtain ⟨ax, capx, rfl, -, -, -⟩ := o2.reads
      have c2 := bNext b1 b2
      have O2 := Lib.hid o2; clear o2
      go_wp2_with fail
      refine (specCacheSweep_any _ xs now _ (by omega) (O1.out.bl b2).reads).mono ?_
      rw [← HD.out]
      rintro e w3 ⟨u3, rfl, o3, b3⟩
      obtain ⟨ay, capy, rfl, -, -, -⟩ := o3.reads
      have c3 := bNext c2 b3
      have O3 := Lib.hid o3; clear o3
      have O2b := Lib.hid (O2.out.bl b3)
      have O1b := Lib.hid ((O1.out.bl b2).bl b3)
      clear O1 O2
      cases hv : cvB xs with
      | false =>
        have HV := Lib.hid hv; clear hv
        go_wp2_with fail
        refine (sameEntries_same _ _ D _ (by omega) O2b.out.reads O3.out.reads).mono ?_
        rintro e w4 ⟨rfl, b4⟩
        have c4 := bNext c3 b4
        go_wp2_with fail
        refine (specCacheValid_b _ xs _ (by omega) (O1b.out.bl b4).reads).mono ?_
        rw [HV.out]
        rintro e w5 ⟨rfl, b5⟩
        have c5 := bNext c4 b5
        have O2c := Lib.hid ((O2b.out.bl b4).bl b5)
        have O3c := Lib.hid ((O3.out.bl b4).bl b5)
        go_wp2_with fail
        refine (sameEntries_same _ _ D _ (by omega) O2c.out.reads O3c.out.reads).mono ?_
        rintro e w6 ⟨rfl, b6⟩
        have c6 := bNext c5 b6
        go_wp2
        go_ret
        exact ⟨rfl, c6⟩
      | true =>
        have HV := Lib.hid hv; clear hv
        have HE : Hid (∀ key, getT D key now = getT xs key now ∧ getN D key now = getN xs key now) := Lib.hid (fun key => by rw [HD.out]; exact sweep_get HV.out HB.out)
        go_wp2_with fail
        refine (sameEntries_same _ _ D _ (by omega) O2b.out.reads O3.out.reads).mono ?_
        rintro e w4 ⟨rfl, b4⟩
        have c4 := bNext c3 b4
        go_wp2_with fail
        refine (specCacheValid_b _ xs _ (by omega) (O1b.out.bl b4).reads).mono ?_
        rw [HV.out]
        rintro e w5 ⟨rfl, b5⟩
        have c5 := bNext c4 b5
        have O1c := Lib.hid ((O1b.out.bl b4).bl b5)
        have O2c := Lib.hid ((O2b.out.bl b4).bl b5)
        clear O1b O2b O3
        go_wp2_with fail
        refine (implCacheGet_any _ xs _ now _ (by omega) O1c.out.reads).mono ?_
        rintro e w6 ⟨rfl, b6⟩
        have c6 := bNext c5 b6
        have O2d := Lib.hid (O2c.out.bl b6)
        go_wp2_with fail
        refine (implCacheGet_any _ D _ now _ (by omega) O2d.out.reads).mono ?_
        rw [(HE.out _).1, (HE.out _).2]
        rintro e w7 ⟨rfl, b7⟩
        have c7 := bNext c6 b7
        go_wp2
        go_ret
        exact ⟨by simp, c7⟩
    · have hl2' : decide ((1048576 : Int) < zs2.length) = true := decide_eq_true (by omega)
      go_enter Try.func9, Try.ntmps9
      go_wp2
      go_ret
      exact ⟨rfl, Below.refl _ _⟩
  · have hl' : decide ((1048576 : Int) < zs.length) = true := decide_eq_true (by omega)
    go_enter Try.func9, Try.ntmps9
    go_wp2
    go_ret
    exact ⟨rfl, Below.refl _ _⟩
end Go.Proofs.Ytldlaklddcekiaa
