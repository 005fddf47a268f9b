/- The walk of FnCacheLife: the law returns true. -/
import Derived.Test.YtcahemedlmagdaaCpLaws
import Derived.Test.YtcahemedlmagdaaCputI
import Derived.Test.YtcahemedlmagdaaDrawCp
import Derived.Test.YtcahemedlmagdaaEntEq
namespace Go.Proofs.Ytcahemedlmagdaa
open Go.RowKit
set_option linter.unusedVariables false
set_option linter.unusedSimpArgs false

set_option maxRecDepth 100000 in
set_option maxHeartbeats 4000000 in
theorem cacheLife_walk (v : Value) (zs : List Int) (v2 : Value) (zs2 : List Int) (w : World) (hr : RBytes w v zs) (hr2 : RBytes w v2 zs2) :
    Calls Try.prog 7 #[v, v2] w fun e w' => e = .returned (.bool true) ∧ Below w.heap.size w w' := by
  obtain ⟨⟨a, cap, rfl, g1, g2, -⟩, -⟩ := id hr
  have HR := Lib.hid hr; clear hr
  obtain ⟨⟨ab, capb, rfl, g3, g4, -⟩, -⟩ := id hr2
  have HR2 := Lib.hid hr2; clear hr2
  by_cases hl : zs.length ≤ 1048576
  · by_cases hlb : zs2.length ≤ 1048576
    · go_enter Try.func7, Try.ntmps7
      go_wp2_with fail
      refine (drawCachePut_any _ zs _ HR.out hl).mono ?_
      rintro e w1 ⟨u, xs, key, value, now, rfl, o1, hxl, hnow, b1⟩
      obtain ⟨au, capu, rfl, -, -, -⟩ := o1.reads
      have O1 := Lib.hid o1; clear o1
      obtain ⟨T, hT⟩ : ∃ T, T = cpL xs key value now := ⟨_, rfl⟩
      have hTl : T.length ≤ 21 := by rw [hT]; have := cpL_len xs key value now; omega
      have HT := Lib.hid hT
      cases hg : cpG xs key value now with
      | false =>
        have HG := Lib.hid hg; clear hg hT
        go_wp2_with fail
        refine (implCachePut_any _ xs key value now _ (by omega) O1.out.reads).mono ?_
        rw [HG.out, ← HT.out]
        rintro e w2 ⟨u2, rfl, o2, b2⟩
        obtain ⟨a2, q2, rfl, -, -, -⟩ := o2.reads
        have O2 := Lib.hid o2; clear o2
        have c2 := bNext b1 b2
        go_wp2_with fail
        refine (specCachePut_p _ xs key value now _ (by omega) (O1.out.bl b2).reads).mono ?_
        rw [HG.out, ← HT.out]
        rintro e w3 ⟨u3, rfl, o3, b3⟩
        obtain ⟨a3, q3, rfl, -, -, -⟩ := o3.reads
        have O3 := Lib.hid o3; clear o3
        have c3 := bNext c2 b3
        have R2 := Lib.hid (O2.out.bl b3)
        have X1 := Lib.hid ((O1.out.bl b2).bl b3)
        clear O1 O2 b1 b2 b3
        go_wp2_with fail
        refine (sameEntries_same _ _ T _ (by omega) R2.out.reads O3.out.reads).mono ?_
        rintro e w4 ⟨rfl, b4⟩
        have c4 := bNext c3 b4
        go_wp2_with fail
        refine (sameEntries_same _ _ T _ (by omega) (R2.out.bl b4).reads (O3.out.bl b4).reads).mono ?_
        rintro e w5 ⟨rfl, b5⟩
        go_wp2
        go_ret
        exact ⟨rfl, bNext c4 b5⟩
      | true =>
        obtain ⟨k, hk⟩ : ∃ k : Nat, k = zs2.length % 20 := ⟨_, rfl⟩
        have hk20 : k < 20 := by omega
        have mk : ((zs2.length : Int) % 20) = (k : Int) := by omega
        have mk2 : Int.tmod (zs2.length : Int) 20 = (k : Int) := by rw [Int.tmod_eq_emod_of_nonneg (by omega)]; exact mk
        have mw1 : IntKind.i64.wrap (now + (k : Int)) = now + (k : Int) := IntWalk.i64_in _ (by omega)
        have mw3 : IntKind.i64.wrap (now + 10) = now + 10 := IntWalk.i64_in _ (by omega)
        have HTt : ∀ t, Hid (getT T key t = (inB t 0 999 && inB (t - now) 0 10)) := fun t => Lib.hid (by rw [hT, cpL_get hg])
        clear hk
        have HG := Lib.hid hg; clear hg hT
        go_wp2_with fail
        refine (implCachePut_any _ xs key value now _ (by omega) O1.out.reads).mono ?_
        rw [HG.out, ← HT.out]
        rintro e w2 ⟨u2, rfl, o2, b2⟩
        obtain ⟨a2, q2, rfl, -, -, -⟩ := o2.reads
        have O2 := Lib.hid o2; clear o2
        have c2 := bNext b1 b2
        go_wp2_with fail
        refine (specCachePut_p _ xs key value now _ (by omega) (O1.out.bl b2).reads).mono ?_
        rw [HG.out, ← HT.out]
        rintro e w3 ⟨u3, rfl, o3, b3⟩
        obtain ⟨a3, q3, rfl, -, -, -⟩ := o3.reads
        have O3 := Lib.hid o3; clear o3
        have c3 := bNext c2 b3
        have R2 := Lib.hid (O2.out.bl b3)
        have X1 := Lib.hid ((O1.out.bl b2).bl b3)
        clear O1 O2 b1 b2 b3
        go_wp2_with fail
        refine (sameEntries_same _ _ T _ (by omega) R2.out.reads O3.out.reads).mono ?_
        rintro e w4 ⟨rfl, b4⟩
        have c4 := bNext c3 b4
        have R4 := Lib.hid (R2.out.bl b4)
        have X4 := Lib.hid (X1.out.bl b4)
        clear R2 X1 O3
        obtain ⟨t, ht⟩ : ∃ t, t = now + (k : Int) - 4 := ⟨_, rfl⟩
        have HTE := Lib.hid ht
        have mw2 : IntKind.i64.wrap (now + (k : Int) - 4) = t := by rw [IntWalk.i64_in _ (by omega), ht]
        have d3 : decide (t ≤ 999) = true := decide_eq_true (by omega)
        have t0 : 0 ≤ t ∧ t ≤ 999 := by omega
        clear ht
        obtain ⟨N, hN⟩ : ∃ N, N = getN T key t := ⟨_, rfl⟩
        have HN := Lib.hid hN
        clear hN
        by_cases h1 : now ≤ t
        · have d1 : decide (now ≤ t) = true := decide_eq_true h1
          by_cases h2 : t ≤ now + 10
          · have d2 : decide (t ≤ now + 10) = true := decide_eq_true h2
            have HB : Hid (getT T key t = true) := Lib.hid (by rw [(HTt t).out]; simp [inB]; omega)
            clear h1 h2
            go_wp2_with fail
            refine (implCacheGet_any _ T key t _ (by omega) R4.out.reads).mono ?_
            rw [HB.out, ← HN.out]
            rintro e w5 ⟨rfl, b5⟩
            have c5 := bNext c4 b5
            go_wp2
            go_ret
            exact ⟨rfl, c5⟩
          · have d2 : decide (t ≤ now + 10) = false := decide_eq_false h2
            have HB : Hid (getT T key t = false) := Lib.hid (by rw [(HTt t).out]; simp [inB]; omega)
            clear h1 h2
            go_wp2_with fail
            refine (implCacheGet_any _ T key t _ (by omega) R4.out.reads).mono ?_
            rw [HB.out, ← HN.out]
            rintro e w5 ⟨rfl, b5⟩
            have c5 := bNext c4 b5
            go_wp2
            go_ret
            exact ⟨rfl, c5⟩
        · have d1 : decide (now ≤ t) = false := decide_eq_false h1
          have HB : Hid (getT T key t = false) := Lib.hid (by rw [(HTt t).out]; simp [inB]; omega)
          clear h1
          go_wp2_with fail
          refine (implCacheGet_any _ T key t _ (by omega) R4.out.reads).mono ?_
          rw [HB.out, ← HN.out]
          rintro e w5 ⟨rfl, b5⟩
          have c5 := bNext c4 b5
          go_wp2
          go_ret
          exact ⟨rfl, c5⟩
    · have hl' : decide ((1048576 : Int) < zs2.length) = true := decide_eq_true (by omega)
      have hl0 : decide ((1048576 : Int) < zs.length) = false := decide_eq_false (by omega)
      go_enter Try.func7, Try.ntmps7
      go_wp2
      go_ret
      exact ⟨rfl, Below.refl _ _⟩
  · have hl' : decide ((1048576 : Int) < zs.length) = true := decide_eq_true (by omega)
    go_enter Try.func7, Try.ntmps7
    go_wp2
    go_ret
    exact ⟨rfl, Below.refl _ _⟩
end Go.Proofs.Ytcahemedlmagdaa
