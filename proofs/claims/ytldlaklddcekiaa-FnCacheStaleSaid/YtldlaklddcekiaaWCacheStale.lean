/- The walk of FnCacheStale: the law returns true. -/
import Derived.Test.YtldlaklddcekiaaCaLaws
namespace Go.Proofs.Ytldlaklddcekiaa
open Go.RowKit
set_option linter.unusedVariables false
set_option linter.unusedSimpArgs false

set_option maxHeartbeats 1000000 in
theorem cacheStale_walk (v : Value) (zs : List Int) (w : World) (hr : RBytes w v zs) :
    Calls Try.prog 7 #[v] w fun e w' => e = .returned (.bool true) ∧ Below w.heap.size w w' := by
  obtain ⟨⟨a, cap, rfl, g1, g2, -⟩, -⟩ := id hr
  have HR := Lib.hid hr; clear hr
  by_cases hl : zs.length ≤ 1048576
  · go_enter Try.func7, Try.ntmps7
    go_wp2_with fail
    refine (drawCacheGet_any _ zs _ HR.out hl).mono ?_
    rintro e w1 ⟨u, xs, key, now, rfl, o1, hxl, hk, hn, b1⟩
    obtain ⟨au, capu, rfl, -, -, -⟩ := o1.reads
    have O1 := Lib.hid o1; clear o1
    obtain ⟨N, hN⟩ : ∃ N, N = getN xs key now := ⟨_, rfl⟩
    cases ht : getT xs key now with
    | false =>
      have HT := Lib.hid ht; have HN := Lib.hid hN; clear ht hN
      go_wp2_with fail
      refine (implCacheGet_any _ xs key now _ (by omega) O1.out.reads).mono ?_
      rw [HT.out, ← HN.out]
      rintro e w2 ⟨rfl, b2⟩
      have c2 := bNext b1 b2
      go_wp2_with fail
      refine (specCacheGet_any _ xs key now _ (by omega) (O1.out.bl b2).reads).mono ?_
      rw [HT.out, ← HN.out]
      rintro e w3 ⟨rfl, b3⟩
      have c3 := bNext c2 b3
      go_wp2
      go_ret
      exact ⟨by simp, c3⟩
    | true =>
      obtain ⟨hp, hc, hkey, hval, ht1, ht2, ht3, ht4⟩ := getT_parts ht
      have HT := Lib.hid ht; have HN := Lib.hid hN
      have HV : Hid (N = xs[posOf xs key].2.1) := Lib.hid (hN.trans hval)
      have HC := Lib.hid hc; have HK := Lib.hid hkey
      clear ht hN hval hc hkey
      obtain ⟨p, hpp⟩ : ∃ p, p = posOf xs key := ⟨_, rfl⟩
      have HP := Lib.hid hpp
      go_wp2_with fail
      refine (implCacheGet_any _ xs key now _ (by omega) O1.out.reads).mono ?_
      rw [HT.out, ← HN.out]
      rintro e w2 ⟨rfl, b2⟩
      have c2 := bNext b1 b2
      go_wp2_with fail
      refine (specCacheGet_any _ xs key now _ (by omega) (O1.out.bl b2).reads).mono ?_
      rw [HT.out, ← HN.out]
      rintro e w3 ⟨rfl, b3⟩
      have c3 := bNext c2 b3
      have O3 := Lib.hid ((O1.out.bl b2).bl b3)
      subst hpp
      have hcell := O3.out.reads.ent
      clear O1
      go_wp2
      go_loop [10] (fun i => ∃ j : Nat, j ≤ posOf xs key ∧ i = .int .i64 j) (fun i => xs.length - (intOf i).toNat)
      case atStart => exact ⟨0, Nat.zero_le _, rfl⟩
      case round =>
        obtain ⟨j, hj, rfl⟩ := hrel
        have hlt : j < xs.length := by omega
        obtain ⟨b, off, rfl, hbl, h0, h1, h2⟩ := hcell j hlt
        clear hcell
        by_cases hjp : j = posOf xs key
        · have hz0 : xs[j].1 = key := by subst hjp; exact HK.out
          have hz1 : xs[j].2.1 = N := by subst hjp; exact HV.out.symm
          have hz2 : xs[j].2.2 = xs[posOf xs key].2.2 := by subst hjp; rfl
          rw [hz0] at h0; rw [hz1] at h1; rw [hz2] at h2
          clear hz0 hz1 hz2
          generalize xs[posOf xs key].2.2 = t at *
          have HJ := Lib.hid hjp; clear hjp
          go_wp2
          go_ret
          refine ⟨?_, c3⟩
          simp
          try omega
        · have hne := notKey HC.out hlt hjp
          have hq : (xs[j].1 == key) = false := by simp [hne]
          clear hne
          generalize xs[j].1 = x at *
          have HJ : Hid (¬ j = posOf xs key) := Lib.hid hjp; clear hjp
          go_wp2
          go_round
          case rel => exact ⟨j + 1, by have := HJ.out; omega, by go_num⟩
          case measure => simp [intOf]; omega
  · have hl' : decide ((1048576 : Int) < zs.length) = true := decide_eq_true (by omega)
    go_enter Try.func7, Try.ntmps7
    go_wp2
    go_ret
    exact ⟨rfl, Below.refl _ _⟩
end Go.Proofs.Ytldlaklddcekiaa
