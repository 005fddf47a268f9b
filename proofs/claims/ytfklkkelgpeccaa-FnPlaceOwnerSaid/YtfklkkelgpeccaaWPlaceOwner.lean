/- The walk of FnPlaceOwner: the law returns true. -/
import Derived.Test.YtfklkkelgpeccaaPlLaws
import Derived.Test.YtfklkkelgpeccaaDrawPl3
namespace Go.Proofs.Ytfklkkelgpeccaa
open Go.RowKit
set_option linter.unusedVariables false
set_option linter.unusedSimpArgs false

set_option maxRecDepth 100000 in
set_option maxHeartbeats 4000000 in
theorem placeOwner_walk (v : Value) (zs : List Int) (w : World) (hr : RBytes w v zs) :
    Calls Try.prog 6 #[v] w fun e w' => e = .returned (.bool true) ∧ Below w.heap.size w w' := by
  obtain ⟨⟨a, cap, rfl, g1, g2, -⟩, -⟩ := id hr
  have HR := Lib.hid hr; clear hr
  by_cases hl : zs.length ≤ 1048576
  · go_enter Try.func6, Try.ntmps6
    go_wp2_with fail
    refine (drawPlaceOwner_any _ zs _ HR.out hl).mono ?_
    rintro e w1 ⟨u, xs, key, rfl, o1, hxl, b1⟩
    obtain ⟨au, capu, rfl, -, -, -⟩ := o1.reads
    have O1 := Lib.hid o1; clear o1
    obtain ⟨N, hN⟩ : ∃ N, N = poN xs key := ⟨_, rfl⟩
    have HN := Lib.hid hN
    by_cases hg : tvB xs = true ∧ ptB key = true
    · have hv : N = ownT xs key := hN.trans (poN_good hg.1 hg.2)
      have hr0 := ownT_range hg.1 key
      obtain ⟨htv, -, h0⟩ := tvB_parts hg.1
      have HV := Lib.hid hv
      have d0 : decide (N < 0) = false := decide_eq_false (by omega)
      clear hN hg hv hr0
      go_wp2_with fail
      refine (implPlaceOwner_any _ xs key _ (by omega) O1.out.reads).mono ?_
      rw [← HN.out]
      rintro e w2 ⟨rfl, b2⟩
      have c2 := bNext b1 b2
      go_wp2_with fail
      refine (specPlaceOwner_any _ xs key _ (by omega) (O1.out.bl b2).reads).mono ?_
      rw [← HN.out]
      rintro e w3 ⟨rfl, b3⟩
      have c3 := bNext c2 b3
      have O3 := (O1.out.bl b2).bl b3
      have hcell := O3.reads.tok
      clear O1 O3 b1 b2 b3 c2
      go_wp2
      go_loop [7] (fun i => ∃ j : Nat, j ≤ xs.length ∧ i = .int .i64 j ∧ Hid (∀ i (h : i < xs.length), i < j → xs[i].1 < key)) (fun i => xs.length - (intOf i).toNat)
      case atStart => exact ⟨0, Nat.zero_le _, rfl, Lib.hid (fun i h hi => by omega)⟩
      case round =>
        obtain ⟨j, hj, rfl, HJ⟩ := hrel
        by_cases hlt : j < xs.length
        · obtain ⟨b, off, rfl, hbl, x0, x1⟩ := hcell j hlt
          by_cases hk : key ≤ xs[j].1
          · have dk : decide (key ≤ xs[j].1) = true := decide_eq_true hk
            have HE : Hid (N = xs[j].2) := Lib.hid (HV.out.trans (ownT_at hlt hk (fun i h hi => HJ.out i h hi)))
            clear hk hcell
            generalize xs[j].1 = x at *
            generalize xs[j].2 = y at *
            have q : (N == y) = true := by simp [HE.out]
            go_wp2
            go_ret
            exact ⟨rfl, c3⟩
          · have dk : decide (key ≤ xs[j].1) = false := decide_eq_false hk
            have HJ1 : Hid (∀ i (h : i < xs.length), i < j + 1 → xs[i].1 < key) := Lib.hid (fun i h hi => by
              by_cases e : i = j
              · subst e; omega
              · exact HJ.out i h (by omega))
            clear hk hcell
            generalize xs[j].1 = x at *
            generalize xs[j].2 = y at *
            go_wp2
            go_round
            case rel => exact ⟨j + 1, by omega, by go_num, HJ1⟩
            case measure => simp [intOf]; omega
        · obtain rfl : j = xs.length := by omega
          have HE : Hid (N = xs[0].2) := Lib.hid (HV.out.trans ((ownT_none (fun i h => HJ.out i h h)).trans (by simp [List.getD, h0])))
          obtain ⟨b, off, rfl, hbl, x0, x1⟩ := hcell 0 h0
          clear hcell
          generalize xs[0].1 = x at *
          generalize xs[0].2 = y at *
          rw [Nat.zero_mul, Nat.add_zero] at x0 x1
          have h0i : (0 : Int) < (xs.length : Int) := by omega
          have q : (N == y) = true := by simp [HE.out]
          go_wp2
          go_ret
          exact ⟨rfl, c3⟩
    · have d0 : decide (N < 0) = true := decide_eq_true (by rw [hN]; exact poN_neg.2 hg)
      clear hN hg
      go_wp2_with fail
      refine (implPlaceOwner_any _ xs key _ (by omega) O1.out.reads).mono ?_
      rw [← HN.out]
      rintro e w2 ⟨rfl, b2⟩
      have c2 := bNext b1 b2
      go_wp2_with fail
      refine (specPlaceOwner_any _ xs key _ (by omega) (O1.out.bl b2).reads).mono ?_
      rw [← HN.out]
      rintro e w3 ⟨rfl, b3⟩
      have c3 := bNext c2 b3
      go_wp2
      go_ret
      exact ⟨by simp, c3⟩
  · have hl' : decide ((1048576 : Int) < zs.length) = true := decide_eq_true (by omega)
    go_enter Try.func6, Try.ntmps6
    go_wp2
    go_ret
    exact ⟨rfl, Below.refl _ _⟩
end Go.Proofs.Ytfklkkelgpeccaa
