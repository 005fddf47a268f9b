/- The walk of FnPlaceLoads: the law returns true. -/
import Derived.Test.YtfklkkelgpeccaaPlLaws
import Derived.Test.YtfklkkelgpeccaaDrawPl3
namespace Go.Proofs.Ytfklkkelgpeccaa
open Go.RowKit
set_option linter.unusedVariables false
set_option linter.unusedSimpArgs false

set_option maxRecDepth 100000 in
set_option maxHeartbeats 4000000 in
theorem placeLoads_walk (v : Value) (zs : List Int) (w : World) (hr : RBytes w v zs) :
    Calls Try.prog 7 #[v] w fun e w' => e = .returned (.bool true) ∧ Below w.heap.size w w' := by
  obtain ⟨⟨a, cap, rfl, g1, g2, -⟩, -⟩ := id hr
  have HR := Lib.hid hr; clear hr
  by_cases hl : zs.length ≤ 1048576
  · go_enter Try.func7, Try.ntmps7
    go_wp2_with fail
    refine (drawPlaceLoad_any _ zs _ HR.out hl).mono ?_
    rintro e w1 ⟨u, xs, key, rfl, o1, hxl, b1⟩
    obtain ⟨au, capu, rfl, -, -, -⟩ := o1.reads
    have O1 := Lib.hid o1; clear o1
    obtain ⟨N, hN⟩ : ∃ N, N = plN xs key := ⟨_, rfl⟩
    have HN := Lib.hid hN
    by_cases hg : tvB xs = true ∧ ptB key = true
    · have hv : N = cntT xs key 64 := hN.trans (plN_good hg.1 hg.2)
      have hr0 := cntT_le xs key 64
      have d0 : decide (N < 0) = false := decide_eq_false (by omega)
      have HP : Hid (∀ m : Nat, m < 64 → plN xs m = cntT xs m 64) := by
        have ht := hg.1
        exact Lib.hid (fun m hm => plN_good ht (ptB_of ⟨by omega, by omega⟩))
      have HS : Hid (sumN (fun m => cntT xs m 64) 64 = 64) := Lib.hid (sum_loads hg.1 64)
      obtain ⟨f, hf⟩ : ∃ f : Nat → Int, f = sumN (fun m => cntT xs m 64) := ⟨_, rfl⟩
      have HF0 : Hid (f 0 = 0) := Lib.hid (by rw [hf]; rfl)
      have HF1 : Hid (∀ m, f (m + 1) = f m + cntT xs m 64) := Lib.hid (fun m => by rw [hf]; rfl)
      have HFB : Hid (∀ m, 0 ≤ f m ∧ f m ≤ 64 * m) := Lib.hid (fun m => by rw [hf]; exact sumN_le m)
      rw [← hf] at HS
      clear hN hg hv hr0 hf
      go_wp2_with fail
      refine (implPlaceLoad_any _ xs key _ (by omega) O1.out.reads).mono ?_
      rw [← HN.out]
      rintro e w2 ⟨rfl, b2⟩
      have c2 := bNext b1 b2
      go_wp2_with fail
      refine (specPlaceLoad_any _ xs key _ (by omega) (O1.out.bl b2).reads).mono ?_
      rw [← HN.out]
      rintro e w3 ⟨rfl, b3⟩
      have c3 := Lib.hid (bNext c2 b3)
      have O3 := Lib.hid ((O1.out.bl b2).bl b3)
      clear O1 b1 b2 b3 c2
      go_wp2
      go_loopw [7, 8] (fun s i wr => ∃ j : Nat, j ≤ 64 ∧ i = .int .i64 j ∧ s = .int .i64 (f j) ∧ Hid (OwnRow TL tokT wr w1.heap.size (.slice au xs.length capu) xs ∨ OwnRow TL tokT wr w.heap.size (.slice au xs.length capu) xs) ∧ Hid (Below w.heap.size w wr)) (fun _ i _ => 64 - (intOf i).toNat)
      case atStart => exact ⟨0, Nat.zero_le _, rfl, by rw [HF0.out], Lib.hid (.inr O3.out), c3⟩
      case round =>
        obtain ⟨j, hj, rfl, rfl, OJ, BJ⟩ := hrel
        have RJ : RRow TL wr (.slice au xs.length capu) xs := by rcases OJ.out with h | h <;> exact h.reads
        by_cases hlt : j < 64
        · have hc := cntT_le xs j 64
          have hb := HFB.out j
          have HPj := Lib.hid (HP.out j hlt)
          have HFj := Lib.hid (HF1.out j)
          have e1 : IntKind.i64.wrap (f j + cntT xs j 64) = f (j + 1) := by rw [HFj.out]; exact IntWalk.i64_in _ (by omega)
          have RJ := Lib.hid RJ
          clear hc hb
          go_wp2_with fail
          refine (implPlaceLoad_any _ xs j _ (by omega) RJ.out).mono ?_
          rw [HPj.out]
          rintro e w5 ⟨rfl, b5⟩
          have B5 := Lib.hid (bNext BJ.out b5)
          have O5 : Hid (OwnRow TL tokT w5 w1.heap.size (.slice au xs.length capu) xs ∨ OwnRow TL tokT w5 w.heap.size (.slice au xs.length capu) xs) := Lib.hid (by rcases OJ.out with h | h; exact .inl (h.bl b5); exact .inr (h.bl b5))
          generalize cntT xs j 64 = q at *
          clear b5
          go_wp2
          go_roundw
          case rel => exact ⟨j + 1, by omega, by go_num, rfl, O5, B5⟩
          case measure => simp [intOf]; omega
        · obtain rfl : j = 64 := by omega
          rw [HS.out]
          go_wp2
          go_ret
          exact ⟨rfl, BJ.out⟩
    · have hv : N = -1 := hN.trans (plN_bad hg)
      have d0 : decide (N < 0) = true := decide_eq_true (by omega)
      clear hN hg hv
      go_wp2_with fail
      refine (implPlaceLoad_any _ xs key _ (by omega) O1.out.reads).mono ?_
      rw [← HN.out]
      rintro e w2 ⟨rfl, b2⟩
      have c2 := bNext b1 b2
      go_wp2_with fail
      refine (specPlaceLoad_any _ xs key _ (by omega) (O1.out.bl b2).reads).mono ?_
      rw [← HN.out]
      rintro e w3 ⟨rfl, b3⟩
      have c3 := bNext c2 b3
      go_wp2
      go_ret
      exact ⟨by simp, c3⟩
  · have hl' : decide ((1048576 : Int) < zs.length) = true := decide_eq_true (by omega)
    go_enter Try.func7, Try.ntmps7
    go_wp2
    go_ret
    exact ⟨rfl, Below.refl _ _⟩
end Go.Proofs.Ytfklkkelgpeccaa
