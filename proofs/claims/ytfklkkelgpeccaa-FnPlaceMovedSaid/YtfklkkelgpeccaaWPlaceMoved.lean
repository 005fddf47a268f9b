/- The walk of FnPlaceMoved: the law returns true. -/
import Derived.Test.YtfklkkelgpeccaaPlLaws
import Derived.Test.YtfklkkelgpeccaaDrawPl3
import Derived.Test.YtfklkkelgpeccaaSame
import Derived.Test.YtfklkkelgpeccaaHas
namespace Go.Proofs.Ytfklkkelgpeccaa
open Go.RowKit
set_option linter.unusedVariables false
set_option linter.unusedSimpArgs false

set_option maxRecDepth 100000 in
set_option maxHeartbeats 4000000 in
theorem placeMoved_walk (v : Value) (zs : List Int) (w : World) (hr : RBytes w v zs) :
    Calls Try.prog 8 #[v] w fun e w' => e = .returned (.bool true) ∧ Below w.heap.size w w' := by
  obtain ⟨⟨a, cap, rfl, g1, g2, -⟩, -⟩ := id hr
  have HR := Lib.hid hr; clear hr
  by_cases hl : zs.length ≤ 1048576
  · go_enter Try.func8, Try.ntmps8
    go_wp2_with fail
    refine (drawPlaceMoved_any _ zs _ HR.out hl).mono ?_
    rintro e w1 ⟨u, x, xs, ys, rfl, o1, p1, hxl, hyl, b1⟩
    obtain ⟨au, capu, rfl, -, -, -⟩ := o1.reads
    obtain ⟨ax, capx, rfl, -, -, -⟩ := p1.reads
    have O1 := Lib.hid o1; have P1 := Lib.hid p1; clear o1 p1
    obtain ⟨T, hT⟩ : ∃ T, T = mvL xs ys := ⟨_, rfl⟩
    have hTl : T.length ≤ 64 := by rw [hT]; exact mvL_len xs ys
    have HT := Lib.hid hT
    have HTS : Hid (mvL ys xs = T) := Lib.hid (by rw [hT]; exact mvL_symm xs ys)
    go_wp2_with fail
    refine (implPlaceMoved_any _ _ xs ys _ (by omega) (by omega) O1.out.reads P1.out.reads).mono ?_
    rw [← HT.out]
    rintro e w2 ⟨u2, rfl, o2, b2⟩
    obtain ⟨a2, q2, rfl, -, -, -⟩ := o2.reads
    have c2 := bNext b1 b2
    go_wp2_with fail
    refine (specPlaceMoved_any _ _ xs ys _ (by omega) (by omega) (O1.out.bl b2).reads (P1.out.bl b2).reads).mono ?_
    rw [← HT.out]
    rintro e w3 ⟨u3, rfl, o3, b3⟩
    obtain ⟨a3, q3, rfl, -, -, -⟩ := o3.reads
    have c3 := bNext c2 b3
    have O3 := Lib.hid ((O1.out.bl b2).bl b3).reads; have P3 := Lib.hid ((P1.out.bl b2).bl b3).reads; have M3 := Lib.hid (o2.bl b3).reads; have N3 := Lib.hid o3.reads
    clear O1 P1 o2 o3 b2 b3 c2 hT
    go_wp2_with fail
    refine (sameInts_any _ _ T T _ (by omega) M3.out N3.out).mono ?_
    rintro e w4 ⟨rfl, n4, rfl⟩
    rw [decide_eq_true (rfl : T = T)]
    have c4 := Lib.hid (bDr c3 n4)
    have O4 := Lib.hid (O3.out.dr n4); have P4 := Lib.hid (P3.out.dr n4); have M4 := Lib.hid (M3.out.dr n4); have N4 := Lib.hid (N3.out.dr n4)
    clear O3 P3 M3 N3
    generalize w3.drewN n4 = w4 at *
    have hp0 : ptB 0 = true := by decide
    cases ha : tvB xs with
    | false =>
      have d0 : decide (poN xs 0 < 0) = true := decide_eq_true (poN_neg.2 (by simp [ha]))
      clear ha
      go_wp2_with fail
      refine (specPlaceOwner_any _ xs 0 _ (by omega) O4.out).mono ?_
      rintro e w5 ⟨rfl, b5⟩
      have c5 := bNext c4.out b5
      have M5 := M4.out.bl b5; have N5 := N4.out.bl b5
      generalize poN xs 0 = r0 at *
      go_wp2_with fail
      refine (sameInts_any _ _ T T _ (by omega) M5 N5).mono ?_
      rintro e w6 ⟨rfl, n6, rfl⟩
      rw [decide_eq_true (rfl : T = T)]
      go_wp2
      go_ret
      exact ⟨rfl, bDr c5 _⟩
    | true =>
      have d0 : decide (poN xs 0 < 0) = false := decide_eq_false (fun h => poN_neg.1 h ⟨ha, hp0⟩)
      have HA := Lib.hid ha; clear ha
      go_wp2_with fail
      refine (specPlaceOwner_any _ xs 0 _ (by omega) O4.out).mono ?_
      rintro e w5 ⟨rfl, b5⟩
      have c5 := Lib.hid (bNext c4.out b5)
      have M5 := Lib.hid (M4.out.bl b5); have N5 := Lib.hid (N4.out.bl b5); have O5 := Lib.hid (O4.out.bl b5); have P5 := Lib.hid (P4.out.bl b5)
      generalize poN xs 0 = r0 at *
      clear M4 N4 O4 P4 b5 c4
      cases hb : tvB ys with
      | false =>
        have e0 : decide (poN ys 0 < 0) = true := decide_eq_true (poN_neg.2 (by simp [hb]))
        clear hb
        go_wp2_with fail
        refine (specPlaceOwner_any _ ys 0 _ (by omega) P5.out).mono ?_
        rintro e w6 ⟨rfl, b6⟩
        have c6 := bNext c5.out b6
        have M6 := M5.out.bl b6; have N6 := N5.out.bl b6
        generalize poN ys 0 = r1 at *
        go_wp2_with fail
        refine (sameInts_any _ _ T T _ (by omega) M6 N6).mono ?_
        rintro e w7 ⟨rfl, n7, rfl⟩
        rw [decide_eq_true (rfl : T = T)]
        go_wp2
        go_ret
        exact ⟨rfl, bDr c6 _⟩
      | true =>
        have e0 : decide (poN ys 0 < 0) = false := decide_eq_false (fun h => poN_neg.1 h ⟨hb, hp0⟩)
        have HM : Hid (∀ k : Nat, k < 64 → (decide ((k : Int) ∈ T) = (poN xs k != poN ys k))) := by
          have hb2 := Lib.hid hb
          exact Lib.hid (fun k hk => by
            have hpk : ptB (k : Int) = true := ptB_of ⟨by omega, by omega⟩
            rw [poN_good HA.out hpk, poN_good hb2.out hpk, HT.out, mv_good HA.out hb2.out]
            have := mem_mvTo xs ys k 64
            by_cases h : ownT xs k = ownT ys k
            · rw [decide_eq_false (by rw [this]; exact fun h2 => h2.2 h)]; simp [h]
            · rw [decide_eq_true (by rw [this]; exact ⟨hk, h⟩)]; simp [h])
        clear hb
        go_wp2_with fail
        refine (specPlaceOwner_any _ ys 0 _ (by omega) P5.out).mono ?_
        rintro e w6 ⟨rfl, b6⟩
        have c6 := Lib.hid (bNext c5.out b6)
        have M6 := Lib.hid (M5.out.bl b6); have O6 := Lib.hid (O5.out.bl b6); have P6 := Lib.hid (P5.out.bl b6)
        generalize poN ys 0 = r1 at *
        clear M5 N5 O5 P5 b6 c5
        go_wp2
        go_loopw [7] (fun i wr => ∃ j : Nat, j ≤ 64 ∧ i = .int .i64 j ∧ Hid (RRow TL wr (.slice au xs.length capu) xs) ∧ Hid (RRow TL wr (.slice ax ys.length capx) ys) ∧ Hid (RInts wr (.slice a2 T.length q2) T) ∧ Hid (Below w.heap.size w wr)) (fun i _ => 64 - (intOf i).toNat)
        case atStart => exact ⟨0, Nat.zero_le _, rfl, O6, P6, M6, c6⟩
        case round =>
          obtain ⟨j, hj, rfl, OJ, PJ, MJ, BJ⟩ := hrel
          clear O6 P6 M6 c6
          by_cases hlt : j < 64
          · have HMj := Lib.hid (HM.out j hlt)
            go_wp2_with fail
            refine (hasInt_any _ T j _ (by omega) MJ.out).mono ?_
            rintro e w8 ⟨rfl, rfl⟩
            rw [HMj.out]
            go_wp2_with fail
            refine (implPlaceOwner_any _ xs j _ (by omega) OJ.out).mono ?_
            rintro e w9 ⟨rfl, b9⟩
            have O9 := Lib.hid (OJ.out.bl b9); have P9 := Lib.hid (PJ.out.bl b9); have M9 := Lib.hid (MJ.out.bl b9); have B9 := Lib.hid (bNext BJ.out b9)
            clear OJ PJ MJ BJ b9
            go_wp2_with fail
            refine (implPlaceOwner_any _ ys j _ (by omega) P9.out).mono ?_
            rintro e w10 ⟨rfl, b10⟩
            have OA := Lib.hid (O9.out.bl b10); have PA := Lib.hid (P9.out.bl b10); have MA := Lib.hid (M9.out.bl b10); have BA := Lib.hid (bNext B9.out b10)
            clear O9 P9 M9 B9 b10 HMj
            generalize poN xs j = r2 at *
            generalize poN ys j = r3 at *
            have q9 : ((r2 != r3) != (r2 != r3)) = false := by simp
            go_wp2
            go_roundw
            case rel => exact ⟨j + 1, by omega, by go_num, OA, PA, MA, BA⟩
            case measure => simp [intOf]; omega
          · obtain rfl : j = 64 := by omega
            go_wp2_with fail
            refine (implPlaceMoved_any _ _ ys xs _ (by omega) (by omega) PJ.out OJ.out).mono ?_
            rw [HTS.out]
            rintro e w8 ⟨u8, rfl, o8, b8⟩
            obtain ⟨a8, q8, rfl, -, -, -⟩ := o8.reads
            have c8 := bNext BJ.out b8
            have M8 := MJ.out.bl b8
            go_wp2_with fail
            refine (sameInts_any _ _ T T _ (by omega) o8.reads M8).mono ?_
            rintro e w9 ⟨rfl, n9, rfl⟩
            rw [decide_eq_true (rfl : T = T)]
            go_wp2
            go_ret
            exact ⟨rfl, bDr c8 _⟩
  · have hl' : decide ((1048576 : Int) < zs.length) = true := decide_eq_true (by omega)
    go_enter Try.func8, Try.ntmps8
    go_wp2
    go_ret
    exact ⟨rfl, Below.refl _ _⟩
end Go.Proofs.Ytfklkkelgpeccaa
