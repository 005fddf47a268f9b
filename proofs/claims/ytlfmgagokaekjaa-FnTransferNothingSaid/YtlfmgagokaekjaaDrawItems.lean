/- What is drawn for transfers: the items. -/
import Derived.Test.YtlfmgagokaekjaaDraw
namespace Go.Proofs.Ytlfmgagokaekjaa
open Go.RowKit
set_option linter.unusedVariables false
set_option linter.unusedSimpArgs false

set_option maxHeartbeats 1000000 in
theorem l92Items_any (S b : Nat) (p : Int) (w : World) (hr : IsRd w S b p) (hp : p ≤ 900000) :
    Calls Try.prog 40 #[.pointer (some ⟨b, 0, none⟩)] w fun e w' => ∃ v zs, e = .returned v ∧ OwnInts w' w.heap.size v zs ∧ zs.length ≤ 21 ∧ (∃ q, q ≤ p + 30 ∧ IsRd w' S b q) ∧ w.grownBy w' (some b) := by
  obtain ⟨i0, hi, hz0, hz1, hz2⟩ := info_parts infoInt
  have hbl := hr.lt
  have hp0 := hr.2.1
  go_enter Try.func40, Try.ntmps40
  go_wp2_with fail
  refine (pick_any S b _ 14 _ (hr.alloc _) (by omega) (by omega) (by omega)).mono ?_
  rintro e w1 ⟨N, rfl, ⟨hN0, hN1⟩, r1, g1⟩
  obtain ⟨N, rfl⟩ := Int.eq_ofNat_of_zero_le hN0
  have o1 : OwnInts w1 w.heap.size _ [] := (own_empty w).rd hbl g1
  have G1 := (gAlloc (grown_refl w (some b)) (.cells #[] 3)).trans g1
  go_wp2_with fail
  refine (pick_any S b _ 10 _ r1 (by omega) (by omega) (by omega)).mono ?_
  rintro e w2 ⟨m2, rfl, ⟨hm2, hm2'⟩, r2, g2⟩
  have o2 := o1.rd hbl g2
  have G2 := G1.trans g2
  clear o1 G1 g1 g2 r1
  by_cases hm : m2 = 0
  · have hm' : (m2 == 0) = true := by simp [hm]
    have HM2 := Lib.hid hm; clear hm
    go_wp2_with fail
    refine (pick_any S b _ 3 _ r2 (by omega) (by omega) (by omega)).mono ?_
    rintro e w3 ⟨m3, rfl, ⟨hm3, hm3'⟩, rE, g3⟩
    have oE := o2.rd hbl g3
    have gE := G2.trans g3
    clear o2 G2 g3 r2 hN0 hN1
    obtain ⟨M3, rfl⟩ := Int.eq_ofNat_of_zero_le hm3
    obtain ⟨N, hNM⟩ : ∃ N, N = 19 + M3 := ⟨_, rfl⟩
    have hN : N ≤ 21 := by omega
    have hNi : (19 : Int) + M3 = N := by omega
    clear hNM
    obtain ⟨P0, hP⟩ : ∃ P0, P0 = p + 1 + 1 + 1 := ⟨_, rfl⟩
    rw [← hP] at rE
    have hP0 : 0 ≤ P0 ∧ P0 ≤ p + 3 := by omega
    clear hP
    go_wp2
    go_loopw [3, 5] (fun v i wr => ∃ (k : Nat) (xs : List Int), k ≤ N ∧ i = .int .i64 k ∧ Hid (xs.length = k) ∧ OwnInts wr w.heap.size v xs ∧ IsRd wr S b (P0 + k) ∧ w.grownBy wr (some b)) (fun _ i _ => N - (intOf i).toNat)
    case atStart => exact ⟨0, [], Nat.zero_le _, rfl, rfl, oE, by simpa using rE, gE⟩
    case round =>
      obtain ⟨k, xs, hk, rfl, hxl, hown, hrd, hg⟩ := hrel
      by_cases hlt : k < N
      · go_wp2_with fail
        refine (pick_any S b _ _ _ hrd (by omega) (by omega) (by omega)).mono ?_
        rintro e w1 ⟨m, rfl, ⟨hm, hm'⟩, hrd1, hg1⟩
        have o1 := hown.rd hbl hg1
        have g1 := hg.trans hg1
        have hxl2 : xs.length ≤ 21 := by have := hxl.out; omega
        go_wp2_with (at_builtin; refine wpList_append_own _ rfl _ _ 23 rfl w.heap.size 3 i0 (.int .i64 0) 1 8 Try.underlying23 hi hz0 hz1 hz2 rfl (by decide) _ _ _ rfl (World.ownsRow.alloc o1 _) ⟨w1.heap.size, 0, none⟩ 1 1 [.int .i64 m] rfl rfl (cell_one_new _ _ _) (oneCell_int _) ?c3 ?c4 ?c5 ?_)
        case c3 => unfold maxLen; omega
        case c4 => omega
        case c5 => have := g1.size; simp; omega
        intro v' w2 hown' hgrow _
        obtain ⟨o2, rd2, g2⟩ := append_step hbl o1 hrd1 g1 hown' rfl hgrow
        clear hown' hgrow hown hrd hg hg1 o1 hrd1 g1
        go_wp2
        go_roundw
        case rel => exact ⟨k + 1, xs ++ [m], by omega, by go_num, by have := hxl.out; simp [Hid]; omega, o2, rd2.up (by omega), g2⟩
        case measure => simp [intOf]; omega
      · have hkN : k = N := by omega
        have hxl2 : xs.length = N := by rw [hxl.out]; exact hkN
        have HXL := Lib.hid hxl2
        clear hxl2 hxl
        have HK := Lib.hid hkN; clear hkN
        have hkb : k ≤ 21 := by have := HK.out; omega
        go_wp2_with fail
        refine (pick_any S b _ _ _ hrd (by omega) (by omega) (by omega)).mono ?_
        rintro e w1 ⟨m, rfl, ⟨hm, hm'⟩, hrd1, hg1⟩
        have o1 := hown.rd hbl hg1
        have g1 := hg.trans hg1
        clear hown hrd hg hg1
        by_cases hm0 : m = 0
        · have hm0' : (m == 0) = true := by simp [hm0]
          have HM := Lib.hid hm0; clear hm0
          by_cases hN0 : N = 0
          · have hd : decide ((0 : Int) < (N : Int)) = false := decide_eq_false (by omega)
            have hd2 : decide (0 < N) = false := decide_eq_false (by omega)
            have HN0 := Lib.hid hN0; clear hN0
            go_wp2
            go_ret
            exact ⟨_, _, rfl, o1, by rw [HXL.out]; exact hN, ⟨_, by omega, hrd1⟩, g1⟩
          · have hd : decide ((0 : Int) < (N : Int)) = true := decide_eq_true (by omega)
            have hd2 : decide (0 < N) = true := decide_eq_true (by omega)
            rcases ownsRow_shape o1 with ⟨_, h0⟩ | ⟨g, cap, rfl, hB, hgl, hn, hc⟩
            · rw [HXL.out] at h0; omega
            rw [HXL.out] at hn ⊢
            have o1' := o1
            rw [HXL.out] at o1'
            go_wp2_with fail
            refine (pick_any S b _ _ _ hrd1 (by omega) (by omega) (by omega)).mono ?_
            rintro e w2 ⟨m2, rfl, ⟨hm2, hm2'⟩, hrd2, hg2⟩
            obtain ⟨M2, rfl⟩ := Int.eq_ofNat_of_zero_le hm2
            have o2 := (OwnInts.rd o1' hbl hg2)
            have g2 := g1.trans hg2
            go_wp2_with fail
            refine (pick_any S b _ _ _ (hrd2.alloc _) (by omega) (by omega) (by omega)).mono ?_
            rintro e w3 ⟨m3, rfl, ⟨hm3, hm3'⟩, hrd3, hg3⟩
            have o3 := ((o2.alloc (.cells #[.int .i64 (-1), .int .i64 990, .int .i64 991] 3)).rd hbl hg3)
            have g3 := (gAlloc g2 (.cells #[.int .i64 (-1), .int .i64 990, .int .i64 991] 3)).trans hg3
            have hlit : ∀ j x, (#[Value.int .i64 (-1), .int .i64 990, .int .i64 991] : Array Value)[j]? = some x → w3.cell? ⟨w2.heap.size, j, none⟩ = some x := by
              intro j x hj
              refine hg3.cell ?_ (by have := g2.size; simp; omega)
              rw [cell_of_row _ _ _ _ _ (0, 0) (heap_alloc_new _ _)]
              exact hj
            have hcj := OwnInts.cellAt o3 (j := M2) (by rw [HXL.out]; omega)
            have hfz := OwnInts.frozenAt o3 M2
            generalize xs[M2]'(by rw [HXL.out]; omega) = u at hcj
            have hx3 : m3 = 0 ∨ m3 = 1 ∨ m3 = 2 := by omega
            have hend : ∀ y : Int, OwnInts (w3.setCell ⟨g, M2, none⟩ (.int .i64 y)) w.heap.size (.slice (some ⟨g, 0, none⟩) N cap) (xs.set M2 y) ∧ IsRd (w3.setCell ⟨g, M2, none⟩ (.int .i64 y)) S b (P0 + k + 1 + 1 + 1) ∧ w.grownBy (w3.setCell ⟨g, M2, none⟩ (.int .i64 y)) (some b) := by
              intro y
              have hgr : w3.grownBy (w3.setCell ⟨g, M2, none⟩ (.int .i64 y)) (some g) :=
                ⟨rfl, rfl, rfl, by simp [World.setCell], fun k _ hk => Below.heap_setCell _ _ _ _ (fun e => hk (by rw [e]))⟩
              exact ⟨own_set o3 M2 y, hrd3.own hbl o3 hgr, gOwn g3 hgr (fun k hk => by cases hk; exact hB)⟩
            have HE := Lib.hid hend
            clear hend
            have l0 := hlit 0 _ rfl
            have l1 := hlit 1 _ rfl
            have l2 := hlit 2 _ rfl
            clear hlit
            rcases hx3 with rfl | rfl | rfl
            all_goals
              go_wp2
              go_ret
              exact ⟨_, _, rfl, (HE.out _).1, by simp; have := HXL.out; omega, ⟨_, by omega, (HE.out _).2.1⟩, (HE.out _).2.2⟩
        · have hm0' : (m == 0) = false := by simp [hm0]
          go_wp2
          go_ret
          exact ⟨_, _, rfl, o1, by rw [HXL.out]; exact hN, ⟨_, by omega, hrd1⟩, g1⟩
  · have hm' : (m2 == 0) = false := by simp [hm]
    have oE := o2
    have gE := G2
    have hN : N ≤ 21 := by omega
    obtain ⟨P0, hP⟩ : ∃ P0, P0 = p + 1 + 1 := ⟨_, rfl⟩
    have rE := r2
    rw [← hP] at rE
    have hP0 : 0 ≤ P0 ∧ P0 ≤ p + 3 := by omega
    clear hP o2 G2 r2 hm
    go_wp2
    go_loopw [3, 5] (fun v i wr => ∃ (k : Nat) (xs : List Int), k ≤ N ∧ i = .int .i64 k ∧ Hid (xs.length = k) ∧ OwnInts wr w.heap.size v xs ∧ IsRd wr S b (P0 + k) ∧ w.grownBy wr (some b)) (fun _ i _ => N - (intOf i).toNat)
    case atStart => exact ⟨0, [], Nat.zero_le _, rfl, rfl, oE, by simpa using rE, gE⟩
    case round =>
      obtain ⟨k, xs, hk, rfl, hxl, hown, hrd, hg⟩ := hrel
      by_cases hlt : k < N
      · go_wp2_with fail
        refine (pick_any S b _ _ _ hrd (by omega) (by omega) (by omega)).mono ?_
        rintro e w1 ⟨m, rfl, ⟨hm, hm'⟩, hrd1, hg1⟩
        have o1 := hown.rd hbl hg1
        have g1 := hg.trans hg1
        have hxl2 : xs.length ≤ 21 := by have := hxl.out; omega
        go_wp2_with (at_builtin; refine wpList_append_own _ rfl _ _ 23 rfl w.heap.size 3 i0 (.int .i64 0) 1 8 Try.underlying23 hi hz0 hz1 hz2 rfl (by decide) _ _ _ rfl (World.ownsRow.alloc o1 _) ⟨w1.heap.size, 0, none⟩ 1 1 [.int .i64 m] rfl rfl (cell_one_new _ _ _) (oneCell_int _) ?c3 ?c4 ?c5 ?_)
        case c3 => unfold maxLen; omega
        case c4 => omega
        case c5 => have := g1.size; simp; omega
        intro v' w2 hown' hgrow _
        obtain ⟨o2, rd2, g2⟩ := append_step hbl o1 hrd1 g1 hown' rfl hgrow
        clear hown' hgrow hown hrd hg hg1 o1 hrd1 g1
        go_wp2
        go_roundw
        case rel => exact ⟨k + 1, xs ++ [m], by omega, by go_num, by have := hxl.out; simp [Hid]; omega, o2, rd2.up (by omega), g2⟩
        case measure => simp [intOf]; omega
      · have hkN : k = N := by omega
        have hxl2 : xs.length = N := by rw [hxl.out]; exact hkN
        have HXL := Lib.hid hxl2
        clear hxl2 hxl
        have HK := Lib.hid hkN; clear hkN
        have hkb : k ≤ 21 := by have := HK.out; omega
        go_wp2_with fail
        refine (pick_any S b _ _ _ hrd (by omega) (by omega) (by omega)).mono ?_
        rintro e w1 ⟨m, rfl, ⟨hm, hm'⟩, hrd1, hg1⟩
        have o1 := hown.rd hbl hg1
        have g1 := hg.trans hg1
        clear hown hrd hg hg1
        by_cases hm0 : m = 0
        · have hm0' : (m == 0) = true := by simp [hm0]
          have HM := Lib.hid hm0; clear hm0
          by_cases hN0 : N = 0
          · have hd : decide ((0 : Int) < (N : Int)) = false := decide_eq_false (by omega)
            have hd2 : decide (0 < N) = false := decide_eq_false (by omega)
            have HN0 := Lib.hid hN0; clear hN0
            go_wp2
            go_ret
            exact ⟨_, _, rfl, o1, by rw [HXL.out]; exact hN, ⟨_, by omega, hrd1⟩, g1⟩
          · have hd : decide ((0 : Int) < (N : Int)) = true := decide_eq_true (by omega)
            have hd2 : decide (0 < N) = true := decide_eq_true (by omega)
            rcases ownsRow_shape o1 with ⟨_, h0⟩ | ⟨g, cap, rfl, hB, hgl, hn, hc⟩
            · rw [HXL.out] at h0; omega
            rw [HXL.out] at hn ⊢
            have o1' := o1
            rw [HXL.out] at o1'
            go_wp2_with fail
            refine (pick_any S b _ _ _ hrd1 (by omega) (by omega) (by omega)).mono ?_
            rintro e w2 ⟨m2, rfl, ⟨hm2, hm2'⟩, hrd2, hg2⟩
            obtain ⟨M2, rfl⟩ := Int.eq_ofNat_of_zero_le hm2
            have o2 := (OwnInts.rd o1' hbl hg2)
            have g2 := g1.trans hg2
            go_wp2_with fail
            refine (pick_any S b _ _ _ (hrd2.alloc _) (by omega) (by omega) (by omega)).mono ?_
            rintro e w3 ⟨m3, rfl, ⟨hm3, hm3'⟩, hrd3, hg3⟩
            have o3 := ((o2.alloc (.cells #[.int .i64 (-1), .int .i64 990, .int .i64 991] 3)).rd hbl hg3)
            have g3 := (gAlloc g2 (.cells #[.int .i64 (-1), .int .i64 990, .int .i64 991] 3)).trans hg3
            have hlit : ∀ j x, (#[Value.int .i64 (-1), .int .i64 990, .int .i64 991] : Array Value)[j]? = some x → w3.cell? ⟨w2.heap.size, j, none⟩ = some x := by
              intro j x hj
              refine hg3.cell ?_ (by have := g2.size; simp; omega)
              rw [cell_of_row _ _ _ _ _ (0, 0) (heap_alloc_new _ _)]
              exact hj
            have hcj := OwnInts.cellAt o3 (j := M2) (by rw [HXL.out]; omega)
            have hfz := OwnInts.frozenAt o3 M2
            generalize xs[M2]'(by rw [HXL.out]; omega) = u at hcj
            have hx3 : m3 = 0 ∨ m3 = 1 ∨ m3 = 2 := by omega
            have hend : ∀ y : Int, OwnInts (w3.setCell ⟨g, M2, none⟩ (.int .i64 y)) w.heap.size (.slice (some ⟨g, 0, none⟩) N cap) (xs.set M2 y) ∧ IsRd (w3.setCell ⟨g, M2, none⟩ (.int .i64 y)) S b (P0 + k + 1 + 1 + 1) ∧ w.grownBy (w3.setCell ⟨g, M2, none⟩ (.int .i64 y)) (some b) := by
              intro y
              have hgr : w3.grownBy (w3.setCell ⟨g, M2, none⟩ (.int .i64 y)) (some g) :=
                ⟨rfl, rfl, rfl, by simp [World.setCell], fun k _ hk => Below.heap_setCell _ _ _ _ (fun e => hk (by rw [e]))⟩
              exact ⟨own_set o3 M2 y, hrd3.own hbl o3 hgr, gOwn g3 hgr (fun k hk => by cases hk; exact hB)⟩
            have HE := Lib.hid hend
            clear hend
            have l0 := hlit 0 _ rfl
            have l1 := hlit 1 _ rfl
            have l2 := hlit 2 _ rfl
            clear hlit
            rcases hx3 with rfl | rfl | rfl
            all_goals
              go_wp2
              go_ret
              exact ⟨_, _, rfl, (HE.out _).1, by simp; have := HXL.out; omega, ⟨_, by omega, (HE.out _).2.1⟩, (HE.out _).2.2⟩
        · have hm0' : (m == 0) = false := by simp [hm0]
          go_wp2
          go_ret
          exact ⟨_, _, rfl, o1, by rw [HXL.out]; exact hN, ⟨_, by omega, hrd1⟩, g1⟩
end Go.Proofs.Ytlfmgagokaekjaa
