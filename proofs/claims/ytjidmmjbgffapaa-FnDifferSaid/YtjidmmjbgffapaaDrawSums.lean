/- What is drawn for sums. -/
import Derived.Test.YtjidmmjbgffapaaDraw
import Derived.Test.YtjidmmjbgffapaaSpecTree
namespace Go.Proofs.Ytjidmmjbgffapaa
open Go.RowKit
set_option linter.unusedVariables false
set_option linter.unusedSimpArgs false

set_option maxHeartbeats 1000000 in
theorem l92Values_any (S b : Nat) (p : Int) (w : World) (hr : IsRd w S b p) (hp : p ≤ 900000) :
    Calls Try.prog 35 #[.pointer (some ⟨b, 0, none⟩)] w fun e w' => ∃ v zs, e = .returned v ∧ OwnInts w' w.heap.size v zs ∧ zs.length ≤ 16 ∧ (∃ q, q ≤ p + 19 ∧ IsRd w' S b q) ∧ w.grownBy w' (some b) := by
  obtain ⟨i0, hi, hz0, hz1, hz2⟩ := info_parts infoInt
  have hbl := hr.lt
  have hp0 := hr.2.1
  go_enter Try.func35, Try.ntmps35
  go_wp2
  go_loopw [3, 4] (fun v i wr => ∃ (k : Nat) (xs : List Int), k ≤ 16 ∧ i = .int .i64 k ∧ Hid (xs.length = k) ∧ OwnInts wr w.heap.size v xs ∧ IsRd wr S b (p + k) ∧ w.grownBy wr (some b)) (fun _ i _ => 16 - (intOf i).toNat)
  case atStart => exact ⟨0, [], Nat.zero_le _, rfl, rfl, own_empty w, by simpa using hr.alloc _, gAlloc (grown_refl _ _) _⟩
  case round =>
    obtain ⟨k, xs, hk, rfl, hxl, hown, hrd, hg⟩ := hrel
    by_cases hlt : k < 16
    · go_wp2_with fail
      refine (pick_any S b _ _ _ hrd (by omega) (by omega) (by omega)).mono ?_
      rintro e w1 ⟨m, rfl, ⟨hm, hm'⟩, hrd1, hg1⟩
      have o1 := hown.rd hbl hg1
      have g1 := hg.trans hg1
      have hxl2 : xs.length ≤ 16 := by have := hxl.out; omega
      go_wp2_with (at_builtin; refine wpList_append_own _ rfl _ _ 22 rfl w.heap.size 3 i0 (.int .i64 0) 1 8 Try.underlying22 hi hz0 hz1 hz2 rfl (by decide) _ _ _ rfl (World.ownsRow.alloc o1 _) ⟨w1.heap.size, 0, none⟩ 1 1 [.int .i64 m] rfl rfl (cell_one_new _ _ _) (oneCell_int _) ?c3 ?c4 ?c5 ?_)
      case c3 => unfold maxLen; omega
      case c4 => omega
      case c5 => have := g1.size; simp; omega
      intro v' w2 hown' hgrow _
      obtain ⟨o2, rd2, g2⟩ := append_step hbl o1 hrd1 g1 hown' rfl hgrow
      clear hown' hgrow hown hrd hg hg1 o1 hrd1 g1
      go_wp2
      go_roundw
      case rel => exact ⟨k + 1, xs ++ [m], by omega, by go_num, by have := hxl.out; simp [Hid]; omega, o2, rd2.up (by omega), g2⟩
      case measure => simp [intOf]; omega
    · have hk16 : k = 16 := by omega
      have hxl2 : xs.length = 16 := by rw [hxl.out]; exact hk16
      have HXL := Lib.hid hxl2
      clear hxl2 hxl
      have HK := Lib.hid hk16
      go_wp2_with fail
      refine (pick_any S b _ _ _ hrd (by omega) (by omega) (by omega)).mono ?_
      rintro e w1 ⟨m, rfl, ⟨hm, hm'⟩, hrd1, hg1⟩
      have o1 := hown.rd hbl hg1
      have g1 := hg.trans hg1
      clear hown hrd hg hg1
      rcases ownsRow_shape o1 with ⟨_, h0⟩ | ⟨g, cap, rfl, hB, hgl, hn, hc⟩
      · rw [HXL.out] at h0; omega
      rw [HXL.out] at hn ⊢
      have o1' := o1
      rw [HXL.out] at o1'
      by_cases hm0 : m = 0
      · have hm0' : (m == 0) = true := by simp [hm0]
        have HM := Lib.hid hm0; clear hm0
        go_wp2_with fail
        refine (pick_any S b _ _ _ hrd1 (by omega) (by omega) (by omega)).mono ?_
        rintro e w2 ⟨m2, rfl, ⟨hm2, hm2'⟩, hrd2, hg2⟩
        obtain ⟨M2, rfl⟩ := Int.eq_ofNat_of_zero_le hm2
        have o2 := (OwnInts.rd o1' hbl hg2)
        have g2 := g1.trans hg2
        go_wp2_with fail
        refine (pick_any S b _ _ _ (hrd2.alloc _) (by omega) (by omega) (by omega)).mono ?_
        rintro e w3 ⟨m3, rfl, ⟨hm3, hm3'⟩, hrd3, hg3⟩
        have o3 := ((o2.alloc (.cells #[.int .i64 (-1), .int .i64 990, .int .i64 991] 3)).rd hbl hg3)
        have g3 := (gAlloc g2 (.cells #[.int .i64 (-1), .int .i64 990, .int .i64 991] 3)).trans hg3
        have hlit : ∀ j x, (#[Value.int .i64 (-1), .int .i64 990, .int .i64 991] : Array Value)[j]? = some x → w3.cell? ⟨w2.heap.size, j, none⟩ = some x := by
          intro j x hj
          refine hg3.cell ?_ (by have := g2.size; simp; omega)
          rw [cell_of_row _ _ _ _ _ (0, 0) (heap_alloc_new _ _)]
          exact hj
        have hcj := OwnInts.cellAt o3 (j := M2) (by rw [HXL.out]; omega)
        have hfz := OwnInts.frozenAt o3 M2
        generalize xs[M2]'(by rw [HXL.out]; omega) = u at hcj
        have hx3 : m3 = 0 ∨ m3 = 1 ∨ m3 = 2 := by omega
        have hend : ∀ y : Int, OwnInts (w3.setCell ⟨g, M2, none⟩ (.int .i64 y)) w.heap.size (.slice (some ⟨g, 0, none⟩) 16 cap) (xs.set M2 y) ∧ IsRd (w3.setCell ⟨g, M2, none⟩ (.int .i64 y)) S b (p + k + 1 + 1 + 1) ∧ w.grownBy (w3.setCell ⟨g, M2, none⟩ (.int .i64 y)) (some b) := by
          intro y
          have hgr : w3.grownBy (w3.setCell ⟨g, M2, none⟩ (.int .i64 y)) (some g) :=
            ⟨rfl, rfl, rfl, by simp [World.setCell], fun k _ hk => Below.heap_setCell _ _ _ _ (fun e => hk (by rw [e]))⟩
          exact ⟨own_set o3 M2 y, hrd3.own hbl o3 hgr, gOwn g3 hgr (fun k hk => by cases hk; exact hB)⟩
        have HE := Lib.hid hend
        clear hend
        have l0 := hlit 0 _ rfl
        have l1 := hlit 1 _ rfl
        have l2 := hlit 2 _ rfl
        clear hlit
        rcases hx3 with rfl | rfl | rfl
        all_goals
          go_wp2
          go_ret
          exact ⟨_, _, rfl, (HE.out _).1, by simp; have := HXL.out; omega, ⟨_, by omega, (HE.out _).2.1⟩, (HE.out _).2.2⟩
      · have hm0' : (m == 0) = false := by simp [hm0]
        by_cases hm1 : m = 1
        · have hm1' : (m == 1) = true := by simp [hm1]
          have HM := Lib.hid hm1; clear hm1 hm0
          go_wp2_with fail
          refine (pick_any S b _ _ _ hrd1 (by omega) (by omega) (by omega)).mono ?_
          rintro e w2 ⟨m2, rfl, ⟨hm2, hm2'⟩, hrd2, hg2⟩
          obtain ⟨M2, rfl⟩ := Int.eq_ofNat_of_zero_le hm2
          have o2 := (OwnInts.rd o1' hbl hg2)
          have g2 := g1.trans hg2
          have f1 : (M2 : Int) ≤ 16 := by omega
          have f2 : (M2 : Int) ≤ cap := by omega
          go_wp2
          go_ret
          exact ⟨_, _, rfl, own_take o2 (by have := HXL.out; omega), by simp; omega, ⟨_, by omega, hrd2⟩, g2⟩
        · have hm1' : (m == 1) = false := by simp [hm1]
          go_wp2
          go_ret
          exact ⟨_, _, rfl, o1', by have := HXL.out; omega, ⟨_, by omega, hrd1⟩, g1⟩

set_option maxHeartbeats 1000000 in
theorem l92Sums_any (S b : Nat) (p : Int) (w : World) (hr : IsRd w S b p) (hp : p ≤ 800000) :
    Calls Try.prog 43 #[.pointer (some ⟨b, 0, none⟩)] w fun e w' => ∃ v zs, e = .returned v ∧ OwnInts w' w.heap.size v zs ∧ zs.length ≤ 31 ∧ (∃ q, q ≤ p + 22 ∧ IsRd w' S b q) ∧ w.grownBy w' (some b) := by
  have hbl := hr.lt
  go_enter Try.func43, Try.ntmps43
  go_wp2_with fail
  refine (l92Values_any S b p _ hr (by omega)).mono ?_
  rintro e w1 ⟨v1, zs, rfl, o1, hl1, ⟨q, hq, hrd1⟩, g1⟩
  go_wp2_with fail
  refine (specSumsOf_any _ zs _ (by omega) o1.reads).mono ?_
  rintro e w2 ⟨v2, rfl, o2, b2⟩
  have g2 := gBelow g1 b2
  have hrd2 := hrd1.belowAll b2
  have o2' := o2.base g1.size
  have hl2 := length_sumsM zs
  generalize sumsM zs = T at *
  clear o1 o2
  obtain ⟨a2, cap2, rfl, -, -, -⟩ := o2'.reads
  cases T with
  | nil =>
    go_wp2
    go_ret
    exact ⟨_, _, rfl, o2', by simp, ⟨q, by omega, hrd2⟩, g2⟩
  | cons t T =>
    obtain ⟨X, hX⟩ : ∃ X, X = t :: T := ⟨_, rfl⟩
    rw [← hX] at o2' hl2 ⊢
    have hX1 : 1 ≤ X.length := by rw [hX]; simp
    clear hX
    go_wp2_with fail
    refine (pick_any S b _ 16 _ hrd2 (by omega) (by omega) (by omega)).mono ?_
    rintro e w3 ⟨m, rfl, ⟨hm, hm'⟩, hrd3, hg3⟩
    have o3 := o2'.rd hbl hg3
    have g3 := g2.trans hg3
    by_cases hm0 : m = 0
    · have hm0' : (m == 0) = true := by simp [hm0]
      have HM := Lib.hid hm0; clear hm0
      rcases ownsRow_shape o3 with ⟨_, h0⟩ | ⟨g, cap, hv, hB, hgl, hn, hc⟩
      · omega
      simp only [Value.slice.injEq, true_and] at hv
      obtain ⟨rfl, rfl⟩ := hv
      go_wp2_with fail
      refine (pick_any S b _ _ _ hrd3 (by omega) (by omega) (by omega)).mono ?_
      rintro e w4 ⟨m4, rfl, ⟨hm4, hm4'⟩, hrd4, hg4⟩
      obtain ⟨M, rfl⟩ := Int.eq_ofNat_of_zero_le hm4
      have o4 := o3.rd hbl hg4
      have g4 := g3.trans hg4
      go_wp2_with fail
      refine (pick_any S b _ _ _ hrd4 (by omega) (by omega) (by omega)).mono ?_
      rintro e w5 ⟨m5, rfl, ⟨hm5, hm5'⟩, hrd5, hg5⟩
      have o5 := o4.rd hbl hg5
      have g5 := g4.trans hg5
      have hcj := OwnInts.cellAt o5 (j := M) (by omega)
      have hfz := OwnInts.frozenAt o5 M
      generalize X[M]'(by omega) = u at hcj
      have hgr : w5.grownBy (w5.setCell ⟨g, M, none⟩ (.int .i64 m5)) (some g) :=
        ⟨rfl, rfl, rfl, by simp [World.setCell], fun k _ hk => Below.heap_setCell _ _ _ _ (fun e => hk (by rw [e]))⟩
      have HE := Lib.hid (And.intro (own_set o5 M m5) (And.intro (hrd5.own hbl o5 hgr) (gOwn g5 hgr (fun k hk => by cases hk; exact hB))))
      clear hgr
      go_wp2
      go_ret
      exact ⟨_, _, rfl, HE.out.1, by simp; omega, ⟨_, by omega, HE.out.2.1⟩, HE.out.2.2⟩
    · have hm0' : (m == 0) = false := by simp [hm0]
      go_wp2
      go_ret
      exact ⟨_, _, rfl, o3, hl2, ⟨_, by omega, hrd3⟩, g3⟩

set_option maxHeartbeats 1000000 in
theorem drawSumsOf_any (v : Value) (zs : List Int) (w : World) (hr : RBytes w v zs) (hl : zs.length ≤ 1048576) :
    Calls Try.prog 21 #[v] w fun e w' => ∃ u xs, e = .returned u ∧ OwnInts w' w.heap.size u xs ∧ xs.length ≤ 16 ∧ Below w.heap.size w w' := by
  go_enter Try.func21, Try.ntmps21
  go_wp2_with fail
  refine (l6Open_any v zs _ hr hl).mono ?_
  rintro e w1 ⟨b, rfl, hb, r1, b1⟩
  go_wp2_with fail
  refine (l92Values_any _ b 0 _ r1 (by omega)).mono ?_
  rintro e w2 ⟨u, xs, rfl, o2, hl2, -, g2⟩
  go_wp2
  go_ret
  exact ⟨_, _, rfl, o2.base b1.size, hl2, b1.grown g2 b1.size (fun j hj => by cases hj; exact hb)⟩
end Go.Proofs.Ytjidmmjbgffapaa
