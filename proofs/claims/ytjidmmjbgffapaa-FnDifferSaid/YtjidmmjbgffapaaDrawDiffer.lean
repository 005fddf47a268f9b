/- What DrawSumsDiffer draws. -/
import Derived.Test.YtjidmmjbgffapaaDrawSet
import Derived.Test.YtjidmmjbgffapaaClone
import Derived.Laws.AppendOwnNone
namespace Go.Proofs.Ytjidmmjbgffapaa
open Go.RowKit
set_option linter.unusedVariables false
set_option linter.unusedSimpArgs false

set_option maxHeartbeats 600000 in
theorem drawSumsDiffer_any (v : Value) (zs : List Int) (w : World) (hr : RBytes w v zs) (hl : zs.length ≤ 1048576) :
    Calls Try.prog 28 #[v] w fun e w' => ∃ u1 u2 xs ys, e = .returned (.tuple #[u1, u2]) ∧ OwnInts w' w.heap.size u1 xs ∧ OwnInts w' w.heap.size u2 ys ∧ xs.length ≤ 31 ∧ ys.length ≤ 31 ∧ Below w.heap.size w w' := by
  obtain ⟨i0, hi0, hz0, hz1, hz2⟩ := info_parts infoInt
  go_enter Try.func28, Try.ntmps28
  go_wp2_with fail
  refine (l6Open_any v zs _ hr hl).mono ?_
  rintro e w1 ⟨b, rfl, hb, r1, b1⟩
  have hbl := r1.lt
  have hs1 := b1.size
  go_wp2_with fail
  refine (l92Sums_any _ b 0 _ r1 (by omega)).mono ?_
  rintro e w2 ⟨u, xs, rfl, o2, hl2, ⟨q, hq, r2⟩, g2⟩
  have hbl2 := hbl
  have hs12 := g2.size
  go_wp2
  go_loopw [6, 7, 8] (fun vb i x wr => ∃ (k : Nat) (ys : List Int) (p : Int), k ≤ 4 ∧ i = .int .i64 k ∧ Hid (ys.length ≤ 31) ∧ OwnInts wr w1.heap.size vb ys ∧ OwnInts wr w1.heap.size u xs ∧ p ≤ 100 + 10 * k ∧ IsRd wr w.heap.size b p ∧ w1.grownBy wr (some b)) (fun _ i _ _ => 4 - (intOf i).toNat)
  case atStart => exact ⟨0, xs, q, by omega, rfl, Lib.hid hl2, o2, o2, by omega, r2, g2⟩
  case round =>
    obtain ⟨k, ys, p, hk, rfl, hyl, ob, oa, hp, rd, hg⟩ := hrel
    go_wp2_with fail
    refine (pick_any _ b _ 4 _ rd (by omega) (by omega) (by omega)).mono ?_
    rintro e w3 ⟨m, rfl, ⟨hm, hm'⟩, rd3, g3⟩
    have ob3 := ob.rd hbl g3
    have oa3 := oa.rd hbl g3
    have hg3 := hg.trans g3
    clear ob oa rd g3 hg
    by_cases hlt : (k : Int) < m
    · go_wp2_with fail
      refine (pick_any _ b _ 16 _ rd3 (by omega) (by omega) (by omega)).mono ?_
      rintro e w4 ⟨m4, rfl, ⟨hm4, hm4'⟩, rd4, g4⟩
      have ob4 := ob3.rd hbl g4
      have oa4 := oa3.rd hbl g4
      have hg4 := hg3.trans g4
      go_wp2_with fail
      refine (pick_any _ b _ 250 _ rd4 (by omega) (by omega) (by omega)).mono ?_
      rintro e w5 ⟨m5, rfl, ⟨hm5, hm5'⟩, rd5, g5⟩
      have ob5 := ob4.rd hbl g5
      have oa5 := oa4.rd hbl g5
      have hg5 := hg4.trans g5
      clear ob3 oa3 rd3 hg3 ob4 oa4 rd4 hg4 g4 g5
      go_wp2_with fail
      refine (specSumsSet_any _ ys m4 m5 _ (by have := hyl.out; omega) ob5.reads).mono ?_
      rintro e w6 ⟨u6, rfl, o6, b6⟩
      have hl6 : Hid ((setM ys m4 m5).length ≤ 31) := Lib.hid (length_setM _ _ _)
      generalize setM ys m4 m5 = zs6 at o6 hl6
      have ob6 := ob5.below b6
      have oa6 := oa5.below b6
      have hg6 := gBelow hg5 b6
      have rd6 := rd5.belowAll b6
      have o6' := o6.base hg5.size
      clear ob5 oa5 hg5 rd5 o6 b6
      obtain ⟨a6, cap6, rfl, -, -, -⟩ := o6'.reads
      by_cases h0 : zs6.length = 0
      · have h0' : decide ((0 : Int) < zs6.length) = false := decide_eq_false (by omega)
        go_wp2
        go_roundw
        case rel => exact ⟨k + 1, ys, p + 1 + 1 + 1, by omega, by go_num, hyl, ob6, oa6, by omega, rd6, hg6⟩
        case measure => simp [intOf]; omega
      · have h0' : decide ((0 : Int) < zs6.length) = true := decide_eq_true (by omega)
        go_wp2
        go_roundw
        case rel => exact ⟨k + 1, zs6, p + 1 + 1 + 1, by omega, by go_num, hl6, o6', oa6, by omega, rd6, hg6⟩
        case measure => simp [intOf]; omega
    · go_wp2_with fail
      refine (pick_any _ b _ 16 _ rd3 (by omega) (by omega) (by omega)).mono ?_
      rintro e w4 ⟨m4, rfl, ⟨hm4, hm4'⟩, rd4, g4⟩
      have ob4 := ob3.rd hbl g4
      have oa4 := oa3.rd hbl g4
      have hg4 := hg3.trans g4
      clear ob3 oa3 rd3 hg3 g4
      by_cases h0 : m4 = 0
      · have h0' : (m4 == 0) = true := by simp [h0]
        have H0 := Lib.hid h0
        clear h0
        go_wp2_with fail
        refine (l92Sums_any _ b _ _ rd4 (by omega)).mono ?_
        rintro e w5 ⟨vz, zs5, rfl, o5, hl5, -, g5⟩
        have oa5 := oa4.rd hbl g5
        have o5' := o5.base hg4.size
        have hg5 := hg4.trans g5
        have HL := Lib.hid hl5; clear hl5
        rcases ownsRow_shape o5' with ⟨rfl, hn0⟩ | ⟨g, capb, rfl, hB, hgl, hn, hc⟩
        · go_wp2_with (at_builtin; refine wpList_append_own_none rfl _ _ 22 rfl w5.heap.size 3 i0 1 rfl hi0 _ 0 [] rfl (own_empty w5) rfl ?_)
          go_wp2
          go_ret2
          exact ⟨_, _, xs, [], rfl, (oa5.alloc _).base b1.size, (own_empty w5).base (Nat.le_trans b1.size hg5.size), hl2, by simp, (b1.grown hg5 b1.size (fun j hj => by cases hj; exact hb)).trans ((below_alloc w5 _).mono (Nat.le_trans b1.size hg5.size))⟩
        · have hcell := o5'.reads.addr.2
          have hnews : ∀ o j x, (ints zs5)[j]? = some x → (w5.alloc o).cell? ((⟨g, 0, none⟩ : Addr).add j) = some x := by
            intro o j x hj
            obtain ⟨h1, h2⟩ := hcell j x hj
            have h3 : ((⟨g, 0, none⟩ : Addr).add j).block = g := by unfold Addr.add; split <;> rfl
            rw [(below_alloc w5 o).cell (p := (⟨g, 0, none⟩ : Addr).add j) (by rw [h3]; exact h1)]; exact h2
          clear hcell
          go_wp2_with (at_builtin; refine wpList_append_own _ rfl _ _ 22 rfl w5.heap.size 3 i0 (.int .i64 0) 1 8 Try.underlying22 hi0 hz0 hz1 hz2 rfl (by decide) _ 0 [] rfl (own_empty w5) ⟨g, 0, none⟩ zs5.length capb (ints zs5) rfl (by simp) (hnews _) (ints_oneCell _) ?c3 ?c4 ?c5 ?_)
          case c3 => have := HL.out; simp; unfold maxLen; omega
          case c4 => have := HL.out; simp; omega
          case c5 => simp
          intro v' w9 hown hg9 _
          have o9 : OwnInts w9 w5.heap.size v' zs5 := own_append0 (m := 0) hown (by simp)
          have b9 : Below w5.heap.size w5 w9 := (below_alloc w5 _).grown hg9 (by simp) (fun j hj => by cases hj; exact Nat.le_refl _)
          clear hown hg9 hnews
          go_wp2
          go_ret2
          exact ⟨_, _, xs, zs5, rfl, (oa5.below b9).base b1.size, o9.base (Nat.le_trans b1.size hg5.size), hl2, HL.out, (b1.grown hg5 b1.size (fun j hj => by cases hj; exact hb)).trans (b9.mono (Nat.le_trans b1.size hg5.size))⟩
      · have h0' : (m4 == 0) = false := by simp [h0]
        have HL := hyl
        rcases ownsRow_shape ob4 with ⟨rfl, hn0⟩ | ⟨g, capb, rfl, hB, hgl, hn, hc⟩
        · go_wp2_with (at_builtin; refine wpList_append_own_none rfl _ _ 22 rfl w4.heap.size 3 i0 1 rfl hi0 _ 0 [] rfl (own_empty w4) rfl ?_)
          go_wp2
          go_ret2
          exact ⟨_, _, xs, [], rfl, (oa4.alloc _).base b1.size, (own_empty w4).base (Nat.le_trans b1.size hg4.size), hl2, by simp, (b1.grown hg4 b1.size (fun j hj => by cases hj; exact hb)).trans ((below_alloc w4 _).mono (Nat.le_trans b1.size hg4.size))⟩
        · have hcell := ob4.reads.addr.2
          have hnews : ∀ o j x, (ints ys)[j]? = some x → (w4.alloc o).cell? ((⟨g, 0, none⟩ : Addr).add j) = some x := by
            intro o j x hj
            obtain ⟨h1, h2⟩ := hcell j x hj
            have h3 : ((⟨g, 0, none⟩ : Addr).add j).block = g := by unfold Addr.add; split <;> rfl
            rw [(below_alloc w4 o).cell (p := (⟨g, 0, none⟩ : Addr).add j) (by rw [h3]; exact h1)]; exact h2
          clear hcell
          go_wp2_with (at_builtin; refine wpList_append_own _ rfl _ _ 22 rfl w4.heap.size 3 i0 (.int .i64 0) 1 8 Try.underlying22 hi0 hz0 hz1 hz2 rfl (by decide) _ 0 [] rfl (own_empty w4) ⟨g, 0, none⟩ ys.length capb (ints ys) rfl (by simp) (hnews _) (ints_oneCell _) ?c3 ?c4 ?c5 ?_)
          case c3 => have := HL.out; simp; unfold maxLen; omega
          case c4 => have := HL.out; simp; omega
          case c5 => simp
          intro v' w9 hown hg9 _
          have o9 : OwnInts w9 w4.heap.size v' ys := own_append0 (m := 0) hown (by simp)
          have b9 : Below w4.heap.size w4 w9 := (below_alloc w4 _).grown hg9 (by simp) (fun j hj => by cases hj; exact Nat.le_refl _)
          clear hown hg9 hnews
          go_wp2
          go_ret2
          exact ⟨_, _, xs, ys, rfl, (oa4.below b9).base b1.size, o9.base (Nat.le_trans b1.size hg4.size), hl2, HL.out, (b1.grown hg4 b1.size (fun j hj => by cases hj; exact hb)).trans (b9.mono (Nat.le_trans b1.size hg4.size))⟩
end Go.Proofs.Ytjidmmjbgffapaa
