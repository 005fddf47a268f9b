/- What is drawn for placement: l92Place, l92Table. -/
import Derived.Test.YtfklkkelgpeccaaDrawPl
import Derived.Deep.DeepCutAuto
import Derived.Handy
namespace Go.Proofs.Ytfklkkelgpeccaa
open Go.RowKit
set_option linter.unusedVariables false
set_option linter.unusedSimpArgs false

theorem emptyIL (w : World) : OwnRow IL 3 (w.alloc (.cells #[] 3)) w.heap.size (.slice (some ⟨w.heap.size, 0, none⟩) 0 0) [] := OwnRow.empty IL _ w
theorem snocIL {w1 : World} {B n : Nat} {v' : Value} {xs : List Int} {x : Int} (h : w1.ownsRow B 3 1 v' n (flat IL xs ++ [.int .i64 x])) (hn : n = xs.length + 1) : OwnRow IL 3 w1 B v' (xs ++ [x]) := OwnRow.snoc (L := IL) h rfl hn
theorem nnIL {w : World} {B : Nat} {v : Value} {xs : List Int} {y : Int} (h : OwnRow IL 3 w B v (xs ++ [y])) : v ≠ .slice none 0 0 := own_nn h

set_option maxRecDepth 100000 in
set_option maxHeartbeats 4000000 in
theorem l92Place_any (S b : Nat) (p : Int) (w : World) (hr : IsRd w S b p) (hp : p ≤ 600000) :
    Calls Try.prog 57 #[.pointer (some ⟨b, 0, none⟩)] w fun e w' => ∃ u v xs ys, e = .returned (.tuple #[u, v]) ∧ OwnRow IL 3 w' w.heap.size u xs ∧ OwnRow IL 3 w' w.heap.size v ys ∧ xs.length ≤ 20 ∧ ys.length ≤ 21 ∧ (∃ q, q ≤ p + 100 ∧ IsRd w' S b q) ∧ w.grownBy w' (some b) := by
  obtain ⟨i0, hi, hz0, hz1, hz2⟩ := info_parts infoInt
  have hbl := hr.lt
  have hp0 := hr.2.1
  go_enter Try.func57, Try.ntmps57
  go_wp2_with fail
  refine (l91Nodes_any S b p _ hr (by omega)).mono ?_
  rintro e w1 ⟨u, xs, rfl, o1, hx20, n1, ⟨q, hq, r1⟩, g1⟩
  rcases o1.shape with ⟨rfl, _⟩ | ⟨g, cp, rfl, hBg, hgl, hncap, hcm⟩
  · exact absurd rfl n1
  have hq0 := r1.2.1
  have hs1 := g1.size
  have E1 := Lib.hid (emptyIL w1)
  have X1 := Lib.hid (o1.al (.cells #[] 3))
  have R1 := Lib.hid (r1.alx (.cells #[] 3))
  have G1 := Lib.hid (gAlloc g1 (.cells #[] 3))
  clear o1 n1 r1 g1
  go_wp2
  go_loopw [5, 6] (fun o i wr => ∃ (k : Nat) (ys : List Int), k ≤ xs.length ∧ i = .int .i64 k ∧ Hid (ys.length = k) ∧ Hid (OwnRow IL 3 wr w1.heap.size o ys) ∧ Hid (o ≠ .slice none 0 0) ∧ Hid (OwnRow IL 3 wr w.heap.size (.slice (some ⟨g, 0, none⟩) xs.length cp) xs) ∧ Hid (IsRd wr S b (q + k)) ∧ Hid (w.grownBy wr (some b)) ∧ w1.heap.size ≤ wr.heap.size) (fun _ i _ => xs.length - (intOf i).toNat)
  case atStart => exact ⟨0, [], Nat.zero_le _, rfl, rfl, E1, Lib.hid (by simp), X1, Lib.hid (by simpa using R1.out), G1, by simp⟩
  case round =>
    obtain ⟨k, ys, hk, rfl, HYL, OY, NY, OX, RD, GG, hsz⟩ := hrel
    clear E1 X1 R1 G1
    have hy20 : ys.length ≤ 20 := by have := HYL.out; omega
    rcases OY.out.shape with ⟨rfl, _⟩ | ⟨gy, cy, rfl, hBy, hgly, hncy, hcy⟩
    · exact absurd rfl NY.out
    clear hgly
    by_cases hlt : k < xs.length
    · have dk : decide ((k : Int) < (xs.length : Int)) = true := decide_eq_true (by omega)
      have dk' : decide (k < xs.length) = true := decide_eq_true hlt
      go_wp2_with fail
      refine (pick_any S b _ 5 _ RD.out (by omega) (by omega) (by omega)).mono ?_
      rintro e w3 ⟨m3, rfl, ⟨hm3, hm3'⟩, r3, g3⟩
      have O3 := OY.out.gr g3 (ap_ne fun x hx => by have := (OY.out.lts x hx).1; omega)
      have X3 := OX.out.rdx hbl g3
      have G3 := GG.out.trans g3
      have hs3 := g3.size
      clear OY OX RD GG g3
      go_wp2_with (at_builtin; refine wpList_append_own _ rfl _ _ 29 rfl w1.heap.size 3 i0 (.int .i64 0) 1 8 Try.underlying29 hi hz0 hz1 hz2 rfl (by decide) _ _ _ rfl (O3.al _) ⟨w3.heap.size, 0, none⟩ 1 1 [.int .i64 (1 + m3)] rfl rfl (cell_one_new _ _ _) (oneCell_int _) (by unfold maxLen; omega) (by omega) (by simp; omega) ?_)
      intro v' w4 hown4 hg4 _
      have o4 := snocIL hown4 rfl
      have N4 := Lib.hid (nnIL o4)
      have O4 := Lib.hid o4
      have LA := Lib.hid (O3.al (.cells #[.int .i64 (1 + m3)] 3)).lts
      have X4 := Lib.hid ((X3.al (.cells #[.int .i64 (1 + m3)] 3)).gr hg4 (ap_of fun k h1 h2 => (fun (h1' : g = k) => by have := (LA.out _ h2).1; omega) (by simpa [Value.ownBlock] using h1)))
      have R4 := Lib.hid (((r3.alx (.cells #[.int .i64 (1 + m3)] 3)).rowx (B := w1.heap.size) (by omega) (O3.al _) hg4).up (show q + (k : Int) + 1 = q + ((k + 1 : Nat) : Int) by omega))
      have G4 := Lib.hid (gOwn (gAlloc G3 (.cells #[.int .i64 (1 + m3)] 3)) hg4 (fun x hx => by have := (LA.out x hx).1; omega))
      have HY4 : Hid ((ys ++ [1 + m3]).length = k + 1) := Lib.hid (by simp [HYL.out])
      have hs4 : w1.heap.size ≤ w4.heap.size := by have := hg4.size; simp at this; omega
      clear o4 hown4 hg4 O3 X3 r3 G3 LA
      go_wp2
      go_roundw
      case rel => exact ⟨k + 1, ys ++ [1 + m3], by omega, by go_num, HY4, O4, N4, X4, R4, G4, hs4⟩
      case measure => simp [intOf]; omega
    · have dk : decide ((k : Int) < (xs.length : Int)) = false := decide_eq_false (by omega)
      have dk' : decide (k < xs.length) = false := decide_eq_false hlt
      clear hlt
      go_wp2_with fail
      refine (pick_any S b _ 16 _ RD.out (by omega) (by omega) (by omega)).mono ?_
      rintro e w3 ⟨m3, rfl, ⟨hm3, hm3'⟩, r3, g3⟩
      have O3 := Lib.hid (OY.out.gr g3 (ap_ne fun x hx => by have := (OY.out.lts x hx).1; omega))
      have X3 := Lib.hid (OX.out.rdx hbl g3)
      have G3 := Lib.hid (GG.out.trans g3)
      have R3 := Lib.hid r3
      have hs3 := g3.size
      clear OY OX RD GG g3 r3
      go_upto_if 24 with fail
      go_cut [5] (fun s5 wx => ∃ (zs : List Int) (gz cz : Nat), s5 = .slice (some ⟨gz, 0, none⟩) zs.length cz ∧ zs.length ≤ 21 ∧ Hid (OwnRow IL 3 wx w1.heap.size s5 zs) ∧ Hid (OwnRow IL 3 wx w.heap.size (.slice (some ⟨g, 0, none⟩) xs.length cp) xs) ∧ (∃ q2, q2 ≤ p + 60 ∧ Hid (IsRd wx S b q2)) ∧ Hid (w.grownBy wx (some b)) ∧ w1.heap.size ≤ wx.heap.size)
      case first =>
        cases hz : (m3 == 0) with
        | true =>
          go_wp2_with fail
          refine (pick_any S b _ 7 _ R3.out (by omega) (by omega) (by omega)).mono ?_
          rintro e w5 ⟨m5, rfl, ⟨hm5, hm5'⟩, r5, g5⟩
          have O5 := O3.out.gr g5 (ap_ne fun x hx => by have := (O3.out.lts x hx).1; omega)
          have X5 := X3.out.rdx hbl g5
          have G5 := G3.out.trans g5
          have hs5 := g5.size
          clear O3 X3 G3 R3 g5
          go_wp2_with (at_builtin; refine wpList_append_own _ rfl _ _ 29 rfl w1.heap.size 3 i0 (.int .i64 0) 1 8 Try.underlying29 hi hz0 hz1 hz2 rfl (by decide) _ _ _ rfl (O5.al _) ⟨w5.heap.size, 0, none⟩ 1 1 [.int .i64 m5] rfl rfl (cell_one_new _ _ _) (oneCell_int _) (by unfold maxLen; omega) (by omega) (by simp; omega) ?_)
          intro v' w6 hown6 hg6 _
          have o6 := snocIL hown6 rfl
          have N6 := nnIL o6
          rcases o6.shape with ⟨h, _⟩ | ⟨gz, cz, rfl, _, _, _, _⟩
          · exact absurd h N6
          have O6 := Lib.hid o6
          have LA := Lib.hid (O5.al (.cells #[.int .i64 m5] 3)).lts
          have X6 := Lib.hid ((X5.al (.cells #[.int .i64 m5] 3)).gr hg6 (ap_of fun k h1 h2 => (fun (h1' : g = k) => by have := (LA.out _ h2).1; omega) (by simpa [Value.ownBlock] using h1)))
          have R6 := Lib.hid ((r5.alx (.cells #[.int .i64 m5] 3)).rowx (B := w1.heap.size) (by omega) (O5.al _) hg6)
          have G6 := Lib.hid (gOwn (gAlloc G5 (.cells #[.int .i64 m5] 3)) hg6 (fun x hx => by have := (LA.out x hx).1; omega))
          have hs6 : w1.heap.size ≤ w6.heap.size := by have := hg6.size; simp at this; omega
          clear o6 hown6 hg6 O5 X5 r5 G5 LA N6
          go_wp2
          go_meet
          exact ⟨ys ++ [m5], gz, cz, rfl, by simp; omega, O6, X6, ⟨_, by omega, R6⟩, G6, hs6⟩
        | false =>
          go_wp2
          go_meet
          exact ⟨ys, gy, cy, rfl, by omega, O3, X3, ⟨_, by omega, R3⟩, G3, by omega⟩
      case rest =>
        obtain ⟨zs, gz, cz, rfl, hz21, OZ, OX, ⟨q2, hq2, R4⟩, G4, hsz4⟩ := hcut
        clear O3 X3 G3 R3
        have hq20 := R4.out.2.1
        go_wp2_with fail
        refine (pick_any S b _ 16 _ R4.out (by omega) (by omega) (by omega)).mono ?_
        rintro e w5 ⟨m5, rfl, ⟨hm5, hm5'⟩, r5, g5⟩
        have O5 := Lib.hid (OZ.out.gr g5 (ap_ne fun x hx => by have := (OZ.out.lts x hx).1; omega))
        have X5 := Lib.hid (OX.out.rdx hbl g5)
        have G5 := Lib.hid (G4.out.trans g5)
        have R5 := Lib.hid r5
        have hs5 := g5.size
        clear OZ OX R4 G4 g5 r5
        cases hz : (m5 == 0) with
        | false =>
          go_wp2
          go_ret2
          exact ⟨_, _, xs, zs, rfl, X5.out, O5.out.base hs1, hx20, hz21, ⟨_, by omega, R5.out⟩, G5.out⟩
        | true =>
          by_cases hzl : 0 < zs.length
          · have dz : decide ((0 : Int) < (zs.length : Int)) = true := decide_eq_true (by omega)
            have dz' : decide (0 < zs.length) = true := decide_eq_true hzl
            go_wp2_with fail
            refine (pick_any S b _ _ _ R5.out (by omega) (by omega) (by omega)).mono ?_
            rintro e w6 ⟨m6, rfl, ⟨hm6, hm6'⟩, r6, g6⟩
            have O6 := O5.out.gr g6 (ap_ne fun x hx => by have := (O5.out.lts x hx).1; omega)
            have X6 := X5.out.rdx hbl g6
            have G6 := G5.out.trans g6
            have hs6 := g6.size
            clear O5 X5 R5 G5 g6
            go_wp2_with fail
            refine (pick_any S b _ 2 _ r6 (by omega) (by omega) (by omega)).mono ?_
            rintro e w7 ⟨m7, rfl, ⟨hm7, hm7'⟩, r7, g7⟩
            have O7 := O6.gr g7 (ap_ne fun x hx => by have := (O6.lts x hx).1; omega)
            have X7 := X6.rdx hbl g7
            have G7 := G6.trans g7
            clear O6 X6 r6 G6 g7
            obtain ⟨m6, rfl⟩ := Int.eq_ofNat_of_zero_le hm6
            have k0 := O7.cell1 m6 (by omega)
            obtain ⟨u0, k0⟩ : ∃ u, w7.cell? ⟨gz, m6, none⟩ = some u := ⟨_, k0⟩
            have f0 := O7.frozenAt m6
            obtain ⟨o8, g8⟩ := O7.put1 m6 (m7 * 6)
            have LB := (O7.lts gz rfl).1
            have X8 := Lib.hid (X7.gr g8 (ap_of fun k h1 h2 => (fun (h1' : g = k) (h2' : gz = k) => by omega) (by simpa [Value.ownBlock] using h1) (by simpa using h2)))
            have R8 := Lib.hid (r7.rowx (B := w1.heap.size) (by omega) O7 g8)
            have G8 := Lib.hid (gOwn G7 g8 (fun x hx => by cases hx; omega))
            have O8 := Lib.hid o8
            clear O7 X7 r7 G7 o8 g8
            go_wp2
            go_ret2
            exact ⟨_, _, xs, _, rfl, X8.out, O8.out.base hs1, hx20, by simp; omega, ⟨_, by omega, R8.out⟩, G8.out⟩
          · have dz : decide ((0 : Int) < (zs.length : Int)) = false := decide_eq_false (by omega)
            have dz' : decide (0 < zs.length) = false := decide_eq_false hzl
            clear hzl
            go_wp2
            go_ret2
            exact ⟨_, _, xs, zs, rfl, X5.out, O5.out.base hs1, hx20, hz21, ⟨_, by omega, R5.out⟩, G5.out⟩

set_option maxRecDepth 100000 in
set_option maxHeartbeats 4000000 in
theorem l92Table_any (S b : Nat) (p : Int) (w : World) (hr : IsRd w S b p) (hp : p ≤ 500000) :
    Calls Try.prog 48 #[.pointer (some ⟨b, 0, none⟩)] w fun e w' => ∃ u ts, e = .returned u ∧ OwnRow TL tokT w' w.heap.size u ts ∧ ts.length ≤ 64 ∧ u ≠ .slice none 0 0 ∧ (∃ q, q ≤ p + 110 ∧ IsRd w' S b q) ∧ w.grownBy w' (some b) := by
  have hbl := hr.lt
  have hp0 := hr.2.1
  go_enter Try.func48, Try.ntmps48
  go_wp2_with fail
  refine (l92Place_any S b p _ hr (by omega)).mono ?_
  rintro e w1 ⟨u, v, xs, ys, rfl, o1, o2, hx20, hy21, ⟨q, hq, r1⟩, g1⟩
  have hq0 := r1.2.1
  go_wp2_with fail
  refine (specPlaceTable_any _ _ xs ys _ (by omega) (by omega) o1.li.reads o2.li.reads).mono ?_
  have hTl := ptL_len xs ys
  obtain ⟨T, hT⟩ : ∃ T, T = ptL xs ys := ⟨_, rfl⟩
  rw [← hT] at hTl ⊢
  clear hT
  rintro e w2 ⟨t, rfl, o3, b3, n3⟩
  have hs1 := g1.size
  have G2 := Lib.hid (gBelow g1 b3)
  have R2 := Lib.hid (r1.belowAll b3)
  rcases o3.shape with ⟨rfl, _⟩ | ⟨g, cp, rfl, hBg, hgl, hncap, hcm⟩
  · exact absurd rfl n3
  have O2 := Lib.hid (o3.base hs1)
  clear o1 o2 o3 b3 n3 r1 g1
  by_cases hz : 0 < T.length
  · have dz : decide ((0 : Int) < (T.length : Int)) = true := decide_eq_true (by omega)
    have dz' : decide (0 < T.length) = true := decide_eq_true hz
    go_wp2_with fail
    refine (pick_any S b _ 14 _ R2.out (by omega) (by omega) (by omega)).mono ?_
    rintro e w3 ⟨m3, rfl, ⟨hm3, hm3'⟩, r3, g3⟩
    have O3 := Lib.hid (O2.out.rdx hbl g3)
    have G3 := Lib.hid (G2.out.trans g3)
    have R3 := Lib.hid r3
    clear O2 G2 R2 r3 g3
    cases h0 : (m3 == 0) with
    | false =>
      go_wp2
      go_ret
      exact ⟨_, T, rfl, O3.out, hTl, by simp, ⟨_, by omega, R3.out⟩, G3.out⟩
    | true =>
      go_wp2_with fail
      refine (pick_any S b _ _ _ R3.out (by omega) (by omega) (by omega)).mono ?_
      rintro e w4 ⟨m4, rfl, ⟨hm4, hm4'⟩, r4, g4⟩
      have O4 := O3.out.rdx hbl g4
      have G4 := G3.out.trans g4
      clear O3 G3 R3 g4
      go_wp2_with fail
      refine (l91Point_any S b _ _ r4 (by omega)).mono ?_
      rintro e w5 ⟨m5, rfl, -, r5, g5⟩
      have O5 := O4.rdx hbl g5
      have G5 := G4.trans g5
      clear O4 G4 r4 g5
      obtain ⟨m4, rfl⟩ := Int.eq_ofNat_of_zero_le hm4
      have hm4l : m4 < T.length := by omega
      obtain ⟨k0, -⟩ := O5.tok m4 hm4l
      obtain ⟨u0, k0⟩ : ∃ u, w5.cell? ⟨g, m4 * 2, none⟩ = some u := ⟨_, k0⟩
      have f0 := O5.frozenAt (m4 * 2)
      obtain ⟨o6, g6⟩ := O5.putP m4 hm4l m5
      have R6 := Lib.hid (r5.rowx hbl O5 g6)
      have G6 := Lib.hid (gOwn G5 g6 (fun x hx => by cases hx; omega))
      have O6 := Lib.hid o6
      clear O5 G5 r5 o6 g6
      go_wp2
      go_ret
      exact ⟨_, _, rfl, O6.out, by simp; omega, by simp, ⟨_, by omega, R6.out⟩, G6.out⟩
  · have dz : decide ((0 : Int) < (T.length : Int)) = false := decide_eq_false (by omega)
    have dz' : decide (0 < T.length) = false := decide_eq_false hz
    clear hz
    go_wp2
    go_ret
    exact ⟨_, T, rfl, O2.out, hTl, by simp, ⟨_, by omega, R2.out⟩, G2.out⟩
end Go.Proofs.Ytfklkkelgpeccaa
