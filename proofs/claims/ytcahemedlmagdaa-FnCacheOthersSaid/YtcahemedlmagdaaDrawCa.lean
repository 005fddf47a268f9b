/- What is drawn for caches: l92Cache. -/
import Derived.Test.YtcahemedlmagdaaCput
import Derived.Test.YtcahemedlmagdaaRdPt
import Derived.Test.YtcahemedlmagdaaDraw
namespace Go.Proofs.Ytcahemedlmagdaa
open Go.RowKit
set_option linter.unusedVariables false
set_option linter.unusedSimpArgs false

theorem OwnRow.rd {α : Type} {L : Lay α} {e : TypeId} {w w' : World} {B b : Nat} {v : Value} {es : List α} (h : OwnRow L e w B v es) (hb : b < B) (hg : w.grownBy w' (some b)) : OwnRow L e w' B v es :=
  h.gr hg (ap_ne fun k hk => by have := (h.lts k hk).1; omega)
theorem IsRd.row {w w' : World} {S b B : Nat} {p : Int} {α : Type} {L : Lay α} {e : TypeId} {v : Value} {es : List α} (h : IsRd w S b p) (hb : b < B) (ho : OwnRow L e w B v es) (hg : w.grownBy w' v.ownBlock) : IsRd w' S b p :=
  h.grown hg (fun k hk => by have := (ho.lts k hk).1; have := h.1; omega) (fun e => by have := (ho.lts b e.symm).1; omega)
theorem flat_f0 (es : List Ent) (i : Nat) (hi : i < es.length) (x : Int) : (flat EL es).set (i * 3) (.int .i64 x) = flat EL (es.set i (x, es[i].2.1, es[i].2.2)) := by
  induction es generalizing i with
  | nil => simp at hi
  | cons e es ih =>
    cases i with
    | zero => simp [flat, EL, entC]
    | succ i =>
      have h := ih i (by simpa using hi)
      rw [List.set_cons_succ, flat_cons, flat_cons, List.getElem_cons_succ, ← h, show (i + 1) * 3 = i * 3 + 3 by omega]
      simp [EL, entC]
theorem flat_f1 (es : List Ent) (i : Nat) (hi : i < es.length) (x : Int) : (flat EL es).set (i * 3 + 1) (.int .i64 x) = flat EL (es.set i (es[i].1, x, es[i].2.2)) := by
  induction es generalizing i with
  | nil => simp at hi
  | cons e es ih =>
    cases i with
    | zero => simp [flat, EL, entC]
    | succ i =>
      have h := ih i (by simpa using hi)
      rw [List.set_cons_succ, flat_cons, flat_cons, List.getElem_cons_succ, ← h, show (i + 1) * 3 + 1 = i * 3 + 1 + 3 by omega]
      simp [EL, entC]
theorem flat_f2 (es : List Ent) (i : Nat) (hi : i < es.length) (x : Int) : (flat EL es).set (i * 3 + 2) (.int .i64 x) = flat EL (es.set i (es[i].1, es[i].2.1, x)) := by
  induction es generalizing i with
  | nil => simp at hi
  | cons e es ih =>
    cases i with
    | zero => simp [flat, EL, entC]
    | succ i =>
      have h := ih i (by simpa using hi)
      rw [List.set_cons_succ, flat_cons, flat_cons, List.getElem_cons_succ, ← h, show (i + 1) * 3 + 2 = i * 3 + 2 + 3 by omega]
      simp [EL, entC]
/-- One field stored. -/
theorem OwnRow.fld {e : TypeId} {w : World} {B g n cap : Nat} {es : List Ent} (h : OwnRow EL e w B (.slice (some ⟨g, 0, none⟩) n cap) es) (i j : Nat) (hi : i < es.length) (hj : j < 3) (x : Int) :
    ∃ es' : List Ent, es'.length = es.length ∧ OwnRow EL e (w.setCell ⟨g, i * 3 + j, none⟩ (.int .i64 x)) B (.slice (some ⟨g, 0, none⟩) n cap) es' ∧ w.grownBy (w.setCell ⟨g, i * 3 + j, none⟩ (.int .i64 x)) (some g) := by
  obtain rfl := h.len
  have h1 := World.ownsRow.stored h (i * 3 + j) (.int .i64 x)
  have hj3 : j = 0 ∨ j = 1 ∨ j = 2 := by omega
  rcases hj3 with rfl | rfl | rfl
  · rw [Nat.add_zero] at h1 ⊢
    rw [flat_f0 es i hi] at h1
    exact ⟨_, List.length_set, by unfold OwnRow; rw [List.length_set]; exact h1.1, h1.2⟩
  · rw [flat_f1 es i hi] at h1
    exact ⟨_, List.length_set, by unfold OwnRow; rw [List.length_set]; exact h1.1, h1.2⟩
  · rw [flat_f2 es i hi] at h1
    exact ⟨_, List.length_set, by unfold OwnRow; rw [List.length_set]; exact h1.1, h1.2⟩

set_option maxHeartbeats 1000000 in
theorem l91Time_any (S b : Nat) (p : Int) (w : World) (hr : IsRd w S b p) (hp : p ≤ 900000) :
    Calls Try.prog 43 #[.pointer (some ⟨b, 0, none⟩)] w fun e w' => ∃ m, e = .returned (.int .i64 m) ∧ (-1 ≤ m ∧ m ≤ 1000) ∧ IsRd w' S b (p + 2) ∧ w.grownBy w' (some b) := by
  have hbl := hr.lt
  go_enter Try.func43, Try.ntmps43
  go_wp2_with fail
  refine (pick_any S b p _ _ hr (by omega) (by omega) (by omega)).mono ?_
  rintro e w1 ⟨m1, rfl, ⟨hm, hm'⟩, hr1, hg1⟩
  cases h0 : (m1 == 0) with
  | true =>
    go_wp2_with fail
    refine (pick_any S b (p + 1) _ _ (hr1.alloc _) (by omega) (by omega) (by omega)).mono ?_
    rintro e w2 ⟨m2, rfl, ⟨hm2, hm2'⟩, hr2, hg2⟩
    have hs := hg1.size
    have hlit : ∀ j x, (#[Value.int .i64 (-1), .int .i64 0, .int .i64 999, .int .i64 1000] : Array Value)[j]? = some x → w2.cell? ⟨w1.heap.size, j, none⟩ = some x := by
      intro j x hj
      refine hg2.cell ?_ (by simp; omega)
      rw [cell_of_row _ _ _ _ _ (0, 0) (heap_alloc_new _ _)]
      exact hj
    have l0 := hlit 0 _ rfl
    have l1 := hlit 1 _ rfl
    have l2 := hlit 2 _ rfl
    have l3 := hlit 3 _ rfl
    clear hlit
    have hx4 : m2 = 0 ∨ m2 = 1 ∨ m2 = 2 ∨ m2 = 3 := by omega
    have G := Lib.hid ((gAlloc hg1 (.cells #[.int .i64 (-1), .int .i64 0, .int .i64 999, .int .i64 1000] 3)).trans hg2)
    rcases hx4 with rfl | rfl | rfl | rfl
    all_goals
      go_wp2
      go_ret
      exact ⟨_, rfl, ⟨by omega, by omega⟩, by rw [show p + 2 = p + 1 + 1 by omega]; exact hr2, G.out⟩
  | false =>
    go_wp2_with fail
    refine (pick_any S b (p + 1) _ _ hr1 (by omega) (by omega) (by omega)).mono ?_
    rintro e w2 ⟨m2, rfl, ⟨hm2, hm2'⟩, hr2, hg2⟩
    go_wp2
    go_ret
    exact ⟨_, rfl, ⟨by omega, by omega⟩, by rw [show p + 2 = p + 1 + 1 by omega]; exact hr2, hg1.trans hg2⟩

set_option maxRecDepth 100000 in
set_option maxHeartbeats 4000000 in
theorem l92Cache_any (S b : Nat) (p : Int) (w : World) (hr : IsRd w S b p) (hp : p ≤ 800000) :
    Calls Try.prog 23 #[.pointer (some ⟨b, 0, none⟩)] w fun e w' => ∃ u xs, e = .returned u ∧ OwnRow EL entT w' w.heap.size u xs ∧ xs.length ≤ 20 ∧ (∃ q, q ≤ p + 100 ∧ IsRd w' S b q) ∧ w.grownBy w' (some b) := by
  obtain ⟨i0, hi, hz0, hz1, hz2⟩ := info_parts infoEn4
  have hbl := hr.lt
  have hp0 := hr.2.1
  go_enter Try.func23, Try.ntmps23
  go_wp2
  go_loopw [3, 4] (fun o i wr => ∃ (j : Nat) (xs : List Ent), j ≤ 9 ∧ xs.length ≤ j ∧ i = .int .i64 j ∧ OwnRow EL entT wr w.heap.size o xs ∧ Hid (o ≠ .slice none 0 0) ∧ IsRd wr S b (p + 4 * j) ∧ w.grownBy wr (some b)) (fun _ i _ => 9 - (intOf i).toNat)
  case atStart => exact ⟨0, [], Nat.zero_le _, Nat.zero_le _, rfl, OwnRow.empty EL entT w, Lib.hid (by simp), by simpa using hr.alloc _, gAlloc (grown_refl w _) _⟩
  case round =>
    obtain ⟨j, xs, hj, hxj, rfl, own, NN, rd, G⟩ := hrel
    rcases own.shape with ⟨rfl, _⟩ | ⟨g, cap, rfl, hBg, -, hncap, hcm⟩
    · exact absurd rfl NN.out
    go_wp2_with fail
    refine (pick_any S b _ _ _ rd (by omega) (by omega) (by omega)).mono ?_
    rintro e w1 ⟨m, rfl, ⟨hm, hm'⟩, r1, g1⟩
    have o1 := own.rd hbl g1
    have G1 := G.trans g1
    clear own rd G g1
    by_cases hlt : (j : Int) < m
    · have hd : decide ((j : Int) < m) = true := decide_eq_true hlt
      go_wp2_with fail
      refine (pick_any S b _ _ _ r1 (by omega) (by omega) (by omega)).mono ?_
      rintro e w2 ⟨m2, rfl, ⟨hm2, hm2'⟩, r2, g2⟩
      have o2 := o1.rd hbl g2
      have G2 := G1.trans g2
      clear o1 r1 G1 g2
      go_wp2_with fail
      refine (pick_any S b _ _ _ r2 (by omega) (by omega) (by omega)).mono ?_
      rintro e w3 ⟨m3, rfl, ⟨hm3, hm3'⟩, r3, g3⟩
      have o3 := o2.rd hbl g3
      have G3 := G2.trans g3
      clear o2 r2 G2 g3
      go_wp2_with fail
      refine (pick_any S b _ _ _ r3 (by omega) (by omega) (by omega)).mono ?_
      rintro e w4 ⟨m4, rfl, ⟨hm4, hm4'⟩, r4, g4⟩
      have o4 := o3.rd hbl g4
      have G4 := G3.trans g4
      clear o3 r3 G3 g4
      go_wp2_with fail
      refine (specCachePut_any _ xs _ _ _ _ (by omega) o4.reads).mono ?_
      rintro e w5 ⟨u5, rfl, o5, b5, n5⟩
      have hl5 := cpL_len xs m2 m3 (20 + m4)
      have o5' := Lib.hid (o5.base G4.size)
      have r5 := r4.belowAll b5
      have G5 := gBelow G4 b5
      have NN5 := Lib.hid n5
      clear o4 r4 G4 b5 o5 n5
      generalize cpL xs m2 m3 (20 + m4) = xs5 at *
      generalize cpG xs m2 m3 (20 + m4) = tq at *
      go_wp2
      go_roundw
      case rel => exact ⟨j + 1, xs5, by omega, by omega, by go_num, o5'.out, NN5, r5.up (by omega), G5⟩
      case measure => simp [intOf]; omega
    · have hd : decide ((j : Int) < m) = false := decide_eq_false hlt
      clear hlt
      by_cases hz : xs.length = 0
      · have hq : ((xs.length : Int) == 0) = true := by simp [hz]
        have HZ := Lib.hid hz; clear hz
        go_wp2
        go_ret
        exact ⟨_, xs, rfl, o1, by omega, ⟨_, by omega, r1⟩, G1⟩
      · have hq : ((xs.length : Int) == 0) = false := by rw [beq_eq_false_iff_ne]; omega
        go_wp2_with fail
        refine (pick_any S b _ _ _ r1 (by omega) (by omega) (by omega)).mono ?_
        rintro e w2 ⟨k, rfl, ⟨hk, hk'⟩, r2, g2⟩
        obtain ⟨k, rfl⟩ := Int.eq_ofNat_of_zero_le hk
        have o2 := o1.rd hbl g2
        have G2 := G1.trans g2
        clear o1 r1 G1 g2
        go_wp2_with fail
        refine (pick_any S b _ _ _ r2 (by omega) (by omega) (by omega)).mono ?_
        rintro e w3 ⟨m3, rfl, ⟨hm3, hm3'⟩, r3, g3⟩
        have o3 := o2.rd hbl g3
        have G3 := G2.trans g3
        clear o2 r2 G2 g3
        have hkl : k < xs.length := by omega
        have hk63 : (k : Int) < xs.length := hk'
        by_cases h0 : m3 = 0
        · have q0 : (m3 == 0) = true := by simp [h0]
          clear h0
          go_wp2_with fail
          refine (l91Point_any S b _ _ r3 (by omega)).mono ?_
          rintro e w4 ⟨m4, rfl, -, r4, g4⟩
          have o4 := o3.rd hbl g4
          have G4 := G3.trans g4
          obtain ⟨k0, -, -⟩ := o4.ent k hkl
          obtain ⟨u0, k0⟩ : ∃ u, w4.cell? ⟨g, k * 3, none⟩ = some u := ⟨_, k0⟩
          have f0 := o4.frozenAt (k * 3)
          obtain ⟨es, hel, o5, g5⟩ := o4.fld k 0 hkl (by omega) m4
          have r5 := Lib.hid (r4.row hbl o4 g5)
          have G5 := Lib.hid (gOwn G4 g5 (fun x hx => by cases hx; exact hBg))
          have O5 := Lib.hid o5
          clear o3 r3 G3 g4 o4 r4 G4 o5 g5
          go_wp2
          go_ret
          exact ⟨_, es, rfl, O5.out, by omega, ⟨_, by omega, r5.out⟩, G5.out⟩
        · have q0 : (m3 == 0) = false := by simp [h0]
          by_cases h1 : m3 = 1
          · have q1 : (m3 == 1) = true := by simp [h1]
            clear h0 h1
            go_wp2_with fail
            refine (pick_any S b _ _ _ r3 (by omega) (by omega) (by omega)).mono ?_
            rintro e w4 ⟨m4, rfl, ⟨hm4, hm4'⟩, r4, g4⟩
            have o4 := o3.rd hbl g4
            have G4 := G3.trans g4
            obtain ⟨-, k0, -⟩ := o4.ent k hkl
            obtain ⟨u0, k0⟩ : ∃ u, w4.cell? ⟨g, k * 3 + 1, none⟩ = some u := ⟨_, k0⟩
            have f0 := o4.frozenAt (k * 3 + 1)
            obtain ⟨es, hel, o5, g5⟩ := o4.fld k 1 hkl (by omega) (m4 * 101 - 1)
            have r5 := Lib.hid (r4.row hbl o4 g5)
            have G5 := Lib.hid (gOwn G4 g5 (fun x hx => by cases hx; exact hBg))
            have O5 := Lib.hid o5
            clear o3 r3 G3 g4 o4 r4 G4 o5 g5
            go_wp2
            go_ret
            exact ⟨_, es, rfl, O5.out, by omega, ⟨_, by omega, r5.out⟩, G5.out⟩
          · have q1 : (m3 == 1) = false := by simp [h1]
            by_cases h2 : m3 = 2
            · have q2 : (m3 == 2) = true := by simp [h2]
              clear h0 h1 h2
              go_wp2_with fail
              refine (l91Time_any S b _ _ r3 (by omega)).mono ?_
              rintro e w4 ⟨m4, rfl, -, r4, g4⟩
              have o4 := o3.rd hbl g4
              have G4 := G3.trans g4
              obtain ⟨-, -, k0⟩ := o4.ent k hkl
              obtain ⟨u0, k0⟩ : ∃ u, w4.cell? ⟨g, k * 3 + 2, none⟩ = some u := ⟨_, k0⟩
              have f0 := o4.frozenAt (k * 3 + 2)
              obtain ⟨es, hel, o5, g5⟩ := o4.fld k 2 hkl (by omega) m4
              have r5 := Lib.hid (r4.row hbl o4 g5)
              have G5 := Lib.hid (gOwn G4 g5 (fun x hx => by cases hx; exact hBg))
              have O5 := Lib.hid o5
              clear o3 r3 G3 g4 o4 r4 G4 o5 g5
              go_wp2
              go_ret
              exact ⟨_, es, rfl, O5.out, by omega, ⟨_, by omega, r5.out⟩, G5.out⟩
            · have q2 : (m3 == 2) = false := by simp [h2]
              by_cases h3 : m3 = 3
              · have q3 : (m3 == 3) = true := by simp [h3]
                clear h0 h1 h2 h3
                go_wp2_with (at_builtin; refine wpList_append_own _ rfl _ _ 23 rfl w.heap.size 30 i0 (.agg #[.int .i64 0, .int .i64 0, .int .i64 0]) 3 24 Try.underlying23 hi hz0 hz1 hz2 rfl (by decide) _ _ _ rfl (o3.al _) ⟨w3.heap.size, 0, none⟩ 1 1 [.int .i64 40, .int .i64 0, .int .i64 5] rfl rfl (cells_ent _ 40 0 5 rfl _) (oneCell_ent _ _ _) ?c3 ?c4 ?c5 ?_)
                case c3 => unfold maxLen; omega
                case c4 => omega
                case c5 => have := G3.size; simp; omega
                intro v' w4 hown4 hg4 _
                have o4 := Lib.hid (app_ent hown4 rfl)
                have r4 := Lib.hid ((r3.alloc (.cells #[.int .i64 40, .int .i64 0, .int .i64 5] entT)).row hbl (o3.al _) hg4)
                have G4 := Lib.hid (gOwn (gAlloc G3 (.cells #[.int .i64 40, .int .i64 0, .int .i64 5] entT)) hg4 (fun x hx => ((o3.al (.cells #[.int .i64 40, .int .i64 0, .int .i64 5] entT)).lts x hx).1))
                clear hown4 hg4 o3 r3 G3
                go_wp2
                go_ret
                exact ⟨_, _, rfl, o4.out, by simp; omega, ⟨_, by omega, r4.out⟩, G4.out⟩
              · have q3 : (m3 == 3) = false := by simp [h3]
                clear h0 h1 h2 h3
                go_wp2
                go_ret
                exact ⟨_, xs, rfl, o3, by omega, ⟨_, by omega, r3⟩, G3⟩
end Go.Proofs.Ytcahemedlmagdaa
