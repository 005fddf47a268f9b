/- What is drawn for placement: l91Nodes, l92Place, l92Table. -/
import Derived.Test.YtfklkkelgpeccaaGood
import Derived.Test.YtfklkkelgpeccaaPtS
namespace Go.Proofs.Ytfklkkelgpeccaa
open Go.RowKit
set_option linter.unusedVariables false
set_option linter.unusedSimpArgs false

theorem OwnRow.rdx {α : Type} {L : Lay α} {e : TypeId} {w w' : World} {B b : Nat} {v : Value} {es : List α} (h : OwnRow L e w B v es) (hb : b < B) (hg : w.grownBy w' (some b)) : OwnRow L e w' B v es :=
  h.gr hg (ap_ne fun k hk => by have := (h.lts k hk).1; omega)
theorem IsRd.rowx {w w' : World} {S b B : Nat} {p : Int} {α : Type} {L : Lay α} {e : TypeId} {v : Value} {es : List α} (h : IsRd w S b p) (hb : b < B) (ho : OwnRow L e w B v es) (hg : w.grownBy w' v.ownBlock) : IsRd w' S b p :=
  h.grown hg (fun k hk => by have := (ho.lts k hk).1; have := h.1; omega) (fun e => by have := (ho.lts b e.symm).1; omega)
theorem IsRd.alx {w : World} {S b : Nat} {p : Int} (h : IsRd w S b p) (o : Obj) : IsRd (w.alloc o) S b p := h.belowAll (below_alloc w o)
/-- One number stored into a row of the call's own. -/
theorem OwnRow.put1 {w : World} {B g n cap : Nat} {es : List Int} (h : OwnRow IL 3 w B (.slice (some ⟨g, 0, none⟩) n cap) es) (i : Nat) (x : Int) :
    OwnRow IL 3 (w.setCell ⟨g, i, none⟩ (.int .i64 x)) B (.slice (some ⟨g, 0, none⟩) n cap) (es.set i x) ∧ w.grownBy (w.setCell ⟨g, i, none⟩ (.int .i64 x)) (some g) := by
  obtain rfl := h.len
  have h1 := World.ownsRow.stored h i (.int .i64 x)
  refine ⟨?_, h1.2⟩
  unfold OwnRow
  rw [List.length_set, flat_IL]
  have e : (ints es).set i (.int .i64 x) = ints (es.set i x) := by simp [ints, List.map_set]
  rw [← e, ← flat_IL]
  exact h1.1
theorem OwnRow.cell1 {w : World} {B g n cap : Nat} {es : List Int} (h : OwnRow IL 3 w B (.slice (some ⟨g, 0, none⟩) n cap) es) (i : Nat) (hi : i < es.length) : w.cell? ⟨g, i, none⟩ = some (.int .i64 es[i]) := by
  have := (h.reads.addr.2 i (.int .i64 es[i]) (by rw [flat_IL]; simp [ints, hi])).2
  rwa [Addr.add_mid, Nat.zero_add] at this
/-- A position stored into a row of tokens. -/
theorem OwnRow.putP {e : TypeId} {w : World} {B g n cap : Nat} {es : List Tok} (h : OwnRow TL e w B (.slice (some ⟨g, 0, none⟩) n cap) es) (i : Nat) (hi : i < es.length) (x : Int) :
    OwnRow TL e (w.setCell ⟨g, i * 2, none⟩ (.int .i64 x)) B (.slice (some ⟨g, 0, none⟩) n cap) (es.set i (x, es[i].2)) ∧ w.grownBy (w.setCell ⟨g, i * 2, none⟩ (.int .i64 x)) (some g) := by
  obtain rfl := h.len
  have h1 := World.ownsRow.stored h (i * 2) (.int .i64 x)
  refine ⟨?_, h1.2⟩
  unfold OwnRow
  rw [List.length_set]
  have e : ∀ (es : List Tok) (i : Nat) (hi : i < es.length), (flat TL es).set (i * 2) (.int .i64 x) = flat TL (es.set i (x, es[i].2)) := by
    intro es
    induction es with
    | nil => intro i hi; simp at hi
    | cons a es ih =>
      intro i hi
      cases i with
      | zero => simp [flat, TL, tokC]
      | succ i =>
        have h := ih i (by simpa using hi)
        rw [List.set_cons_succ, flat_cons, flat_cons, List.getElem_cons_succ, ← h, show (i + 1) * 2 = i * 2 + 2 by omega]
        simp [TL, tokC]
  rw [← e es i hi]
  exact h1.1

set_option maxRecDepth 100000 in
set_option maxHeartbeats 4000000 in
theorem l91Nodes_any (S b : Nat) (p : Int) (w : World) (hr : IsRd w S b p) (hp : p ≤ 700000) :
    Calls Try.prog 68 #[.pointer (some ⟨b, 0, none⟩)] w fun e w' => ∃ u xs, e = .returned u ∧ OwnRow IL 3 w' w.heap.size u xs ∧ xs.length ≤ 20 ∧ u ≠ .slice none 0 0 ∧ (∃ q, q ≤ p + 20 ∧ IsRd w' S b q) ∧ w.grownBy w' (some b) := by
  obtain ⟨i0, hi, hz0, hz1, hz2⟩ := info_parts infoInt
  have hbl := hr.lt
  have hp0 := hr.2.1
  have hgood := fun wx hrx => l91Good_any S b 1 p wx hrx (by omega) (by omega) (by omega)
  rw [show ((1 : Nat) : Int) = 1 from rfl] at hgood
  go_enter Try.func68, Try.ntmps68
  go_wp2_with fail
  refine (hgood _ hr).mono ?_
  clear hgood
  rintro e w1 ⟨u, xs, rfl, o1, ⟨hx1, hx10⟩, -, n1, ⟨q, hq, r1⟩, g1⟩
  have O1 := o1.il
  rcases O1.shape with ⟨rfl, _⟩ | ⟨g, cp, rfl, hBg, hgl, hncap, hcm⟩
  · exact absurd rfl n1
  clear o1 n1
  have hq0 := r1.2.1
  go_wp2_with fail
  refine (pick_any S b _ 20 _ r1 (by omega) (by omega) (by omega)).mono ?_
  rintro e w2 ⟨m2, rfl, ⟨hm2, hm2'⟩, r2, g2⟩
  have O2 := O1.rdx hbl g2
  have G2 := g1.trans g2
  clear O1 g1 g2 r1
  by_cases h0 : m2 = 0
  · have q0 : (m2 == 0) = true := by simp [h0]
    clear h0
    go_wp2_with fail
    refine (pick_any S b _ _ _ r2 (by omega) (by omega) (by omega)).mono ?_
    rintro e w3 ⟨m3, rfl, ⟨hm3, hm3'⟩, r3, g3⟩
    have O3 := O2.rdx hbl g3
    have G3 := G2.trans g3
    clear O2 G2 g3 r2
    go_wp2_with fail
    refine (l91Point_any S b _ _ r3 (by omega)).mono ?_
    rintro e w4 ⟨m4, rfl, -, r4, g4⟩
    have O4 := O3.rdx hbl g4
    have G4 := G3.trans g4
    clear O3 G3 g4 r3
    obtain ⟨m3, rfl⟩ := Int.eq_ofNat_of_zero_le hm3
    have k0 := O4.cell1 m3 (by omega)
    obtain ⟨u0, k0⟩ : ∃ u, w4.cell? ⟨g, m3, none⟩ = some u := ⟨_, k0⟩
    have f0 := O4.frozenAt m3
    obtain ⟨o5, g5⟩ := O4.put1 m3 m4
    have R5 := Lib.hid (r4.rowx hbl O4 g5)
    have G5 := Lib.hid (gOwn G4 g5 (fun x hx => by cases hx; exact hBg))
    have O5 := Lib.hid o5
    clear O4 G4 r4 o5 g5
    go_wp2
    go_ret
    exact ⟨_, _, rfl, O5.out, by simp; omega, by simp, ⟨_, by omega, R5.out⟩, G5.out⟩
  · have q0 : (m2 == 0) = false := by simp [h0]
    by_cases h1 : m2 = 1
    · have q1 : (m2 == 1) = true := by simp [h1]
      clear h0 h1
      have HC := fun j u hj => (O2.reads.addr.2 j u hj).2
      go_wp2_with (at_builtin; refine wpList_append_own _ rfl _ _ 29 rfl w.heap.size 3 i0 (.int .i64 0) 1 8 Try.underlying29 hi hz0 hz1 hz2 rfl (by decide) _ _ _ rfl O2 ⟨g, 0, none⟩ xs.length cp (flat IL xs) rfl (flat_len IL xs) HC (flat_one IL xs) (by unfold maxLen; omega) (by omega) G2.size ?_)
      intro v' w4 hown4 hg4 _
      have o4 : OwnRow IL 3 w4 w.heap.size v' (xs ++ xs) := OwnRow.app hown4 rfl rfl
      have hnn : v' ≠ .slice none 0 0 := by
        rcases o4.shape with ⟨_, h⟩ | ⟨g', c', rfl, _⟩
        · have := congrArg List.length h; simp at this; omega
        · simp
      have R4 := Lib.hid (r2.rowx hbl O2 hg4)
      have G4 := Lib.hid (gOwn G2 hg4 (fun x hx => (O2.lts x hx).1))
      have O4 := Lib.hid o4
      clear O2 hown4 hg4 o4 HC
      go_wp2
      go_ret
      exact ⟨_, _, rfl, O4.out, by simp; omega, hnn, ⟨_, by omega, R4.out⟩, G4.out⟩
    · have q1 : (m2 == 1) = false := by simp [h1]
      by_cases h2 : m2 = 2
      · have q2 : (m2 == 2) = true := by simp [h2]
        clear h0 h1 h2
        have O3 := Lib.hid (O2.take (k := 0) (by omega))
        clear O2
        go_wp2
        go_ret
        exact ⟨_, _, rfl, O3.out, by simp, by simp, ⟨_, by omega, r2⟩, G2⟩
      · have q2 : (m2 == 2) = false := by simp [h2]
        clear h0 h1 h2
        go_wp2
        go_ret
        exact ⟨_, xs, rfl, O2, by omega, by simp, ⟨_, by omega, r2⟩, G2⟩
end Go.Proofs.Ytfklkkelgpeccaa
