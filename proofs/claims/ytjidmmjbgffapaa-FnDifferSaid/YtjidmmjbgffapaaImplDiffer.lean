/- impl.SumsDiffer: the closure that visits the nodes, and the function itself. -/
import Derived.Test.YtjidmmjbgffapaaSpecDiffer
import Derived.Laws.EntriesVeiled
namespace Go.Proofs.Ytjidmmjbgffapaa
open Go.RowKit
set_option linter.unusedVariables false
set_option linter.unusedSimpArgs false

theorem cell_one {w : World} {b : Nat} {v : Value} {t : TypeId} {fr : Nat × Nat} (h : w.heap[b]? = some (.cells #[v] t fr)) : w.cell? ⟨b, 0, none⟩ = some v := by simp [World.cell?, h]
theorem frozen_one {w : World} {b : Nat} {v : Value} {t : TypeId} (h : w.heap[b]? = some (.cells #[v] t (0, 0))) : w.frozen? ⟨b, 0, none⟩ = false := by simp [World.frozen?, h]

/-- All blocks below B0 but two stay. -/
structure Vis (B0 p q : Nat) (w w' : World) : Prop where
  os : w'.os = w.os
  tape : w'.tape = w.tape
  output : w'.output = w.output
  size : w.heap.size ≤ w'.heap.size
  block : ∀ k, k < B0 → k ≠ p → k ≠ q → w'.heap[k]? = w.heap[k]?
theorem Vis.refl (B0 p q : Nat) (w : World) : Vis B0 p q w w := ⟨rfl, rfl, rfl, Nat.le_refl _, fun _ _ _ _ => rfl⟩
theorem Vis.trans {B0 p q : Nat} {a b c : World} (h : Vis B0 p q a b) (k : Vis B0 p q b c) : Vis B0 p q a c :=
  ⟨k.os.trans h.os, k.tape.trans h.tape, k.output.trans h.output, Nat.le_trans h.size k.size, fun i hi h1 h2 => (k.block i hi h1 h2).trans (h.block i hi h1 h2)⟩
theorem Vis.drewN {B0 p q : Nat} {a b : World} (h : Vis B0 p q a b) (n : Nat) : Vis B0 p q a (b.drewN n) := ⟨h.os, h.tape, h.output, h.size, h.block⟩
theorem Vis.set {B0 p q : Nat} {a b : World} (h : Vis B0 p q a b) {x : Nat} (hx : x = p ∨ x = q) (j : Nat) (v : Value) : Vis B0 p q a (b.setCell ⟨x, j, none⟩ v) :=
  h.trans ⟨rfl, rfl, rfl, by simp [World.setCell], fun k _ h1 h2 => Below.heap_setCell _ _ _ _ (by rcases hx with rfl | rfl <;> assumption)⟩
theorem Vis.grown {B0 p q : Nat} {a b c : World} {row : Option Nat} (h : Vis B0 p q a b) (hB : B0 ≤ b.heap.size) (hg : b.grownBy c row) (hr : ∀ k, row = some k → B0 ≤ k) : Vis B0 p q a c :=
  h.trans ⟨hg.os, hg.tape, hg.output, hg.size, fun k hk _ _ => hg.block k (by omega) (fun e => by have := hr k e.symm; omega)⟩

/-- What the visits lean on. -/
structure VS (w : World) (B0 Bn Ba Bb Bl Bv : Nat) (va vb fv : Value) (c : Int) (v : Value) (L : List Int) : Prop where
  n : w.heap[Bn]? = some (.cells #[.int .i64 c] 3 (0, 0))
  l : w.heap[Bl]? = some (.cells #[v] 22 (0, 0))
  a : w.cell? ⟨Ba, 0, none⟩ = some va
  b : w.cell? ⟨Bb, 0, none⟩ = some vb
  f : w.cell? ⟨Bv, 0, none⟩ = some fv
  row : OwnInts w B0 v L
  B : B0 ≤ w.heap.size

theorem VS.set {w : World} {B0 Bn Ba Bb Bl Bv : Nat} {va vb fv : Value} {c : Int} {v : Value} {L : List Int} (h : VS w B0 Bn Ba Bb Bl Bv va vb fv c v L)
    (hn : Bn < B0) (d1 : Bl ≠ Bn) (d2 : Ba ≠ Bn) (d3 : Bb ≠ Bn) (d4 : Bv ≠ Bn) (c' : Int) : VS (w.setCell ⟨Bn, 0, none⟩ (.int .i64 c')) B0 Bn Ba Bb Bl Bv va vb fv c' v L where
  n := by rw [heap_setCell_same _ _ _ _ _ _ h.n]; rfl
  l := by rw [heap_setCell_other _ _ _ _ (by simpa using d1)]; exact h.l
  a := by rw [World.cell?_of_block (w := w) (Below.heap_setCell _ _ _ _ (by simpa using d2))]; exact h.a
  b := by rw [World.cell?_of_block (w := w) (Below.heap_setCell _ _ _ _ (by simpa using d3))]; exact h.b
  f := by rw [World.cell?_of_block (w := w) (Below.heap_setCell _ _ _ _ (by simpa using d4))]; exact h.f
  row := ownsRow_setCell_below h.row (by simpa using hn) _
  B := by simpa [World.setCell] using h.B
theorem VS.drewN {w : World} {B0 Bn Ba Bb Bl Bv : Nat} {va vb fv : Value} {c : Int} {v : Value} {L : List Int} (h : VS w B0 Bn Ba Bb Bl Bv va vb fv c v L) (n : Nat) : VS (w.drewN n) B0 Bn Ba Bb Bl Bv va vb fv c v L := ⟨h.n, h.l, h.a, h.b, h.f, h.row, h.B⟩

theorem vs_append {W w4 : World} {B0 Bn Ba Bb Bl Bv : Nat} {va vb fv v' : Value} {c : Int} {v : Value} {L : List Int} {z : Int} {n : Nat} {o : Obj} (h : VS W B0 Bn Ba Bb Bl Bv va vb fv c v L)
    (hn : Bn < B0) (hlB : Bl < B0) (hA : Ba < B0) (hBb : Bb < B0) (hV : Bv < B0) (d1 : Bl ≠ Bn) (e2 : Ba ≠ Bl) (e3 : Bb ≠ Bl) (e4 : Bv ≠ Bl)
    (hown : w4.ownsRow B0 3 1 v' n (ints L ++ [.int .i64 z])) (hnn : n = L.length + 1) (hg : (W.alloc o).grownBy w4 v.ownBlock) :
    w4.heap[Bl]? = some (.cells #[v] 22 (0, 0)) ∧ VS (w4.setCell ⟨Bl, 0, none⟩ v') B0 Bn Ba Bb Bl Bv va vb fv c v' (L ++ [z]) ∧ Vis B0 Bn Bl W (w4.setCell ⟨Bl, 0, none⟩ v') := by
  have hB := h.B
  have hk : ∀ k, k < B0 → w4.heap[k]? = W.heap[k]? := fun k hk => by
    rw [hg.block k (by simp; omega) (fun e => by have := own_lt h.row k e.symm; omega)]
    exact heap_alloc_old _ _ (by omega)
  have hc : ∀ k, k < B0 → w4.cell? ⟨k, 0, none⟩ = W.cell? ⟨k, 0, none⟩ := fun k h => World.cell?_of_block (w := W) (hk k h)
  have hbl : w4.heap[Bl]? = some (.cells #[v] 22 (0, 0)) := by rw [hk Bl hlB]; exact h.l
  have hs : W.heap.size ≤ w4.heap.size := by have := hg.size; simp at this; omega
  refine ⟨hbl, ⟨?_, ?_, ?_, ?_, ?_, ?_, ?_⟩, ?_⟩
  · rw [heap_setCell_other _ _ _ _ (by simpa using (Ne.symm d1)), hk Bn hn]; exact h.n
  · rw [heap_setCell_same _ _ _ _ _ _ hbl]; rfl
  · rw [World.cell?_of_block (w := w4) (Below.heap_setCell _ _ _ _ (by simpa using e2)), hc Ba hA]; exact h.a
  · rw [World.cell?_of_block (w := w4) (Below.heap_setCell _ _ _ _ (by simpa using e3)), hc Bb hBb]; exact h.b
  · rw [World.cell?_of_block (w := w4) (Below.heap_setCell _ _ _ _ (by simpa using e4)), hc Bv hV]; exact h.f
  · exact ownsRow_setCell_below (own_snoc hown hnn) (by simpa using hlB) _
  · simp [World.setCell]; omega
  · have hv : Vis B0 Bn Bl W w4 := ⟨hg.os, hg.tape, hg.output, hs, fun k h _ _ => hk k h⟩
    exact hv.set (.inr rfl) 0 v'

theorem cells_vis {B0 Bn Bl ba1 offa bb1 offb : Nat} {w w' : World} {d : Nat → Bool} (ha1 : ba1 < B0) (ha2 : ba1 ≠ Bn) (ha3 : ba1 ≠ Bl) (hb1 : bb1 < B0) (hb2 : bb1 ≠ Bn) (hb3 : bb1 ≠ Bl)
    (h : Hid (∀ i, i < 31 → ∃ x y, w.cell? ⟨ba1, offa + i, none⟩ = some (.int .i64 x) ∧ w.cell? ⟨bb1, offb + i, none⟩ = some (.int .i64 y) ∧ d i = !decide (x = y))) (hv : Vis B0 Bn Bl w w') :
    Hid (∀ i, i < 31 → ∃ x y, w'.cell? ⟨ba1, offa + i, none⟩ = some (.int .i64 x) ∧ w'.cell? ⟨bb1, offb + i, none⟩ = some (.int .i64 y) ∧ d i = !decide (x = y)) := by
  intro i hi
  obtain ⟨x, y, h1, h2, h3⟩ := h.out i hi
  refine ⟨x, y, ?_, ?_, h3⟩
  · rw [World.cell?_of_block (w := w) (hv.block ba1 ha1 ha2 ha3)]; exact h1
  · rw [World.cell?_of_block (w := w) (hv.block bb1 hb1 hb2 hb3)]; exact h2

theorem leaf_one {d : Nat → Bool} {i : Nat} (ho : op d i = true) (hd : d i = true) (hi : 15 ≤ i) : cntL d (sub 0 i) = 1 ∧ lvsL d (sub 0 i) = [(i : Int) - 15] := by
  simp [sub, cntL, lvsL, ho, hd, hi]

theorem cnt_one {d : Nat → Bool} {k i : Nat} (ho : op d i = true) (hd : d i = false) (hi : i + 1 < 2 ^ (5 - k)) (hk : k ≤ 4) : cntL d (sub k i) = 1 ∧ lvsL d (sub k i) = [] := by
  cases k with
  | zero => simp [sub, cntL, lvsL, ho, hd]
  | succ k =>
    have h2 : 2 ^ (5 - k) = 2 * 2 ^ (5 - (k + 1)) := by rw [show 5 - k = (5 - (k + 1)) + 1 by omega, Nat.pow_succ]; omega
    have h16 : 2 ^ (5 - (k + 1)) ≤ 2 ^ 4 := Nat.pow_le_pow_right (by omega) (by omega)
    obtain ⟨a1, a2⟩ := sub_shut d k (2 * i + 1) (by rw [op_left d (by omega), ho, hd]; rfl) (by omega) (by omega)
    obtain ⟨b1, b2⟩ := sub_shut d k (2 * i + 2) (by rw [op_right d (by omega), ho, hd]; rfl) (by omega) (by omega)
    have e : sub (k + 1) i = [i] ++ (sub k (2 * i + 1) ++ sub k (2 * i + 2)) := rfl
    rw [e, cntL_append, cntL_append, lvsL_append, lvsL_append, a1, a2, b1, b2]
    simp [cntL, lvsL, ho, hd]
theorem cnt_inner {d : Nat → Bool} {k i : Nat} (ho : op d i = true) (hi : i < 15) : cntL d (sub (k + 1) i) = 1 + cntL d (sub k (2 * i + 1)) + cntL d (sub k (2 * i + 2)) ∧ lvsL d (sub (k + 1) i) = lvsL d (sub k (2 * i + 1)) ++ lvsL d (sub k (2 * i + 2)) := by
  have e : sub (k + 1) i = [i] ++ (sub k (2 * i + 1) ++ sub k (2 * i + 2)) := rfl
  rw [e, cntL_append, cntL_append, lvsL_append, lvsL_append]
  have h1 : cntL d [i] = 1 := by simp [cntL, ho]
  have h2 : lvsL d [i] = [] := by simp [lvsL]; omega
  rw [h1, h2]
  exact ⟨by omega, rfl⟩
theorem cntL_le (d : Nat → Bool) (l : List Nat) : cntL d l ≤ l.length := List.length_filter_le _ _
theorem cell_new1 (W : World) (S : Nat) (x : Value) {t : TypeId} (hS : S = W.heap.size) : ∀ j u, [x][j]? = some u → (W.alloc (.cells #[x] t)).cell? ((⟨S, 0, none⟩ : Addr).add j) = some u := by
  subst hS
  intro j u hj
  cases j with
  | zero =>
    rw [Addr.add_mid, cell_of_row _ _ _ _ _ (0, 0) (heap_alloc_new _ _)]
    simpa using hj
  | succ j => simp at hj

set_option maxHeartbeats 1000000 in
theorem visit_any (d : Nat → Bool) (B0 Bn Ba Bb Bl Bv ba1 offa capa bb1 offb capb : Nat) (fv : Value)
    (hfv : fv = .func (.func 42) #[] #[.pointer (some ⟨Bn, 0, none⟩), .pointer (some ⟨Ba, 0, none⟩), .pointer (some ⟨Bb, 0, none⟩), .pointer (some ⟨Bl, 0, none⟩), .pointer (some ⟨Bv, 0, none⟩)])
    (hn : Bn < B0) (hlB : Bl < B0) (d1 : Bl ≠ Bn) (d2 : Ba ≠ Bn) (d3 : Bb ≠ Bn) (d4 : Bv ≠ Bn) (e2 : Ba ≠ Bl) (e3 : Bb ≠ Bl) (e4 : Bv ≠ Bl) (hA : Ba < B0) (hBb : Bb < B0) (hV : Bv < B0) (hca : 31 ≤ capa) (hcb : 31 ≤ capb)
    (ha1 : ba1 < B0) (ha2 : ba1 ≠ Bn) (ha3 : ba1 ≠ Bl) (hb1 : bb1 < B0) (hb2 : bb1 ≠ Bn) (hb3 : bb1 ≠ Bl) :
    ∀ (k i : Nat) (I : Int) (w : World) (c : Int) (v : Value) (L : List Int), I = (i : Int) → k ≤ 4 → 2 ^ (4 - k) ≤ i + 1 → i + 1 < 2 ^ (5 - k) → op d i = true → 0 ≤ c → c + ((sub k i).length : Int) ≤ 1000 → L.length + (sub k i).length ≤ 1000 →
    VS w B0 Bn Ba Bb Bl Bv (.slice (some ⟨ba1, offa, none⟩) 31 capa) (.slice (some ⟨bb1, offb, none⟩) 31 capb) fv c v L →
    Hid (∀ i, i < 31 → ∃ x y, w.cell? ⟨ba1, offa + i, none⟩ = some (.int .i64 x) ∧ w.cell? ⟨bb1, offb + i, none⟩ = some (.int .i64 y) ∧ d i = !decide (x = y)) →
    Calls Try.prog 42 #[.int .i64 I, .pointer (some ⟨Bn, 0, none⟩), .pointer (some ⟨Ba, 0, none⟩), .pointer (some ⟨Bb, 0, none⟩), .pointer (some ⟨Bl, 0, none⟩), .pointer (some ⟨Bv, 0, none⟩)] w fun e w' =>
      e = .returned (.tuple #[]) ∧ ∃ v', VS w' B0 Bn Ba Bb Bl Bv (.slice (some ⟨ba1, offa, none⟩) 31 capa) (.slice (some ⟨bb1, offb, none⟩) 31 capb) fv (c + (cntL d (sub k i) : Nat)) v' (L ++ lvsL d (sub k i)) ∧ Vis B0 Bn Bl w w' := by
  intro k
  obtain ⟨i0, hi0, hz0, hz1, hz2⟩ := info_parts infoInt
  subst hfv
  induction k with
  | zero =>
    intro i I w c v L hI hk hlo hhi hop hc0 hc1 hL hVS hcells
    subst hI
    have hi15 : 15 ≤ i := by omega
    have hi31 : i < 31 := by omega
    have hl0 : (sub 0 i).length = 1 := rfl
    rw [hl0] at hc1 hL
    clear hl0
    have hcb1 : c + 1 ≤ 1000 := by omega
    have hLL0 : L.length + 1 ≤ 1000 := by omega
    have hV1 := hVS.set hn d1 d2 d3 d4 (c + 1)
    have hvis1 := (Vis.refl B0 Bn Bl w).set (.inl rfl) 0 (.int .i64 (c + 1))
    obtain ⟨x, y, hx, hy, hdi⟩ := hcells.out i hi31
    have hx1 : (w.setCell ⟨Bn, 0, none⟩ (.int .i64 (c + 1))).cell? ⟨ba1, offa + i, none⟩ = some (.int .i64 x) := by
      rw [World.cell?_of_block (w := w) (Below.heap_setCell _ _ _ _ (by simpa using ha2))]; exact hx
    have hy1 : (w.setCell ⟨Bn, 0, none⟩ (.int .i64 (c + 1))).cell? ⟨bb1, offb + i, none⟩ = some (.int .i64 y) := by
      rw [World.cell?_of_block (w := w) (Below.heap_setCell _ _ _ _ (by simpa using hb2))]; exact hy
    have q1 := cell_one hVS.n
    have q2 := frozen_one hVS.n
    have q3 := hV1.a
    have q4 := hV1.b
    have q5 := cell_one hV1.l
    have q6 := frozen_one hV1.l
    have q7 := hV1.f
    have HV1 := Lib.hid hV1
    have HVIS := Lib.hid hvis1
    have HD := Lib.hid hdi
    have HOP := Lib.hid hop
    have HHI := Lib.hid hhi
    have HLO := Lib.hid hlo
    have HKL := Lib.hid hc1
    have HLL := Lib.hid hL
    clear hV1 hvis1 hdi hop hx hy hVS hhi hlo hc1 hL
    by_cases hxy : x = y
    · have hxy' : (x == y) = true := by simp [hxy]
      have HDD : Hid (d i = false) := by unfold Hid; rw [HD.out]; simp [hxy]
      clear hxy HD
      go_enter Try.func42, Try.ntmps42
      go_wp2
      go_quiet (fail)
      go_wp2
      go_end0
      obtain ⟨c1, c2⟩ := cnt_one HOP.out HDD.out HHI.out hk
      exact ⟨rfl, v, by rw [c1, c2, List.append_nil]; exact HV1.out.drewN _, HVIS.out.drewN _⟩
    · have hxy' : (x == y) = false := by simp [hxy]
      have HDD : Hid (d i = true) := by unfold Hid; rw [HD.out]; simp [hxy]
      clear hxy HD
      have hB := HV1.out.B
      go_enter Try.func42, Try.ntmps42
      go_wp2
      go_quiet (fail)
      have hV2 := fun n => HV1.out.drewN n
      have HV2 := Lib.hid hV2
      clear hV2
      go_wp2_with (at_builtin; refine wpList_append_own _ rfl _ _ 22 rfl B0 3 i0 (.int .i64 0) 1 8 Try.underlying22 hi0 hz0 hz1 hz2 rfl (by decide) _ _ _ rfl (World.ownsRow.alloc (HV2.out _).row _) ⟨w.heap.size, 0, none⟩ 1 1 [.int .i64 ((i : Int) - 15)] rfl rfl ?c1 (oneCell_int _) ?c3 ?c4 ?c5 ?_)
      case c1 => exact cell_new1 _ _ _ (by simp [World.setCell])
      case c3 => unfold maxLen; omega
      case c4 => omega
      case c5 => simp at hB ⊢; omega
      intro v' w4 hown' hgr _
      rcases ownsRow_shape hown' with ⟨_, h0⟩ | ⟨g, cap, rfl, -, -, -, -⟩
      · omega
      obtain ⟨r1, r2, r3⟩ := vs_append (HV2.out _) hn hlB hA hBb hV d1 e2 e3 e4 hown' rfl hgr
      have s1 := cell_one r1
      have s2 := frozen_one r1
      have R2 := Lib.hid r2
      have R3 := Lib.hid r3
      clear hown' hgr r1 r2 r3
      go_wp2
      go_end0
      obtain ⟨c1, c2⟩ := leaf_one HOP.out HDD.out hi15
      exact ⟨rfl, _, by rw [c1, c2]; exact R2.out, (HVIS.out.drewN _).trans R3.out⟩
  | succ k ih =>
    intro i I w c v L hI hk hlo hhi hop hc0 hc1 hL hVS hcells
    subst hI
    have h2 : 2 ^ (5 - k) = 2 * 2 ^ (5 - (k + 1)) := by rw [show 5 - k = (5 - (k + 1)) + 1 by omega, Nat.pow_succ]; omega
    have h16 : 2 ^ (5 - (k + 1)) ≤ 2 ^ 4 := Nat.pow_le_pow_right (by omega) (by omega)
    have h4 : 2 ^ (4 - k) = 2 * 2 ^ (4 - (k + 1)) := by rw [show 4 - k = (4 - (k + 1)) + 1 by omega, Nat.pow_succ]; omega
    have hi15 : i < 15 := by omega
    have hi31 : i < 31 := by omega
    have n1 := cntL_le d (sub k (2 * i + 1))
    have n5 : (lvsL d (sub k (2 * i + 1))).length ≤ (sub k (2 * i + 1)).length := by unfold lvsL; rw [List.length_map]; exact List.length_filter_le _ _
    have hlen : (sub (k + 1) i).length = 1 + (sub k (2 * i + 1)).length + (sub k (2 * i + 2)).length := by simp [sub]; omega
    rw [hlen] at hc1 hL
    clear hlen
    have hcb1 : c + 1 ≤ 1000 := by omega
    have p1 : 2 ^ (4 - k) ≤ 2 * i + 1 + 1 := by omega
    have p2 : 2 * i + 1 + 1 < 2 ^ (5 - k) := by omega
    have p3 : 2 ^ (4 - k) ≤ 2 * i + 2 + 1 := by omega
    have p4 : 2 * i + 2 + 1 < 2 ^ (5 - k) := by omega
    have P := Lib.hid (And.intro p1 (And.intro p2 (And.intro p3 p4)))
    clear p1 p2 p3 p4 h2 h4 h16
    have IH := Lib.hid ih
    clear ih
    have hV1 := hVS.set hn d1 d2 d3 d4 (c + 1)
    have hvis1 := (Vis.refl B0 Bn Bl w).set (.inl rfl) 0 (.int .i64 (c + 1))
    obtain ⟨x, y, hx, hy, hdi⟩ := hcells.out i hi31
    have hx1 : (w.setCell ⟨Bn, 0, none⟩ (.int .i64 (c + 1))).cell? ⟨ba1, offa + i, none⟩ = some (.int .i64 x) := by
      rw [World.cell?_of_block (w := w) (Below.heap_setCell _ _ _ _ (by simpa using ha2))]; exact hx
    have hy1 : (w.setCell ⟨Bn, 0, none⟩ (.int .i64 (c + 1))).cell? ⟨bb1, offb + i, none⟩ = some (.int .i64 y) := by
      rw [World.cell?_of_block (w := w) (Below.heap_setCell _ _ _ _ (by simpa using hb2))]; exact hy
    have q1 := cell_one hVS.n
    have q2 := frozen_one hVS.n
    have q3 := hV1.a
    have q4 := hV1.b
    have q5 := cell_one hV1.l
    have q6 := frozen_one hV1.l
    have q7 := hV1.f
    have HV1 := Lib.hid hV1
    have HVIS := Lib.hid hvis1
    have HD := Lib.hid hdi
    have HOP := Lib.hid hop
    have HHI := Lib.hid hhi
    have HLO := Lib.hid hlo
    have HKL := Lib.hid hc1
    have HLL := Lib.hid hL
    clear hV1 hvis1 hdi hop hx hy hVS hhi hlo hc1 hL
    by_cases hxy : x = y
    · have hxy' : (x == y) = true := by simp [hxy]
      have HDD : Hid (d i = false) := by unfold Hid; rw [HD.out]; simp [hxy]
      clear hxy HD
      go_enter Try.func42, Try.ntmps42
      go_wp2
      go_quiet (fail)
      go_wp2
      go_end0
      obtain ⟨c1, c2⟩ := cnt_one HOP.out HDD.out HHI.out hk
      exact ⟨rfl, v, by rw [c1, c2, List.append_nil]; exact HV1.out.drewN _, HVIS.out.drewN _⟩
    · have hxy' : (x == y) = false := by simp [hxy]
      have HDD : Hid (d i = true) := by unfold Hid; rw [HD.out]; simp [hxy]
      clear hxy HD
      have HO1 : Hid (op d (2 * i + 1) = true) := by unfold Hid; rw [op_left d hi15, HOP.out, HDD.out]; rfl
      have HO2 : Hid (op d (2 * i + 2) = true) := by unfold Hid; rw [op_right d hi15, HOP.out, HDD.out]; rfl
      have HC := Lib.hid hcells
      clear hcells
      go_enter Try.func42, Try.ntmps42
      go_wp2
      go_quiet (fail)
      have hV2 := fun n => HV1.out.drewN n
      have hS2 := fun n => HVIS.out.drewN n
      have HV2 := Lib.hid hV2
      have HS2 := Lib.hid hS2
      clear hV2 hS2
      go_wp2_with fail
      refine (IH.out (2 * i + 1) _ _ _ _ _ (by omega) (by omega) P.out.1 P.out.2.1 HO1.out (by omega) (by have := HKL.out; omega) (by have := HLL.out; omega) (HV2.out _) (cells_vis ha1 ha2 ha3 hb1 hb2 hb3 HC (HS2.out _))).mono ?_
      rintro e w2 ⟨rfl, v2, hVS2, hvis2⟩
      have t7 := hVS2.f
      have HV3 := Lib.hid hVS2
      have HS3 := Lib.hid hvis2
      clear hVS2 hvis2
      go_wp2_with fail
      refine (IH.out (2 * i + 2) _ _ _ _ _ (by omega) (by omega) P.out.2.2.1 P.out.2.2.2 HO2.out (by omega) (by have := HKL.out; omega) (by have := HLL.out; rw [List.length_append]; omega) HV3.out (cells_vis ha1 ha2 ha3 hb1 hb2 hb3 HC ((HS2.out _).trans HS3.out))).mono ?_
      rintro e w3 ⟨rfl, v3, hVS3, hvis3⟩
      have HV4 := Lib.hid hVS3
      have HS4 := Lib.hid hvis3
      clear hVS3 hvis3
      go_wp2
      go_end0
      obtain ⟨c1, c2⟩ := cnt_inner (k := k) HOP.out hi15
      refine ⟨rfl, v3, ?_, ((HS2.out _).trans HS3.out).trans HS4.out⟩
      rw [c1, c2]
      have hv := HV4.out
      rw [List.append_assoc] at hv
      rw [show c + ((1 + cntL d (sub k (2 * i + 1)) + cntL d (sub k (2 * i + 2)) : Nat) : Int) = c + 1 + (cntL d (sub k (2 * i + 1)) : Nat) + (cntL d (sub k (2 * i + 2)) : Nat) by omega]
      exact hv

theorem size3 (w2 : World) (x y z : Obj) : (((w2.alloc x).alloc y).alloc z).heap.size = w2.heap.size + 3 := by simp
theorem vs_start {w2 : World} {Ba Bb : Nat} {va vb fv : Value} {T : TypeId} (hA : Ba < w2.heap.size) (hB : Bb < w2.heap.size) (ha : w2.cell? ⟨Ba, 0, none⟩ = some va) (hb : w2.cell? ⟨Bb, 0, none⟩ = some vb) :
    VS (((w2.alloc (.cells #[.slice none 0 0] 22)).alloc (.cells #[.int .i64 0] 3)).alloc (.cells #[fv] T)) (w2.heap.size + 3) (w2.heap.size + 1) Ba Bb w2.heap.size (w2.heap.size + 1 + 1) va vb fv 0 (.slice none 0 0) [] where
  n := by rw [heap_alloc_old _ _ (by simp)]; exact heap_alloc2_new _ _ _
  l := by rw [heap_alloc_old _ _ (by simp; omega)]; exact heap_alloc2_old _ _ _
  a := by
    have b : Below w2.heap.size w2 (((w2.alloc (.cells #[.slice none 0 0] 22)).alloc (.cells #[.int .i64 0] 3)).alloc (.cells #[fv] T)) := (((Below.refl _ _).alloc (Nat.le_refl _) _).alloc (by simp) _).alloc (by simp; omega) _
    rw [b.cell (p := ⟨Ba, 0, none⟩) hA]; exact ha
  b := by
    have b : Below w2.heap.size w2 (((w2.alloc (.cells #[.slice none 0 0] 22)).alloc (.cells #[.int .i64 0] 3)).alloc (.cells #[fv] T)) := (((Below.refl _ _).alloc (Nat.le_refl _) _).alloc (by simp) _).alloc (by simp; omega) _
    rw [b.cell (p := ⟨Bb, 0, none⟩) hB]; exact hb
  f := by
    have := heap_alloc_new ((w2.alloc (.cells #[.slice none 0 0] 22)).alloc (.cells #[.int .i64 0] 3)) (.cells #[fv] T)
    exact cell_one (by simpa using this)
  row := OwnInts.nil _ _
  B := by rw [size3]; exact Nat.le_refl _

set_option maxHeartbeats 1000000 in
theorem implSumsDiffer_any (v1 v2 : Value) (ls ms : List Int) (w : World) (hl1 : ls.length ≤ 4194304) (hl2 : ms.length ≤ 4194304) (hr1 : RInts w v1 ls) (hr2 : RInts w v2 ms) :
    Calls Try.prog 26 #[v1, v2] w fun e w' => ∃ u, e = .returned (.tuple #[u, .int .i64 (diffM ls ms).2]) ∧ OwnInts w' w.heap.size u (diffM ls ms).1 ∧ Below w.heap.size w w' := by
  have HR1 := Lib.hid hr1; clear hr1
  have HR2 := Lib.hid hr2; clear hr2
  obtain ⟨a1, cap1, hv1, -, -, -⟩ := HR1.out
  obtain ⟨a2, cap2, hv2, -, -, -⟩ := HR2.out
  subst hv1; subst hv2
  have ba : ∀ x y, Below w.heap.size w ((w.alloc x).alloc y) := fun x y => ((Below.refl _ _).alloc (Nat.le_refl _) x).alloc (by simp) y
  cases hv1 : validM ls with
  | false =>
    go_enter Try.func26, Try.ntmps26
    go_wp2_with fail
    refine (validSums_any _ ls _ hl1 (HR1.out.below (ba _ _))).mono ?_
    rw [hv1]
    rintro e w1 ⟨rfl, b1⟩
    go_wp2
    go_ret2
    rw [diffM_bad (.inl hv1)]
    exact ⟨_, rfl, OwnInts.nil _ _, bNext (ba _ _) b1⟩
  | true =>
    obtain ⟨w0, hw0⟩ : ∃ w0, w0 = (w.alloc (.cells #[.slice a1 ls.length cap1] 22)).alloc (.cells #[.slice a2 ms.length cap2] 22) := ⟨_, rfl⟩
    have k1 : w0.heap[w.heap.size]? = some (.cells #[.slice a1 ls.length cap1] 22 (0, 0)) := by rw [hw0]; exact heap_alloc2_old _ _ _
    have k2 : w0.heap[w.heap.size + 1]? = some (.cells #[.slice a2 ms.length cap2] 22 (0, 0)) := by rw [hw0]; exact heap_alloc2_new _ _ _
    have ks : w0.heap.size = w.heap.size + 2 := by rw [hw0]; simp
    have kb : Below w.heap.size w w0 := by rw [hw0]; exact ba _ _
    have HW0 := Lib.hid hw0
    clear hw0 ba
    cases hv2 : validM ms with
    | false =>
      go_enter Try.func26, Try.ntmps26
      go_wp2_with fail
      rw [← HW0.out]
      refine (validSums_any _ ls _ hl1 (HR1.out.below kb)).mono ?_
      rw [hv1]
      rintro e w1 ⟨rfl, b1⟩
      have c2 : w1.cell? ⟨w.heap.size + 1, 0, none⟩ = some (.slice a2 ms.length cap2) := cell_one ((b1.block _ (by omega)).trans k2)
      go_wp2_with fail
      refine (validSums_any _ ms _ hl2 ((HR2.out.below kb).below b1)).mono ?_
      rw [hv2]
      rintro e w2 ⟨rfl, b2⟩
      go_wp2
      go_ret2
      rw [diffM_bad (.inr hv2)]
      exact ⟨_, rfl, OwnInts.nil _ _, bNext (bNext kb b1) b2⟩
    | true =>
      go_enter Try.func26, Try.ntmps26
      go_wp2_with fail
      rw [← HW0.out]
      refine (validSums_any _ ls _ hl1 (HR1.out.below kb)).mono ?_
      rw [hv1]
      rintro e w1 ⟨rfl, b1⟩
      have c2 : w1.cell? ⟨w.heap.size + 1, 0, none⟩ = some (.slice a2 ms.length cap2) := cell_one ((b1.block _ (by omega)).trans k2)
      go_wp2_with fail
      refine (validSums_any _ ms _ hl2 ((HR2.out.below kb).below b1)).mono ?_
      rw [hv2]
      rintro e w2 ⟨rfl, b2⟩
      obtain ⟨ha31, -⟩ := validM_true hv1
      obtain ⟨hb31, -⟩ := validM_true hv2
      obtain ⟨ba1, offa, capa, e1, hca, -, -, hcella⟩ := HR1.out.shape ha31 (by omega)
      obtain ⟨bb1, offb, capb, e2, hcb, -, -, hcellb⟩ := HR2.out.shape hb31 (by omega)
      obtain ⟨d, hd⟩ : ∃ d, d = dif ls ms := ⟨_, rfl⟩
      have hda : ∀ i, i < 31 → ∃ x y, w.cell? ⟨ba1, offa + i, none⟩ = some (.int .i64 x) ∧ w.cell? ⟨bb1, offb + i, none⟩ = some (.int .i64 y) ∧ d i = !decide (x = y) := by
        intro i hi
        obtain ⟨-, p2⟩ := hcella i (by omega)
        obtain ⟨-, q2⟩ := hcellb i (by omega)
        refine ⟨_, _, p2, q2, ?_⟩
        rw [hd]; unfold dif
        rw [List.getD_eq_getElem?_getD, List.getD_eq_getElem?_getD, List.getElem?_eq_getElem (by omega), List.getElem?_eq_getElem (by omega)]
        simp
      have hA1 := (hcella 0 (by omega)).1
      have hB1 := (hcellb 0 (by omega)).1
      have HDA := Lib.hid hda
      have HM : Hid (diffM ls ms = (lvsL d (sub 4 0), ((cntL d (sub 4 0) : Nat) : Int))) := by unfold Hid; rw [diffM_good hv1 hv2, diffL, diffN, ← hd, cntL_all, lvsL_all]
      simp only [Value.slice.injEq] at e1 e2
      obtain ⟨rfl, -, rfl⟩ := e1
      obtain ⟨rfl, -, rfl⟩ := e2
      have s1 := kb.size
      have s2 := b1.size
      have s3 := b2.size
      have c1 : w2.cell? ⟨w.heap.size, 0, none⟩ = some (.slice (some ⟨ba1, offa, none⟩) 31 cap1) := by
        rw [← ha31]; exact cell_one ((b2.block _ (by omega)).trans ((b1.block _ (by omega)).trans k1))
      have c3 : w2.cell? ⟨w.heap.size + 1, 0, none⟩ = some (.slice (some ⟨bb1, offb, none⟩) 31 cap2) := by
        rw [← hb31]; exact cell_one ((b2.block _ (by omega)).trans ((b1.block _ (by omega)).trans k2))
      have kw2 := bNext (bNext kb b1) b2
      have HVS := Lib.hid (fun fv T => vs_start (w2 := w2) (fv := fv) (T := T) (by omega) (by omega) c1 c3)
      have HKW := Lib.hid kw2
      have HB3 : Hid (∀ x y z, Below w.heap.size w (((w2.alloc x).alloc y).alloc z)) := fun x y z => ((kw2.alloc kw2.size x).alloc (by have := kw2.size; simp; omega) y).alloc (by have := kw2.size; simp; omega) z
      clear hda hcella hcellb hd ha31 hb31 c1 c2 c3 k1 k2
      go_wp2_with fail
      refine (visit_any d (w2.heap.size + 3) (w2.heap.size + 1) w.heap.size (w.heap.size + 1) w2.heap.size (w2.heap.size + 1 + 1) ba1 offa cap1 bb1 offb cap2 _ rfl (by omega) (by omega) (by omega) (by omega) (by omega) (by omega) (by omega) (by omega) (by omega) (by omega) (by omega) (by omega) hca hcb (by omega) (by omega) (by omega) (by omega) (by omega) (by omega) 4 0 _ _ _ _ _ (by omega) (by omega) (by decide) (by decide) (op_zero d) (by omega) (by decide) (by decide) (HVS.out _ _) ?_).mono ?_
      · intro i hi
        obtain ⟨x, y, h1, h2, h3⟩ := HDA.out i hi
        exact ⟨x, y, by rw [(HB3.out _ _ _).cell (p := ⟨ba1, offa + i, none⟩) hA1]; exact h1, by rw [(HB3.out _ _ _).cell (p := ⟨bb1, offb + i, none⟩) hB1]; exact h2, h3⟩
      rintro e w4 ⟨rfl, v', hVS4, hvis4⟩
      have z1 := cell_one hVS4.n
      have z2 := cell_one hVS4.l
      have row := hVS4.row
      have kfin : Below w.heap.size w w4 := by
        refine (HB3.out _ _ _).trans ⟨hvis4.os, hvis4.tape, hvis4.output, hvis4.size, fun k hk => hvis4.block k (by omega) (by omega) (by omega)⟩
      have HK := Lib.hid kfin
      have HRW := Lib.hid row
      clear hVS4 hvis4 kfin row HVS
      go_wp2
      go_quiet (fail)
      go_wp2
      go_ret2
      rw [HM.out]
      exact ⟨_, by simp, OwnInts.base (OwnInts.drewN HRW.out _) (by omega), bNextD HK.out _⟩
end Go.Proofs.Ytjidmmjbgffapaa
