/- The laws' helpers on slices of numbers: what each computes. -/
import Derived.Test.YthgekfiodedelaaChecked
import Derived.Test.YthgekfiodedelaaBase
namespace Go.Proofs.Ythgekfiodedelaa
open Go.RowKit
set_option linter.unusedVariables false
set_option linter.unusedSimpArgs false

theorem infoInt : (Try.prog.info? 3).map (fun i => (i.zero, i.size, i.bytes)) = some (some (.int .i64 0), 1, 8) := by kernel_rfl

theorem own_empty (w : World) : OwnInts (w.alloc (.cells #[] 3)) w.heap.size (.slice (some ⟨w.heap.size, 0, none⟩) 0 0) [] :=
  World.ownsRow_lit w #[] 0 (Nat.le_refl _) (by unfold maxLen; omega) rfl

theorem below_alloc (w : World) (o : Obj) : Below w.heap.size w (w.alloc o) := (Below.refl _ _).alloc (Nat.le_refl _) o

theorem own_snoc {w' : World} {B : Nat} {v' : Value} {xs : List Int} {y : Int} {n : Nat}
    (h : w'.ownsRow B 3 1 v' n (ints xs ++ [.int .i64 y])) (hn : n = xs.length + 1) : OwnInts w' B v' (xs ++ [y]) := by
  subst hn
  unfold OwnInts
  rw [List.length_append, ints_append]
  exact h
theorem oneCell_int (x : Int) : ∀ u ∈ [Value.int .i64 x], u.oneCell' = true := by intro u hu; simp at hu; subst hu; rfl

theorem OwnInts.len {w : World} {B n cap : Nat} {a : Option Addr} {zs : List Int} (h : OwnInts w B (.slice a n cap) zs) : n = zs.length := by
  rcases ownsRow_shape h with ⟨hv, h0⟩ | ⟨_, _, hv, _⟩
  · simp at hv; omega
  · simp at hv; exact hv.2.1
theorem OwnInts.cellAt {w : World} {B g n cap : Nat} {zs : List Int} (h : OwnInts w B (.slice (some ⟨g, 0, none⟩) n cap) zs) {j : Nat} (hj : j < zs.length) : w.cell? ⟨g, j, none⟩ = some (.int .i64 zs[j]) := by
  obtain rfl := h.len
  have := World.ownsRow.cellAt h j (by omega)
  rw [this]
  simp [ints, hj]
theorem OwnInts.frozenAt {w : World} {B g n cap : Nat} {zs : List Int} (h : OwnInts w B (.slice (some ⟨g, 0, none⟩) n cap) zs) (j : Nat) : w.frozen? ⟨g, j, none⟩ = false := by
  obtain rfl := h.len
  exact World.ownsRow.frozenAt h j
theorem own_set {w : World} {B g n cap : Nat} {zs : List Int} (h : OwnInts w B (.slice (some ⟨g, 0, none⟩) n cap) zs) (j : Nat) (v : Int) :
    OwnInts (w.setCell ⟨g, j, none⟩ (.int .i64 v)) B (.slice (some ⟨g, 0, none⟩) n cap) (zs.set j v) := by
  obtain rfl := h.len
  have := (World.ownsRow.stored h j (.int .i64 v)).1
  simpa [OwnInts, ints, List.map_set] using this

/-- A row of numbers of the call's own, whatever its block is marked with. -/
def OwnA (w : World) (B : Nat) (v : Value) (zs : List Int) : Prop := ∃ e, w.ownsRow B e 1 v zs.length (ints zs)
theorem OwnInts.any {w : World} {B : Nat} {v : Value} {zs : List Int} (h : OwnInts w B v zs) : OwnA w B v zs := ⟨_, h⟩
theorem OwnA.reads {w : World} {B : Nat} {v : Value} {zs : List Int} (h : OwnA w B v zs) : RInts w v zs := by
  obtain ⟨e, h⟩ := h
  obtain ⟨_, a, cap, hv, hn, hc, hcell⟩ := ownsRow_cells h
  refine ⟨a, cap, hv, hn, hc, fun i hi => ?_⟩
  obtain ⟨b, off, ha, hb, hx⟩ := hcell i (by simpa using hi)
  exact ⟨b, off, ha, hb, by simpa [ints] using hx⟩
theorem OwnA.below {w w' : World} {B : Nat} {v : Value} {zs : List Int} (h : OwnA w B v zs) (hb : Below w.heap.size w w') : OwnA w' B v zs := by
  obtain ⟨e, h⟩ := h; exact ⟨e, ownsRow_below h (Nat.le_refl _) hb⟩
theorem OwnA.base {w : World} {B B' : Nat} {v : Value} {zs : List Int} (h : OwnA w B v zs) (hB : B' ≤ B) : OwnA w B' v zs := by
  obtain ⟨e, h⟩ := h; exact ⟨e, ownsRow_base h hB⟩
theorem OwnA.drewN {w : World} {B : Nat} {v : Value} {zs : List Int} (h : OwnA w B v zs) (n : Nat) : OwnA (w.drewN n) B v zs := h
theorem OwnA.nil (w : World) (B : Nat) : OwnA w B (.slice none 0 0) [] := (OwnInts.nil w B).any

theorem OwnA.kept {w w' : World} {B : Nat} {v : Value} {zs : List Int} {row : Option Nat} (h : OwnA w B v zs) (hg : w.grownBy w' row) (hne : v.ownBlock = none ∨ v.ownBlock ≠ row) : OwnA w' B v zs := by
  obtain ⟨e, h⟩ := h; exact ⟨e, World.ownsRow.kept h hg hne⟩
theorem OwnA.apart {w w' : World} {B S : Nat} {v u : Value} {xs ys : List Int} (h : OwnA w B v xs) (h' : OwnA w' S u ys) (hS : w.heap.size ≤ S) : v.ownBlock = none ∨ v.ownBlock ≠ u.ownBlock := by
  obtain ⟨_, h⟩ := h; obtain ⟨_, h'⟩ := h'; exact own_apart h h' hS
theorem OwnA.apart' {w w' : World} {B S : Nat} {v u : Value} {xs ys : List Int} (h : OwnA w B v xs) (h' : OwnA w' S u ys) (hS : w.heap.size ≤ S) : u.ownBlock = none ∨ u.ownBlock ≠ v.ownBlock := by
  obtain ⟨_, h⟩ := h; obtain ⟨_, h'⟩ := h'; exact own_apart' h h' hS
theorem bNextA {w wi wj : World} {B : Nat} {v : Value} {xs : List Int} (h : Below w.heap.size w wi) (hown : OwnA wi B v xs) (hB : w.heap.size ≤ B) (hg : wi.grownBy wj v.ownBlock) : Below w.heap.size w wj := by
  obtain ⟨_, ho⟩ := hown; exact bNextOwn h ho hB hg

/-- What heldIntS answers. -/
def heldFrom (k : Int) : List Int → Int
  | [] => k
  | z :: zs => if z = k then heldFrom (k + 1) zs else -1

def upFrom (k : Int) : Nat → List Int
  | 0 => []
  | n + 1 => k :: upFrom (k + 1) n

theorem length_upFrom (k : Int) (n : Nat) : (upFrom k n).length = n := by
  induction n generalizing k with
  | zero => rfl
  | succ n ih => simp [upFrom, ih]

theorem heldFrom_up (k : Int) (n : Nat) : heldFrom k (upFrom k n) = k + n := by
  induction n generalizing k with
  | zero => simp [heldFrom, upFrom]
  | succ n ih => simp [heldFrom, upFrom, ih]; omega

/-- What eqIntS and sameInts answer. -/
theorem eqLists (xs ys : List Int) (n : Nat) (hx : n ≤ xs.length) (h : xs.take n = ys.take n) (hl : xs.length = ys.length) (hn : xs.length ≤ n) : xs = ys := by
  rw [List.take_of_length_le (by omega), List.take_of_length_le (by omega)] at h; exact h

theorem take_snoc_eq {xs ys : List Int} {j : Nat} (hx : j < xs.length) (hy : j < ys.length) (h : xs.take j = ys.take j) (he : xs[j] = ys[j]) : xs.take (j + 1) = ys.take (j + 1) := by
  rw [List.take_succ_eq_append_getElem hx, List.take_succ_eq_append_getElem hy, h, he]

theorem take_ne {xs ys : List Int} {j : Nat} (hx : j < xs.length) (hy : j < ys.length) (he : xs[j] ≠ ys[j]) : xs ≠ ys := by
  intro h; subst h; exact he rfl

end Go.Proofs.Ythgekfiodedelaa
