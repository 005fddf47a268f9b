/- What a slice of the program reads as, and small lemmas on worlds and owned rows. No program in sight. -/
import Derived.WalkKit
import Derived.Below
import Derived.Lib.Hide
import Derived.Outline
import Derived.BigQuiet
import Derived.Deep.QuietTactic
import Derived.WalkSpells
import Derived.OpenShut
namespace Go.Proofs.Ythgekfiodedelaa
open Go.RowKit
set_option linter.unusedVariables false
set_option linter.unusedSimpArgs false

theorem draws_two (w : World) (a b : Nat) : ∃ n, (w.drewN a).drewN b = w.drewN n := ⟨_, World.drewN_drewN ..⟩

/-- The slice value v of element size k reads, in w, as the cells cs (n elements). -/
def RCells (w : World) (v : Value) (n k : Nat) (cs : List Value) : Prop :=
  cs.length = n * k ∧ ∃ a cap, v = .slice a n cap ∧ n ≤ cap ∧ cap ≤ maxLen ∧
    ∀ i (h : i < cs.length), ∃ b off, a = some ⟨b, off, none⟩ ∧ b < w.heap.size ∧ w.cell? ⟨b, off + i, none⟩ = some cs[i]

def ints (zs : List Int) : List Value := zs.map (Value.int .i64)
@[simp] theorem length_ints (zs : List Int) : (ints zs).length = zs.length := by simp [ints]
theorem ints_append (xs ys : List Int) : ints (xs ++ ys) = ints xs ++ ints ys := by simp [ints]
theorem ints_snoc (xs : List Int) (y : Int) : ints xs ++ [.int .i64 y] = ints (xs ++ [y]) := by simp [ints]

/-- The slice value v reads, in w, as the numbers zs. -/
def RInts (w : World) (v : Value) (zs : List Int) : Prop :=
  ∃ a cap, v = .slice a zs.length cap ∧ zs.length ≤ cap ∧ cap ≤ maxLen ∧
    ∀ i (h : i < zs.length), ∃ b off, a = some ⟨b, off, none⟩ ∧ b < w.heap.size ∧ w.cell? ⟨b, off + i, none⟩ = some (.int .i64 zs[i])

/-- v is a new row of numbers: it lies in a block from B on. -/
def OwnInts (w : World) (B : Nat) (v : Value) (zs : List Int) : Prop := w.ownsRow B 3 1 v zs.length (ints zs)

theorem ret_bool {a b : Bool} (h : a = b) : Ending.returned (.bool a) = .returned (.bool b) := by rw [h]
theorem ret_int {a b : Int} (h : a = b) : Ending.returned (.int .i64 a) = .returned (.int .i64 b) := by rw [h]
theorem val_bool {a b : Bool} (h : a = b) : Value.bool a = .bool b := by rw [h]
theorem val_int {a b : Int} (h : a = b) : Value.int .i64 a = .int .i64 b := by rw [h]

theorem ownsRow_shape {w : World} {B e k n : Nat} {v : Value} {xs : List Value} (h : w.ownsRow B e k v n xs) :
    (v = .slice none 0 0 ∧ n = 0) ∨ ∃ g cap, v = .slice (some ⟨g, 0, none⟩) n cap ∧ B ≤ g ∧ g < w.heap.size ∧ n ≤ cap ∧ cap ≤ maxLen := by
  rcases h.2 with h | ⟨g, cap, cur, hv, hb, hg, hn, hc, _, _⟩
  · exact .inl h
  · refine .inr ⟨g, cap, hv, hb, ?_, hn, hc⟩
    by_cases hlt : g < w.heap.size
    · exact hlt
    · rw [Array.getElem?_eq_none (by omega)] at hg; cases hg

theorem ownsRow_cells {w : World} {B e k n : Nat} {v : Value} {xs : List Value} (h : w.ownsRow B e k v n xs) : RCells w v n k xs := by
  refine ⟨h.1, ?_⟩
  rcases ownsRow_shape h with ⟨rfl, rfl⟩ | ⟨g, cap, rfl, hb, hg, hn, hc⟩
  · exact ⟨none, 0, rfl, Nat.le_refl _, by unfold maxLen; omega, fun i hi => by have := h.1; omega⟩
  · refine ⟨_, cap, rfl, hn, hc, fun i hi => ⟨g, 0, rfl, hg, ?_⟩⟩
    rw [Nat.zero_add, h.cellAt i (by have := h.1; omega), List.getElem?_eq_getElem hi]

theorem OwnInts.reads {w : World} {B : Nat} {v : Value} {zs : List Int} (h : OwnInts w B v zs) : RInts w v zs := by
  obtain ⟨_, a, cap, hv, hn, hc, hcell⟩ := ownsRow_cells h
  refine ⟨a, cap, hv, hn, hc, fun i hi => ?_⟩
  obtain ⟨b, off, ha, hb, hx⟩ := hcell i (by simpa using hi)
  exact ⟨b, off, ha, hb, by simpa [ints] using hx⟩

theorem RInts.below {w w' : World} {v : Value} {zs : List Int} (h : RInts w v zs) (hb : Below w.heap.size w w') : RInts w' v zs := by
  obtain ⟨a, cap, hv, hn, hc, hcell⟩ := h
  refine ⟨a, cap, hv, hn, hc, fun i hi => ?_⟩
  obtain ⟨b, off, ha, hlt, hx⟩ := hcell i hi
  exact ⟨b, off, ha, by have := hb.size; omega, by rw [hb.cell (p := ⟨b, off + i, none⟩) hlt]; exact hx⟩

theorem ownsRow_lt {w : World} {B e k n : Nat} {v : Value} {xs : List Value} (h : w.ownsRow B e k v n xs) {x : Nat} (hx : v.ownBlock = some x) : B ≤ x ∧ x < w.heap.size := h.lt x hx

/-- An owned row stays, where all blocks below the heap's size of then stay. -/
theorem ownsRow_below {w w' : World} {B e k n : Nat} {v : Value} {xs : List Value} (h : w.ownsRow B e k v n xs) {S : Nat} (hS : w.heap.size ≤ S) (hb : Below S w w') : w'.ownsRow B e k v n xs := by
  obtain ⟨h1, h2⟩ := h
  refine ⟨h1, ?_⟩
  rcases h2 with h2 | ⟨g, cap, cur, hv, hB, hg, r⟩
  · exact .inl h2
  · have hlt : g < w.heap.size := by
      by_cases hlt : g < w.heap.size
      · exact hlt
      · rw [Array.getElem?_eq_none (by omega)] at hg; cases hg
    exact .inr ⟨g, cap, cur, hv, hB, by rw [hb.block g (by omega)]; exact hg, r⟩

theorem ownsRow_base {w : World} {B B' e k n : Nat} {v : Value} {xs : List Value} (h : w.ownsRow B e k v n xs) (hB : B' ≤ B) : w.ownsRow B' e k v n xs := by
  obtain ⟨h1, h2⟩ := h
  refine ⟨h1, ?_⟩
  rcases h2 with h2 | ⟨g, cap, cur, hv, hb, r⟩
  · exact .inl h2
  · exact .inr ⟨g, cap, cur, hv, by omega, r⟩

theorem OwnInts.below {w w' : World} {B : Nat} {v : Value} {zs : List Int} (h : OwnInts w B v zs) (hb : Below w.heap.size w w') : OwnInts w' B v zs := ownsRow_below h (Nat.le_refl _) hb
theorem OwnInts.base {w : World} {B B' : Nat} {v : Value} {zs : List Int} (h : OwnInts w B v zs) (hB : B' ≤ B) : OwnInts w B' v zs := ownsRow_base h hB
theorem OwnInts.nil (w : World) (B : Nat) : OwnInts w B (.slice none 0 0) [] := World.ownsRow_nil _ _ _ _

/-- grownBy of a row that is not this one. -/
theorem OwnInts.kept {w w' : World} {B : Nat} {v : Value} {zs : List Int} {row : Option Nat} (h : OwnInts w B v zs) (hg : w.grownBy w' row) (hne : v.ownBlock = none ∨ v.ownBlock ≠ row) : OwnInts w' B v zs :=
  World.ownsRow.kept h hg hne

/-- A cut from the start reads as the first numbers. -/
theorem RInts.take {w : World} {a : Option Addr} {n cap : Nat} {zs : List Int} (h : RInts w (.slice a n cap) zs) {k : Nat} (hk : k ≤ zs.length) : RInts w (.slice a k cap) (zs.take k) := by
  obtain ⟨a', cap', hv, hn, hc, hcell⟩ := h
  simp only [Value.slice.injEq] at hv
  obtain ⟨rfl, rfl, rfl⟩ := hv
  have hlen : (zs.take k).length = k := by simp; omega
  refine ⟨a, cap, by rw [hlen], by omega, hc, fun i hi => ?_⟩
  obtain ⟨b, off, ha, hlt, hx⟩ := hcell i (by omega)
  exact ⟨b, off, ha, hlt, by rw [hx]; simp⟩

theorem OwnInts.drewN {w : World} {B : Nat} {v : Value} {zs : List Int} (h : OwnInts w B v zs) (n : Nat) : OwnInts (w.drewN n) B v zs := h
theorem RInts.drewN {w : World} {v : Value} {zs : List Int} (h : RInts w v zs) (n : Nat) : RInts (w.drewN n) v zs := h

/-- Rows that were made at two times lie in two blocks. -/
theorem own_apart {w w' : World} {B S e k e' k' n m : Nat} {v u : Value} {xs ys : List Value} (h : w.ownsRow B e k v n xs) (h' : w'.ownsRow S e' k' u m ys) (hS : w.heap.size ≤ S) :
    v.ownBlock = none ∨ v.ownBlock ≠ u.ownBlock := by
  cases hv : v.ownBlock with
  | none => exact .inl rfl
  | some x =>
    refine .inr fun he => ?_
    have h1 := h.lt x hv
    have h2 := h'.lt x he.symm
    omega
theorem own_apart' {w w' : World} {B S e k e' k' n m : Nat} {v u : Value} {xs ys : List Value} (h : w.ownsRow B e k v n xs) (h' : w'.ownsRow S e' k' u m ys) (hS : w.heap.size ≤ S) :
    u.ownBlock = none ∨ u.ownBlock ≠ v.ownBlock := by
  cases hv : u.ownBlock with
  | none => exact .inl rfl
  | some x =>
    refine .inr fun he => ?_
    have h1 := h.lt x he.symm
    have h2 := h'.lt x hv
    omega

theorem bNext {w wi wj : World} (h : Below w.heap.size w wi) (hb : Below wi.heap.size wi wj) : Below w.heap.size w wj := h.trans (hb.mono h.size)
theorem bNextD {w wi : World} {B : Nat} (h : Below B w wi) (n : Nat) : Below B w (wi.drewN n) := h.trans ⟨rfl, rfl, rfl, Nat.le_refl _, fun _ _ => rfl⟩
theorem below_draws' (w : World) (n : Nat) : Below w.heap.size w (w.drewN n) := ⟨rfl, rfl, rfl, Nat.le_refl _, fun _ _ => rfl⟩
theorem bNextOwn {w wi wj : World} {B e k n : Nat} {v : Value} {xs : List Value} (h : Below w.heap.size w wi) (hown : wi.ownsRow B e k v n xs) (hB : w.heap.size ≤ B) (hg : wi.grownBy wj v.ownBlock) : Below w.heap.size w wj :=
  h.grown hg h.size (fun j hj => Nat.le_trans hB (hown.lt j hj).1)

/-- WHAT A LAW IS TOLD OF A SLICE OF NUMBERS THAT CAME IN: it is nil, or it leads to a row of cap cells. -/
def IsRow (k : IntKind) (w : World) (a : Option Addr) (len cap : Nat) (zs : List Int) : Prop :=
  (a = none ∧ len = 0 ∧ cap = 0 ∧ zs = []) ∨
  ∃ x, a = some x ∧ len ≤ cap ∧ cap ≤ maxLen ∧ zs.length = cap ∧ (∀ i, i < zs.length → w.cell? (x.add i) = some (.int k (zs.getD i 0))) ∧ ∀ n ∈ zs, (Lit.int k n).wf = true

/-- The slice value v reads, in w, as the bytes zs. -/
def RBytes (w : World) (v : Value) (zs : List Int) : Prop :=
  (∃ a cap, v = .slice a zs.length cap ∧ zs.length ≤ cap ∧ cap ≤ maxLen ∧
    ∀ i (h : i < zs.length), ∃ b off, a = some ⟨b, off, none⟩ ∧ b < w.heap.size ∧ w.cell? ⟨b, off + i, none⟩ = some (.int .u8 zs[i])) ∧ ∀ z ∈ zs, 0 ≤ z ∧ z ≤ 255

theorem RBytes.below {w w' : World} {v : Value} {zs : List Int} (h : RBytes w v zs) (hb : Below w.heap.size w w') : RBytes w' v zs := by
  obtain ⟨⟨a, cap, hv, hn, hc, hcell⟩, hz⟩ := h
  refine ⟨⟨a, cap, hv, hn, hc, fun i hi => ?_⟩, hz⟩
  obtain ⟨b, off, ha, hlt, hx⟩ := hcell i hi
  exact ⟨b, off, ha, by have := hb.size; omega, by rw [hb.cell (p := ⟨b, off + i, none⟩) hlt]; exact hx⟩

theorem spot_of_cell {w : World} {a : Addr} {v : Value} (h : w.cell? a = some v) : a.spot = none := by
  unfold World.cell? at h
  split at h
  · split at h
    · cases h
    · rename_i hs; simpa using hs
  · cases h

theorem cell_lt {w : World} {a : Addr} {v : Value} (h : w.cell? a = some v) : a.block < w.heap.size := by
  by_cases hlt : a.block < w.heap.size
  · exact hlt
  · unfold World.cell? at h
    rw [Array.getElem?_eq_none (by omega)] at h
    cases h

theorem IsRow.cells {k : IntKind} {w : World} {a : Option Addr} {len cap : Nat} {zs : List Int} (h : IsRow k w a len cap zs) :
    (zs.take len).length = len ∧ len ≤ cap ∧ cap ≤ maxLen ∧ ∀ i (h : i < (zs.take len).length), ∃ b off, a = some ⟨b, off, none⟩ ∧ b < w.heap.size ∧ w.cell? ⟨b, off + i, none⟩ = some (.int k (zs.take len)[i]) := by
  rcases h with ⟨rfl, rfl, rfl, rfl⟩ | ⟨x, rfl, hl, hm, hz, hc, _⟩
  · exact ⟨rfl, Nat.le_refl _, by unfold maxLen; omega, fun i hi => absurd hi (by simp)⟩
  · have hlen : (zs.take len).length = len := by simp; omega
    refine ⟨hlen, hl, hm, fun i hi => ?_⟩
    have hi' : i < zs.length := by omega
    have hci := hc i hi'
    have hs := spot_of_cell (hc 0 (by omega))
    obtain ⟨b, off, spot⟩ := x
    simp [Addr.add] at hs
    subst hs
    have he : (⟨b, off, none⟩ : Addr).add i = ⟨b, off + i, none⟩ := by
      by_cases h0 : i = 0
      · subst h0; simp [Addr.add]
      · simp [Addr.add, h0]
    rw [he] at hci
    refine ⟨b, off, rfl, cell_lt hci, ?_⟩
    rw [hci]
    simp [List.getElem_take, hi']

theorem IsRow.ints {w : World} {a : Option Addr} {len cap : Nat} {zs : List Int} (h : IsRow .i64 w a len cap zs) : RInts w (.slice a len cap) (zs.take len) ∧ ∀ n ∈ zs.take len, (Lit.int .i64 n).wf = true := by
  obtain ⟨h1, h2, h3, h4⟩ := h.cells
  refine ⟨⟨a, cap, by rw [h1], by omega, h3, h4⟩, fun n hn => ?_⟩
  rcases h with ⟨_, _, _, rfl⟩ | ⟨x, _, _, _, _, _, hw⟩
  · simp at hn
  · exact hw n (List.mem_of_mem_take hn)

theorem IsRow.bytes {w : World} {a : Option Addr} {len cap : Nat} {zs : List Int} (h : IsRow .u8 w a len cap zs) : RBytes w (.slice a len cap) (zs.take len) := by
  obtain ⟨h1, h2, h3, h4⟩ := h.cells
  refine ⟨⟨a, cap, by rw [h1], by omega, h3, h4⟩, fun n hn => ?_⟩
  rcases h with ⟨_, _, _, rfl⟩ | ⟨x, _, _, _, _, _, hw⟩
  · simp at hn
  · have := bounds_u8 (hw n (List.mem_of_mem_take hn)); omega

/-- What is written in a row from B on leaves all below B. -/
theorem below_of_grown {w w' : World} {B : Nat} {row : Option Nat} (hg : w.grownBy w' row) (hB : B ≤ w.heap.size) (hr : ∀ k, row = some k → B ≤ k) : Below B w w' :=
  (Below.refl B w).grown hg hB hr
end Go.Proofs.Ythgekfiodedelaa
