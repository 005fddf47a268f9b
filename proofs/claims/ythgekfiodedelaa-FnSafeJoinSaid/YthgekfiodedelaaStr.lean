/- Slices of structs of numbers: what a slice reads as, and rows of the call's own. No program in sight. -/
import Derived.Test.YthgekfiodedelaaBase
import Derived.Laws.Rows
import Derived.Laws.OwnMore
import Derived.Laws.MakeOwn
import Derived.Deep.MidRow
namespace Go.Proofs.Ythgekfiodedelaa
open Go.RowKit
set_option linter.unusedVariables false
set_option linter.unusedSimpArgs false

/-- How an element is laid in cells: k cells each. -/
structure Lay (α : Type) where
  k : Nat
  c : α → List Value
  len : ∀ a, (c a).length = k
  one : ∀ a, ∀ u ∈ c a, u.oneCell' = true
  pos : 0 < k

def flat {α : Type} (L : Lay α) (es : List α) : List Value := es.flatMap L.c
theorem flat_nil {α : Type} (L : Lay α) : flat L [] = [] := rfl
theorem flat_cons {α : Type} (L : Lay α) (e : α) (es : List α) : flat L (e :: es) = L.c e ++ flat L es := by simp [flat]
theorem flat_append {α : Type} (L : Lay α) (xs ys : List α) : flat L (xs ++ ys) = flat L xs ++ flat L ys := by simp [flat]
theorem flat_snoc {α : Type} (L : Lay α) (xs : List α) (y : α) : flat L xs ++ L.c y = flat L (xs ++ [y]) := by simp [flat]
theorem flat_len {α : Type} (L : Lay α) (es : List α) : (flat L es).length = es.length * L.k := by
  induction es with
  | nil => simp [flat]
  | cons e es ih => rw [flat_cons, List.length_append, ih, L.len, List.length_cons, Nat.add_mul, Nat.one_mul, Nat.add_comm]
theorem flat_one {α : Type} (L : Lay α) (es : List α) : ∀ u ∈ flat L es, u.oneCell' = true := by
  intro u hu
  simp only [flat, List.mem_flatMap] at hu
  obtain ⟨a, _, h⟩ := hu
  exact L.one a u h
theorem flat_get {α : Type} (L : Lay α) (es : List α) (i : Nat) (hi : i < es.length) (j : Nat) (hj : j < L.k) : (flat L es)[i * L.k + j]? = (L.c es[i])[j]? := by
  induction es generalizing i with
  | nil => simp at hi
  | cons e es ih =>
    rw [flat_cons]
    cases i with
    | zero => simp only [Nat.zero_mul, Nat.zero_add, List.getElem_cons_zero]; rw [List.getElem?_append_left (by rw [L.len]; exact hj)]
    | succ i =>
      have e1 : (i + 1) * L.k + j = L.k + (i * L.k + j) := by rw [Nat.add_mul, Nat.one_mul]; omega
      rw [List.getElem?_append_right (by rw [L.len, e1]; omega), L.len, e1, Nat.add_sub_cancel_left]
      simp only [List.getElem_cons_succ]
      exact ih i (by simpa using hi)
theorem flat_take {α : Type} (L : Lay α) (es : List α) (n : Nat) : flat L (es.take n) = (flat L es).take (n * L.k) := by
  induction es generalizing n with
  | nil => simp [flat]
  | cons e es ih =>
    cases n with
    | zero => simp [flat]
    | succ n =>
      rw [List.take_succ_cons, flat_cons, flat_cons, ih, Nat.add_mul, Nat.one_mul, Nat.add_comm, ← L.len e, List.take_length_add_append]
theorem flat_drop {α : Type} (L : Lay α) (es : List α) (n : Nat) : flat L (es.drop n) = (flat L es).drop (n * L.k) := by
  induction es generalizing n with
  | nil => simp [flat]
  | cons e es ih =>
    cases n with
    | zero => simp [flat]
    | succ n =>
      rw [List.drop_succ_cons, flat_cons, ih, Nat.add_mul, Nat.one_mul, Nat.add_comm, ← L.len e, List.drop_length_add_append]

theorem made_flat {α : Type} (L : Lay α) (z : Array Value) (a : α) (hz : z.toList = L.c a) (n : Nat) : (madeCells z (n * L.k)).toList = flat L (List.replicate n a) := by
  have hs : z.size = L.k := by rw [← L.len a, ← hz]; simp
  apply List.ext_getElem?
  intro j
  by_cases hj : j < n * L.k
  · have hk := L.pos
    have hi : j / L.k < n := Nat.div_lt_of_lt_mul (by rw [Nat.mul_comm]; exact hj)
    have hm : j % L.k < L.k := Nat.mod_lt _ hk
    have hd : j / L.k * L.k + j % L.k = j := by rw [Nat.mul_comm]; exact Nat.div_add_mod j L.k
    have h := flat_get L (List.replicate n a) (j / L.k) (by simpa using hi) (j % L.k) hm
    rw [hd] at h
    rw [h, List.getElem_replicate, ← hz]
    simp [madeCells, hj, hs, hm]
  · rw [List.getElem?_eq_none (by simp [madeCells]; omega), List.getElem?_eq_none (by rw [flat_len]; simp; omega)]

/-- The slice value v reads, in w, as the structs es. -/
def RRow {α : Type} (L : Lay α) (w : World) (v : Value) (es : List α) : Prop :=
  ∃ a cap, v = .slice a es.length cap ∧ es.length ≤ cap ∧ cap ≤ maxLen ∧
    ∀ i (h : i < es.length), ∃ b off, a = some ⟨b, off, none⟩ ∧ b < w.heap.size ∧ ∀ j u, (L.c es[i])[j]? = some u → w.cell? ⟨b, off + i * L.k + j, none⟩ = some u

/-- v is a new row of structs: it lies in a block from B on, marked with the type e. -/
def OwnRow {α : Type} (L : Lay α) (e : TypeId) (w : World) (B : Nat) (v : Value) (es : List α) : Prop := w.ownsRow B e L.k v es.length (flat L es)

theorem OwnRow.reads {α : Type} {L : Lay α} {e : TypeId} {w : World} {B : Nat} {v : Value} {es : List α} (h : OwnRow L e w B v es) : RRow L w v es := by
  obtain ⟨_, a, cap, hv, hn, hc, hcell⟩ := ownsRow_cells h
  refine ⟨a, cap, hv, hn, hc, fun i hi => ?_⟩
  have hk := L.pos
  have hb : i * L.k < es.length * L.k := Nat.mul_lt_mul_of_pos_right hi hk
  obtain ⟨b, off, ha, hb2, _⟩ := hcell (i * L.k) (by rw [flat_len]; exact hb)
  refine ⟨b, off, ha, hb2, fun j u hu => ?_⟩
  have hj : j < L.k := by
    have := (List.getElem?_eq_some_iff.1 hu).1
    rwa [L.len] at this
  have hij : i * L.k + j < es.length * L.k := by
    have : (i + 1) * L.k ≤ es.length * L.k := Nat.mul_le_mul_right _ hi
    rw [Nat.add_mul, Nat.one_mul] at this
    omega
  obtain ⟨b', off', ha', _, hx⟩ := hcell (i * L.k + j) (by rw [flat_len]; exact hij)
  rw [ha] at ha'
  simp only [Option.some.injEq, Addr.mk.injEq, and_true] at ha'
  obtain ⟨rfl, rfl⟩ := ha'
  rw [Nat.add_assoc, hx, ← List.getElem?_eq_getElem, flat_get L es i hi j hj, hu]

theorem RRow.bl {α : Type} {L : Lay α} {w w' : World} {v : Value} {es : List α} (h : RRow L w v es) (hb : Below w.heap.size w w') : RRow L w' v es := by
  obtain ⟨a, cap, hv, hn, hc, hcell⟩ := h
  refine ⟨a, cap, hv, hn, hc, fun i hi => ?_⟩
  obtain ⟨b, off, ha, hlt, hx⟩ := hcell i hi
  exact ⟨b, off, ha, by have := hb.size; omega, fun j u hu => by rw [hb.cell (p := ⟨b, off + i * L.k + j, none⟩) hlt]; exact hx j u hu⟩
theorem RRow.dr {α : Type} {L : Lay α} {w : World} {v : Value} {es : List α} (h : RRow L w v es) (n : Nat) : RRow L (w.drewN n) v es := h
theorem RRow.d1 {α : Type} {L : Lay α} {w : World} {v : Value} {es : List α} (h : RRow L w v es) : RRow L w.drew v es := h
theorem RRow.al {α : Type} {L : Lay α} {w : World} {v : Value} {es : List α} (h : RRow L w v es) (o : Obj) : RRow L (w.alloc o) v es := h.bl ((Below.refl _ _).alloc (Nat.le_refl _) o)
theorem RRow.gr {α : Type} {L : Lay α} {w w' : World} {v : Value} {es : List α} {row : Option Nat} (h : RRow L w v es) (hg : w.grownBy w' row) (hne : v.ownBlock = none ∨ v.ownBlock ≠ row) : RRow L w' v es := by
  obtain ⟨a, cap, hv, hn, hc, hcell⟩ := h
  refine ⟨a, cap, hv, hn, hc, fun i hi => ?_⟩
  obtain ⟨b, off, ha, hlt, hx⟩ := hcell i hi
  refine ⟨b, off, ha, by have := hg.size; omega, fun j u hu => hg.cell (hx j u hu) ?_⟩
  subst ha; subst hv
  rcases hne with h | h
  · cases h
  · exact h
theorem RRow.nil {α : Type} {L : Lay α} {w : World} {n cap : Nat} {es : List α} (h : RRow L w (.slice none n cap) es) : es = [] ∧ n = 0 := by
  obtain ⟨a, cap', hv, hn, hc, hcell⟩ := h
  simp only [Value.slice.injEq] at hv
  obtain ⟨rfl, rfl, rfl⟩ := hv
  cases es with
  | nil => exact ⟨rfl, rfl⟩
  | cons z zs =>
    obtain ⟨b, off, he, _⟩ := hcell 0 (by simp)
    cases he
theorem RRow.addr {α : Type} {L : Lay α} {w : World} {x : Addr} {n cap : Nat} {es : List α} (h : RRow L w (.slice (some x) n cap) es) :
    es.length = n ∧ ∀ j u, (flat L es)[j]? = some u → x.block < w.heap.size ∧ w.cell? (x.add j) = some u := by
  obtain ⟨a, cap', hv, hn, hc, hcell⟩ := h
  simp only [Value.slice.injEq] at hv
  obtain ⟨rfl, rfl, rfl⟩ := hv
  refine ⟨rfl, fun j u hj => ?_⟩
  have hjl : j < es.length * L.k := by
    have := (List.getElem?_eq_some_iff.1 hj).1
    rwa [flat_len] at this
  have hk := L.pos
  have hi : j / L.k < es.length := Nat.div_lt_of_lt_mul (by rw [Nat.mul_comm]; exact hjl)
  have hm : j % L.k < L.k := Nat.mod_lt _ hk
  have hd : j = j / L.k * L.k + j % L.k := by rw [Nat.mul_comm]; exact (Nat.div_add_mod j L.k).symm
  obtain ⟨b, off, he, hb, hx⟩ := hcell (j / L.k) hi
  cases he
  rw [hd, flat_get L es _ hi _ hm] at hj
  have := hx _ _ hj
  rw [Addr.add_mid]
  refine ⟨hb, ?_⟩
  rw [hd, ← Nat.add_assoc]
  exact this
/-- A part of a slice reads as that part of the list. -/
theorem RRow.sub {α : Type} {L : Lay α} {w : World} {b off n cap : Nat} {es : List α} (h : RRow L w (.slice (some ⟨b, off, none⟩) n cap) es) (lo hi : Nat) (hlo : lo ≤ hi) (hhi : hi ≤ es.length) (cap' : Nat) (hc1 : hi - lo ≤ cap') (hc2 : cap' ≤ maxLen) :
    RRow L w (.slice (some ⟨b, off + lo * L.k, none⟩) (hi - lo) cap') ((es.take hi).drop lo) := by
  obtain ⟨a, cap0, hv, hn, hc, hcell⟩ := h
  simp only [Value.slice.injEq] at hv
  obtain ⟨rfl, rfl, rfl⟩ := hv
  have hl : ((es.take hi).drop lo).length = hi - lo := by simp; omega
  refine ⟨_, cap', by rw [hl], by omega, hc2, fun i hi' => ?_⟩
  obtain ⟨b', off', he, hb, hx⟩ := hcell (lo + i) (by omega)
  simp only [Option.some.injEq, Addr.mk.injEq, and_true] at he
  obtain ⟨rfl, rfl⟩ := he
  refine ⟨b, off + lo * L.k, rfl, hb, fun j u hu => ?_⟩
  have e : off + lo * L.k + i * L.k + j = off + (lo + i) * L.k + j := by rw [Nat.add_mul]; omega
  rw [e]
  refine hx j u ?_
  rw [← hu]
  congr 2
  simp [List.getElem_drop, List.getElem_take]

theorem OwnRow.bl {α : Type} {L : Lay α} {e : TypeId} {w w' : World} {B : Nat} {v : Value} {es : List α} (h : OwnRow L e w B v es) (hb : Below w.heap.size w w') : OwnRow L e w' B v es := ownsRow_below h (Nat.le_refl _) hb
theorem OwnRow.dr {α : Type} {L : Lay α} {e : TypeId} {w : World} {B : Nat} {v : Value} {es : List α} (h : OwnRow L e w B v es) (n : Nat) : OwnRow L e (w.drewN n) B v es := h
theorem OwnRow.d1 {α : Type} {L : Lay α} {e : TypeId} {w : World} {B : Nat} {v : Value} {es : List α} (h : OwnRow L e w B v es) : OwnRow L e w.drew B v es := h
theorem OwnRow.al {α : Type} {L : Lay α} {e : TypeId} {w : World} {B : Nat} {v : Value} {es : List α} (h : OwnRow L e w B v es) (o : Obj) : OwnRow L e (w.alloc o) B v es := h.bl ((Below.refl _ _).alloc (Nat.le_refl _) o)
theorem OwnRow.base {α : Type} {L : Lay α} {e : TypeId} {w : World} {B B' : Nat} {v : Value} {es : List α} (h : OwnRow L e w B v es) (hB : B' ≤ B) : OwnRow L e w B' v es := ownsRow_base h hB
theorem OwnRow.nil {α : Type} (L : Lay α) (e : TypeId) (w : World) (B : Nat) : OwnRow L e w B (.slice none 0 0) [] := World.ownsRow_nil _ _ _ _
theorem OwnRow.gr {α : Type} {L : Lay α} {e : TypeId} {w w' : World} {B : Nat} {v : Value} {es : List α} {row : Option Nat} (h : OwnRow L e w B v es) (hg : w.grownBy w' row) (hne : v.ownBlock = none ∨ v.ownBlock ≠ row) : OwnRow L e w' B v es := World.ownsRow.kept h hg hne
theorem OwnRow.lts {α : Type} {L : Lay α} {e : TypeId} {w : World} {B : Nat} {v : Value} {es : List α} (h : OwnRow L e w B v es) : ∀ k, v.ownBlock = some k → B ≤ k ∧ k < w.heap.size := fun k hk => ownsRow_lt h hk
theorem OwnRow.empty {α : Type} (L : Lay α) (e : TypeId) (w : World) : OwnRow L e (w.alloc (.cells #[] e)) w.heap.size (.slice (some ⟨w.heap.size, 0, none⟩) 0 0) [] :=
  World.ownsRow_lit w #[] 0 (Nat.le_refl _) (by unfold maxLen; omega) (by simp)
theorem OwnRow.len {α : Type} {L : Lay α} {e : TypeId} {w : World} {B n cap : Nat} {a : Option Addr} {es : List α} (h : OwnRow L e w B (.slice a n cap) es) : n = es.length := by
  rcases ownsRow_shape h with ⟨hv, h0⟩ | ⟨_, _, hv, _⟩
  · simp at hv; omega
  · simp at hv; exact hv.2.1
theorem OwnRow.shape {α : Type} {L : Lay α} {e : TypeId} {w : World} {B : Nat} {v : Value} {es : List α} (h : OwnRow L e w B v es) :
    (v = .slice none 0 0 ∧ es = []) ∨ ∃ g cap, v = .slice (some ⟨g, 0, none⟩) es.length cap ∧ B ≤ g ∧ g < w.heap.size ∧ es.length ≤ cap ∧ cap ≤ maxLen := by
  rcases ownsRow_shape h with ⟨hv, h0⟩ | h
  · exact .inl ⟨hv, List.eq_nil_of_length_eq_zero h0⟩
  · exact .inr h
/-- What an append of one element leaves. -/
theorem OwnRow.snoc {α : Type} {L : Lay α} {e : TypeId} {w' : World} {B n : Nat} {v' : Value} {xs : List α} {y : α} {cs : List Value}
    (h : w'.ownsRow B e L.k v' n (flat L xs ++ cs)) (hc : cs = L.c y) (hn : n = xs.length + 1) : OwnRow L e w' B v' (xs ++ [y]) := by
  subst hn; subst hc
  unfold OwnRow
  rw [List.length_append, ← flat_snoc]
  exact h
/-- What an append of many elements leaves. -/
theorem OwnRow.app {α : Type} {L : Lay α} {e : TypeId} {w' : World} {B n : Nat} {v' : Value} {xs ys : List α} {cs : List Value}
    (h : w'.ownsRow B e L.k v' n (flat L xs ++ cs)) (hc : cs = flat L ys) (hn : n = xs.length + ys.length) : OwnRow L e w' B v' (xs ++ ys) := by
  subst hn; subst hc
  unfold OwnRow
  rw [List.length_append, flat_append]
  exact h
/-- A cut from the start. -/
theorem OwnRow.take {α : Type} {L : Lay α} {e : TypeId} {w : World} {B g n cap : Nat} {es : List α} (h : OwnRow L e w B (.slice (some ⟨g, 0, none⟩) n cap) es) {k : Nat} (hk : k ≤ es.length) : OwnRow L e w B (.slice (some ⟨g, 0, none⟩) k cap) (es.take k) := by
  obtain rfl := h.len
  obtain ⟨h1, h2⟩ := h
  have hl : (es.take k).length = k := by simp; omega
  refine ⟨by rw [hl, flat_len, hl], ?_⟩
  rcases h2 with ⟨h2, _⟩ | ⟨g', cap', cur, hv, hB, hg, hn, hm, hs, ht⟩
  · simp at h2
  · refine .inr ⟨g', cap', cur, ?_, hB, hg, by omega, hm, hs, ?_⟩
    · simp only [Value.slice.injEq] at hv ⊢
      rw [hl]
      exact ⟨hv.1, rfl, hv.2.2⟩
    · rw [hl, flat_take, ← ht, List.take_take]
      congr 1
      have : k * L.k ≤ es.length * L.k := Nat.mul_le_mul_right _ hk
      omega
theorem OwnRow.apart {α β : Type} {L : Lay α} {M : Lay β} {e f : TypeId} {w w' : World} {B S : Nat} {v u : Value} {xs : List α} {ys : List β} (h : OwnRow L e w B v xs) (h' : OwnRow M f w' S u ys) (hS : w.heap.size ≤ S) : v.ownBlock = none ∨ v.ownBlock ≠ u.ownBlock := own_apart h h' hS
theorem OwnRow.apart' {α β : Type} {L : Lay α} {M : Lay β} {e f : TypeId} {w w' : World} {B S : Nat} {v u : Value} {xs : List α} {ys : List β} (h : OwnRow L e w B v xs) (h' : OwnRow M f w' S u ys) (hS : w.heap.size ≤ S) : u.ownBlock = none ∨ u.ownBlock ≠ v.ownBlock := own_apart' h h' hS

/-- A row of the call's own, whatever its block is marked with. -/
def OwnAny {α : Type} (L : Lay α) (w : World) (B : Nat) (v : Value) (es : List α) : Prop := ∃ e, OwnRow L e w B v es
theorem OwnRow.any {α : Type} {L : Lay α} {e : TypeId} {w : World} {B : Nat} {v : Value} {es : List α} (h : OwnRow L e w B v es) : OwnAny L w B v es := ⟨e, h⟩
theorem OwnAny.reads {α : Type} {L : Lay α} {w : World} {B : Nat} {v : Value} {es : List α} (h : OwnAny L w B v es) : RRow L w v es := by obtain ⟨_, h⟩ := h; exact h.reads
theorem OwnAny.bl {α : Type} {L : Lay α} {w w' : World} {B : Nat} {v : Value} {es : List α} (h : OwnAny L w B v es) (hb : Below w.heap.size w w') : OwnAny L w' B v es := by obtain ⟨_, h⟩ := h; exact ⟨_, h.bl hb⟩
theorem OwnAny.dr {α : Type} {L : Lay α} {w : World} {B : Nat} {v : Value} {es : List α} (h : OwnAny L w B v es) (n : Nat) : OwnAny L (w.drewN n) B v es := h
theorem OwnAny.d1 {α : Type} {L : Lay α} {w : World} {B : Nat} {v : Value} {es : List α} (h : OwnAny L w B v es) : OwnAny L w.drew B v es := h
theorem OwnAny.al {α : Type} {L : Lay α} {w : World} {B : Nat} {v : Value} {es : List α} (h : OwnAny L w B v es) (o : Obj) : OwnAny L (w.alloc o) B v es := by obtain ⟨_, h⟩ := h; exact ⟨_, h.al o⟩
theorem OwnAny.gr {α : Type} {L : Lay α} {w w' : World} {B : Nat} {v : Value} {es : List α} {row : Option Nat} (h : OwnAny L w B v es) (hg : w.grownBy w' row) (hne : v.ownBlock = none ∨ v.ownBlock ≠ row) : OwnAny L w' B v es := by obtain ⟨_, h⟩ := h; exact ⟨_, h.gr hg hne⟩
theorem OwnAny.lts {α : Type} {L : Lay α} {w : World} {B : Nat} {v : Value} {es : List α} (h : OwnAny L w B v es) : ∀ k, v.ownBlock = some k → B ≤ k ∧ k < w.heap.size := by obtain ⟨_, h⟩ := h; exact h.lts
theorem OwnAny.base {α : Type} {L : Lay α} {w : World} {B B' : Nat} {v : Value} {es : List α} (h : OwnAny L w B v es) (hB : B' ≤ B) : OwnAny L w B' v es := by obtain ⟨_, h⟩ := h; exact ⟨_, h.base hB⟩

/-! Three cells an element. -/
abbrev Ent := Int × Int × Int
def Ent.wf (e : Ent) : Prop := (Lit.int .i64 e.1).wf = true ∧ (Lit.int .i64 e.2.1).wf = true ∧ (Lit.int .i64 e.2.2).wf = true
def entC (e : Ent) : List Value := [.int .i64 e.1, .int .i64 e.2.1, .int .i64 e.2.2]
def EL : Lay Ent := ⟨3, entC, fun _ => rfl, fun a u hu => by simp [entC] at hu; rcases hu with rfl | rfl | rfl <;> rfl, by omega⟩
theorem EL_k : EL.k = 3 := rfl
theorem flat_set3 (es : List Ent) (i : Nat) (hi : i < es.length) (x y z : Int) : (((flat EL es).set (i * 3) (.int .i64 x)).set (i * 3 + 1) (.int .i64 y)).set (i * 3 + 2) (.int .i64 z) = flat EL (es.set i (x, y, z)) := by
  induction es generalizing i with
  | nil => simp at hi
  | cons e es ih =>
    cases i with
    | zero => simp [flat, EL, entC]
    | succ i =>
      have h := ih i (by simpa using hi)
      have e1 : (i + 1) * 3 = i * 3 + 3 := by omega
      rw [List.set_cons_succ, flat_cons, flat_cons, ← h, e1]
      simp [EL, entC]
theorem RRow.ent {w : World} {a : Option Addr} {n cap : Nat} {es : List Ent} (h : RRow EL w (.slice a n cap) es) : ∀ i (hi : i < es.length), ∃ b off, a = some ⟨b, off, none⟩ ∧ b < w.heap.size ∧
    w.cell? ⟨b, off + i * 3, none⟩ = some (.int .i64 es[i].1) ∧ w.cell? ⟨b, off + i * 3 + 1, none⟩ = some (.int .i64 es[i].2.1) ∧ w.cell? ⟨b, off + i * 3 + 2, none⟩ = some (.int .i64 es[i].2.2) := by
  obtain ⟨a', cap', hv, hn, hc, hcell⟩ := h
  simp only [Value.slice.injEq] at hv
  obtain ⟨rfl, rfl, rfl⟩ := hv
  intro i hi
  obtain ⟨b, off, ha, hb, hx⟩ := hcell i hi
  exact ⟨b, off, ha, hb, hx 0 _ rfl, hx 1 _ rfl, hx 2 _ rfl⟩
theorem OwnRow.ent {e : TypeId} {w : World} {B g n cap : Nat} {es : List Ent} (h : OwnRow EL e w B (.slice (some ⟨g, 0, none⟩) n cap) es) (i : Nat) (hi : i < es.length) :
    w.cell? ⟨g, i * 3, none⟩ = some (.int .i64 es[i].1) ∧ w.cell? ⟨g, i * 3 + 1, none⟩ = some (.int .i64 es[i].2.1) ∧ w.cell? ⟨g, i * 3 + 2, none⟩ = some (.int .i64 es[i].2.2) := by
  obtain ⟨b, off, ha, _, h0, h1, h2⟩ := h.reads.ent i hi
  simp only [Option.some.injEq, Addr.mk.injEq, and_true] at ha
  obtain ⟨rfl, rfl⟩ := ha
  simpa using And.intro h0 (And.intro h1 h2)
theorem OwnRow.frozenAt {α : Type} {L : Lay α} {e : TypeId} {w : World} {B g n cap : Nat} {es : List α} (h : OwnRow L e w B (.slice (some ⟨g, 0, none⟩) n cap) es) (j : Nat) : w.frozen? ⟨g, j, none⟩ = false := by
  obtain rfl := h.len
  exact World.ownsRow.frozenAt h j
/-- An element stored, cell by cell. -/
theorem OwnRow.set3 {e : TypeId} {w : World} {B g n cap : Nat} {es : List Ent} (h : OwnRow EL e w B (.slice (some ⟨g, 0, none⟩) n cap) es) (i : Nat) (hi : i < es.length) (x y z : Int) :
    OwnRow EL e (((w.setCell ⟨g, i * 3, none⟩ (.int .i64 x)).setCell ⟨g, i * 3 + 1, none⟩ (.int .i64 y)).setCell ⟨g, i * 3 + 2, none⟩ (.int .i64 z)) B (.slice (some ⟨g, 0, none⟩) n cap) (es.set i (x, y, z)) := by
  obtain rfl := h.len
  have h1 := (World.ownsRow.stored h (i * 3) (.int .i64 x)).1
  have h2 := (World.ownsRow.stored h1 (i * 3 + 1) (.int .i64 y)).1
  have h3 := (World.ownsRow.stored h2 (i * 3 + 2) (.int .i64 z)).1
  rw [flat_set3 es i hi] at h3
  unfold OwnRow
  rw [List.length_set]
  exact h3

/-! Two cells an element. -/
abbrev Tok := Int × Int
def Tok.wf (e : Tok) : Prop := (Lit.int .i64 e.1).wf = true ∧ (Lit.int .i64 e.2).wf = true
def tokC (e : Tok) : List Value := [.int .i64 e.1, .int .i64 e.2]
def TL : Lay Tok := ⟨2, tokC, fun _ => rfl, fun a u hu => by simp [tokC] at hu; rcases hu with rfl | rfl <;> rfl, by omega⟩
theorem flat_set2 (es : List Tok) (i : Nat) (hi : i < es.length) (x y : Int) : ((flat TL es).set (i * 2) (.int .i64 x)).set (i * 2 + 1) (.int .i64 y) = flat TL (es.set i (x, y)) := by
  induction es generalizing i with
  | nil => simp at hi
  | cons e es ih =>
    cases i with
    | zero => simp [flat, TL, tokC]
    | succ i =>
      have h := ih i (by simpa using hi)
      have e1 : (i + 1) * 2 = i * 2 + 2 := by omega
      rw [List.set_cons_succ, flat_cons, flat_cons, ← h, e1]
      simp [TL, tokC]
theorem RRow.tok {w : World} {a : Option Addr} {n cap : Nat} {es : List Tok} (h : RRow TL w (.slice a n cap) es) : ∀ i (hi : i < es.length), ∃ b off, a = some ⟨b, off, none⟩ ∧ b < w.heap.size ∧
    w.cell? ⟨b, off + i * 2, none⟩ = some (.int .i64 es[i].1) ∧ w.cell? ⟨b, off + i * 2 + 1, none⟩ = some (.int .i64 es[i].2) := by
  obtain ⟨a', cap', hv, hn, hc, hcell⟩ := h
  simp only [Value.slice.injEq] at hv
  obtain ⟨rfl, rfl, rfl⟩ := hv
  intro i hi
  obtain ⟨b, off, ha, hb, hx⟩ := hcell i hi
  exact ⟨b, off, ha, hb, hx 0 _ rfl, hx 1 _ rfl⟩
theorem OwnRow.tok {e : TypeId} {w : World} {B g n cap : Nat} {es : List Tok} (h : OwnRow TL e w B (.slice (some ⟨g, 0, none⟩) n cap) es) (i : Nat) (hi : i < es.length) :
    w.cell? ⟨g, i * 2, none⟩ = some (.int .i64 es[i].1) ∧ w.cell? ⟨g, i * 2 + 1, none⟩ = some (.int .i64 es[i].2) := by
  obtain ⟨b, off, ha, _, h0, h1⟩ := h.reads.tok i hi
  simp only [Option.some.injEq, Addr.mk.injEq, and_true] at ha
  obtain ⟨rfl, rfl⟩ := ha
  simpa using And.intro h0 h1
theorem OwnRow.set2 {e : TypeId} {w : World} {B g n cap : Nat} {es : List Tok} (h : OwnRow TL e w B (.slice (some ⟨g, 0, none⟩) n cap) es) (i : Nat) (hi : i < es.length) (x y : Int) :
    OwnRow TL e ((w.setCell ⟨g, i * 2, none⟩ (.int .i64 x)).setCell ⟨g, i * 2 + 1, none⟩ (.int .i64 y)) B (.slice (some ⟨g, 0, none⟩) n cap) (es.set i (x, y)) := by
  obtain rfl := h.len
  have h1 := (World.ownsRow.stored h (i * 2) (.int .i64 x)).1
  have h2 := (World.ownsRow.stored h1 (i * 2 + 1) (.int .i64 y)).1
  rw [flat_set2 es i hi] at h2
  unfold OwnRow
  rw [List.length_set]
  exact h2
end Go.Proofs.Ythgekfiodedelaa
