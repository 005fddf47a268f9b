/- Blocks known whole, and one set of words by which facts are carried from world to world. No function in sight. -/
import Derived.Test.YthgekfiodedelaaInts
import Derived.Laws.Rows
import Derived.Laws.Tables
import Derived.Laws.CopyOwn
import Derived.Laws.AppendOwnNone
import Derived.Deep.RegionHeld3
namespace Go.Proofs.Ythgekfiodedelaa
open Go.RowKit
set_option linter.unusedVariables false
set_option linter.unusedSimpArgs false

/-- Block g is known whole. -/
structure Blk (w : World) (g : Nat) (cs : Array Value) (t : TypeId) : Prop where
  h : w.heap[g]? = some (.cells cs t (0, 0))
theorem Blk.c {w : World} {g : Nat} {cs : Array Value} {t : TypeId} (h : Blk w g cs t) (j : Nat) {v : Value} (hv : cs[j]? = some v) : w.cell? ⟨g, j, none⟩ = some v := (cell_of_row _ _ j _ _ (0, 0) h.h).trans hv
theorem Blk.f {w : World} {g : Nat} {cs : Array Value} {t : TypeId} (h : Blk w g cs t) (j : Nat) : w.frozen? ⟨g, j, none⟩ = false := frozen_of_row _ _ j _ _ h.h
theorem Blk.lt {w : World} {g : Nat} {cs : Array Value} {t : TypeId} (h : Blk w g cs t) : g < w.heap.size := (Array.getElem?_eq_some_iff.1 h.h).1
theorem Blk.bl {w w' : World} {g : Nat} {cs : Array Value} {t : TypeId} (h : Blk w g cs t) (hb : Below w.heap.size w w') : Blk w' g cs t := ⟨(hb.block g h.lt).trans h.h⟩
theorem Blk.bs {w w' : World} {S g : Nat} {cs : Array Value} {t : TypeId} (h : Blk w g cs t) (hb : Below S w w') (hS : g < S) : Blk w' g cs t := ⟨(hb.block g hS).trans h.h⟩
theorem Blk.dr {w : World} {g : Nat} {cs : Array Value} {t : TypeId} (h : Blk w g cs t) (n : Nat) : Blk (w.drewN n) g cs t := ⟨h.h⟩
theorem Blk.gr {w w' : World} {g : Nat} {cs : Array Value} {t : TypeId} {row : Option Nat} (h : Blk w g cs t) (hg : w.grownBy w' row) (hne : ∀ k, row = some k → k ≠ g) : Blk w' g cs t := by
  obtain ⟨_, _, _, _, h5⟩ := hg
  exact ⟨(h5 g h.lt (fun e => hne g e.symm rfl)).trans h.h⟩
theorem Blk.new (w : World) (cs : Array Value) (t : TypeId) : Blk (w.alloc (.cells cs t)) w.heap.size cs t := ⟨heap_alloc_new _ _⟩
theorem Blk.al {w : World} {g : Nat} {cs : Array Value} {t : TypeId} (h : Blk w g cs t) (o : Obj) : Blk (w.alloc o) g cs t := h.bl (below_alloc w o)
theorem Blk.set {w : World} {g : Nat} {cs : Array Value} {t : TypeId} (h : Blk w g cs t) (j : Nat) (v : Value) : Blk (w.setCell ⟨g, j, none⟩ v) g (cs.setIfInBounds j v) t := by
  refine ⟨?_⟩
  simp [World.setCell, Array.getElem?_modify, h.h]
theorem Blk.get3 {w : World} {g : Nat} {a b c : Value} {t : TypeId} (h : Blk w g #[a, b, c] t) : w.cell? ⟨g, 0, none⟩ = some a ∧ w.cell? ⟨g, 1, none⟩ = some b ∧ w.cell? ⟨g, 2, none⟩ = some c := ⟨h.c 0 rfl, h.c 1 rfl, h.c 2 rfl⟩
theorem Blk.get2 {w : World} {g : Nat} {a b : Value} {t : TypeId} (h : Blk w g #[a, b] t) : w.cell? ⟨g, 0, none⟩ = some a ∧ w.cell? ⟨g, 1, none⟩ = some b := ⟨h.c 0 rfl, h.c 1 rfl⟩
theorem Blk.get1 {w : World} {g : Nat} {a : Value} {t : TypeId} (h : Blk w g #[a] t) : w.cell? ⟨g, 0, none⟩ = some a := h.c 0 rfl
theorem Blk.fr3 {w : World} {g : Nat} {cs : Array Value} {t : TypeId} (h : Blk w g cs t) : w.frozen? ⟨g, 0, none⟩ = false ∧ w.frozen? ⟨g, 1, none⟩ = false ∧ w.frozen? ⟨g, 2, none⟩ = false := ⟨h.f 0, h.f 1, h.f 2⟩
theorem Blk.fr2 {w : World} {g : Nat} {cs : Array Value} {t : TypeId} (h : Blk w g cs t) : w.frozen? ⟨g, 0, none⟩ = false ∧ w.frozen? ⟨g, 1, none⟩ = false := ⟨h.f 0, h.f 1⟩
theorem grown_set (w : World) (g j : Nat) (v : Value) : w.grownBy (w.setCell ⟨g, j, none⟩ v) (some g) :=
  ⟨rfl, rfl, rfl, by simp [World.setCell], fun k _ hk => Below.heap_setCell _ _ _ _ (fun e => hk (by rw [e]))⟩
theorem Blk.s30 {w : World} {g : Nat} {a b c : Value} {t : TypeId} (h : Blk w g #[a, b, c] t) (v : Value) : Blk (w.setCell ⟨g, 0, none⟩ v) g #[v, b, c] t := h.set 0 v
theorem Blk.s31 {w : World} {g : Nat} {a b c : Value} {t : TypeId} (h : Blk w g #[a, b, c] t) (v : Value) : Blk (w.setCell ⟨g, 1, none⟩ v) g #[a, v, c] t := h.set 1 v
theorem Blk.s32 {w : World} {g : Nat} {a b c : Value} {t : TypeId} (h : Blk w g #[a, b, c] t) (v : Value) : Blk (w.setCell ⟨g, 2, none⟩ v) g #[a, b, v] t := h.set 2 v
theorem Blk.s20 {w : World} {g : Nat} {a b : Value} {t : TypeId} (h : Blk w g #[a, b] t) (v : Value) : Blk (w.setCell ⟨g, 0, none⟩ v) g #[v, b] t := h.set 0 v
theorem Blk.s21 {w : World} {g : Nat} {a b : Value} {t : TypeId} (h : Blk w g #[a, b] t) (v : Value) : Blk (w.setCell ⟨g, 1, none⟩ v) g #[a, v] t := h.set 1 v
theorem Blk.so {w : World} {g : Nat} {cs : Array Value} {t : TypeId} (h : Blk w g cs t) (g' j : Nat) (v : Value) (hne : g' ≠ g) : Blk (w.setCell ⟨g', j, none⟩ v) g cs t := h.gr (grown_set w g' j v) (fun k e => by cases e; exact hne)
def put3 (w : World) (g : Nat) (a b c : Value) : World := ((w.setCell ⟨g, 0, none⟩ a).setCell ⟨g, 1, none⟩ b).setCell ⟨g, 2, none⟩ c
def put2 (w : World) (g : Nat) (a b : Value) : World := (w.setCell ⟨g, 0, none⟩ a).setCell ⟨g, 1, none⟩ b
theorem Blk.put3 {w : World} {g : Nat} {a b c : Value} {t : TypeId} (h : Blk w g #[a, b, c] t) (x y z : Value) : Blk (put3 w g x y z) g #[x, y, z] t := ((h.s30 x).s31 y).s32 z
theorem Blk.put2 {w : World} {g : Nat} {a b : Value} {t : TypeId} (h : Blk w g #[a, b] t) (x y : Value) : Blk (put2 w g x y) g #[x, y] t := (h.s20 x).s21 y
theorem grown_put3 (w : World) (g : Nat) (a b c : Value) : w.grownBy (put3 w g a b c) (some g) := ((grown_set _ _ _ _).trans (grown_set _ _ _ _)).trans (grown_set _ _ _ _)
theorem grown_put2 (w : World) (g : Nat) (a b : Value) : w.grownBy (put2 w g a b) (some g) := (grown_set _ _ _ _).trans (grown_set _ _ _ _)
theorem Blk.po3 {w : World} {g : Nat} {cs : Array Value} {t : TypeId} (h : Blk w g cs t) (g' : Nat) (x y z : Value) (hne : g' ≠ g) : Blk (Proofs.Ythgekfiodedelaa.put3 w g' x y z) g cs t := h.gr (grown_put3 w g' x y z) (fun k e => by cases e; exact hne)
theorem Blk.po2 {w : World} {g : Nat} {cs : Array Value} {t : TypeId} (h : Blk w g cs t) (g' : Nat) (x y : Value) (hne : g' ≠ g) : Blk (Proofs.Ythgekfiodedelaa.put2 w g' x y) g cs t := h.gr (grown_put2 w g' x y) (fun k e => by cases e; exact hne)
theorem grown_setR (w : World) (g : Nat) (cs : Array Value) : w.grownBy (w.setRow g cs) (some g) :=
  ⟨rfl, rfl, rfl, by simp [World.setRow], fun k _ hk => setRow_other w g k cs (fun e => hk (by rw [e]))⟩
theorem Blk.setR {w : World} {g : Nat} {cs : Array Value} {t : TypeId} (h : Blk w g cs t) {ds : Array Value} (hs : ds.size = cs.size) : Blk (w.setRow g ds) g ds t := by
  refine ⟨?_⟩
  simp [World.setRow, Array.getElem?_modify, h.h]

theorem RInts.bl {w w' : World} {v : Value} {zs : List Int} (h : RInts w v zs) (hb : Below w.heap.size w w') : RInts w' v zs := h.below hb
theorem RInts.dr {w : World} {v : Value} {zs : List Int} (h : RInts w v zs) (n : Nat) : RInts (w.drewN n) v zs := h
theorem RInts.al {w : World} {v : Value} {zs : List Int} (h : RInts w v zs) (o : Obj) : RInts (w.alloc o) v zs := h.below (below_alloc w o)
theorem OwnInts.bl {w w' : World} {B : Nat} {v : Value} {zs : List Int} (h : OwnInts w B v zs) (hb : Below w.heap.size w w') : OwnInts w' B v zs := h.below hb
theorem OwnInts.dr {w : World} {B : Nat} {v : Value} {zs : List Int} (h : OwnInts w B v zs) (n : Nat) : OwnInts (w.drewN n) B v zs := h
theorem OwnInts.al {w : World} {B : Nat} {v : Value} {zs : List Int} (h : OwnInts w B v zs) (o : Obj) : OwnInts (w.alloc o) B v zs := h.below (below_alloc w o)
theorem OwnInts.gr {w w' : World} {B : Nat} {v : Value} {zs : List Int} {row : Option Nat} (h : OwnInts w B v zs) (hg : w.grownBy w' row) (hne : v.ownBlock = none ∨ v.ownBlock ≠ row) : OwnInts w' B v zs := h.kept hg hne
theorem OwnInts.lts {w : World} {B : Nat} {v : Value} {zs : List Int} (h : OwnInts w B v zs) : ∀ k, v.ownBlock = some k → B ≤ k ∧ k < w.heap.size := fun k hk => ownsRow_lt h hk
theorem OwnA.bl {w w' : World} {B : Nat} {v : Value} {zs : List Int} (h : OwnA w B v zs) (hb : Below w.heap.size w w') : OwnA w' B v zs := h.below hb
theorem OwnA.dr {w : World} {B : Nat} {v : Value} {zs : List Int} (h : OwnA w B v zs) (n : Nat) : OwnA (w.drewN n) B v zs := h
theorem OwnA.al {w : World} {B : Nat} {v : Value} {zs : List Int} (h : OwnA w B v zs) (o : Obj) : OwnA (w.alloc o) B v zs := h.below (below_alloc w o)
theorem OwnA.gr {w w' : World} {B : Nat} {v : Value} {zs : List Int} {row : Option Nat} (h : OwnA w B v zs) (hg : w.grownBy w' row) (hne : v.ownBlock = none ∨ v.ownBlock ≠ row) : OwnA w' B v zs := h.kept hg hne
theorem OwnA.lts {w : World} {B : Nat} {v : Value} {zs : List Int} (h : OwnA w B v zs) : ∀ k, v.ownBlock = some k → B ≤ k ∧ k < w.heap.size := by
  obtain ⟨e, h⟩ := h; exact fun k hk => ownsRow_lt h hk
theorem ap_ne {u : Option Nat} {g : Nat} (h : ∀ k, u = some k → k ≠ g) : u = none ∨ u ≠ some g := by
  cases u with
  | none => exact .inl rfl
  | some k => exact .inr (fun e => h k rfl (by cases e; rfl))
theorem OwnInts.sc {w : World} {B : Nat} {v : Value} {zs : List Int} (h : OwnInts w B v zs) {g : Nat} (hg : g < B) (j : Nat) (x : Value) : OwnInts (w.setCell ⟨g, j, none⟩ x) B v zs := h.gr (grown_set w g j x) (ap_ne fun k hk => by have := (h.lts k hk).1; omega)
theorem OwnInts.p3 {w : World} {B : Nat} {v : Value} {zs : List Int} (h : OwnInts w B v zs) {g : Nat} (hg : g < B) (x y z : Value) : OwnInts (put3 w g x y z) B v zs := h.gr (grown_put3 w g x y z) (ap_ne fun k hk => by have := (h.lts k hk).1; omega)
theorem OwnInts.p2 {w : World} {B : Nat} {v : Value} {zs : List Int} (h : OwnInts w B v zs) {g : Nat} (hg : g < B) (x y : Value) : OwnInts (put2 w g x y) B v zs := h.gr (grown_put2 w g x y) (ap_ne fun k hk => by have := (h.lts k hk).1; omega)
theorem ap_of {u v : Option Nat} (h : ∀ k, u = some k → v = some k → False) : u = none ∨ u ≠ v := by
  cases u with
  | none => exact .inl rfl
  | some k => exact .inr (fun e => h k rfl e.symm)
/-- What was known of a row of the call's own, as reading. -/
theorem OwnInts.rd' {w : World} {B : Nat} {v : Value} {zs : List Int} (h : OwnInts w B v zs) : RInts w v zs := h.reads

theorem own_empty' (w : World) {g B : Nat} (hg : g = w.heap.size) (hB : B ≤ g) : OwnInts (w.alloc (.cells #[] 3)) B (.slice (some ⟨g, 0, none⟩) 0 0) [] := by
  subst hg; exact (own_empty w).base hB
theorem bNx {w wi wj : World} {S : Nat} (h : Below w.heap.size w wi) (hb : Below S wi wj) (hS : w.heap.size ≤ S) : Below w.heap.size w wj := h.trans (hb.mono hS)
theorem bAl {w wi : World} (h : Below w.heap.size w wi) (o : Obj) : Below w.heap.size w (wi.alloc o) := bNext h (below_alloc wi o)
theorem bGr {w wi wj : World} {row : Option Nat} (h : Below w.heap.size w wi) (hg : wi.grownBy wj row) (hr : ∀ k, row = some k → w.heap.size ≤ k) : Below w.heap.size w wj := h.grown hg h.size hr
theorem bSc {w wi : World} (h : Below w.heap.size w wi) {g : Nat} (hg : w.heap.size ≤ g) (j : Nat) (x : Value) : Below w.heap.size w (wi.setCell ⟨g, j, none⟩ x) := bGr h (grown_set wi g j x) (fun k e => by cases e; exact hg)
theorem bP3 {w wi : World} (h : Below w.heap.size w wi) {g : Nat} (hg : w.heap.size ≤ g) (x y z : Value) : Below w.heap.size w (put3 wi g x y z) := bGr h (grown_put3 wi g x y z) (fun k e => by cases e; exact hg)
theorem bP2 {w wi : World} (h : Below w.heap.size w wi) {g : Nat} (hg : w.heap.size ≤ g) (x y : Value) : Below w.heap.size w (put2 wi g x y) := bGr h (grown_put2 wi g x y) (fun k e => by cases e; exact hg)
theorem bDr {w wi : World} (h : Below w.heap.size w wi) (n : Nat) : Below w.heap.size w (wi.drewN n) := bNextD h n
theorem sAl (w : World) (o : Obj) : w.heap.size < (w.alloc o).heap.size := by simp
theorem sD1 (w : World) : w.heap.size ≤ w.drew.heap.size := Nat.le_refl _
theorem sDr (w : World) (n : Nat) : w.heap.size ≤ (w.drewN n).heap.size := Nat.le_refl _
theorem bl_self (w : World) (n : Nat) : Below w.heap.size w (w.drewN n) := below_draws' w n

theorem Blk.d1 {w : World} {g : Nat} {cs : Array Value} {t : TypeId} (h : Blk w g cs t) : Blk w.drew g cs t := ⟨h.h⟩
theorem RInts.d1 {w : World} {v : Value} {zs : List Int} (h : RInts w v zs) : RInts w.drew v zs := h
theorem OwnInts.d1 {w : World} {B : Nat} {v : Value} {zs : List Int} (h : OwnInts w B v zs) : OwnInts w.drew B v zs := h
theorem OwnA.d1 {w : World} {B : Nat} {v : Value} {zs : List Int} (h : OwnA w B v zs) : OwnA w.drew B v zs := h
theorem bD1 {w wi : World} (h : Below w.heap.size w wi) : Below w.heap.size w wi.drew := h.drew
end Go.Proofs.Ythgekfiodedelaa
