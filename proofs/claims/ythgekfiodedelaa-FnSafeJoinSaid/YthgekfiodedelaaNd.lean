/- Nodes in memory: three cells an element, the third a slice's header. -/
import Derived.Test.YthgekfiodedelaaStr
import Derived.Test.YthgekfiodedelaaMemG
import Derived.Test.YthgekfiodedelaaRgPlain2
namespace Go.Proofs.Ythgekfiodedelaa
open Go.RowKit
set_option linter.unusedVariables false
set_option linter.unusedSimpArgs false

/-- A node's data: its place, the node before, the nodes after. -/
abbrev Rn := Int × Int × List Int
abbrev Sl := Option Addr × Nat × Nat
abbrev Hd := Int × Int × Sl
def slV (s : Sl) : Value := .slice s.1 s.2.1 s.2.2
def hdC (e : Hd) : List Value := [.int .i64 e.1, .int .i64 e.2.1, slV e.2.2]
def HL : Lay Hd := ⟨3, hdC, fun _ => rfl, fun a u hu => by simp [hdC, slV] at hu; rcases hu with rfl | rfl | rfl <;> rfl, by omega⟩
def Fits (w : World) (hs : List Hd) (D : List Rn) : Prop := hs.length = D.length ∧ ∀ i (h : i < hs.length) (h' : i < D.length), hs[i].1 = D[i].1 ∧ hs[i].2.1 = D[i].2.1 ∧ RInts w (slV hs[i].2.2) D[i].2.2
def RRing (w : World) (v : Value) (D : List Rn) : Prop := ∃ hs, RRow HL w v hs ∧ Fits w hs D

theorem Fits.bl {w w' : World} {hs : List Hd} {D : List Rn} (h : Fits w hs D) (hb : Below w.heap.size w w') : Fits w' hs D := ⟨h.1, fun i h1 h2 => by obtain ⟨a, b, c⟩ := h.2 i h1 h2; exact ⟨a, b, c.bl hb⟩⟩
theorem RRing.bl {w w' : World} {v : Value} {D : List Rn} (h : RRing w v D) (hb : Below w.heap.size w w') : RRing w' v D := by obtain ⟨hs, h1, h2⟩ := h; exact ⟨hs, h1.bl hb, h2.bl hb⟩
theorem RRing.dr {w : World} {v : Value} {D : List Rn} (h : RRing w v D) (n : Nat) : RRing (w.drewN n) v D := h
theorem RRing.d1 {w : World} {v : Value} {D : List Rn} (h : RRing w v D) : RRing w.drew v D := h
theorem RRing.al {w : World} {v : Value} {D : List Rn} (h : RRing w v D) (o : Obj) : RRing (w.alloc o) v D := h.bl (below_alloc w o)
theorem RRing.sl {w : World} {v : Value} {D : List Rn} (h : RRing w v D) : ∃ a cap, v = .slice a D.length cap ∧ D.length ≤ cap ∧ cap ≤ maxLen := by
  obtain ⟨hs, ⟨a, cap, hv, h1, h2, -⟩, h3, -⟩ := h
  exact ⟨a, cap, by rw [hv, h3], by omega, h2⟩
/-- The cells of a node. -/
theorem RRing.nd {w : World} {a : Option Addr} {n cap : Nat} {D : List Rn} (h : RRing w (.slice a n cap) D) (i : Nat) (hi : i < D.length) :
    ∃ b off s c, a = some ⟨b, off, none⟩ ∧ b < w.heap.size ∧ w.cell? ⟨b, off + i * 3, none⟩ = some (.int .i64 D[i].1) ∧ w.cell? ⟨b, off + i * 3 + 1, none⟩ = some (.int .i64 D[i].2.1) ∧
      w.cell? ⟨b, off + i * 3 + 2, none⟩ = some (.slice s D[i].2.2.length c) ∧ RInts w (.slice s D[i].2.2.length c) D[i].2.2 := by
  obtain ⟨hs, ⟨a', cap', hv, h1, h2, hcell⟩, hl, h3⟩ := h
  simp only [Value.slice.injEq] at hv
  obtain ⟨rfl, rfl, rfl⟩ := hv
  have hi' : i < hs.length := by omega
  obtain ⟨b, off, ha, hb, hx⟩ := hcell i hi'
  obtain ⟨e1, e2, e3⟩ := h3 i hi' hi
  obtain ⟨s, c, e4, -, -, -⟩ := id e3
  have x0 := hx 0 _ rfl
  have x1 := hx 1 _ rfl
  have x2 := hx 2 _ rfl
  rw [e1] at x0; rw [e2] at x1; rw [e4] at x2 e3
  exact ⟨b, off, s, c, ha, hb, x0, x1, x2, e3⟩
theorem RRing.nil {w : World} {n cap : Nat} {D : List Rn} (h : RRing w (.slice none n cap) D) : D = [] ∧ n = 0 := by
  obtain ⟨hs, h1, h2, -⟩ := h
  obtain ⟨rfl, h3⟩ := h1.nil
  exact ⟨List.eq_nil_of_length_eq_zero h2.symm, h3⟩
theorem RRing.empty (w : World) : RRing w (.slice none 0 0) [] := ⟨[], (OwnRow.nil HL 0 w 0).reads, rfl, fun i h => absurd h (by simp)⟩

/-- A ring of the call's own: its row of nodes lies in a block of its own, and no list of a node lies in that block. -/
def OwnRing (w : World) (B : Nat) (v : Value) (D : List Rn) : Prop :=
  ∃ hs, OwnRow HL 37 w B v hs ∧ Fits w hs D ∧ ∀ i (h : i < hs.length), (slV hs[i].2.2).ownBlock = none ∨ (slV hs[i].2.2).ownBlock ≠ v.ownBlock
theorem OwnRing.reads {w : World} {B : Nat} {v : Value} {D : List Rn} (h : OwnRing w B v D) : RRing w v D := by obtain ⟨hs, h1, h2, -⟩ := h; exact ⟨hs, h1.reads, h2⟩
theorem OwnRing.bl {w w' : World} {B : Nat} {v : Value} {D : List Rn} (h : OwnRing w B v D) (hb : Below w.heap.size w w') : OwnRing w' B v D := by obtain ⟨hs, h1, h2, h3⟩ := h; exact ⟨hs, h1.bl hb, h2.bl hb, h3⟩
theorem OwnRing.base {w : World} {B B' : Nat} {v : Value} {D : List Rn} (h : OwnRing w B v D) (hB : B' ≤ B) : OwnRing w B' v D := by obtain ⟨hs, h1, h2, h3⟩ := h; exact ⟨hs, h1.base hB, h2, h3⟩
theorem OwnRing.dr {w : World} {B : Nat} {v : Value} {D : List Rn} (h : OwnRing w B v D) (n : Nat) : OwnRing (w.drewN n) B v D := h
theorem OwnRing.d1 {w : World} {B : Nat} {v : Value} {D : List Rn} (h : OwnRing w B v D) : OwnRing w.drew B v D := h
end Go.Proofs.Ythgekfiodedelaa
