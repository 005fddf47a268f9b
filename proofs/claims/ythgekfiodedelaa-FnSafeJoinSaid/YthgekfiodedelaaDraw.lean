/- Small lemmas for drawing: what stays where a reader steps and own rows grow. -/
import Derived.Test.YthgekfiodedelaaInts
import Derived.Test.YthgekfiodedelaaRd
namespace Go.Proofs.Ythgekfiodedelaa
open Go.RowKit
set_option linter.unusedVariables false
set_option linter.unusedSimpArgs false

theorem gBelow {w wi wj : World} {b : Nat} (h : w.grownBy wi (some b)) (hb : Below wi.heap.size wi wj) : w.grownBy wj (some b) :=
  h.trans ⟨hb.os, hb.tape, hb.output, hb.size, fun k hk _ => hb.block k hk⟩
theorem gAlloc {w wi : World} {b : Nat} (h : w.grownBy wi (some b)) (o : Obj) : w.grownBy (wi.alloc o) (some b) := gBelow h (below_alloc wi o)
theorem gDrewN {w wi : World} {b : Nat} (h : w.grownBy wi (some b)) (n : Nat) : w.grownBy (wi.drewN n) (some b) := h.trans (grown_drewN _ _ _)
theorem gOwn {w wi wj : World} {b : Nat} {row : Option Nat} (h : w.grownBy wi (some b)) (hg : wi.grownBy wj row) (hr : ∀ k, row = some k → w.heap.size ≤ k) : w.grownBy wj (some b) :=
  ⟨hg.os.trans h.os, hg.tape.trans h.tape, hg.output.trans h.output, Nat.le_trans h.size hg.size, fun k hk hne => (hg.block k (Nat.lt_of_lt_of_le hk h.size) (fun e => by have := hr k e.symm; omega)).trans (h.block k hk hne)⟩

theorem own_lt {w : World} {B : Nat} {v : Value} {zs : List Int} (h : OwnInts w B v zs) : ∀ k, v.ownBlock = some k → B ≤ k := fun k hk => (ownsRow_lt h hk).1

/-- A row of the call's own stays where a reader of old steps. -/
theorem OwnInts.rd {w wi wj : World} {b : Nat} {v : Value} {zs : List Int} (h : OwnInts wi w.heap.size v zs) (hb : b < w.heap.size) (hg : wi.grownBy wj (some b)) : OwnInts wj w.heap.size v zs :=
  h.kept hg (by
    cases hv : v.ownBlock with
    | none => exact .inl rfl
    | some x => exact .inr (by have := own_lt h x hv; simp; omega))

/-- A reader of old stays where a row of the call's own is written. -/
theorem IsRd.own {w wi wj : World} {S b : Nat} {p : Int} {v : Value} {zs : List Int} (h : IsRd wi S b p) (hb : b < w.heap.size) (hown : OwnInts wi w.heap.size v zs) (hg : wi.grownBy wj v.ownBlock) : IsRd wj S b p :=
  h.grown hg (fun k hk => by have := own_lt hown k hk; have := h.1; omega) (fun e => by have := own_lt hown b e.symm; omega)

theorem OwnInts.alloc {w : World} {B : Nat} {v : Value} {zs : List Int} (h : OwnInts w B v zs) (o : Obj) : OwnInts (w.alloc o) B v zs := World.ownsRow.alloc h o
theorem IsRd.alloc {w : World} {S b : Nat} {p : Int} (h : IsRd w S b p) (o : Obj) : IsRd (w.alloc o) S b p := h.belowAll (below_alloc w o)
theorem IsRd.up {w : World} {S b : Nat} {p q : Int} (h : IsRd w S b p) (e : p = q) : IsRd w S b q := e ▸ h

/-- A cut from the start of a row of the call's own. -/
theorem own_take {w : World} {B g n cap : Nat} {zs : List Int} (h : OwnInts w B (.slice (some ⟨g, 0, none⟩) n cap) zs) {k : Nat} (hk : k ≤ zs.length) : OwnInts w B (.slice (some ⟨g, 0, none⟩) k cap) (zs.take k) := by
  have hlen : (zs.take k).length = k := by simp; omega
  obtain ⟨h1, h2⟩ := h
  refine ⟨by simp, ?_⟩
  rw [hlen]
  rcases h2 with ⟨h2, _⟩ | ⟨g', cap', cur, hv, hB, hg, hn, hc, hs, ht⟩
  · simp at h2
  · simp only [Value.slice.injEq, Option.some.injEq, Addr.mk.injEq, and_true] at hv
    obtain ⟨rfl, rfl, rfl⟩ := hv
    refine .inr ⟨g, cap, cur, rfl, hB, hg, by omega, hc, hs, ?_⟩
    rw [show ints (zs.take k) = (ints zs).take k by simp [ints], ← ht, List.take_take]
    congr 1
    omega

/-- The shape of a slice that has elements. -/
theorem RInts.shape {w : World} {v : Value} {zs : List Int} (h : RInts w v zs) {n : Nat} (hn : zs.length = n) (h0 : 0 < n) :
    ∃ b off cap, v = .slice (some ⟨b, off, none⟩) n cap ∧ n ≤ cap ∧ cap ≤ maxLen ∧ RInts w (.slice (some ⟨b, off, none⟩) n cap) zs ∧ ∀ i (hi : i < zs.length), b < w.heap.size ∧ w.cell? ⟨b, off + i, none⟩ = some (.int .i64 zs[i]) := by
  subst hn
  obtain ⟨a, cap, rfl, h1, h2, h3⟩ := id h
  obtain ⟨b, off, rfl, -, -⟩ := h3 0 h0
  refine ⟨b, off, cap, rfl, h1, h2, h, fun i hi => ?_⟩
  obtain ⟨b', off', he, hb, hx⟩ := h3 i hi
  cases he
  exact ⟨hb, hx⟩
theorem RInts.empty {w : World} {v : Value} (h : RInts w v []) : ∃ a cap, v = .slice a 0 cap := by
  obtain ⟨a, cap, rfl, -⟩ := h
  exact ⟨a, cap, rfl⟩

/-- What one append of a number onto a row of the call's own leaves. -/
theorem append_step {w wr w1 : World} {S b : Nat} {p : Int} {v v' : Value} {xs : List Int} {y : Int} {o : Obj} {n : Nat} (hb : b < w.heap.size)
    (hown : OwnInts wr w.heap.size v xs) (hrd : IsRd wr S b p) (hg : w.grownBy wr (some b))
    (hown' : w1.ownsRow w.heap.size 3 1 v' n (ints xs ++ [.int .i64 y])) (hn : n = xs.length + 1) (hgr : (wr.alloc o).grownBy w1 v.ownBlock) :
    OwnInts w1 w.heap.size v' (xs ++ [y]) ∧ IsRd w1 S b p ∧ w.grownBy w1 (some b) :=
  ⟨own_snoc hown' hn, (hrd.alloc o).own hb (hown.alloc o) hgr, gOwn (gAlloc hg o) hgr (own_lt hown)⟩
end Go.Proofs.Ythgekfiodedelaa
