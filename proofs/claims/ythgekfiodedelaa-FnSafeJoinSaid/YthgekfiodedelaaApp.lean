/- An append of structs inside a region that draws its order. No program in sight. -/
import Derived.Test.YthgekfiodedelaaSet
import Derived.Deep.RegionLaw
namespace Go.Proofs.Ythgekfiodedelaa
open Go.RowKit
set_option linter.unusedVariables false
set_option linter.unusedSimpArgs false

theorem OwnRow.empty' {α : Type} (L : Lay α) (e : TypeId) (w : World) {g B : Nat} (hg : g = w.heap.size) (hB : B ≤ g) : OwnRow L e (w.alloc (.cells #[] e)) B (.slice (some ⟨g, 0, none⟩) 0 0) [] := by
  subst hg; exact (OwnRow.empty L e w).base hB
theorem RRow.one {α : Type} (L : Lay α) (w : World) (a : α) {cs : Array Value} {t : TypeId} {g : Nat} (hg : g = w.heap.size) (hc : cs.toList = L.c a) : RRow L (w.alloc (.cells cs t)) (.slice (some ⟨g, 0, none⟩) 1 1) [a] := by
  subst hg
  refine ⟨_, 1, rfl, by simp, by unfold maxLen; omega, fun i hi => ⟨w.heap.size, 0, rfl, by simp, fun j u hu => ?_⟩⟩
  have : i = 0 := by simp at hi; omega
  subst this
  have : (w.alloc (.cells cs t)).cell? ⟨w.heap.size, j, none⟩ = cs[j]? := cell_of_row _ _ j _ _ (0, 0) (heap_alloc_new _ _)
  rw [Nat.zero_mul, Nat.zero_add, this, ← Array.getElem?_toList, hc]
  simpa using hu

theorem step_appL {α : Type} (L : Lay α) {P : Program} {ops : Array Oper} {o : Oper} {a : Act} {w : World} {K : Act → World → Prop} {Q : Exit → Act → World → Prop} {E : Prop} (hgd : o.guard = none) (s x : Operand) (t e : TypeId)
    (ho : o.op = .call { callee := .builtin .append, args := #[s, x], argTypes := #[t, t] })
    (i : TypeInfo) (z : Value) (bytes : Nat) (ht : P.underlying t = some (.slice e)) (hi : P.info? e = some i) (hz : i.zero = some z) (hsize : i.size = L.k) (hby : i.bytes = bytes) (hzs : z.cells.size = L.k)
    (B : Nat) (v : Value) (xs : List α) (hs : a.eval s = v) (hown : OwnRow L e w B v xs) (ad : Addr) (m c : Nat) (ys : List α) (hx : a.eval x = .slice (some ad) m c) (hu : RRow L w (.slice (some ad) m c) ys)
    (h63 : xs.length + ys.length ≤ maxLen) (hbytes : (xs.length + ys.length) * bytes ≤ 140737488355328) (hB : B ≤ w.heap.size) (hv : v ≠ .slice none 0 0)
    (h : ∀ v' w', OwnRow L e w' B v' (xs ++ ys) → w.grownBy w' v.ownBlock → v' ≠ .slice none 0 0 → K (a.put o.dst v') w') :
    if Region.wanted o (yielded ops a.tmps) = true then Oper.wp P o a w K Q else E := by
  have hw : Region.wanted o (yielded ops a.tmps) = true := by simp [Region.wanted, hgd]
  rw [if_pos hw]
  obtain ⟨hm, hcell⟩ := hu.addr
  subst hm
  refine wp_append_own w s x t ho B e i z L.k bytes ht hi hz hsize hby hzs L.pos v xs.length (flat L xs) hs hown ad ys.length c (flat L ys) hx (flat_len L ys) (fun j u hj => (hcell j u hj).2) (flat_one L ys) h63 hbytes hB ?_
  intro v' w' h1 h2 h3
  exact h v' w' (OwnRow.app h1 rfl rfl) h2 (fun hn => by have := (h3.1 hn).1; exact hv this)
end Go.Proofs.Ythgekfiodedelaa
