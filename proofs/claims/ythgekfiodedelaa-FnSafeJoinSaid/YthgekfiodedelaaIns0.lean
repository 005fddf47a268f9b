/- What slices.Insert leaves of a row of structs. No program in sight. -/
import Derived.Test.YthgekfiodedelaaSet
import Derived.Lib.Overlaps
import Derived.Lib.AppendZerosOnto
import Derived.Laws.NewBlocks
import Derived.Lib.SliceRun
import Derived.Laws.Externs
namespace Go.Proofs.Ythgekfiodedelaa
open Go.RowKit
set_option linter.unusedVariables false
set_option linter.unusedSimpArgs false

/-- A list with one more element. -/
def insAt {α : Type} (zs : List α) (i : Nat) (e : α) : List α := zs.take i ++ [e] ++ zs.drop i
theorem insAt_len {α : Type} {zs : List α} {i : Nat} (e : α) (h : i ≤ zs.length) : (insAt zs i e).length = zs.length + 1 := by simp [insAt]; omega

theorem run_copy_rows {P : Program} (w : World) (dT sT ty elem : TypeId) (size : Nat) (b o dLen dCap : Nat) (a : Addr) (sLen sCap m : Nat) (cs : List Value)
    (hu : P.underlying dT = some (.slice elem)) (hs : (P.info? elem).map (·.size) = some size) (hm : m = Nat.min sLen dLen) (hn : cs.length = m * size)
    (hsrc : ∀ j v, cs[j]? = some v → w.cell? (a.add j) = some v) (hc : ∀ j, j < cs.length → (w.cell? ⟨b, o + j, none⟩).isSome = true) (hf : ∀ j, j < cs.length → w.frozen? ⟨b, o + j, none⟩ = false) (h1 : ∀ v ∈ cs, v.oneCell' = true) :
    (Builtin.copy_ #[dT, sT] ty #[.slice (some ⟨b, o, none⟩) dLen dCap, .slice (some a) sLen sCap]).run P w = .ok (goInt m) (w.setCells b o cs) := by
  have hl := run_loadCells_list (P := P) w a cs hsrc
  have hst := run_storeCells_cells (P := P) b o cs 0 w (by simpa using hc) (by simpa using hf) h1
  cases hq : P.info? elem with
  | none => simp [hq] at hs
  | some i =>
    have hi : i.size = size := by simpa [hq] using hs
    rw [hn] at hl
    simp [Builtin.copy_, run_underlying hu, Builtin.lenOf, Builtin.firstCells, sizeOf, typeInfo, hq, hi, ← hm, hl, hst]

/-- The spare cells of a row are cells. -/
theorem own_wide {α : Type} {L : Lay α} {e : TypeId} {w : World} {B g n cap : Nat} {es : List α} (h : OwnRow L e w B (.slice (some ⟨g, 0, none⟩) n cap) es) (m : Nat) (h1 : es.length ≤ m) (h2 : m ≤ cap) :
    ∃ X : List Value, X.length = (m - es.length) * L.k ∧ w.ownsRow B e L.k (.slice (some ⟨g, 0, none⟩) m cap) m (flat L es ++ X) := by
  obtain ⟨hl, h⟩ := h
  rcases h with ⟨h, -⟩ | ⟨g', cap', cur, hv, hB, hg, hn, hc, hz, ht⟩
  · cases h
  · simp only [Value.slice.injEq, Option.some.injEq, Addr.mk.injEq, and_true] at hv
    obtain ⟨rfl, rfl, rfl⟩ := hv
    have hml : m * L.k ≤ cap * L.k := Nat.mul_le_mul_right _ h2
    have hnl : es.length * L.k ≤ m * L.k := Nat.mul_le_mul_right _ h1
    have hX : ((cur.toList.take (m * L.k)).drop (es.length * L.k)).length = (m - es.length) * L.k := by
      rw [List.length_drop, List.length_take, Array.length_toList, hz, Nat.min_eq_left hml, Nat.sub_mul]
    have e1 : flat L es ++ (cur.toList.take (m * L.k)).drop (es.length * L.k) = cur.toList.take (m * L.k) := by
      have h := List.take_append_drop (es.length * L.k) (cur.toList.take (m * L.k))
      rw [List.take_take, Nat.min_eq_left hnl, ht] at h
      exact h
    refine ⟨_, hX, ?_, .inr ⟨g, cap, cur, rfl, hB, hg, h2, hc, hz, e1.symm⟩⟩
    rw [e1, List.length_take, Array.length_toList, hz, Nat.min_eq_left hml]
theorem own_cell {e : TypeId} {w : World} {B g n cap size : Nat} {xs : List Value} (h : w.ownsRow B e size (.slice (some ⟨g, 0, none⟩) n cap) n xs) (j : Nat) (hj : j < xs.length) : w.cell? ⟨g, j, none⟩ = some xs[j] := by
  obtain ⟨hl, h⟩ := h
  rcases h with ⟨h, -⟩ | ⟨g', cap', cur, hv, hB, hg, hn, hc, hz, ht⟩
  · cases h
  · simp only [Value.slice.injEq, Option.some.injEq, Addr.mk.injEq, and_true] at hv
    obtain ⟨rfl, -, rfl⟩ := hv
    have hx : (cur.toList.take (n * size))[j]? = some xs[j] := by rw [ht]; exact List.getElem?_eq_getElem hj
    rw [List.getElem?_take] at hx
    split at hx
    · rw [cell_of_row _ _ j _ _ (0, 0) hg, ← Array.getElem?_toList]; exact hx
    · cases hx
theorem grown_draws0 (w : World) (g : Nat) : w.grownBy w.drew (some g) := ⟨rfl, rfl, rfl, Nat.le_refl _, fun _ _ _ => rfl⟩
/-- The elements from i on moved up by one place, and one laid at i. -/
theorem own_shift {α : Type} {L : Lay α} {e : TypeId} {w : World} {B g cap i : Nat} {es : List α} (h : OwnRow L e w B (.slice (some ⟨g, 0, none⟩) es.length cap) es) (hi : i ≤ es.length) (hc : es.length + 1 ≤ cap) (y : α) :
    OwnRow L e ((w.setCells g ((i + 1) * L.k) (flat L (es.drop i))).setCells g (i * L.k) (L.c y)) B (.slice (some ⟨g, 0, none⟩) (es.length + 1) cap) (insAt es i y) ∧
    w.grownBy ((w.setCells g ((i + 1) * L.k) (flat L (es.drop i))).setCells g (i * L.k) (L.c y)) (some g) := by
  obtain ⟨X, hX, hw⟩ := own_wide h (es.length + 1) (by omega) hc
  rw [show es.length + 1 - es.length = 1 by omega, Nat.one_mul] at hX
  have hdl : (flat L (es.drop i)).length = (es.length - i) * L.k := by rw [flat_len]; simp
  have hfl : (flat L es).length = es.length * L.k := flat_len L es
  have hm1 : (i + 1) * L.k + (es.length - i) * L.k = es.length * L.k + L.k := by
    rw [← Nat.add_mul, show i + 1 + (es.length - i) = es.length + 1 by omega, Nat.add_mul, Nat.one_mul]
  have hm2 : i * L.k ≤ es.length * L.k := Nat.mul_le_mul_right _ hi
  have hm3 : (i + 1) * L.k = i * L.k + L.k := by rw [Nat.add_mul, Nat.one_mul]
  obtain ⟨h1, g1⟩ := ownsRow_setCells (flat L (es.drop i)) w _ ((i + 1) * L.k) hw
  rw [setL_eq _ _ _ (by rw [hdl, List.length_append, hfl, hX]; omega)] at h1
  have e1 : (flat L es ++ X).drop ((i + 1) * L.k + (flat L (es.drop i)).length) = [] := List.drop_of_length_le (by rw [hdl, List.length_append, hfl, hX]; omega)
  rw [e1, List.append_nil] at h1
  obtain ⟨h2, g2⟩ := ownsRow_setCells (L.c y) _ _ (i * L.k) h1
  have hl1 : ((flat L es ++ X).take ((i + 1) * L.k)).length = i * L.k + L.k := by
    rw [List.length_take, List.length_append, hfl, hX]; omega
  rw [setL_eq _ _ _ (by rw [L.len, List.length_append, hl1]; omega)] at h2
  have e2 : ((flat L es ++ X).take ((i + 1) * L.k) ++ flat L (es.drop i)).take (i * L.k) = flat L (es.take i) := by
    rw [List.take_append_of_le_length (by rw [hl1]; omega), List.take_take, Nat.min_eq_left (by omega), List.take_append_of_le_length (by rw [hfl]; exact hm2), ← flat_take]
  have e3 : ((flat L es ++ X).take ((i + 1) * L.k) ++ flat L (es.drop i)).drop (i * L.k + (L.c y).length) = flat L (es.drop i) := by
    rw [L.len, ← hl1, List.drop_left]
  rw [e2, e3] at h2
  have e4 : flat L (es.take i) ++ L.c y ++ flat L (es.drop i) = flat L (insAt es i y) := by
    unfold insAt
    rw [flat_append, flat_append, flat_cons, flat_nil, List.append_nil]
  rw [e4] at h2
  refine ⟨?_, g1.trans g2⟩
  unfold OwnRow
  rw [insAt_len y hi]
  exact h2
/-- A new row: the first i elements, then zero values. -/
theorem own_zeros {α : Type} {L : Lay α} {e : TypeId} (w : World) (z : Value) (a0 : α) (hz : z.cells.toList = L.c a0) (es : List α) (i m G : Nat) (hi : i ≤ es.length) (him : i ≤ m) (hG : m ≤ G) (hG2 : G ≤ maxLen) :
    OwnRow L e (w.alloc (.cells ((flat L (es.take i)).toArray ++ Builtin.zeroCells z.cells (m - i) ++ Builtin.zeroCells z.cells (G - m)) e)) w.heap.size (.slice (some ⟨w.heap.size, 0, none⟩) m G) (es.take i ++ List.replicate (m - i) a0) := by
  have hl : (es.take i ++ List.replicate (m - i) a0).length = m := by simp; omega
  have hz1 := zero_flat L z.cells a0 hz (m - i)
  have hz2 := zero_flat L z.cells a0 hz (G - m)
  have hmk : m * L.k ≤ G * L.k := Nat.mul_le_mul_right _ hG
  unfold OwnRow
  rw [hl]
  refine ⟨by rw [flat_len, hl], .inr ⟨_, G, _, rfl, Nat.le_refl _, heap_alloc_new _ _, hG, hG2, ?_, ?_⟩⟩
  · rw [← Array.length_toList]
    simp only [Array.toList_append, hz1, hz2, List.length_append, flat_len, List.length_replicate]
    rw [← Nat.add_mul, ← Nat.add_mul]
    congr 1
    simp; omega
  · simp only [Array.toList_append, hz1, hz2]
    have e1 : (flat L (es.take i) ++ flat L (List.replicate (m - i) a0)).length = m * L.k := by rw [← flat_append, flat_len, hl]
    rw [← e1, List.take_left, ← flat_append]
end Go.Proofs.Ythgekfiodedelaa
