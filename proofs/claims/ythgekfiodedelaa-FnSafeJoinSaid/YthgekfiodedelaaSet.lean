/- Many cells stored at once into a row of the call's own; clear on a slice of structs. No program in sight. -/
import Derived.Test.YthgekfiodedelaaStr
import Derived.Laws.IdiomCopy
import Derived.Tactics
namespace Go.Proofs.Ythgekfiodedelaa
open Go.RowKit
set_option linter.unusedVariables false
set_option linter.unusedSimpArgs false

def setL (xs : List Value) (o : Nat) : List Value → List Value
  | [] => xs
  | v :: r => setL (xs.set o v) (o + 1) r
theorem setL_eq (vs : List Value) : ∀ (xs : List Value) (o : Nat), o + vs.length ≤ xs.length → setL xs o vs = xs.take o ++ vs ++ xs.drop (o + vs.length) := by
  induction vs with
  | nil => intro xs o h; simp [setL]
  | cons v r ih =>
    intro xs o h
    simp only [List.length_cons] at h
    rw [setL, ih _ _ (by simp; omega)]
    have h1 : (xs.set o v).take (o + 1) = xs.take o ++ [v] := by
      rw [List.take_succ_eq_append_getElem (by simp; omega), List.take_set, List.set_eq_of_length_le (by simp; omega)]
      simp
    have h2 : (xs.set o v).drop (o + 1 + r.length) = xs.drop (o + (r.length + 1)) := by
      rw [List.drop_set, if_pos (by omega), show o + 1 + r.length = o + (r.length + 1) by omega]
    rw [h1, h2]
    simp
theorem ownsRow_setCells {base : TypeId} {e : TypeId} {size n g cap : Nat} (vs : List Value) : ∀ (w : World) (xs : List Value) (o : Nat), w.ownsRow base e size (.slice (some ⟨g, 0, none⟩) n cap) n xs →
    (w.setCells g o vs).ownsRow base e size (.slice (some ⟨g, 0, none⟩) n cap) n (setL xs o vs) ∧ w.grownBy (w.setCells g o vs) (some g) := by
  induction vs with
  | nil => exact fun w xs o h => ⟨h, rfl, rfl, rfl, Nat.le_refl _, fun _ _ _ => rfl⟩
  | cons v r ih =>
    intro w xs o h
    obtain ⟨h1, h2⟩ := World.ownsRow.stored h o v
    obtain ⟨h3, h4⟩ := ih _ _ (o + 1) h1
    exact ⟨h3, h2.trans h4⟩
/-- A run of elements stored into a row of structs. -/
theorem OwnRow.setRun {α : Type} {L : Lay α} {e : TypeId} {w : World} {B g n cap : Nat} {es : List α} (h : OwnRow L e w B (.slice (some ⟨g, 0, none⟩) n cap) es) (i : Nat) (ys : List α) (hi : i + ys.length ≤ es.length) :
    OwnRow L e (w.setCells g (i * L.k) (flat L ys)) B (.slice (some ⟨g, 0, none⟩) n cap) (es.take i ++ ys ++ es.drop (i + ys.length)) ∧ w.grownBy (w.setCells g (i * L.k) (flat L ys)) (some g) := by
  obtain rfl := h.len
  obtain ⟨h1, h2⟩ := ownsRow_setCells (flat L ys) w (flat L es) (i * L.k) h
  refine ⟨?_, h2⟩
  have hb : i * L.k + (flat L ys).length ≤ (flat L es).length := by
    rw [flat_len, flat_len, ← Nat.add_mul]
    exact Nat.mul_le_mul_right _ hi
  rw [setL_eq _ _ _ hb, ← flat_take, flat_len, ← Nat.add_mul, ← flat_drop, ← flat_append, ← flat_append] at h1
  have hl : (es.take i ++ ys ++ es.drop (i + ys.length)).length = es.length := by simp; omega
  unfold OwnRow
  rw [hl]
  exact h1

theorem zero_flat {α : Type} (L : Lay α) (z : Array Value) (a : α) (hz : z.toList = L.c a) (n : Nat) : (Builtin.zeroCells z n).toList = flat L (List.replicate n a) := by
  have hs : z.size = L.k := by rw [← L.len a, ← hz]; simp
  rw [← made_flat L z a hz n, ← hs]
  rfl
/-- 'clear(s)' on n > 0 structs. -/
theorem run_clear_rows {α : Type} (L : Lay α) {P : Program} (w : World) (t e ty : TypeId) (z : Value) (a : α) (ht : P.underlying t = some (.slice e)) (hv : ∀ w, (zeroValue e).run P w = .ok z w) (hz : z.cells.toList = L.c a) (g o n c : Nat) (hn : 0 < n)
    (hc : ∀ j, j < n * L.k → (w.cell? ⟨g, o + j, none⟩).isSome = true) (hf : ∀ j, j < n * L.k → w.frozen? ⟨g, o + j, none⟩ = false) :
    (Builtin.clear_ #[t] ty #[.slice (some ⟨g, o, none⟩) n c]).run P w = .ok (.tuple #[]) (w.setCells g o (flat L (List.replicate n a))) := by
  have hl : (flat L (List.replicate n a)).length = n * L.k := by rw [flat_len]; simp
  have hzc := zero_flat L z.cells a hz n
  have hst := run_storeCells_cells (P := P) g o (flat L (List.replicate n a)) 0 w (by rw [hl]; simpa using hc) (by rw [hl]; simpa using hf) (flat_one L _)
  simp only [Nat.add_zero] at hst
  obtain ⟨m, rfl⟩ : ∃ m, n = m + 1 := ⟨n - 1, by omega⟩
  simp [Builtin.clear_, run_underlying ht, hv, hzc, hst]
end Go.Proofs.Ythgekfiodedelaa
