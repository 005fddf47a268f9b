/- Plain laws on trees of sums: which nodes turn when one leaf turns. No program in sight. -/
import Derived.Test.YtjidmmjbgffapaaTree
namespace Go.Proofs.Ytjidmmjbgffapaa
open Go.RowKit
set_option linter.unusedVariables false
set_option linter.unusedSimpArgs false

theorem mix_left {a a' b : Int} (h0 : 0 ≤ a) (h1 : a ≤ 990) (h0' : 0 ≤ a') (h1' : a' ≤ 990) (hne : a ≠ a') : mix a b ≠ mix a' b := by
  unfold mix; omega
theorem mix_right {a b b' : Int} (h0 : 0 ≤ b) (h1 : b ≤ 990) (h0' : 0 ≤ b') (h1' : b' ≤ 990) (hne : b ≠ b') : mix a b ≠ mix a b' := by
  unfold mix; omega

/-- Does the node i lie on the way from leaf l to the root? -/
def ancB (l i : Nat) : Bool := i == 15 + l || i == (14 + l) / 2 || i == ((14 + l) / 2 - 1) / 2 || i == (((14 + l) / 2 - 1) / 2 - 1) / 2 || i == 0

theorem ancB_inner : ∀ l, l < 16 → ∀ i, i < 15 → (ancB l i = (ancB l (2 * i + 1) || ancB l (2 * i + 2))) ∧ (ancB l (2 * i + 1) && ancB l (2 * i + 2)) = false := by decide
theorem ancB_leaf : ∀ l, l < 16 → ∀ i, i < 31 → 15 ≤ i → (ancB l i = true ↔ i = 15 + l) := by decide
theorem ancB_count : ∀ l, l < 16 → ((List.range 31).filter (ancB l)).length = 5 := by decide
theorem ancB_root (l : Nat) : ancB l 0 = true := by simp [ancB]

theorem range_set {xs : List Int} (hx : ∀ z ∈ xs, 0 ≤ z ∧ z ≤ 990) {l : Nat} {v : Int} (h0 : 0 ≤ v) (h1 : v ≤ 990) : ∀ z ∈ xs.set l v, 0 ≤ z ∧ z ≤ 990 := by
  intro z hz
  rcases List.mem_or_eq_of_mem_set hz with h | h
  · exact hx z h
  · subst h; exact ⟨h0, h1⟩

theorem tr_set {xs : List Int} (h16 : xs.length = 16) (hx : ∀ z ∈ xs, 0 ≤ z ∧ z ≤ 990) {l : Nat} (hl : l < 16) {v : Int} (h0 : 0 ≤ v) (h1 : v ≤ 990) (hne : v ≠ xs[l]) :
    ∀ k i, i + k = 31 → 0 < k → (ancB l i = true → tr (xs.set l v) i ≠ tr xs i) ∧ (ancB l i = false → tr (xs.set l v) i = tr xs i) := by
  intro k
  induction k using Nat.strongRecOn with
  | _ k ih =>
    intro i hik hk
    have hy := range_set hx (l := l) h0 h1
    by_cases h : i < 15
    · obtain ⟨ha, hb⟩ := ancB_inner l hl i h
      obtain ⟨ih1, ih1'⟩ := ih (k - (i + 1)) (by omega) (2 * i + 1) (by omega) (by omega)
      obtain ⟨ih2, ih2'⟩ := ih (k - (i + 2)) (by omega) (2 * i + 2) (by omega) (by omega)
      rw [tr_inner _ h, tr_inner xs h, ha]
      cases c1 : ancB l (2 * i + 1) <;> cases c2 : ancB l (2 * i + 2)
      · rw [ih1' c1, ih2' c2]; simp
      · rw [ih1' c1]
        refine ⟨fun _ => mix_right (tr_range _ hy _).1 (tr_range _ hy _).2 (tr_range _ hx _).1 (tr_range _ hx _).2 (ih2 c2), fun h => by simp at h⟩
      · rw [ih2' c2]
        refine ⟨fun _ => mix_left (tr_range _ hy _).1 (tr_range _ hy _).2 (tr_range _ hx _).1 (tr_range _ hx _).2 (ih1 c1), fun h => by simp at h⟩
      · rw [c1, c2] at hb; simp at hb
    · have hi : 15 ≤ i := by omega
      have hal := ancB_leaf l hl i (by omega) hi
      rw [tr_leaf _ hi, tr_leaf _ hi, List.getD_eq_getElem?_getD, List.getD_eq_getElem?_getD, List.getElem?_eq_getElem (by simp; omega), List.getElem?_eq_getElem (by omega)]
      simp only [Option.getD_some]
      by_cases he : i = 15 + l
      · subst he
        have e : 15 + l - 15 = l := by omega
        refine ⟨fun _ => ?_, fun h => ?_⟩
        · simp only [e, List.getElem_set_self]; exact hne
        · rw [(hal.2 rfl)] at h; cases h
      · refine ⟨fun h => absurd (hal.1 h) he, fun _ => ?_⟩
        rw [List.getElem_set_ne (by omega)]

theorem tr_set_at {xs : List Int} (h16 : xs.length = 16) (hx : ∀ z ∈ xs, 0 ≤ z ∧ z ≤ 990) {l : Nat} (hl : l < 16) {v : Int} (h0 : 0 ≤ v) (h1 : v ≤ 990) (hne : v ≠ xs[l]) {i : Nat} (hi : i < 31) :
    decide (tr (xs.set l v) i = tr xs i) = !ancB l i := by
  obtain ⟨a, b⟩ := tr_set h16 hx hl h0 h1 hne (31 - i) i (by omega) (by omega)
  cases h : ancB l i with
  | true => simp [a h]
  | false => simp [b h]
end Go.Proofs.Ytjidmmjbgffapaa
