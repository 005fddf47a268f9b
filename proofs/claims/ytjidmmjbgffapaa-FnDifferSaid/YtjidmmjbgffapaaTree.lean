/- The tree of sums in plain Lean: no program in sight. -/
import Derived.Test.YtjidmmjbgffapaaBase
namespace Go.Proofs.Ytjidmmjbgffapaa
open Go.RowKit
set_option linter.unusedVariables false
set_option linter.unusedSimpArgs false

def mix (a b : Int) : Int := (31 * a + 17 * b + 5) % 991
theorem mix_range (a b : Int) : 0 ≤ mix a b ∧ mix a b ≤ 990 := by unfold mix; omega
def node (vals : List Int) : Nat → Nat → Int
  | 0, i => vals.getD (i - 15) 0
  | f + 1, i => if 15 ≤ i then vals.getD (i - 15) 0 else mix (node vals f (2 * i + 1)) (node vals f (2 * i + 2))
def tr (vals : List Int) (i : Nat) : Int := node vals 4 i

theorem lt15 {i : Nat} (h : i < 15) : i = 0 ∨ i = 1 ∨ i = 2 ∨ i = 3 ∨ i = 4 ∨ i = 5 ∨ i = 6 ∨ i = 7 ∨ i = 8 ∨ i = 9 ∨ i = 10 ∨ i = 11 ∨ i = 12 ∨ i = 13 ∨ i = 14 := by omega

theorem tr_leaf (vals : List Int) {i : Nat} (h : 15 ≤ i) : tr vals i = vals.getD (i - 15) 0 := by
  unfold tr node; rw [if_pos h]

theorem tr_inner (vals : List Int) {i : Nat} (h : i < 15) : tr vals i = mix (tr vals (2 * i + 1)) (tr vals (2 * i + 2)) := by
  rcases lt15 h with rfl | rfl | rfl | rfl | rfl | rfl | rfl | rfl | rfl | rfl | rfl | rfl | rfl | rfl | rfl <;> simp [tr, node]

theorem tr_range (vals : List Int) (hv : ∀ z ∈ vals, 0 ≤ z ∧ z ≤ 990) (i : Nat) : 0 ≤ tr vals i ∧ tr vals i ≤ 990 := by
  by_cases h : i < 15
  · rw [tr_inner vals h]; exact mix_range _ _
  · rw [tr_leaf vals (by omega)]
    rw [List.getD_eq_getElem?_getD]
    by_cases hl : i - 15 < vals.length
    · rw [List.getElem?_eq_getElem hl]; exact hv _ (List.getElem_mem hl)
    · rw [List.getElem?_eq_none (by omega)]; simp

def treeL (vals : List Int) : List Int := (List.range 31).map (tr vals)
@[simp] theorem length_treeL (vals : List Int) : (treeL vals).length = 31 := by simp [treeL]
theorem treeL_get (vals : List Int) {i : Nat} (h : i < (treeL vals).length) : (treeL vals)[i] = tr vals i := by simp [treeL]
theorem treeL_drop (vals : List Int) (h : vals.length = 16) : (treeL vals).drop 15 = vals := by
  apply List.ext_getElem
  · simp [h]
  · intro i h1 h2
    rw [List.getElem_drop, treeL_get, tr_leaf _ (by omega), List.getD_eq_getElem?_getD, List.getElem?_eq_getElem (by omega)]
    simp

/-- The array as it stands when the nodes from j on are reckoned. -/
def arrK (vals : List Int) (j : Nat) : List Int := (List.range 31).map fun m => if j ≤ m then tr vals m else 0
@[simp] theorem length_arrK (vals : List Int) (j : Nat) : (arrK vals j).length = 31 := by simp [arrK]
theorem arrK_zero (vals : List Int) : arrK vals 0 = treeL vals := by simp [arrK, treeL]
theorem arrK_start (vals : List Int) (h : vals.length = 16) : arrK vals 15 = List.replicate 15 0 ++ vals := by
  obtain ⟨Z, hZ⟩ : ∃ Z, Z = List.replicate 15 (0 : Int) := ⟨_, rfl⟩
  have hl : Z.length = 15 := by subst hZ; simp
  have hz : ∀ i (hi : i < Z.length), Z[i] = 0 := by subst hZ; intro i hi; exact List.getElem_replicate _
  rw [← hZ]
  clear hZ
  apply List.ext_getElem
  · simp [h, hl]
  · intro i h1 h2
    have hi : i < 31 := by simpa using h1
    by_cases hlt : i < 15
    · rw [List.getElem_append_left (by omega), hz]
      simp only [arrK, List.getElem_map, List.getElem_range]
      rw [if_neg (by omega)]
    · rw [List.getElem_append_right (by omega)]
      simp only [arrK, List.getElem_map, List.getElem_range]
      rw [if_pos (by omega), tr_leaf _ (by omega), List.getD_eq_getElem?_getD, List.getElem?_eq_getElem (by omega)]
      simp [hl]
theorem arrK_top (vals : List Int) : arrK vals 31 = List.replicate 31 0 := by
  apply List.ext_getElem
  · simp
  · intro i h1 h2
    have hi : i < 31 := by simpa using h1
    rw [List.getElem_replicate]
    simp only [arrK, List.getElem_map, List.getElem_range]
    rw [if_neg (by omega)]
theorem arrK_get (vals : List Int) {j i : Nat} (h : i < (arrK vals j).length) (hj : j ≤ i) : (arrK vals j)[i] = tr vals i := by simp [arrK, hj]
theorem arrK_get? (vals : List Int) {j i : Nat} (h : i < 31) (hj : j ≤ i) : (ints (arrK vals j)).toArray[i]? = some (.int .i64 (tr vals i)) := by
  simp [ints, arrK, h, hj]
theorem arrK_set (vals : List Int) {m : Nat} : (arrK vals (m + 1)).set m (tr vals m) = arrK vals m := by
  apply List.ext_getElem
  · simp
  · intro i h1 h2
    rw [List.getElem_set]
    split
    · rename_i h; subst h; simp [arrK]
    · simp only [arrK, List.getElem_map, List.getElem_range]
      by_cases h : m + 1 ≤ i
      · rw [if_pos h, if_pos (by omega)]
      · rw [if_neg h, if_neg (by omega)]

theorem arrK_setArr (vals : List Int) {m : Nat} (hm : m < 15) {v : Int} (hv : tr vals m = v) : (ints (arrK vals (m + 1))).toArray.setIfInBounds m (.int .i64 v) = (ints (arrK vals m)).toArray := by
  rw [← arrK_set vals (m := m), hv]
  simp [ints]

def sumOkB (zs : List Int) : Bool := zs.length == 16 && zs.all fun z => inB0 z
  where inB0 (z : Int) : Bool := decide (0 ≤ z ∧ z ≤ 990)
theorem sumOk_true {zs : List Int} (h : sumOkB zs = true) : zs.length = 16 ∧ ∀ z ∈ zs, 0 ≤ z ∧ z ≤ 990 := by
  simp only [sumOkB, Bool.and_eq_true, beq_iff_eq, List.all_eq_true] at h
  exact ⟨h.1, fun z hz => by have := h.2 z hz; simpa [sumOkB.inB0] using this⟩
theorem sumOk_of {zs : List Int} (h : zs.length = 16) (h' : ∀ z ∈ zs, 0 ≤ z ∧ z ≤ 990) : sumOkB zs = true := by
  simp only [sumOkB, Bool.and_eq_true, beq_iff_eq, List.all_eq_true]
  exact ⟨h, fun z hz => by simpa [sumOkB.inB0] using h' z hz⟩
/-- What SumsOf answers. -/
def sumsM (zs : List Int) : List Int := if sumOkB zs then treeL zs else []
theorem length_sumsM (zs : List Int) : (sumsM zs).length ≤ 31 := by unfold sumsM; split <;> simp
end Go.Proofs.Ytjidmmjbgffapaa
