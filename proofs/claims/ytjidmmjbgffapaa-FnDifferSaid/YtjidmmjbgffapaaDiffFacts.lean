/- Plain facts for the laws on SumsDiffer. No program in sight. -/
import Derived.Test.YtjidmmjbgffapaaDiff
import Derived.Test.YtjidmmjbgffapaaSpecDiffer
import Derived.Test.YtjidmmjbgffapaaWSums
namespace Go.Proofs.Ytjidmmjbgffapaa
open Go.RowKit
set_option linter.unusedVariables false
set_option linter.unusedSimpArgs false

theorem dif_self (ls : List Int) : dif ls ls = fun _ => false := by funext i; simp [dif]
theorem diffM_self {ls : List Int} (h : validM ls = true) : diffM ls ls = ([], 1) := by
  rw [diffM_good h h, diffL, diffN, dif_self]; rfl
theorem diffM_comm {ls ms : List Int} (h : validM ls = true) (h' : validM ms = true) : diffM ms ls = diffM ls ms := by
  rw [diffM_good h h', diffM_good h' h, diffL, diffN, dif_comm]; rfl
theorem diffM_cases (ls ms : List Int) : diffM ls ms = ([], -1) ∨ (validM ls = true ∧ validM ms = true) := by
  cases h : validM ls with
  | false => exact .inl (diffM_bad (.inl h))
  | true => cases h' : validM ms with
    | false => exact .inl (diffM_bad (.inr h'))
    | true => exact .inr ⟨rfl, rfl⟩
theorem treeL_getD (vals : List Int) {i : Nat} (h : i < 31) : (treeL vals).getD i 0 = tr vals i := by
  rw [List.getD_eq_getElem?_getD, List.getElem?_eq_getElem (by simpa using h), treeL_get]; rfl
theorem treeL_getD_out (vals : List Int) {i : Nat} (h : 31 ≤ i) : (treeL vals).getD i 0 = 0 := by
  rw [List.getD_eq_getElem?_getD, List.getElem?_eq_none (by simpa using h)]; rfl

/-! One leaf -/
theorem dif_one {xs : List Int} (h16 : xs.length = 16) (hx : ∀ z ∈ xs, 0 ≤ z ∧ z ≤ 990) {l : Nat} (hl : l < 16) {v : Int} (h0 : 0 ≤ v) (h1 : v ≤ 990) (hne : v ≠ xs[l]) :
    dif (treeL xs) (treeL (xs.set l v)) = ancB l := by
  rw [dif_comm]
  funext i
  unfold dif
  by_cases hi : i < 31
  · rw [treeL_getD _ hi, treeL_getD _ hi, tr_set_at h16 hx hl h0 h1 hne hi, Bool.not_not]
  · rw [treeL_getD_out _ (by omega), treeL_getD_out _ (by omega)]
    have : ancB l i = false := by simp [ancB]; omega
    rw [this]; rfl
theorem anc_says : ∀ l, l < 16 → lvsTo (ancB l) 31 = [(l : Int)] ∧ cntTo (ancB l) 31 = 9 := by decide
theorem diffM_one {xs : List Int} (h16 : xs.length = 16) (hx : ∀ z ∈ xs, 0 ≤ z ∧ z ≤ 990) {l : Nat} (hl : l < 16) {v : Int} (h0 : 0 ≤ v) (h1 : v ≤ 990) (hne : v ≠ xs[l]) :
    diffM (treeL xs) (treeL (xs.set l v)) = ([(l : Int)], 9) := by
  rw [diffM_good (validM_tree h16 hx) (validM_tree (by simpa using h16) (range_set hx h0 h1)), diffL, diffN, dif_one h16 hx hl h0 h1 hne, (anc_says l hl).1, (anc_says l hl).2]; rfl

/-! What is reported -/
theorem lvs_mem (d : Nat → Bool) (j : Nat) : ∀ z ∈ lvsTo d j, ∃ i : Nat, 15 ≤ i ∧ i < j ∧ d i = true ∧ z = (i : Int) - 15 := by
  induction j with
  | zero => intro z hz; simp [lvsTo] at hz
  | succ j ih =>
    intro z hz
    rw [lvsTo_succ, List.mem_append] at hz
    rcases hz with hz | hz
    · obtain ⟨i, a, b, c, e⟩ := ih z hz; exact ⟨i, a, by omega, c, e⟩
    · split at hz
      · rename_i h; simp at hz; exact ⟨j, h.1, by omega, h.2.2, hz⟩
      · simp at hz
theorem lvs_up (d : Nat → Bool) (j : Nat) : (lvsTo d j).Pairwise (· < ·) := by
  induction j with
  | zero => simp [lvsTo]
  | succ j ih =>
    rw [lvsTo_succ, List.pairwise_append]
    refine ⟨ih, ?_, ?_⟩
    · split <;> simp
    · intro a ha b hb
      obtain ⟨i, h1, h2, h3, rfl⟩ := lvs_mem d j a ha
      split at hb
      · simp at hb; omega
      · simp at hb
theorem lvs_root {d : Nat → Bool} (h : d 0 = false) : lvsTo d 31 = [] ∧ cntTo d 31 = 1 := by
  rw [← cntL_all, ← lvsL_all]
  have e : sub 4 0 = [0] ++ (sub 3 1 ++ sub 3 2) := rfl
  have h1 : op d 1 = false := by rw [show (1 : Nat) = 2 * 0 + 1 from rfl, op_left d (by omega), h]; simp
  have h2 : op d 2 = false := by rw [show (2 : Nat) = 2 * 0 + 2 from rfl, op_right d (by omega), h]; simp
  obtain ⟨a1, a2⟩ := sub_shut d 3 1 h1 (by decide) (by decide)
  obtain ⟨b1, b2⟩ := sub_shut d 3 2 h2 (by decide) (by decide)
  rw [e, cntL_append, cntL_append, lvsL_append, lvsL_append, a1, a2, b1, b2]
  simp [cntL, lvsL, List.filter_cons, op_zero]

/-! Few -/
/-- How many leaves before node j differ. -/
def dTo (d : Nat → Bool) : Nat → Nat
  | 0 => 0
  | j + 1 => dTo d j + if 15 ≤ j ∧ d j = true then 1 else 0
theorem dTo_le (d : Nat → Bool) (j : Nat) : dTo d j ≤ j := by
  induction j with
  | zero => simp [dTo]
  | succ j ih => unfold dTo; split <;> omega
theorem dTo_low (d : Nat → Bool) : dTo d 15 = 0 := by simp [dTo]
theorem lvs_few (d : Nat → Bool) (j : Nat) : (lvsTo d j).length ≤ dTo d j := by
  induction j with
  | zero => simp [lvsTo, dTo]
  | succ j ih =>
    rw [lvsTo_succ, List.length_append, dTo]
    by_cases h : 15 ≤ j ∧ op d j = true ∧ d j = true
    · rw [if_pos h, if_pos ⟨h.1, h.2.2⟩]; simp; omega
    · rw [if_neg h]; simp; omega
def one (d : Nat → Bool) (i : Nat) : Nat := if d i then 1 else 0
theorem one_le (d : Nat → Bool) (i : Nat) : one d i ≤ 1 := by unfold one; split <;> omega
theorem cnt_next (d : Nat → Bool) {i : Nat} (h : i < 30) : cntTo d (i + 2) ≤ cntTo d (i + 1) + one d (i / 2) := by
  rw [cntTo_succ d (i + 1), op_parent d h]
  unfold one
  cases op d (i / 2) <;> cases d (i / 2) <;> simp
theorem dTo_leaf (d : Nat → Bool) {i : Nat} (h : 15 ≤ i) : dTo d (i + 1) = dTo d i + one d i := by
  rw [dTo]; unfold one
  cases hd : d i <;> simp [h]
theorem cnt_few {d : Nat → Bool} (h : ∀ i, i < 15 → d i = true → d (2 * i + 1) = true ∨ d (2 * i + 2) = true) : cntTo d 31 ≤ 1 + 8 * dTo d 31 := by
  have hs : ∀ i, i < 15 → one d i ≤ one d (2 * i + 1) + one d (2 * i + 2) := by
    intro i hi
    have := h i hi
    unfold one
    revert this
    cases d i <;> cases d (2 * i + 1) <;> cases d (2 * i + 2) <;> simp
  have c := fun i (hi : i < 30) => cnt_next d hi
  have z := cntTo_le d 1
  have c0 := c 0 (by omega); have c1 := c 1 (by omega); have c2 := c 2 (by omega); have c3 := c 3 (by omega); have c4 := c 4 (by omega)
  have c5 := c 5 (by omega); have c6 := c 6 (by omega); have c7 := c 7 (by omega); have c8 := c 8 (by omega); have c9 := c 9 (by omega)
  have c10 := c 10 (by omega); have c11 := c 11 (by omega); have c12 := c 12 (by omega); have c13 := c 13 (by omega); have c14 := c 14 (by omega)
  have c15 := c 15 (by omega); have c16 := c 16 (by omega); have c17 := c 17 (by omega); have c18 := c 18 (by omega); have c19 := c 19 (by omega)
  have c20 := c 20 (by omega); have c21 := c 21 (by omega); have c22 := c 22 (by omega); have c23 := c 23 (by omega); have c24 := c 24 (by omega)
  have c25 := c 25 (by omega); have c26 := c 26 (by omega); have c27 := c 27 (by omega); have c28 := c 28 (by omega); have c29 := c 29 (by omega)
  have hA : cntTo d 31 ≤ 1 + 2 * (one d 0 + one d 1 + one d 2 + one d 3 + one d 4 + one d 5 + one d 6 + one d 7 + one d 8 + one d 9 + one d 10 + one d 11 + one d 12 + one d 13 + one d 14) := by
    clear c hs h
    simp only [Nat.reduceAdd, Nat.reduceDiv] at *
    generalize cntTo d 31 = t31 at *
    omega
  clear c0 c1 c2 c3 c4 c5 c6 c7 c8 c9 c10 c11 c12 c13 c14 c15 c16 c17 c18 c19 c20 c21 c22 c23 c24 c25 c26 c27 c28 c29 c z
  have e := fun i (hi : 15 ≤ i) => dTo_leaf d hi
  have hB : dTo d 31 = one d 15 + one d 16 + one d 17 + one d 18 + one d 19 + one d 20 + one d 21 + one d 22 + one d 23 + one d 24 + one d 25 + one d 26 + one d 27 + one d 28 + one d 29 + one d 30 := by
    rw [e 30 (by omega), e 29 (by omega), e 28 (by omega), e 27 (by omega), e 26 (by omega), e 25 (by omega), e 24 (by omega), e 23 (by omega), e 22 (by omega), e 21 (by omega), e 20 (by omega), e 19 (by omega), e 18 (by omega), e 17 (by omega), e 16 (by omega), e 15 (by omega), dTo_low]
    omega
  rw [hB]
  have s0 := hs 0 (by omega); have s1 := hs 1 (by omega); have s2 := hs 2 (by omega); have s3 := hs 3 (by omega); have s4 := hs 4 (by omega)
  have s5 := hs 5 (by omega); have s6 := hs 6 (by omega); have s7 := hs 7 (by omega); have s8 := hs 8 (by omega); have s9 := hs 9 (by omega)
  have s10 := hs 10 (by omega); have s11 := hs 11 (by omega); have s12 := hs 12 (by omega); have s13 := hs 13 (by omega); have s14 := hs 14 (by omega)
  clear hs e hB h
  simp only [Nat.reduceAdd, Nat.reduceMul] at *
  have l3 : one d 7 + one d 8 + one d 9 + one d 10 + one d 11 + one d 12 + one d 13 + one d 14 ≤ one d 15 + one d 16 + one d 17 + one d 18 + one d 19 + one d 20 + one d 21 + one d 22 + one d 23 + one d 24 + one d 25 + one d 26 + one d 27 + one d 28 + one d 29 + one d 30 := by clear hA s0 s1 s2 s3 s4 s5 s6; omega
  have l2 : one d 3 + one d 4 + one d 5 + one d 6 ≤ one d 7 + one d 8 + one d 9 + one d 10 + one d 11 + one d 12 + one d 13 + one d 14 := by clear hA s7 s8 s9 s10 s11 s12 s13 s14 l3; omega
  have l1 : one d 1 + one d 2 ≤ one d 3 + one d 4 + one d 5 + one d 6 := by clear hA l2 l3; omega
  have l0 : one d 0 ≤ one d 1 + one d 2 := s0
  clear s0 s1 s2 s3 s4 s5 s6 s7 s8 s9 s10 s11 s12 s13 s14
  omega
theorem dif_tree {ls ms : List Int} (h : validM ls = true) (h' : validM ms = true) : ∀ i, i < 15 → dif ls ms i = true → dif ls ms (2 * i + 1) = true ∨ dif ls ms (2 * i + 2) = true := by
  obtain ⟨-, -, -, e⟩ := validM_true h
  obtain ⟨-, -, -, e'⟩ := validM_true h'
  rw [e, e']
  generalize ls.drop 15 = xs
  generalize ms.drop 15 = ys
  intro i hi
  unfold dif
  rw [treeL_getD _ (by omega), treeL_getD _ (by omega), treeL_getD _ (by omega), treeL_getD _ (by omega), treeL_getD _ (by omega), treeL_getD _ (by omega)]
  simp only [Bool.not_eq_true', decide_eq_false_iff_not]
  rw [tr_inner xs hi, tr_inner ys hi]
  intro hd
  by_cases h1 : tr xs (2 * i + 1) = tr ys (2 * i + 1)
  · by_cases h2 : tr xs (2 * i + 2) = tr ys (2 * i + 2)
    · exact absurd (by rw [h1, h2]) hd
    · exact .inr h2
  · exact .inl h1
end Go.Proofs.Ytjidmmjbgffapaa
