/- Plain laws on comparing two trees: what is compared, and which leaves are reported. No program in sight. -/
import Derived.Test.YtjidmmjbgffapaaPath
namespace Go.Proofs.Ytjidmmjbgffapaa
open Go.RowKit
set_option linter.unusedVariables false
set_option linter.unusedSimpArgs false

/-- Is node i compared, where d tells which nodes differ? (fuel f) -/
def opF (d : Nat → Bool) : Nat → Nat → Bool
  | _, 0 => true
  | 0, _ => true
  | f + 1, i + 1 => opF d f (i / 2) && d (i / 2)
def op (d : Nat → Bool) (i : Nat) : Bool := opF d 5 i
theorem op_zero (d : Nat → Bool) : op d 0 = true := rfl
theorem opF_more (d : Nat → Bool) : ∀ f i, i + 1 < 2 ^ (f + 1) → opF d (f + 1) i = opF d f i := by
  intro f
  induction f with
  | zero => intro i hi; have : i = 0 := by omega
            subst this; rfl
  | succ f ih =>
    intro i hi
    cases i with
    | zero => rfl
    | succ i =>
      show (opF d (f + 1) (i / 2) && d (i / 2)) = (opF d f (i / 2) && d (i / 2))
      rw [ih (i / 2) (by have : 2 ^ (f + 1 + 1) = 2 * 2 ^ (f + 1) := by rw [Nat.pow_succ]; omega
                         omega)]
theorem op_left (d : Nat → Bool) {i : Nat} (h : i < 15) : op d (2 * i + 1) = (op d i && d i) := by
  show (opF d 4 (2 * i / 2) && d (2 * i / 2)) = _
  rw [show 2 * i / 2 = i by omega, show op d i = opF d 4 i from opF_more d 4 i (by omega)]
theorem op_right (d : Nat → Bool) {i : Nat} (h : i < 15) : op d (2 * i + 2) = (op d i && d i) := by
  show (opF d 4 ((2 * i + 1) / 2) && d ((2 * i + 1) / 2)) = _
  rw [show (2 * i + 1) / 2 = i by omega, show op d i = opF d 4 i from opF_more d 4 i (by omega)]
theorem op_parent (d : Nat → Bool) {i : Nat} (h : i < 30) : op d (i + 1) = (op d (i / 2) && d (i / 2)) := by
  show (opF d 4 (i / 2) && d (i / 2)) = _
  rw [show op d (i / 2) = opF d 4 (i / 2) from opF_more d 4 _ (by omega)]

/-- How many nodes before j are compared; which leaves before j are reported. -/
def cntTo (d : Nat → Bool) (j : Nat) : Nat := ((List.range j).filter (op d)).length
def lvsTo (d : Nat → Bool) (j : Nat) : List Int := ((List.range j).filter fun i => decide (15 ≤ i) && op d i && d i).map fun (i : Nat) => (i : Int) - 15
theorem cntTo_succ (d : Nat → Bool) (j : Nat) : cntTo d (j + 1) = cntTo d j + if op d j then 1 else 0 := by
  unfold cntTo
  rw [List.range_succ, List.filter_append, List.length_append]
  cases h : op d j <;> simp [List.filter_cons, h]
theorem lvsTo_succ (d : Nat → Bool) (j : Nat) : lvsTo d (j + 1) = lvsTo d j ++ if 15 ≤ j ∧ op d j = true ∧ d j = true then [(j : Int) - 15] else [] := by
  unfold lvsTo
  rw [List.range_succ, List.filter_append, List.map_append]
  by_cases h : 15 ≤ j <;> cases h2 : op d j <;> cases h3 : d j <;> simp [List.filter_cons, h, h2, h3]
theorem cntTo_le (d : Nat → Bool) (j : Nat) : cntTo d j ≤ j := by
  unfold cntTo
  exact Nat.le_trans (List.length_filter_le _ _) (by simp)
theorem lvsTo_le (d : Nat → Bool) (j : Nat) : (lvsTo d j).length ≤ j - 15 := by
  induction j with
  | zero => simp [lvsTo]
  | succ j ih =>
    rw [lvsTo_succ, List.length_append]
    split
    · simp; omega
    · simp; omega

/-- The nodes under i, k levels deep, in the order of the text. -/
def sub : Nat → Nat → List Nat
  | 0, i => [i]
  | k + 1, i => i :: (sub k (2 * i + 1) ++ sub k (2 * i + 2))
theorem sub_perm : (sub 4 0).Perm (List.range 31) := by decide
theorem sub_leaves : ((sub 4 0).filter fun i => decide (15 ≤ i)) = (List.range 31).filter fun i => decide (15 ≤ i) := by decide

def cntL (d : Nat → Bool) (l : List Nat) : Nat := (l.filter (op d)).length
def lvsL (d : Nat → Bool) (l : List Nat) : List Int := (l.filter fun i => decide (15 ≤ i) && op d i && d i).map fun (i : Nat) => (i : Int) - 15
theorem cntL_all (d : Nat → Bool) : cntL d (sub 4 0) = cntTo d 31 := (sub_perm.filter (op d)).length_eq
theorem lvsL_all (d : Nat → Bool) : lvsL d (sub 4 0) = lvsTo d 31 := by
  have e : ∀ l : List Nat, (l.filter fun i => decide (15 ≤ i) && op d i && d i) = (l.filter fun i => decide (15 ≤ i)).filter fun i => op d i && d i := by
    intro l
    rw [List.filter_filter]
    congr 1
    funext i
    cases decide (15 ≤ i) <;> cases op d i <;> cases d i <;> rfl
  unfold lvsL lvsTo
  rw [e, e, sub_leaves]
theorem cntL_append (d : Nat → Bool) (a b : List Nat) : cntL d (a ++ b) = cntL d a + cntL d b := by simp [cntL]
theorem lvsL_append (d : Nat → Bool) (a b : List Nat) : lvsL d (a ++ b) = lvsL d a ++ lvsL d b := by simp [lvsL]
theorem sub_shut (d : Nat → Bool) : ∀ k i, op d i = false → i + 1 < 2 ^ (5 - k) → k ≤ 4 → cntL d (sub k i) = 0 ∧ lvsL d (sub k i) = [] := by
  intro k
  induction k with
  | zero => intro i h _ _; simp [sub, cntL, lvsL, h]
  | succ k ih =>
    intro i h hi hk
    have h2 : 2 ^ (5 - k) = 2 * 2 ^ (5 - (k + 1)) := by rw [show 5 - k = (5 - (k + 1)) + 1 by omega, Nat.pow_succ]; omega
    have h16 : 2 ^ (5 - (k + 1)) ≤ 2 ^ 4 := Nat.pow_le_pow_right (by omega) (by omega)
    have hl : op d (2 * i + 1) = false := by rw [op_left d (by omega), h]; rfl
    have hr : op d (2 * i + 2) = false := by rw [op_right d (by omega), h]; rfl
    obtain ⟨a1, a2⟩ := ih (2 * i + 1) hl (by omega) (by omega)
    obtain ⟨b1, b2⟩ := ih (2 * i + 2) hr (by omega) (by omega)
    have e : sub (k + 1) i = [i] ++ (sub k (2 * i + 1) ++ sub k (2 * i + 2)) := rfl
    rw [e, cntL_append, cntL_append, lvsL_append, lvsL_append, a1, a2, b1, b2]
    simp [cntL, lvsL, h]

/-- What differs. -/
def dif (ls ms : List Int) (i : Nat) : Bool := !decide (ls.getD i 0 = ms.getD i 0)
def diffL (ls ms : List Int) : List Int := lvsTo (dif ls ms) 31
def diffN (ls ms : List Int) : Int := (cntTo (dif ls ms) 31 : Nat)
theorem dif_comm (ls ms : List Int) : dif ls ms = dif ms ls := by
  funext i; unfold dif; congr 1; rw [Bool.eq_iff_iff]; simp; exact eq_comm
end Go.Proofs.Ytjidmmjbgffapaa
