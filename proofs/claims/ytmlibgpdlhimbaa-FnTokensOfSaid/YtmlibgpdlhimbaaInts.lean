/- The laws' helpers on slices of numbers: what each computes. -/
import Derived.Test.YtmlibgpdlhimbaaChecked
import Derived.Test.YtmlibgpdlhimbaaBase
namespace Go.Proofs.Ytmlibgpdlhimbaa
open Go.RowKit
set_option linter.unusedVariables false
set_option linter.unusedSimpArgs false

theorem infoInt : (Try.prog.info? 3).map (fun i => (i.zero, i.size, i.bytes)) = some (some (.int .i64 0), 1, 8) := by kernel_rfl

theorem own_empty (w : World) : OwnInts (w.alloc (.cells #[] 3)) w.heap.size (.slice (some ⟨w.heap.size, 0, none⟩) 0 0) [] :=
  World.ownsRow_lit w #[] 0 (Nat.le_refl _) (by unfold maxLen; omega) rfl

theorem below_alloc (w : World) (o : Obj) : Below w.heap.size w (w.alloc o) := (Below.refl _ _).alloc (Nat.le_refl _) o

theorem own_snoc {w' : World} {B : Nat} {v' : Value} {xs : List Int} {y : Int} {n : Nat}
    (h : w'.ownsRow B 3 1 v' n (ints xs ++ [.int .i64 y])) (hn : n = xs.length + 1) : OwnInts w' B v' (xs ++ [y]) := by
  subst hn
  unfold OwnInts
  rw [List.length_append, ints_append]
  exact h
theorem oneCell_int (x : Int) : ∀ u ∈ [Value.int .i64 x], u.oneCell' = true := by intro u hu; simp at hu; subst hu; rfl

/-- What heldIntS answers. -/
def heldFrom (k : Int) : List Int → Int
  | [] => k
  | z :: zs => if z = k then heldFrom (k + 1) zs else -1

def upFrom (k : Int) : Nat → List Int
  | 0 => []
  | n + 1 => k :: upFrom (k + 1) n

theorem length_upFrom (k : Int) (n : Nat) : (upFrom k n).length = n := by
  induction n generalizing k with
  | zero => rfl
  | succ n ih => simp [upFrom, ih]

theorem heldFrom_up (k : Int) (n : Nat) : heldFrom k (upFrom k n) = k + n := by
  induction n generalizing k with
  | zero => simp [heldFrom, upFrom]
  | succ n ih => simp [heldFrom, upFrom, ih]; omega

/-- What eqIntS and sameInts answer. -/
theorem eqLists (xs ys : List Int) (n : Nat) (hx : n ≤ xs.length) (h : xs.take n = ys.take n) (hl : xs.length = ys.length) (hn : xs.length ≤ n) : xs = ys := by
  rw [List.take_of_length_le (by omega), List.take_of_length_le (by omega)] at h; exact h

theorem take_snoc_eq {xs ys : List Int} {j : Nat} (hx : j < xs.length) (hy : j < ys.length) (h : xs.take j = ys.take j) (he : xs[j] = ys[j]) : xs.take (j + 1) = ys.take (j + 1) := by
  rw [List.take_succ_eq_append_getElem hx, List.take_succ_eq_append_getElem hy, h, he]

theorem take_ne {xs ys : List Int} {j : Nat} (hx : j < xs.length) (hy : j < ys.length) (he : xs[j] ≠ ys[j]) : xs ≠ ys := by
  intro h; subst h; exact he rfl

end Go.Proofs.Ytmlibgpdlhimbaa
