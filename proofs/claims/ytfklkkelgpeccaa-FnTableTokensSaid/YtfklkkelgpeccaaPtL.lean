/- The table of tokens, in plain words. No program in sight. -/
import Derived.Test.YtfklkkelgpeccaaTokI
import Derived.Test.YtfklkkelgpeccaaNodes
import Derived.Test.YtfklkkelgpeccaaTv
namespace Go.Proofs.Ytfklkkelgpeccaa
open Go.RowKit
set_option linter.unusedVariables false
set_option linter.unusedSimpArgs false

def pairsL (ns ws : List Int) : List (Int × Nat) := ns.zip (ws.map Int.toNat)
theorem pairs_len {ns ws : List Int} (h : ws.length = ns.length) : (pairsL ns ws).length = ns.length := by simp [pairsL, h]
theorem pairs_get {ns ws : List Int} (h : ws.length = ns.length) (i : Nat) (hi : i < ns.length) : (pairsL ns ws)[i]'(by rw [pairs_len h]; exact hi) = (ns[i], (ws[i]'(by omega)).toNat) := by simp [pairsL]
/-- Has a node a token at p? -/
def tokP (p node : Int) (k : Nat) : Bool := (toks node k).any (· == p)
theorem tokP_succ (p node : Int) (k : Nat) : tokP p node (k + 1) = (tokP p node k || (tok node k == p)) := by simp [tokP, toks_succ]
def ownFrom (p : Int) : List (Int × Nat) → Option Int
  | [] => none
  | (n, k) :: r => if tokP p n k then some n else ownFrom p r
/-- The token at p, if there is one among these nodes. -/
def lastL (p : Int) (l : List (Int × Nat)) : List Tok := match ownFrom p l with
  | none => []
  | some n => [(p, n)]
theorem lastL_cons (p n : Int) (k : Nat) (r : List (Int × Nat)) : lastL p ((n, k) :: r) = if tokP p n k then [(p, n)] else lastL p r := by
  unfold lastL
  rw [ownFrom]
  split <;> rename_i h <;> split at h <;> simp_all
theorem lastL_shape (p : Int) (l : List (Int × Nat)) : lastL p l = [] ∨ ∃ n, lastL p l = [(p, n)] := by
  unfold lastL; split
  · exact .inl rfl
  · exact .inr ⟨_, rfl⟩
def tabTo (l : List (Int × Nat)) : Nat → List Tok
  | 0 => []
  | p + 1 => tabTo l p ++ lastL p l
theorem tabTo_lt (l : List (Int × Nat)) (p : Nat) : ∀ t ∈ tabTo l p, 0 ≤ t.1 ∧ t.1 < p := by
  induction p with
  | zero => intro t h; cases h
  | succ p ih =>
    intro t h
    rw [tabTo, List.mem_append] at h
    rcases h with h | h
    · have := ih t h; omega
    · rcases lastL_shape p l with e | ⟨n, e⟩
      · rw [e] at h; cases h
      · rw [e, List.mem_singleton] at h; subst h; simp only; omega
theorem lastL_len (p : Int) (l : List (Int × Nat)) : (lastL p l).length ≤ 1 := by
  rcases lastL_shape p l with e | ⟨n, e⟩ <;> rw [e] <;> simp
theorem tabTo_len (l : List (Int × Nat)) (p : Nat) : (tabTo l p).length ≤ p := by
  induction p with
  | zero => simp [tabTo]
  | succ p ih => rw [tabTo, List.length_append]; have := lastL_len p l; omega
/-- While a node's tokens are looked at. -/
def curK (p n : Int) (c : List Tok) (k : Nat) : List Tok := if tokP p n k then [(p, n)] else c
theorem curK_zero (p n : Int) (c : List Tok) : curK p n c 0 = c := by simp [curK, tokP, toks]
theorem curK_hit {p n : Int} {k : Nat} (c : List Tok) (h : tok n k = p) : curK p n c (k + 1) = [(p, n)] := by simp [curK, tokP_succ, h]
theorem curK_miss {p n : Int} {k : Nat} (c : List Tok) (h : tok n k ≠ p) : curK p n c (k + 1) = curK p n c k := by simp [curK, tokP_succ, h]
theorem curK_shape {p n : Int} {c : List Tok} (hc : c = [] ∨ ∃ m, c = [(p, m)]) (k : Nat) : curK p n c k = [] ∨ ∃ m, curK p n c k = [(p, m)] := by
  unfold curK; split
  · exact .inr ⟨_, rfl⟩
  · exact hc
def ptG (ns ws : List Int) : Bool := nodesB ns && decide (ws.length = ns.length) && ws.all (fun w => inB w 1 5)
def ptL (ns ws : List Int) : List Tok := if ptG ns ws then tabTo (pairsL ns ws) 64 else []
theorem pt_bad {ns ws : List Int} (h : ptG ns ws = false) : ptL ns ws = [] := by simp [ptL, h]
theorem pt_good {ns ws : List Int} (h : ptG ns ws = true) : ptL ns ws = tabTo (pairsL ns ws) 64 := by simp [ptL, h]
theorem ptL_len (ns ws : List Int) : (ptL ns ws).length ≤ 64 := by
  unfold ptL; split
  · exact tabTo_len _ _
  · simp
theorem asc_pt : ∀ {zs : List Int} {p : Int}, ascFrom p zs = true → ∀ x ∈ zs, 0 ≤ x ∧ x ≤ 63
  | [], _, _, x, h => by cases h
  | y :: zs, p, h, x, hx => by
    simp only [ascFrom, Bool.and_eq_true] at h
    rcases List.mem_cons.1 hx with rfl | hx
    · exact ptB_true h.1.1
    · exact asc_pt h.2 x hx
theorem nodesB_parts {ns : List Int} (h : nodesB ns = true) : (1 ≤ ns.length ∧ ns.length ≤ 10) ∧ ascFrom (-1) ns = true := by
  simp only [nodesB, Bool.and_eq_true] at h
  have := inB_true h.1
  exact ⟨by omega, h.2⟩
theorem ptG_parts {ns ws : List Int} (h : ptG ns ws = true) : nodesB ns = true ∧ ws.length = ns.length ∧ ∀ w ∈ ws, 1 ≤ w ∧ w ≤ 5 := by
  simp only [ptG, Bool.and_eq_true, decide_eq_true_eq, List.all_eq_true] at h
  exact ⟨h.1.1, h.1.2, fun w hw => inB_true (h.2 w hw)⟩
end Go.Proofs.Ytfklkkelgpeccaa
