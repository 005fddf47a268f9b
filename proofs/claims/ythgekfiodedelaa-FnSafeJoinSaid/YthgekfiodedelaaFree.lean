/- Where the next free position lies, and numbers put into an ascending list. No program in sight. -/
import Derived.Test.YthgekfiodedelaaIns0
namespace Go.Proofs.Ythgekfiodedelaa
set_option linter.unusedVariables false
set_option linter.unusedSimpArgs false

/-- How many steps upward to a position that is not on the list. -/
def freeR (xs : List Int) (p : Int) : Nat → Nat
  | 0 => 0
  | n + 1 => if p ∈ xs then freeR xs ((p + 1) % 64) n + 1 else 0
theorem freeR_le (xs : List Int) : ∀ (n : Nat) (p : Int), freeR xs p n ≤ n
  | 0, _ => Nat.le_refl _
  | n + 1, p => by
    rw [freeR]; split
    · have := freeR_le xs n ((p + 1) % 64); omega
    · omega
theorem freeR_next (xs : List Int) : ∀ (n : Nat) (p : Int), freeR xs p n < n → freeR xs p (n + 1) = freeR xs p n
  | 0, _, h => by omega
  | n + 1, p, h => by
    rw [freeR] at h
    rw [freeR]
    split
    · rename_i hp
      rw [if_pos hp] at h
      rw [freeR_next xs n _ (by omega), freeR, if_pos hp]
    · rename_i hp; rw [freeR, if_neg hp]
theorem freeR_full (xs : List Int) : ∀ (n : Nat) (p : Int), 0 ≤ p → p < 64 → freeR xs p n = n → ∀ i : Nat, i < n → (p + i) % 64 ∈ xs
  | 0, _, _, _, _, i, hi => by omega
  | n + 1, p, h0, h1, h, i, hi => by
    rw [freeR] at h
    split at h
    · rename_i hp
      cases i with
      | zero => rw [show (p + ((0 : Nat) : Int)) % 64 = p by omega]; exact hp
      | succ i =>
        have := freeR_full xs n ((p + 1) % 64) (by omega) (by omega) (by omega) i (by omega)
        rwa [show ((p + 1) % 64 + (i : Int)) % 64 = (p + ((i + 1 : Nat) : Int)) % 64 by omega] at this
    · omega
theorem freeR_lt {xs : List Int} {p : Int} (h : xs.length ≤ 10) (h0 : 0 ≤ p) (h1 : p < 64) : freeR xs p 11 < 11 := by
  have hle := freeR_le xs 11 p
  by_cases e : freeR xs p 11 = 11
  · exfalso
    have hf := freeR_full xs 11 p h0 h1 e
    have hn : ((List.range 11).map fun (i : Nat) => (p + (i : Int)) % 64).Nodup := by
      refine List.pairwise_map.2 (List.Pairwise.imp_of_mem (R := fun a b => a < b) (fun {a b} ha hb hab => ?_) List.pairwise_lt_range)
      simp only [List.mem_range] at ha hb
      show (p + (a : Int)) % 64 ≠ (p + (b : Int)) % 64
      omega
    have := List.Nodup.length_le_of_subset hn (l₂ := xs) (fun y hy => by
      obtain ⟨i, hi, rfl⟩ := List.mem_map.1 hy
      exact hf i (by simpa using hi))
    simp at this; omega
  · omega
theorem freeR_step {xs : List Int} {p : Int} (h : xs.length ≤ 10) (h0 : 0 ≤ p) (h1 : p < 64) (hp : p ∈ xs) : freeR xs ((p + 1) % 64) 11 < freeR xs p 11 := by
  have hlt := freeR_lt h h0 h1
  have e : freeR xs p 11 = freeR xs ((p + 1) % 64) 10 + 1 := by rw [freeR, if_pos hp]
  rw [freeR_next xs 10 _ (by omega), e]
  omega

/-- Positions in ascending order. -/
def AscI (xs : List Int) : Prop := xs.Pairwise (· < ·) ∧ ∀ x ∈ xs, 0 ≤ x ∧ x ≤ 63
theorem AscI.nil : AscI [] := ⟨.nil, fun x h => by cases h⟩
theorem AscI.ins {xs : List Int} {p : Int} {k : Nat} (h : AscI xs) (hp : 0 ≤ p ∧ p ≤ 63) (hn : p ∉ xs) (hk : k ≤ xs.length) (h1 : ∀ i (hi : i < xs.length), i < k → xs[i] < p) (h2 : ∀ hk : k < xs.length, ¬ xs[k] < p) : AscI (insAt xs k p) := by
  obtain ⟨hs, hr⟩ := h
  have hm : ∀ x ∈ insAt xs k p, x = p ∨ x ∈ xs := fun x hx => by
    simp only [insAt, List.mem_append, List.mem_singleton] at hx
    rcases hx with (hx | hx) | hx
    · exact .inr (List.mem_of_mem_take hx)
    · exact .inl hx
    · exact .inr (List.mem_of_mem_drop hx)
  have ht : ∀ x ∈ xs.take k, x < p := fun x hx => by
    obtain ⟨j, hj, rfl⟩ := List.getElem_of_mem hx
    simp only [List.length_take] at hj
    rw [List.getElem_take]
    exact h1 j (by omega) (by omega)
  have hd : ∀ x ∈ xs.drop k, p < x := fun x hx => by
    obtain ⟨j, hj, rfl⟩ := List.getElem_of_mem hx
    simp only [List.length_drop] at hj
    rw [List.getElem_drop]
    have h3 := h2 (by omega)
    have h4 : xs[k]'(by omega) ≠ p := fun e => hn (by rw [← e]; exact List.getElem_mem _)
    rcases Nat.eq_zero_or_pos j with rfl | hj0
    · simp only [Nat.add_zero]; omega
    · have := List.pairwise_iff_getElem.1 hs k (k + j) (by omega) (by omega) (by omega)
      omega
  refine ⟨?_, fun x hx => ?_⟩
  · unfold insAt
    rw [List.pairwise_append, List.pairwise_append]
    refine ⟨⟨hs.sublist (List.take_sublist _ _), List.pairwise_singleton _ _, fun a ha b hb => ?_⟩, hs.sublist (List.drop_sublist _ _), fun a ha b hb => ?_⟩
    · simp only [List.mem_singleton] at hb; subst hb; exact ht a ha
    · simp only [List.mem_append, List.mem_singleton] at ha
      rcases ha with ha | rfl
      · have := ht a ha; have := hd b hb; omega
      · exact hd b hb
  · rcases hm x hx with rfl | h
    · exact hp
    · exact hr x h
end Go.Proofs.Ythgekfiodedelaa
