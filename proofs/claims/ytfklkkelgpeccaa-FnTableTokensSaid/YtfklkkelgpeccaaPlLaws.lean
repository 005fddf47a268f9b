/- What the laws of placement lean on; no walk. -/
import Derived.Test.YtfklkkelgpeccaaPl
import Derived.Test.YtfklkkelgpeccaaPm
namespace Go.Proofs.Ytfklkkelgpeccaa
open Go.RowKit
set_option linter.unusedVariables false
set_option linter.unusedSimpArgs false

theorem tv_all : ∀ {zs : List Tok} {p : Int}, tvFrom p zs = true → (∀ t ∈ zs, ptB t.1 = true ∧ ptB t.2 = true ∧ p < t.1) ∧ zs.Pairwise (fun x y => x.1 < y.1)
  | [], _, _ => ⟨fun t h => (by cases h), .nil⟩
  | x :: zs, p, h => by
    simp only [tvFrom, tkB, Bool.and_eq_true, decide_eq_true_eq] at h
    obtain ⟨⟨⟨h1, h2⟩, h3⟩, h4⟩ := h
    obtain ⟨h5, h6⟩ := tv_all h4
    refine ⟨fun t ht => ?_, List.pairwise_cons.2 ⟨fun t ht => (h5 t ht).2.2, h6⟩⟩
    rcases List.mem_cons.1 ht with rfl | ht
    · exact ⟨h1, h2, h3⟩
    · have := h5 t ht; exact ⟨this.1, this.2.1, by omega⟩
theorem tv_of : ∀ {zs : List Tok} {p : Int}, (∀ t ∈ zs, ptB t.1 = true ∧ ptB t.2 = true ∧ p < t.1) → zs.Pairwise (fun x y => x.1 < y.1) → tvFrom p zs = true
  | [], _, _, _ => rfl
  | x :: zs, p, h, hs => by
    simp only [tvFrom, tkB, Bool.and_eq_true, decide_eq_true_eq]
    have hp := List.pairwise_cons.1 hs
    have hx := h x (by simp)
    exact ⟨⟨⟨hx.1, hx.2.1⟩, hx.2.2⟩, tv_of (fun t ht => ⟨(h t (by simp [ht])).1, (h t (by simp [ht])).2.1, hp.1 t ht⟩) hp.2⟩
theorem tvB_parts {zs : List Tok} (h : tvB zs = true) : (∀ t ∈ zs, (0 ≤ t.1 ∧ t.1 ≤ 63) ∧ (0 ≤ t.2 ∧ t.2 ≤ 63)) ∧ zs.Pairwise (fun x y => x.1 < y.1) ∧ 0 < zs.length := by
  have h0 := tvB_pos h
  simp only [tvB, Bool.and_eq_true] at h
  obtain ⟨h1, h2⟩ := tv_all h.1
  exact ⟨fun t ht => ⟨ptB_true (h1 t ht).1, ptB_true (h1 t ht).2.1⟩, h2, h0⟩
theorem ownT_mem {zs : List Tok} (h0 : 0 < zs.length) (c : Int) : ∃ t ∈ zs, ownT zs c = t.2 := by
  unfold ownT
  cases h : zs.find? (fun t => decide (c ≤ t.1)) with
  | some t => exact ⟨t, List.mem_of_find?_eq_some h, rfl⟩
  | none => exact ⟨zs[0], List.getElem_mem h0, by simp [List.getD, h0]⟩
theorem ownT_range {zs : List Tok} (h : tvB zs = true) (c : Int) : 0 ≤ ownT zs c ∧ ownT zs c ≤ 63 := by
  obtain ⟨h1, -, h0⟩ := tvB_parts h
  obtain ⟨t, ht, e⟩ := ownT_mem h0 c
  rw [e]; exact (h1 t ht).2
theorem poN_neg {zs : List Tok} {key : Int} : (poN zs key < 0) ↔ ¬ (tvB zs = true ∧ ptB key = true) := by
  unfold poN
  by_cases h : tvB zs = true ∧ ptB key = true
  · have := ownT_range h.1 key
    rw [if_pos (by simp [h.1, h.2])]
    exact ⟨fun h3 => absurd h3 (by omega), fun h3 => absurd h h3⟩
  · rw [if_neg (by simpa using h)]
    exact ⟨fun _ => h, fun _ => by omega⟩
theorem poN_good {zs : List Tok} {key : Int} (h1 : tvB zs = true) (h2 : ptB key = true) : poN zs key = ownT zs key := by simp [poN, h1, h2]
theorem plN_good {zs : List Tok} {key : Int} (h1 : tvB zs = true) (h2 : ptB key = true) : plN zs key = cntT zs key 64 := by simp [plN, h1, h2]
theorem plN_bad {zs : List Tok} {key : Int} (h : ¬ (tvB zs = true ∧ ptB key = true)) : plN zs key = -1 := by
  unfold plN; rw [if_neg (by simpa using h)]

/-- The first m numbers of a row added up. -/
def sumN (f : Nat → Int) : Nat → Int
  | 0 => 0
  | m + 1 => sumN f m + f m
theorem sumN_step (f g : Nat → Int) (o : Int) (h : ∀ m, g m = if o = m then f m + 1 else f m) : ∀ M : Nat, sumN g M = sumN f M + if 0 ≤ o ∧ o < M then 1 else 0
  | 0 => by simp [sumN] <;> omega
  | M + 1 => by
    rw [sumN, sumN, sumN_step f g o h M, h M]
    by_cases e : o = (M : Int)
    · rw [if_pos e, if_neg (by omega), if_pos (by omega)]; omega
    · rw [if_neg e]
      by_cases h2 : 0 ≤ o ∧ o < (M : Int)
      · rw [if_pos h2, if_pos (by omega)]; omega
      · rw [if_neg h2, if_neg (by omega)]; omega
theorem sum_none (zs : List Tok) : ∀ M : Nat, sumN (fun m => cntT zs m 0) M = 0
  | 0 => rfl
  | M + 1 => by rw [sumN, sum_none zs M]; rfl
theorem sum_loads {zs : List Tok} (h : tvB zs = true) : ∀ j : Nat, sumN (fun m => cntT zs m j) 64 = j
  | 0 => sum_none zs 64
  | j + 1 => by
    rw [sumN_step (fun m => cntT zs m j) (fun m => cntT zs m (j + 1)) (ownT zs j) (fun m => rfl) 64, sum_loads h j]
    have := ownT_range h j
    rw [if_pos (by omega)]; omega
theorem sumN_le {zs : List Tok} (M : Nat) : 0 ≤ sumN (fun m => cntT zs m 64) M ∧ sumN (fun m => cntT zs m 64) M ≤ 64 * M := by
  induction M with
  | zero => simp [sumN]
  | succ M ih => have := cntT_le zs (M : Int) 64; rw [sumN]; omega
theorem sumN_congr {f g : Nat → Int} : ∀ M : Nat, (∀ m, m < M → f m = g m) → sumN f M = sumN g M
  | 0, _ => rfl
  | M + 1, h => by rw [sumN, sumN, sumN_congr M (fun m hm => h m (by omega)), h M (by omega)]

theorem mem_mvTo (zs xs : List Tok) (k : Nat) : ∀ j : Nat, (k : Int) ∈ mvTo zs xs j ↔ k < j ∧ ownT zs k ≠ ownT xs k
  | 0 => by simp [mvTo]
  | j + 1 => by
    rw [mvTo]
    split
    · rename_i h
      rw [mem_mvTo zs xs k j]
      constructor
      · rintro ⟨h1, h2⟩; exact ⟨by omega, h2⟩
      · rintro ⟨h1, h2⟩
        refine ⟨?_, h2⟩
        by_cases e : k = j
        · subst e; exact absurd h h2
        · omega
    · rename_i h
      rw [List.mem_append, mem_mvTo zs xs k j, List.mem_singleton]
      constructor
      · rintro (⟨h1, h2⟩ | h1)
        · exact ⟨by omega, h2⟩
        · have : k = j := by omega
          subst this; exact ⟨by omega, h⟩
      · rintro ⟨h1, h2⟩
        by_cases e : k = j
        · subst e; exact .inr rfl
        · exact .inl ⟨by omega, h2⟩
theorem mvTo_symm (zs xs : List Tok) : ∀ j, mvTo xs zs j = mvTo zs xs j
  | 0 => rfl
  | j + 1 => by
    rw [mvTo, mvTo, mvTo_symm zs xs j]
    by_cases h : ownT zs j = ownT xs j
    · rw [if_pos h, if_pos h.symm]
    · rw [if_neg h, if_neg (fun e => h e.symm)]
theorem mvL_symm (zs xs : List Tok) : mvL xs zs = mvL zs xs := by
  unfold mvL; rw [mvTo_symm, Bool.and_comm]
end Go.Proofs.Ytfklkkelgpeccaa
