/- What the laws of the cache lean on; no walk. -/
import Derived.Test.YtcahemedlmagdaaDropI
namespace Go.Proofs.Ytcahemedlmagdaa
open Go.RowKit
set_option linter.unusedVariables false
set_option linter.unusedSimpArgs false

theorem getT_parts {zs : List Ent} {key now : Int} (h : getT zs key now = true) : ∃ hp : posOf zs key < zs.length, cvFrom (-1) zs = true ∧ zs[posOf zs key].1 = key ∧ getN zs key now = zs[posOf zs key].2.1 ∧
    zs[posOf zs key].2.2 ≤ now ∧ now ≤ zs[posOf zs key].2.2 + 10 ∧ 0 ≤ zs[posOf zs key].2.2 ∧ zs[posOf zs key].2.2 ≤ 999 := by
  have h' := h
  simp only [getT, getG, Bool.and_eq_true] at h'
  obtain ⟨⟨⟨hv, _⟩, _⟩, hu⟩ := h'
  have hc := (cvB_from hv).1
  rw [usedK] at hu
  cases e : zs[posOf zs key]? with
  | none => rw [e] at hu; simp at hu
  | some x =>
    obtain ⟨hp, hx⟩ := List.getElem?_eq_some_iff.1 e
    rw [e] at hu
    simp only [Bool.and_eq_true, beq_iff_eq] at hu
    have hN : getN zs key now = x.2.1 := by rw [getN, if_pos h, e]
    have hf := inB_true hu.2
    have hz := (enB_parts (cv_all hc _ hp).1).2.2
    rw [hx] at hz
    exact ⟨hp, hc, by rw [hx]; exact hu.1, by rw [hN, hx], by rw [hx]; omega, by rw [hx]; omega, by rw [hx]; omega, by rw [hx]; omega⟩

theorem cvFrom_mono {zs : List Ent} {p q : Int} (h : p ≤ q) (hc : cvFrom q zs = true) : cvFrom p zs = true := by
  cases zs with
  | nil => rfl
  | cons e es =>
    simp only [cvFrom, Bool.and_eq_true, decide_eq_true_eq] at hc ⊢
    exact ⟨⟨hc.1.1, by omega⟩, hc.2⟩
theorem cvFrom_filter {zs : List Ent} {p : Int} (f : Ent → Bool) (hc : cvFrom p zs = true) : cvFrom p (zs.filter f) = true := by
  induction zs generalizing p with
  | nil => rfl
  | cons e es ih =>
    simp only [cvFrom, Bool.and_eq_true, decide_eq_true_eq] at hc
    rw [List.filter_cons]
    split
    · simp only [cvFrom, Bool.and_eq_true, decide_eq_true_eq]
      exact ⟨hc.1, ih hc.2⟩
    · exact cvFrom_mono (by omega) (ih hc.2)
theorem cvB_filter {zs : List Ent} (f : Ent → Bool) (h : cvB zs = true) : cvB (zs.filter f) = true := by
  obtain ⟨h1, h2⟩ := cvB_from h
  have := List.length_filter_le f zs
  simp [cvB, cvFrom_filter f h1]
  omega
theorem cvB_drop {zs : List Ent} {key : Int} (h : dropG zs key = true) : cvB (dropL zs key) = true := by
  rw [(drop_good h).1]
  simp only [dropG, Bool.and_eq_true] at h
  exact cvB_filter _ h.1
theorem hasK_drop {zs : List Ent} {key : Int} (h : dropG zs key = true) : hasK (dropL zs key) key = false := by
  cases hh : hasK (dropL zs key) key with
  | false => rfl
  | true =>
    obtain ⟨hp, hk⟩ := hasK_at hh
    have hm : ∀ e ∈ dropL zs key, e.1 ≠ key := by
      intro e he
      rw [(drop_good h).1, List.mem_filter] at he
      simpa [dropF] using he.2
    exact absurd hk (hm _ (List.getElem_mem hp))
theorem usedK_not {zs : List Ent} {key : Int} (now : Int) (h : hasK zs key = false) : usedK zs key now = false := by
  rw [hasK, keyAt] at h
  rw [usedK]
  cases e : zs[posOf zs key]? with
  | none => rfl
  | some x => rw [e] at h; simp only at h ⊢; rw [h]; rfl
theorem dropT_parts {zs : List Ent} {key : Int} (h : dropT zs key = true) : dropG zs key = true ∧ hasK zs key = true := by
  have hg : dropG zs key = true := by simp only [dropT, Bool.and_eq_true] at h; exact h.1
  refine ⟨hg, ?_⟩
  cases hh : hasK zs key with
  | true => rfl
  | false => rw [(drop_hasnot hg hh).2] at h; cases h

/-- The one entry of a key stands at its place. -/
theorem at_pos {zs : List Ent} {key : Int} {e : Ent} (hc : cvFrom (-1) zs = true) (he : e ∈ zs) (hk : e.1 = key) : zs[posOf zs key]? = some e := by
  obtain ⟨j, hj, rfl⟩ := List.getElem_of_mem he
  by_cases hjp : j = posOf zs key
  · rw [← hjp, List.getElem?_eq_getElem hj]
  · exact absurd hk (notKey hc hj hjp)
theorem mem_pos {zs : List Ent} {key : Int} {e : Ent} (h : zs[posOf zs key]? = some e) : e ∈ zs := List.mem_of_getElem? h
theorem usedK_of {zs : List Ent} {key now : Int} {e : Ent} (hc : cvFrom (-1) zs = true) (he : e ∈ zs) (hk : e.1 = key) (hf : freshB e now = true) : usedK zs key now = true := by
  rw [usedK, at_pos hc he hk]; simp [hk, hf]
theorem usedK_mem {zs : List Ent} {key now : Int} (h : usedK zs key now = true) : ∃ e, zs[posOf zs key]? = some e ∧ e ∈ zs ∧ e.1 = key ∧ freshB e now = true := by
  rw [usedK] at h
  cases e : zs[posOf zs key]? with
  | none => rw [e] at h; simp at h
  | some x =>
    rw [e] at h
    simp only [Bool.and_eq_true, beq_iff_eq] at h
    exact ⟨x, rfl, mem_pos e, h.1, h.2⟩
end Go.Proofs.Ytcahemedlmagdaa
