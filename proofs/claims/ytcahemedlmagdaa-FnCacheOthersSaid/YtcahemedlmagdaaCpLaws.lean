/- What the laws of CachePut lean on; no walk. -/
import Derived.Test.YtcahemedlmagdaaHeapL
import Derived.Test.YtcahemedlmagdaaCaLaws0
namespace Go.Proofs.Ytcahemedlmagdaa
open Go.RowKit
set_option linter.unusedVariables false
set_option linter.unusedSimpArgs false

theorem cpG_parts {zs : List Ent} {key value now : Int} (h : cpG zs key value now = true) : cvB zs = true ∧ ptB key = true ∧ enB (key, value, now) = true := by
  simp only [cpG, Bool.and_eq_true] at h
  exact ⟨h.1.1.1, h.1.1.2, by simp [enB, h.1.1.2, h.1.2, h.2]⟩
/-- What is left of a cache when a key's place is made: no entry of the key, and room. -/
theorem cpX_good {zs : List Ent} {key value now : Int} (h : cpG zs key value now = true) : cvB (cpX zs key) = true ∧ hasK (cpX zs key) key = false ∧ (cpX zs key).length ≤ 5 := by
  obtain ⟨hv, hk, he⟩ := cpG_parts h
  have hG : dropG zs key = true := by simp [dropG, hv, hk]
  have hD := cvB_drop hG
  have hK := hasK_drop hG
  have hl := dropL_len zs key
  have h6 := (cvB_from hv).2
  unfold cpX
  split
  · rename_i h6'
    obtain ⟨D, hD'⟩ : ∃ D, D = dropL zs key := ⟨_, rfl⟩
    rw [← hD'] at hD hK hl h6' ⊢
    have hDl : D.length = 6 := by omega
    have ho : oldI D < D.length := oldTo_lt D D.length (by omega) (Nat.le_refl _)
    have hgd : D.getD (oldI D) (0, 0, 0) = D[oldI D] := by simp [List.getD, ho]
    rw [hgd]
    have hb := ptB_of (enB_parts (cv_all (cvB_from hD).1 _ ho).1).1
    have hG2 : dropG D D[oldI D].1 = true := by simp [dropG, hD, hb]
    have hh := hasK_mem (cvB_from hD).1 ho
    have hd := (drop_has hG2 hh).1
    obtain ⟨hp, -⟩ := hasK_at hh
    refine ⟨cvB_drop hG2, ?_, by rw [hd, cutAt_len hp]; omega⟩
    cases hx : hasK (dropL D D[oldI D].1) key with
    | false => rfl
    | true =>
      obtain ⟨hq, hq2⟩ := hasK_at hx
      have hm : (dropL D D[oldI D].1)[posOf (dropL D D[oldI D].1) key] ∈ D := by
        have hs : ∀ e ∈ dropL D D[oldI D].1, e ∈ D := fun e he => by
          rw [(drop_good hG2).1, List.mem_filter] at he; exact he.1
        exact hs _ (List.getElem_mem hq)
      obtain ⟨j, hj, hje⟩ := List.getElem_of_mem hm
      exact absurd (by rw [hje]; exact hq2) (hasK_not (cvB_from hD).1 hK j hj)
  · rename_i h6'
    exact ⟨hD, hK, by omega⟩
theorem cpL_ins {zs : List Ent} {key value now : Int} (h : cpG zs key value now = true) : cpL zs key value now = insAt (cpX zs key) (posOf (cpX zs key) key) (key, value, now) := cp_good h

/-- An entry laid at its key's place. -/
theorem ins_cv {X : List Ent} {key v t : Int} (hv : cvB X = true) (hh : hasK X key = false) (h5 : X.length ≤ 5) (he : enB (key, v, t) = true) : cvB (insAt X (posOf X key) (key, v, t)) = true := by
  obtain ⟨hc, -⟩ := cvB_from hv
  obtain ⟨h1, h2⟩ := cv_sorted X (-1) hc
  have hp := posOf_le X key
  have hkb := (enB_parts he).1
  simp only [cvB, Bool.and_eq_true, decide_eq_true_eq]
  refine ⟨cv_of _ (fun e he' => ?_) ?_, by rw [insAt_len _ hp]; omega⟩
  · simp only [insAt, List.mem_append, List.mem_singleton] at he'
    rcases he' with (h | rfl) | h
    · exact ⟨enB_of _ hc e (List.mem_of_mem_take h), (h1 e (List.mem_of_mem_take h)).2⟩
    · exact ⟨he, by simp only; omega⟩
    · exact ⟨enB_of _ hc e (List.mem_of_mem_drop h), (h1 e (List.mem_of_mem_drop h)).2⟩
  · unfold insAt
    have ht : ∀ e ∈ X.take (posOf X key), e.1 < key := fun e he => by
      obtain ⟨j, hj, rfl⟩ := List.getElem_of_mem he
      simp only [List.length_take] at hj
      rw [List.getElem_take]
      exact posOf_lt (by omega)
    have hd : ∀ e ∈ X.drop (posOf X key), key < e.1 := fun e he => by
      obtain ⟨j, hj, rfl⟩ := List.getElem_of_mem he
      simp only [List.length_drop] at hj
      rw [List.getElem_drop]
      have hpl : posOf X key < X.length := by omega
      have h3 := posOf_ge hpl
      have h4 := hasK_not hc hh (posOf X key) hpl
      rcases Nat.eq_zero_or_pos j with rfl | hj0
      · simp only [Nat.add_zero]; omega
      · have := List.pairwise_iff_getElem.1 h2 (posOf X key) (posOf X key + j) hpl (by omega) (by omega)
        omega
    rw [List.pairwise_append, List.pairwise_append]
    refine ⟨⟨h2.sublist (List.take_sublist _ _), List.pairwise_singleton _ _, fun a ha b hb => ?_⟩, h2.sublist (List.drop_sublist _ _), fun a ha b hb => ?_⟩
    · simp only [List.mem_singleton] at hb; subst hb; exact ht a ha
    · simp only [List.mem_append, List.mem_singleton] at ha
      rcases ha with ha | rfl
      · have := ht a ha; have := hd b hb; omega
      · exact hd b hb
theorem ins_mem (X : List Ent) (p : Nat) (e : Ent) : e ∈ insAt X p e := by simp [insAt]
theorem ins_at {X : List Ent} {key v t : Int} (hv : cvB X = true) (hh : hasK X key = false) (h5 : X.length ≤ 5) (he : enB (key, v, t) = true) :
    (insAt X (posOf X key) (key, v, t))[posOf (insAt X (posOf X key) (key, v, t)) key]? = some (key, v, t) :=
  at_pos (cvB_from (ins_cv hv hh h5 he)).1 (ins_mem _ _ _) rfl
theorem cpL_cv {zs : List Ent} {key value now : Int} (h : cpG zs key value now = true) : cvB (cpL zs key value now) = true := by
  obtain ⟨h1, h2, h3⟩ := cpX_good h
  rw [cpL_ins h]; exact ins_cv h1 h2 h3 (cpG_parts h).2.2
theorem cpL_at {zs : List Ent} {key value now : Int} (h : cpG zs key value now = true) : (cpL zs key value now)[posOf (cpL zs key value now) key]? = some (key, value, now) := by
  obtain ⟨h1, h2, h3⟩ := cpX_good h
  rw [cpL_ins h]; exact ins_at h1 h2 h3 (cpG_parts h).2.2
theorem cpL_hasK {zs : List Ent} {key value now : Int} (h : cpG zs key value now = true) : hasK (cpL zs key value now) key = true := by
  rw [hasK, keyAt, cpL_at h]; simp
theorem cpL_get {zs : List Ent} {key value now : Int} (h : cpG zs key value now = true) (t : Int) : getT (cpL zs key value now) key t = (inB t 0 999 && inB (t - now) 0 10) := by
  rw [getT, getG, usedK, cpL_at h, cpL_cv h, (cpG_parts h).2.1]
  simp [freshB]
theorem cpL_getN {zs : List Ent} {key value now : Int} (h : cpG zs key value now = true) (t : Int) (ht : getT (cpL zs key value now) key t = true) : getN (cpL zs key value now) key t = value := by
  rw [getN, if_pos ht, cpL_at h]
/-- Another value of the same key. -/
theorem cpL_again {zs : List Ent} {key value now v t : Int} (h : cpG zs key value now = true) (hg : cpG (cpL zs key value now) key v t = true) : cpL (cpL zs key value now) key v t = (cpL zs key value now).set (posOf (cpL zs key value now) key) (key, v, t) := cp_has hg (cpL_hasK h)
theorem cpG_again {zs : List Ent} {key value now : Int} (h : cpG zs key value now = true) (v t : Int) (hv : inB v 0 99 = true) (ht : inB t 0 999 = true) : cpG (cpL zs key value now) key v t = true := by
  rw [cpG, cpL_cv h, (cpG_parts h).2.1, hv, ht]; rfl
theorem cpL_twice {zs : List Ent} {key value now : Int} (h : cpG zs key value now = true) : cpG (cpL zs key value now) key value now = true ∧ cpL (cpL zs key value now) key value now = cpL zs key value now := by
  have h' := h
  simp only [cpG, Bool.and_eq_true] at h'
  have hg := cpG_again h value now h'.1.2 h'.2
  refine ⟨hg, ?_⟩
  rw [cpL_again h hg]
  have ha := cpL_at h
  obtain ⟨hp, he⟩ := List.getElem?_eq_some_iff.1 ha
  apply List.ext_getElem?
  intro i
  rw [List.getElem?_set]
  split
  · rename_i e; subst e; rw [ha]
  · rfl
theorem cpL_size {zs : List Ent} {key value now : Int} (h : cpG zs key value now = true) : (cpL zs key value now).length = if dropT zs key || decide (zs.length = 6) then zs.length else zs.length + 1 := by
  obtain ⟨hv, hk, he⟩ := cpG_parts h
  have hG : dropG zs key = true := by simp [dropG, hv, hk]
  cases hh : hasK zs key with
  | true => rw [cp_has h hh, (drop_has hG hh).2]; simp
  | false =>
    rw [(drop_hasnot hG hh).2, Bool.false_or]
    by_cases h6 : zs.length = 6
    · rw [cp_full h hh h6 rfl]
      obtain ⟨hr, hh2, -⟩ := oldK hv h6 (key := (zE (initL zs) 0).1) rfl
      obtain ⟨hp, -⟩ := hasK_at hh2
      rw [insAt_len _ (posOf_le _ _), cutAt_len hp, h6]; rfl
    · rw [cp_room h hh h6, insAt_len _ (posOf_le _ _)]; simp [h6]
/-- Which entries are kept. -/
def keptB (zs out : List Ent) (key : Int) (i : Nat) : Bool := ((zE zs i).1 == key) || out.any (fun e => decide (e = zE zs i))
def lostTo (zs out : List Ent) (key : Int) : Nat → Nat
  | 0 => 0
  | j + 1 => if keptB zs out key j then lostTo zs out key j else lostTo zs out key j + 1
theorem lost_none {zs out : List Ent} {key : Int} (h : ∀ i, i < zs.length → keptB zs out key i = true) : ∀ j, j ≤ zs.length → lostTo zs out key j = 0
  | 0, _ => rfl
  | j + 1, hj => by rw [lostTo, if_pos (h j (by omega))]; exact lost_none h j (by omega)
theorem lost_one {zs out : List Ent} {key : Int} {p : Nat} (h : ∀ i, i < zs.length → i ≠ p → keptB zs out key i = true) : ∀ j, j ≤ zs.length → lostTo zs out key j ≤ 1 ∧ (j ≤ p → lostTo zs out key j = 0)
  | 0, _ => ⟨by simp [lostTo], fun _ => rfl⟩
  | j + 1, hj => by
    obtain ⟨h1, h2⟩ := lost_one h j (by omega)
    by_cases hjp : j = p
    · refine ⟨?_, fun h => by omega⟩
      rw [lostTo]; have := h2 (by omega); split <;> omega
    · rw [lostTo, if_pos (h j (by omega) hjp)]
      exact ⟨h1, fun hh => h2 (by omega)⟩
theorem any_of_mem {out : List Ent} {e : Ent} (h : e ∈ out) : out.any (fun x => decide (x = e)) = true := by
  rw [List.any_eq_true]; exact ⟨e, h, by simp⟩
theorem cut_mem {zs : List Ent} {i p : Nat} (hi : i < zs.length) (h : i ≠ p) : zs[i] ∈ cutAt zs p := by
  unfold cutAt
  rw [List.mem_append]
  by_cases hlt : i < p
  · exact .inl (List.mem_take_iff_getElem.2 ⟨i, by omega, rfl⟩)
  · refine .inr (List.mem_drop_iff_getElem.2 ⟨i - (p + 1), by omega, ?_⟩)
    congr 1; omega
theorem ins_sub {X : List Ent} {p : Nat} {e x : Ent} (h : x ∈ X) : x ∈ insAt X p e := by
  unfold insAt
  rw [← List.take_append_drop p X, List.mem_append] at h
  simp only [List.mem_append, List.mem_singleton]
  rcases h with h | h
  · exact .inl (.inl h)
  · exact .inr h
/-- At most the eldest is lost, and only of a full cache. -/
theorem cpL_others {zs : List Ent} {key value now : Int} (h : cpG zs key value now = true) :
    (∀ i, i < zs.length → keptB zs (cpL zs key value now) key i = false → ∀ k, k < zs.length → (zE zs i).2.2 ≤ (zE zs k).2.2) ∧
    (lostTo zs (cpL zs key value now) key zs.length = 0 ∨ (lostTo zs (cpL zs key value now) key zs.length = 1 ∧ zs.length = 6)) := by
  obtain ⟨hv, hk, he⟩ := cpG_parts h
  cases hh : hasK zs key with
  | true =>
    obtain ⟨hp, hpk⟩ := hasK_at hh
    have hall : ∀ i, i < zs.length → keptB zs (cpL zs key value now) key i = true := by
      intro i hi
      rw [keptB, zE_get hi]
      by_cases hip : i = posOf zs key
      · subst hip; simp [hpk]
      · rw [cp_has h hh]
        have hm : zs[i] ∈ zs.set (posOf zs key) (key, value, now) := by
          rw [List.mem_iff_getElem]
          exact ⟨i, by simpa using hi, by rw [List.getElem_set, if_neg (Ne.symm hip)]⟩
        rw [any_of_mem hm, Bool.or_true]
    exact ⟨fun i hi hf => (by rw [hall i hi] at hf; cases hf), .inl (lost_none hall _ (Nat.le_refl _))⟩
  | false =>
    by_cases h6 : zs.length = 6
    · obtain ⟨hr, hh2, hke⟩ := oldK hv h6 (key := (zE (initL zs) 0).1) rfl
      obtain ⟨hp, hpk⟩ := hasK_at hh2
      obtain ⟨ho, -⟩ := root_old hv h6
      have hpo : posOf zs (zE (initL zs) 0).1 = oldI zs := by
        by_cases hne : posOf zs (zE (initL zs) 0).1 = oldI zs
        · exact hne
        · exfalso
          have hgd : zs.getD (oldI zs) (0, 0, 0) = zs[oldI zs] := by simp [List.getD, show oldI zs < zs.length by omega]
          rw [hgd] at hke
          have hs := (cv_sorted zs (-1) (cvB_from hv).1).2
          rcases Nat.lt_or_gt_of_ne hne with hlt | hlt
          · have := List.pairwise_iff_getElem.1 hs _ _ hp (by omega) hlt; omega
          · have := List.pairwise_iff_getElem.1 hs _ _ (by omega) hp hlt; omega
      have hall : ∀ i, i < zs.length → i ≠ oldI zs → keptB zs (cpL zs key value now) key i = true := by
        intro i hi hip
        rw [keptB, zE_get hi, cp_full h hh h6 rfl]
        rw [any_of_mem (ins_sub (cut_mem hi (by rw [hpo]; exact hip))), Bool.or_true]
      refine ⟨fun i hi hf k hk' => ?_, ?_⟩
      · by_cases hip : i = oldI zs
        · subst hip; exact (oldTo_le zs zs.length).1 k hk'
        · rw [hall i hi hip] at hf; cases hf
      · have := (lost_one hall zs.length (Nat.le_refl _)).1
        omega
    · have hall : ∀ i, i < zs.length → keptB zs (cpL zs key value now) key i = true := by
        intro i hi
        rw [keptB, zE_get hi, cp_room h hh h6, any_of_mem (ins_sub (List.getElem_mem hi)), Bool.or_true]
      exact ⟨fun i hi hf => (by rw [hall i hi] at hf; cases hf), .inl (lost_none hall _ (Nat.le_refl _))⟩
end Go.Proofs.Ytcahemedlmagdaa
