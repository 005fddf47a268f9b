/- Rings in plain words: a node joins, a node fails; the way in which the program reckons 'between'. No program in sight. -/
import Derived.Test.YthgekfiodedelaaRgPlain2
namespace Go.Proofs.Ythgekfiodedelaa
set_option linter.unusedVariables false
set_option linter.unusedSimpArgs false

/-- The first place whose position is not below id. -/
def place (R : List Nd) (id : Int) : Nat := (idsL R).findIdx (fun x => decide (id ≤ x))
def joinG (R : List Nd) (id at_ : Int) : Bool := liveR R at_ && !liveR R id && decide (R.length < 10) && btw at_ id (nth R (fnd R at_)).a0
def newNd (R : List Nd) (id at_ : Int) : Nd := ⟨id, at_, (nth R (fnd R at_)).a0, (nth R (fnd R at_)).a1⟩
def insS (R : List Nd) (k : Nat) (n : Nd) : List Nd := R.take k ++ n :: R.drop k
def joinS (R : List Nd) (id at_ : Int) : List Nd := if joinG R id at_ then insS R (place R id) (newNd R id at_) else R
def cutS (R : List Nd) (k : Nat) : List Nd := R.take k ++ R.drop (k + 1)
def failG (R : List Nd) (id : Int) : Bool := liveR R id && safeL (cutS R (fnd R id))
def failS (R : List Nd) (id : Int) : List Nd := if failG R id then cutS R (fnd R id) else R

theorem place_le (R : List Nd) (id : Int) : place R id ≤ R.length := by
  have := List.findIdx_le_length (p := fun x => decide (id ≤ x)) (xs := idsL R)
  simpa [place, idsL] using this
theorem place_lt {R : List Nd} {id : Int} {i : Nat} (h : i < place R id) : (nth R i).id < id := by
  have hl : i < R.length := Nat.lt_of_lt_of_le h (place_le R id)
  have := List.not_of_lt_findIdx (p := fun x => decide (id ≤ x)) (xs := idsL R) h
  rw [ids_get hl] at this
  simp at this; omega
theorem place_ge {R : List Nd} {id : Int} (h : place R id < R.length) : id ≤ (nth R (place R id)).id := by
  have := List.findIdx_getElem (p := fun x => decide (id ≤ x)) (xs := idsL R) (w := by simpa [place, idsL] using h)
  have h2 : (idsL R)[place R id]'(by simpa [idsL] using h) = (nth R (place R id)).id := ids_get h
  have h3 : id ≤ (idsL R)[place R id]'(by simpa [idsL] using h) := by simpa [place] using this
  omega
theorem place_of {R : List Nd} {id : Int} {j : Nat} (hj : j ≤ R.length) (h : ∀ i, i < j → (nth R i).id < id) (h2 : j < R.length → id ≤ (nth R j).id) : place R id = j := by
  rcases Nat.lt_trichotomy (place R id) j with h3 | h3 | h3
  · have h4 := place_ge (R := R) (id := id) (by omega)
    have := h _ h3; omega
  · exact h3
  · have h4 := place_lt h3
    have := h2 (by have := place_le R id; omega); omega

theorem insS_mem {R : List Nd} {k : Nat} {n m : Nd} : m ∈ insS R k n ↔ m = n ∨ m ∈ R := by
  unfold insS
  have h : m ∈ R ↔ m ∈ R.take k ∨ m ∈ R.drop k := by
    conv => lhs; rw [← List.take_append_drop k R]
    exact List.mem_append
  rw [List.mem_append, List.mem_cons, h]
  constructor
  · rintro (h | h | h) <;> simp [h]
  · rintro (h | h | h) <;> simp [h]
theorem insS_ids (R : List Nd) (k : Nat) (n : Nd) : idsL (insS R k n) = (idsL R).take k ++ n.id :: (idsL R).drop k := by
  simp [insS, idsL, List.map_take, List.map_drop]
theorem insS_len (R : List Nd) (k : Nat) (n : Nd) (hk : k ≤ R.length) : (insS R k n).length = R.length + 1 := by simp [insS]; omega
theorem ins_sorted {I : List Int} (h : I.Pairwise (· < ·)) {x : Int} (hx : x ∉ I) {k : Nat} (h1 : ∀ i (hi : i < I.length), i < k → I[i] < x) (h2 : ∀ (hk : k < I.length), x ≤ I[k]) : (I.take k ++ x :: I.drop k).Pairwise (· < ·) := by
  have hp := List.pairwise_iff_getElem.1 h
  have ha : ∀ a ∈ I.take k, a < x := fun a ha => by
    obtain ⟨i, hi, rfl⟩ := List.getElem_of_mem ha
    rw [List.getElem_take]
    have : i < k ∧ i < I.length := by simp at hi; omega
    exact h1 i this.2 this.1
  have hb : ∀ b ∈ I.drop k, x < b := fun b hb => by
    have hm : b ∈ I := List.mem_of_mem_drop hb
    obtain ⟨i, hi, rfl⟩ := List.getElem_of_mem hb
    rw [List.getElem_drop] at hm ⊢
    have hk : k + i < I.length := by simp at hi; omega
    have h3 := h2 (by omega)
    have h4 : x ≠ I[k + i] := fun e => hx (by rw [e]; exact hm)
    by_cases e : i = 0
    · subst e; simp at h4 ⊢; omega
    · have := hp k (k + i) (by omega) hk (by omega); omega
  rw [List.pairwise_append]
  refine ⟨h.sublist (List.take_sublist k I), List.pairwise_cons.2 ⟨hb, h.sublist (List.drop_sublist k I)⟩, fun a ham b hbm => ?_⟩
  rcases List.mem_cons.1 hbm with rfl | hbm
  · exact ha a ham
  · have := ha a ham; have := hb b hbm; omega
theorem insS_sorted {R : List Nd} (h : (idsL R).Pairwise (· < ·)) {n : Nd} (hx : n.id ∉ idsL R) : (idsL (insS R (place R n.id) n)).Pairwise (· < ·) := by
  rw [insS_ids]
  refine ins_sorted h hx (fun i hi hik => ?_) (fun hk => ?_)
  · have hl : i < R.length := by simpa [idsL] using hi
    rw [ids_get hl]; exact place_lt hik
  · have hl : place R n.id < R.length := by simpa [idsL] using hk
    rw [ids_get hl]; exact place_ge hl

theorem join_parts {R : List Nd} {id at_ : Int} (h : joinG R id at_ = true) : at_ ∈ idsL R ∧ id ∉ idsL R ∧ R.length < 10 ∧ btw at_ id (nth R (fnd R at_)).a0 = true := by
  simp only [joinG, Bool.and_eq_true, Bool.not_eq_true', decide_eq_true_eq] at h
  obtain ⟨⟨⟨h1, h2⟩, h3⟩, h4⟩ := h
  refine ⟨(live_iff _ _).1 h1, fun hm => ?_, h3, h4⟩
  rw [(live_iff _ _).2 hm] at h2; cases h2
theorem join_valid {R : List Nd} {id at_ : Int} (hv : ValidL R) (hid : 0 ≤ id ∧ id < 64) (hat : 0 ≤ at_ ∧ at_ < 64) : ValidL (joinS R id at_) := by
  unfold joinS
  cases h : joinG R id at_ with
  | false => exact hv
  | true =>
    obtain ⟨h1, h2, h3, h4⟩ := join_parts h
    have hm := hv.ok _ (nth_mem (fnd_lt h1))
    refine ⟨insS_sorted (n := newNd R id at_) hv.asc h2, fun m hm' => ?_, by simp only [if_true]; rw [insS_len _ _ _ (place_le R id)]; omega⟩
    rcases insS_mem.1 hm' with rfl | hm'
    · exact ⟨hid, .inr hat, hm.r0, hm.r1⟩
    · exact hv.ok m hm'
theorem new_skips {R : List Nd} {id at_ x : Int} (h : joinG R id at_ = true) (hs : skips (nth R (fnd R at_)) x = false) : skips (newNd R id at_) x = false := by
  obtain ⟨h1, h2, h3, h4⟩ := join_parts h
  have e := fnd_id h1
  rw [skips_iff] at hs ⊢
  rw [e] at hs
  refine ⟨?_, hs.2⟩
  have hs1 := hs.1
  show btw id x (nth R (fnd R at_)).a0 = false
  rw [btw_not] at hs1 ⊢
  rw [btw_iff] at h4
  generalize (nth R (fnd R at_)).a0 = y at *
  omega
theorem join_princ {R : List Nd} {id at_ x : Int} (hx : x ∈ princ R) : x ∈ princ (joinS R id at_) := by
  unfold joinS
  cases h : joinG R id at_ with
  | false => exact hx
  | true =>
    obtain ⟨h1, h2, h3, h4⟩ := join_parts h
    obtain ⟨hi, hs⟩ := mem_princ.1 hx
    refine mem_princ.2 ⟨?_, fun m hm => ?_⟩
    · simp only [if_true, insS_ids]
      conv at hi => rw [← List.take_append_drop (place R id) (idsL R)]
      rcases List.mem_append.1 hi with hi | hi
      · exact List.mem_append.2 (.inl hi)
      · exact List.mem_append.2 (.inr (List.mem_cons_of_mem _ hi))
    · rcases insS_mem.1 (by simpa using hm) with rfl | hm
      · exact new_skips h (hs _ (nth_mem (fnd_lt h1)))
      · exact hs m hm
theorem join_ids {R : List Nd} {id at_ x : Int} (hx : x ∈ idsL R) : x ∈ idsL (joinS R id at_) := by
  unfold joinS
  cases h : joinG R id at_ with
  | false => exact hx
  | true =>
    simp only [if_true, insS_ids]
    conv at hx => rw [← List.take_append_drop (place R id) (idsL R)]
    rcases List.mem_append.1 hx with hi | hi
    · exact List.mem_append.2 (.inl hi)
    · exact List.mem_append.2 (.inr (List.mem_cons_of_mem _ hi))
theorem join_safe {R : List Nd} {id at_ : Int} (hv : ValidL R) (hs : safeL R = true) : safeL (joinS R id at_) = true := by
  have hsub : ∀ x, x ∈ princ R → x ∈ princ (joinS R id at_) := fun x hx => join_princ hx
  have hnd : (princ R).Nodup := (princ_sorted hv.asc).imp (fun h => by omega)
  have hlen := List.Nodup.length_le_of_subset hnd hsub
  simp only [safeL, Bool.and_eq_true, decide_eq_true_eq, List.all_eq_true, Bool.or_eq_true, live_iff] at hs ⊢
  refine ⟨fun m hm => ?_, by omega⟩
  have key : ∀ m ∈ R, m.a0 ∈ idsL (joinS R id at_) ∨ m.a1 ∈ idsL (joinS R id at_) := fun m hm => by
    rcases hs.1 m hm with h | h
    · exact .inl (join_ids h)
    · exact .inr (join_ids h)
  cases h : joinG R id at_ with
  | false => exact key m (by simpa [joinS, h] using hm)
  | true =>
    have hm2 : m ∈ insS R (place R id) (newNd R id at_) := by simpa [joinS, h] using hm
    rcases insS_mem.1 hm2 with rfl | hm2
    · exact key (nth R (fnd R at_)) (nth_mem (fnd_lt (join_parts h).1))
    · exact key m hm2
theorem join_keeps {R : List Nd} {id at_ : Int} : (princ R).all (fun x => !liveR (joinS R id at_) x || decide (x ∈ princ (joinS R id at_))) = true := by
  rw [List.all_eq_true]
  intro x hx
  rw [decide_eq_true (join_princ hx)]
  simp

theorem cut_sub (R : List Nd) (k : Nat) : (cutS R k).Sublist R := by
  unfold cutS
  conv => rhs; rw [← List.take_append_drop k R]
  exact (List.Sublist.refl _).append (by rw [← List.drop_drop]; exact List.drop_sublist 1 _)
theorem cut_len {R : List Nd} {k : Nat} (hk : k < R.length) : (cutS R k).length = R.length - 1 := by simp [cutS]; omega
theorem cut_valid {R : List Nd} (hv : ValidL R) (k : Nat) : ValidL (cutS R k) :=
  ⟨hv.asc.sublist ((cut_sub R k).map _), fun n hn => hv.ok n ((cut_sub R k).subset hn), Nat.le_trans (cut_sub R k).length_le hv.len⟩
theorem fail_valid {R : List Nd} (hv : ValidL R) (id : Int) : ValidL (failS R id) := by
  unfold failS; split
  · exact cut_valid hv _
  · exact hv
theorem fail_safe {R : List Nd} (hs : safeL R = true) (id : Int) : safeL (failS R id) = true := by
  unfold failS; split
  · rename_i h; simp only [failG, Bool.and_eq_true] at h; exact h.2
  · exact hs
theorem cut_ids (R : List Nd) (k : Nat) : idsL (cutS R k) = (idsL R).take k ++ (idsL R).drop (k + 1) := by simp [cutS, idsL, List.map_take, List.map_drop]
theorem cut_gone {R : List Nd} (hv : ValidL R) {id : Int} (hid : id ∈ idsL R) : id ∉ idsL (cutS R (fnd R id)) := by
  intro hm
  have hl := fnd_lt hid
  have hl' : fnd R id < (idsL R).length := by simpa [idsL] using hl
  have hp := List.pairwise_iff_getElem.1 hv.asc
  have e : (idsL R)[fnd R id] = id := by rw [ids_get hl, fnd_id hid]
  rw [cut_ids] at hm
  rcases List.mem_append.1 hm with hm | hm
  · obtain ⟨i, hi, hx⟩ := List.getElem_of_mem hm
    rw [List.getElem_take] at hx
    have h2 : i < fnd R id ∧ i < (idsL R).length := by simp at hi; omega
    have := hp i (fnd R id) h2.2 hl' h2.1; omega
  · obtain ⟨i, hi, hx⟩ := List.getElem_of_mem hm
    rw [List.getElem_drop] at hx
    have h2 : fnd R id + 1 + i < (idsL R).length := by simp at hi; omega
    have := hp (fnd R id) (fnd R id + 1 + i) hl' h2 (by omega); omega
/-- Going upward from a to b, in steps. -/
def upI (a b : Int) : Int := (b - a + 64) % 64
theorem btw_up {a x b : Int} (ha : 0 ≤ a ∧ a < 64) (hx : 0 ≤ x ∧ x < 64) (hb : 0 ≤ b ∧ b < 64) : btw a x b = (!(decide (x = a)) && !(decide (x = b)) && (decide (a = b) || decide (upI a x < upI a b))) := by
  unfold upI
  rw [Bool.eq_iff_iff, btw_iff]
  simp only [Bool.and_eq_true, Bool.not_eq_true', decide_eq_false_iff_not, Bool.or_eq_true, decide_eq_true_eq]
  omega
end Go.Proofs.Ythgekfiodedelaa
