/- Rings in plain words: the ideal ring is a fixed point; safe rings; joining and failing. No program in sight. -/
import Derived.Test.YthgekfiodedelaaRgPlain
namespace Go.Proofs.Ythgekfiodedelaa
set_option linter.unusedVariables false
set_option linter.unusedSimpArgs false

theorem ideal_ids (I : List Int) : idsL (idealS I) = I := by
  apply List.ext_getElem
  · simp [idsL, idealS]
  · intro i h1 h2
    simp [idsL, idealS, List.getD_eq_getElem?_getD, h2]
/-- A good ring that is ideal stays as it is. -/
theorem ideal_stab {I : List Int} {p q r : Int} (h : Good I p q r (idealS I)) {k : Nat} (hk : k < I.length) : stabS (idealS I) k = idealS I := by
  have hlen : (idealS I).length = I.length := ideal_len I
  have hk' : k < (idealS I).length := by omega
  have hgm : ∀ j, j < I.length → I.getD j 0 ∈ I := fun j hj => by
    rw [List.getD_eq_getElem?_getD, List.getElem?_eq_getElem hj]; exact List.getElem_mem hj
  have hmod : ∀ j, j % I.length < I.length := fun j => Nat.mod_lt _ (by omega)
  have hl : (nth (idealS I) k).a0 ∈ I := by rw [nth_ideal I k hk]; exact hgm _ (hmod _)
  have hid : ∀ j, j < I.length → (nth (idealS I) j).id = I.getD j 0 := fun j hj => by rw [nth_ideal I j hj]
  have hn : nextOf (idealS I) k = (k + 1) % I.length := by
    unfold nextOf
    have e : (nth (idealS I) k).a0 = (nth (idealS I) ((k + 1) % I.length)).id := by rw [hid _ (hmod _), nth_ideal I k hk]
    rw [e]
    exact fnd_nth (by rw [h.ids]; exact h.asc) (by rw [hlen]; exact hmod _)
  have ha : adoptS (idealS I) k = idealS I := by
    rw [adopt_eq h hk' hl, hn]
    refine nth_ext (by simp) (fun i hi => ?_)
    rw [nth_set _ _ _ _ hk']
    split
    · rename_i e; subst e
      have e2 : (nth (idealS I) ((i + 1) % I.length)).a0 = (nth (idealS I) i).a1 := by
        rw [nth_ideal I i hk, nth_ideal I _ (hmod _)]
        show I.getD (((i + 1) % I.length + 1) % I.length) 0 = I.getD ((i + 2) % I.length) 0
        rw [Nat.mod_add_mod]
      rw [e2]
    · rfl
  have hbf : (nth (idealS I) (nextOf (idealS I) k)).bf = (nth (idealS I) k).id := by
    rw [hn, hid k hk, nth_ideal I _ (hmod _)]
    show I.getD (((k + 1) % I.length + I.length - 1) % I.length) 0 = I.getD k 0
    congr 1
    have h1 := hmod (k + 1)
    rw [show (k + 1) % I.length + I.length - 1 = (k + 1) % I.length + (I.length - 1) by omega, Nat.mod_add_mod, show k + 1 + (I.length - 1) = k + I.length by omega, Nat.add_mod_right]
    exact Nat.mod_eq_of_lt hk
  have hself : ∀ a b : Int, btw a a b = false := fun a b => by rw [btw_not]; omega
  unfold stabS
  rw [nth_drop hk' h hl, ha]
  have h3 : stab3 (idealS I) k = idealS I := by
    unfold stab3 closerS closerG
    rw [hbf, hself, Bool.and_false]
    simp
  rw [h3]
  unfold stab4 notifyS notifyG
  rw [hbf, hself]
  have hi0 := h.idr hk'
  have hlv : liveR (idealS I) (nth (idealS I) k).id = true := by rw [live_iff, h.ids, hid k hk]; exact hgm k hk
  have : decide (0 ≤ (nth (idealS I) k).id) = true := decide_eq_true hi0.1
  rw [this, hlv]
  simp
theorem ideal_rounds {I : List Int} {p q r : Int} (h : Good I p q r (idealS I)) : ∀ j, j ≤ I.length → rounds (idealS I) j = idealS I
  | 0, _ => rfl
  | j + 1, hj => by rw [rounds, ideal_rounds h j (by omega), ideal_stab h (by omega)]
theorem ideal_round {I : List Int} {p q r : Int} (h : Good I p q r (idealS I)) : roundS (idealS I) = idealS I := ideal_rounds h _ (by rw [ideal_len]; exact Nat.le_refl _)
theorem turns_fix {R : List Nd} (h : roundS R = R) : ∀ t, turns R t = R
  | 0 => rfl
  | t + 1 => by rw [turns, turns_fix h t, h]
/-- A good ring that a round does not turn is ideal. -/
theorem fix_ideal {I : List Int} {p q r : Int} {R : List Nd} (h : Good I p q r R) (h10 : I.length ≤ 10) (hf : roundS R = R) : R = idealS I := by
  obtain ⟨t, -, ht⟩ := conv h h10
  rw [turns_fix hf] at ht; exact ht
theorem turns_add (R : List Nd) (s : Nat) : ∀ t, turns R (s + t) = turns (turns R s) t
  | 0 => rfl
  | t + 1 => by show roundS (turns R (s + t)) = roundS (turns (turns R s) t); rw [turns_add R s t]
/-- From the 212th round on the ring is ideal. -/
theorem conv_all {I : List Int} {p q r : Int} {R : List Nd} (h : Good I p q r R) (h10 : I.length ≤ 10) (t : Nat) (ht : 212 ≤ t) : turns R t = idealS I := by
  obtain ⟨s, hs, he⟩ := conv h h10
  have hg := h.turns s
  rw [he] at hg
  obtain ⟨d, rfl⟩ : ∃ d, t = s + d := ⟨t - s, by omega⟩
  rw [turns_add, he, turns_fix (ideal_round hg)]

/-- A node in range. -/
structure NdV (n : Nd) : Prop where
  i0 : 0 ≤ n.id ∧ n.id < 64
  b0 : n.bf = -1 ∨ (0 ≤ n.bf ∧ n.bf < 64)
  r0 : 0 ≤ n.a0 ∧ n.a0 < 64
  r1 : 0 ≤ n.a1 ∧ n.a1 < 64
structure ValidL (R : List Nd) : Prop where
  asc : (idsL R).Pairwise (· < ·)
  ok : ∀ n ∈ R, NdV n
  len : R.length ≤ 10
theorem ValidL.ascI {R : List Nd} (h : ValidL R) : Asc (idsL R) := ⟨h.asc, fun x hx => by
  obtain ⟨n, hn, rfl⟩ := List.mem_map.1 hx; exact (h.ok n hn).i0⟩
theorem nth_mem {R : List Nd} {k : Nat} (hk : k < R.length) : nth R k ∈ R := by
  unfold nth; rw [List.getD_eq_getElem?_getD, List.getElem?_eq_getElem hk]; exact List.getElem_mem hk
theorem mem_nth {R : List Nd} {n : Nd} (h : n ∈ R) : ∃ k, k < R.length ∧ nth R k = n := by
  obtain ⟨k, hk, rfl⟩ := List.getElem_of_mem h
  exact ⟨k, hk, by unfold nth; rw [List.getD_eq_getElem?_getD, List.getElem?_eq_getElem hk]; rfl⟩
theorem mem_princ {R : List Nd} {x : Int} : x ∈ princ R ↔ x ∈ idsL R ∧ ∀ n ∈ R, skips n x = false := by
  unfold princ prcB
  rw [List.mem_filter]
  simp
theorem princ_sorted {R : List Nd} (h : (idsL R).Pairwise (· < ·)) : (princ R).Pairwise (· < ·) := h.filter _
/-- A valid safe ring has three positions that no node skips. -/
theorem good_of {R : List Nd} (hv : ValidL R) (hs : safeL R = true) : ∃ p q r, Good (idsL R) p q r R := by
  simp only [safeL, Bool.and_eq_true, decide_eq_true_eq, List.all_eq_true, Bool.or_eq_true] at hs
  obtain ⟨h1, h2⟩ := hs
  have hp := List.pairwise_iff_getElem.1 (princ_sorted hv.asc)
  refine ⟨(princ R)[0], (princ R)[1], (princ R)[2], rfl, hv.ascI, ?_, ?_, ?_, hp 0 1 (by omega) (by omega) (by omega), hp 1 2 (by omega) (by omega) (by omega), fun k hk => ?_⟩
  · exact (mem_princ.1 (List.getElem_mem _)).1
  · exact (mem_princ.1 (List.getElem_mem _)).1
  · exact (mem_princ.1 (List.getElem_mem _)).1
  · have hm := nth_mem hk
    have v := hv.ok _ hm
    refine ⟨v.r0, v.r1, v.b0, (mem_princ.1 (List.getElem_mem _)).2 _ hm, (mem_princ.1 (List.getElem_mem _)).2 _ hm, (mem_princ.1 (List.getElem_mem _)).2 _ hm, ?_⟩
    have := h1 _ hm
    rw [live_iff, live_iff] at this
    exact this
theorem Good.valid {I : List Int} {p q r : Int} {R : List Nd} (h : Good I p q r R) (h10 : R.length ≤ 10) : ValidL R := by
  refine ⟨by rw [h.ids]; exact h.asc.1, fun n hn => ?_, h10⟩
  obtain ⟨k, hk, rfl⟩ := mem_nth hn
  have o := h.ok k hk
  exact ⟨h.idr hk, o.rb, o.r0, o.r1⟩
theorem Good.safe {I : List Int} {p q r : Int} {R : List Nd} (h : Good I p q r R) : safeL R = true := by
  simp only [safeL, Bool.and_eq_true, decide_eq_true_eq, List.all_eq_true, Bool.or_eq_true]
  refine ⟨fun n hn => ?_, ?_⟩
  · obtain ⟨k, hk, rfl⟩ := mem_nth hn
    rw [live_iff, live_iff, h.ids]
    exact (h.ok k hk).lv
  · have hs : ∀ x, x ∈ I → (∀ k, k < R.length → skips (nth R k) x = false) → x ∈ princ R := fun x hx hsk => mem_princ.2 ⟨by rw [h.ids]; exact hx, fun n hn => by
      obtain ⟨k, hk, rfl⟩ := mem_nth hn; exact hsk k hk⟩
    have h1 := hs p h.hp (fun k hk => (h.ok k hk).sp)
    have h2 := hs q h.hq (fun k hk => (h.ok k hk).sq)
    have h3 := hs r h.hr (fun k hk => (h.ok k hk).sr)
    have hn : ([p, q, r] : List Int).Nodup := by
      have := h.pq; have := h.qr
      simp; omega
    have := List.Nodup.length_le_of_subset hn (l₂ := princ R) (fun y hy => by
      simp at hy; rcases hy with rfl | rfl | rfl <;> assumption)
    simpa using this
end Go.Proofs.Ythgekfiodedelaa
