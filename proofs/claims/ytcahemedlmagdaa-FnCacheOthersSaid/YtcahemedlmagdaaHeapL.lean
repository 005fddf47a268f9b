/- A heap of six entries, and what CachePut makes, case by case. No program in sight. -/
import Derived.Test.YtcahemedlmagdaaCput
import Derived.Test.YtcahemedlmagdaaIns0
namespace Go.Proofs.Ytcahemedlmagdaa
open Go.RowKit
set_option linter.unusedVariables false
set_option linter.unusedSimpArgs false

/-- Does x go ahead of y? -/
def lessE (x y : Ent) : Bool := decide (x.2.2 < y.2.2) || (decide (x.2.2 = y.2.2) && decide (x.1 < y.1))
/-- Two places exchanged. -/
def swapL (zs : List Ent) (i j : Nat) : List Ent := (zs.set i (zs.getD j (0, 0, 0))).set j (zs.getD i (0, 0, 0))
theorem swapL_len (zs : List Ent) (i j : Nat) : (swapL zs i j).length = zs.length := by simp [swapL]
def zE (zs : List Ent) (i : Nat) : Ent := zs.getD i (0, 0, 0)
theorem swapL_at (zs : List Ent) (i j k : Nat) (hi : i < zs.length) (hj : j < zs.length) (hij : i ≠ j) : zE (swapL zs i j) k = if k = i then zE zs j else if k = j then zE zs i else zE zs k := by
  unfold zE swapL
  simp only [List.getD_eq_getElem?_getD, List.getElem?_set, List.length_set]
  by_cases h1 : k = i
  · subst h1; simp [Ne.symm hij, hi]
  · by_cases h2 : k = j
    · subst h2; simp [h1, hj]
    · simp [h1, h2, Ne.symm h1, Ne.symm h2]
/-- The child of i that goes ahead. -/
def kidL (n : Nat) (zs : List Ent) (i : Nat) : Nat := if decide (2 * i + 2 < n) && lessE (zE zs (2 * i + 2)) (zE zs (2 * i + 1)) then 2 * i + 2 else 2 * i + 1
def downL (n : Nat) : Nat → Nat → List Ent → List Ent
  | 0, _, zs => zs
  | fuel + 1, i, zs => if decide (2 * i + 1 < n) && lessE (zE zs (kidL n zs i)) (zE zs i) then downL n fuel (kidL n zs i) (swapL zs i (kidL n zs i)) else zs
theorem kidL_lt {n i : Nat} {zs : List Ent} (h : 2 * i + 1 < n) : kidL n zs i < n := by
  unfold kidL; split
  · rename_i h1; simp at h1; omega
  · exact h
theorem kidL_gt (n i : Nat) (zs : List Ent) : i < kidL n zs i := by unfold kidL; split <;> omega
theorem kidL_ge (n i : Nat) (zs : List Ent) : 2 * i + 1 ≤ kidL n zs i := by unfold kidL; split <;> omega
theorem downL_len (n : Nat) : ∀ (fuel i : Nat) (zs : List Ent), (downL n fuel i zs).length = zs.length
  | 0, _, _ => rfl
  | fuel + 1, i, zs => by
    unfold downL; split
    · rw [downL_len n fuel, swapL_len]
    · rfl
/-- Places that lie ahead of i, and those from n on, stay. -/
theorem downL_stay (n : Nat) : ∀ (fuel i : Nat) (zs : List Ent) (k : Nat), n ≤ zs.length → (k < i ∨ n ≤ k) → zE (downL n fuel i zs) k = zE zs k
  | 0, _, _, _, _, _ => rfl
  | fuel + 1, i, zs, k, hn, hk => by
    unfold downL; split
    · rename_i h1
      simp only [Bool.and_eq_true, decide_eq_true_eq] at h1
      have h2 := kidL_lt (zs := zs) h1.1
      have h3 := kidL_gt n i zs
      rw [downL_stay n fuel _ _ k (by rw [swapL_len]; exact hn) (by omega), swapL_at _ _ _ _ (by omega) (by omega) (by omega), if_neg (by omega), if_neg (by omega)]
    · rfl
/-- What the root holds behind it. -/
theorem downL_root (n fuel i : Nat) (zs : List Ent) (hn : n ≤ zs.length) : zE (downL n (fuel + 1) i zs) i = if decide (2 * i + 1 < n) && lessE (zE zs (kidL n zs i)) (zE zs i) then zE zs (kidL n zs i) else zE zs i := by
  unfold downL; split
  · rename_i h1
    simp only [Bool.and_eq_true, decide_eq_true_eq] at h1
    have h2 := kidL_lt (zs := zs) h1.1
    have h3 := kidL_gt n i zs
    rw [downL_stay n fuel _ _ i (by rw [swapL_len]; exact hn) (by omega), swapL_at _ _ _ _ (by omega) (by omega) (by omega), if_pos rfl]
  · rfl
theorem downL_other (n fuel i : Nat) (zs : List Ent) (k : Nat) (hn : n ≤ zs.length) (hk : k < 2 * i + 1) (hki : k ≠ i) : zE (downL n (fuel + 1) i zs) k = zE zs k := by
  unfold downL; split
  · rename_i h1
    simp only [Bool.and_eq_true, decide_eq_true_eq] at h1
    have h2 := kidL_lt (zs := zs) h1.1
    have h3 := kidL_ge n i zs
    rw [downL_stay n fuel _ _ k (by rw [swapL_len]; exact hn) (by omega), swapL_at _ _ _ _ (by omega) (by omega) (by omega), if_neg (by omega), if_neg (by omega)]
  · rfl
/-- Six places made a heap. -/
def initL (zs : List Ent) : List Ent := downL 6 6 0 (downL 6 6 1 (downL 6 6 2 zs))
theorem initL_len (zs : List Ent) : (initL zs).length = zs.length := by simp [initL, downL_len]
def rank (e : Ent) : Int := 64 * e.2.2 + e.1
def goodE (e : Ent) : Prop := 0 ≤ e.1 ∧ e.1 ≤ 63
theorem lessE_rank {x y : Ent} (hx : goodE x) (hy : goodE y) : lessE x y = decide (rank x < rank y) := by
  unfold goodE at *; unfold lessE rank
  rw [Bool.eq_iff_iff]
  simp only [Bool.or_eq_true, Bool.and_eq_true, decide_eq_true_eq]
  omega
theorem minE {x y : Ent} (hx : goodE x) (hy : goodE y) : ∃ m, (if lessE x y then x else y) = m ∧ goodE m ∧ rank m ≤ rank x ∧ rank m ≤ rank y ∧ (m = x ∨ m = y) := by
  rw [lessE_rank hx hy]
  by_cases h : rank x < rank y
  · exact ⟨x, by simp [h], hx, Int.le_refl _, by omega, .inl rfl⟩
  · exact ⟨y, by simp [h], hy, by omega, Int.le_refl _, .inr rfl⟩
theorem kid_two {n i : Nat} {zs : List Ent} (h : 2 * i + 2 < n) : zE zs (kidL n zs i) = if lessE (zE zs (2 * i + 2)) (zE zs (2 * i + 1)) then zE zs (2 * i + 2) else zE zs (2 * i + 1) := by
  unfold kidL; simp only [h, decide_true, Bool.true_and]; split <;> rfl
theorem kid_one {n i : Nat} {zs : List Ent} (h : ¬ 2 * i + 2 < n) : zE zs (kidL n zs i) = zE zs (2 * i + 1) := by
  unfold kidL; simp only [h, decide_false, Bool.false_and]; rfl
/-- The root of six places made a heap is the smallest of them. -/
theorem initL_min (zs : List Ent) (hl : zs.length = 6) (hg : ∀ i, i < 6 → goodE (zE zs i)) : ∃ p, p < 6 ∧ zE (initL zs) 0 = zE zs p ∧ ∀ i, i < 6 → rank (zE (initL zs) 0) ≤ rank (zE zs i) := by
  obtain ⟨z2, e2⟩ : ∃ z, z = downL 6 6 2 zs := ⟨_, rfl⟩
  obtain ⟨z1, e1⟩ : ∃ z, z = downL 6 6 1 z2 := ⟨_, rfl⟩
  have l2 : z2.length = 6 := by rw [e2, downL_len]; exact hl
  have l1 : z1.length = 6 := by rw [e1, downL_len]; exact l2
  have r0 := downL_root 6 5 0 z1 (by omega)
  rw [show downL 6 (5 + 1) 0 z1 = initL zs by rw [e1, e2]; rfl] at r0
  rw [kid_two (by omega)] at r0
  have r1 := downL_root 6 5 1 z2 (by omega)
  rw [kid_two (by omega), ← e1] at r1
  have r2 := downL_root 6 5 2 zs (by omega)
  rw [kid_one (by omega), ← e2] at r2
  have k10 : zE z1 0 = zE z2 0 := by rw [e1]; exact downL_other 6 5 1 z2 0 (by omega) (by omega) (by omega)
  have k12 : zE z1 2 = zE z2 2 := by rw [e1]; exact downL_other 6 5 1 z2 2 (by omega) (by omega) (by omega)
  have k20 : zE z2 0 = zE zs 0 := by rw [e2]; exact downL_other 6 5 2 zs 0 (by omega) (by omega) (by omega)
  have k21 : zE z2 1 = zE zs 1 := by rw [e2]; exact downL_other 6 5 2 zs 1 (by omega) (by omega) (by omega)
  have k23 : zE z2 3 = zE zs 3 := by rw [e2]; exact downL_other 6 5 2 zs 3 (by omega) (by omega) (by omega)
  have k24 : zE z2 4 = zE zs 4 := by rw [e2]; exact downL_other 6 5 2 zs 4 (by omega) (by omega) (by omega)
  simp only [Nat.reduceMul, Nat.reduceAdd, Nat.reduceLT, decide_true, Bool.true_and] at r0 r1 r2
  rw [k20] at k10
  rw [k21, k23, k24] at r1
  obtain ⟨c, hc, gc, c5, c2, hc'⟩ := minE (hg 5 (by omega)) (hg 2 (by omega))
  rw [hc] at r2
  obtain ⟨d, hd, gd, d4, d3, hd'⟩ := minE (hg 4 (by omega)) (hg 3 (by omega))
  rw [hd] at r1
  obtain ⟨b, hb, gb, bd, b1, hb'⟩ := minE gd (hg 1 (by omega))
  rw [hb] at r1
  rw [k12, r2, r1, k10] at r0
  obtain ⟨m, hm, gm, mc, mb, hm'⟩ := minE gc gb
  rw [hm] at r0
  obtain ⟨o, ho, go, om, o0, ho'⟩ := minE gm (hg 0 (by omega))
  rw [ho] at r0
  rw [r0]
  refine ⟨if o = zE zs 0 then 0 else if o = zE zs 1 then 1 else if o = zE zs 2 then 2 else if o = zE zs 3 then 3 else if o = zE zs 4 then 4 else 5, ?_, ?_, ?_⟩
  · repeat' split
    all_goals omega
  · split; · assumption
    split; · assumption
    split; · assumption
    split; · assumption
    split; · assumption
    rcases ho' with rfl | rfl
    · rcases hm' with rfl | rfl
      · rcases hc' with rfl | rfl
        · rfl
        · contradiction
      · rcases hb' with rfl | rfl
        · rcases hd' with rfl | rfl <;> contradiction
        · contradiction
    · contradiction
  · intro i hi
    have : i = 0 ∨ i = 1 ∨ i = 2 ∨ i = 3 ∨ i = 4 ∨ i = 5 := by omega
    rcases this with rfl | rfl | rfl | rfl | rfl | rfl <;> omega
theorem oldTo_le (zs : List Ent) (j : Nat) : (∀ i, i < j → (zE zs (oldTo zs j)).2.2 ≤ (zE zs i).2.2) ∧ (∀ i, i < oldTo zs j → (zE zs (oldTo zs j)).2.2 < (zE zs i).2.2) ∧ (0 < j → oldTo zs j < j) := by
  induction j with
  | zero => exact ⟨fun i h => absurd h (by omega), fun i h => absurd h (by simp [oldTo]), fun h => absurd h (by omega)⟩
  | succ j ih =>
    obtain ⟨h1, h2, h3⟩ := ih
    have e : oldTo zs (j + 1) = if (zE zs j).2.2 < (zE zs (oldTo zs j)).2.2 then j else oldTo zs j := rfl
    rw [e]
    split
    · rename_i h
      refine ⟨fun i hi => ?_, fun i hi => ?_, fun _ => by omega⟩
      · by_cases hij : i = j
        · subst hij; exact Int.le_refl _
        · have := h1 i (by omega); omega
      · have := h1 i (by omega); omega
    · rename_i h
      refine ⟨fun i hi => ?_, h2, fun _ => by
        rcases Nat.eq_zero_or_pos j with rfl | hj
        · simp [oldTo]
        · have := h3 hj; omega⟩
      by_cases hij : i = j
      · subst hij; omega
      · exact h1 i (by omega)
/-- The root is the eldest entry, the first of several. -/
theorem initL_old (zs : List Ent) (hl : zs.length = 6) (hg : ∀ i, i < 6 → goodE (zE zs i)) (hs : ∀ i j, i < j → j < 6 → (zE zs i).1 < (zE zs j).1) : oldI zs < 6 ∧ zE (initL zs) 0 = zE zs (oldI zs) := by
  obtain ⟨p, hp, he, hmin⟩ := initL_min zs hl hg
  obtain ⟨h1, h2, h3⟩ := oldTo_le zs zs.length
  have ho : oldI zs < 6 := by have := h3 (by omega); unfold oldI; omega
  refine ⟨ho, ?_⟩
  rw [he]
  rw [he] at hmin
  have hm := hmin (oldI zs) ho
  have hq : p = oldI zs := by
    have gp := hg p hp; have gq := hg _ ho
    have a1 := h1 p (by omega)
    rw [show oldTo zs zs.length = oldI zs from rfl] at *
    unfold rank goodE at *
    by_cases hlt : p < oldI zs
    · have := h2 p hlt; omega
    · by_cases hgt : oldI zs < p
      · have := hs _ _ hgt hp; omega
      · omega
  rw [hq]

theorem cv_sorted : ∀ (zs : List Ent) (p : Int), cvFrom p zs = true → (∀ e ∈ zs, goodE e ∧ p < e.1) ∧ zs.Pairwise (fun x y => x.1 < y.1)
  | [], _, _ => ⟨fun e h => (by cases h), .nil⟩
  | x :: zs, p, h => by
    simp only [cvFrom, Bool.and_eq_true, decide_eq_true_eq] at h
    obtain ⟨⟨h1, h2⟩, h3⟩ := h
    obtain ⟨h4, h5⟩ := cv_sorted zs x.1 h3
    have hx := enB_parts h1
    refine ⟨fun e he => ?_, List.pairwise_cons.2 ⟨fun e he => (h4 e he).2, h5⟩⟩
    rcases List.mem_cons.1 he with rfl | he
    · exact ⟨hx.1, h2⟩
    · have := h4 e he; exact ⟨this.1, by omega⟩
theorem zE_get {zs : List Ent} {i : Nat} (h : i < zs.length) : zE zs i = zs[i] := by simp [zE, h]
/-- The root of a full cache made a heap is its eldest entry. -/
theorem root_old {zs : List Ent} (hv : cvB zs = true) (hl : zs.length = 6) : oldI zs < 6 ∧ zE (initL zs) 0 = zE zs (oldI zs) := by
  obtain ⟨h1, h2⟩ := cv_sorted zs (-1) (cvB_from hv).1
  refine initL_old zs hl (fun i hi => ?_) (fun i j hij hj => ?_)
  · rw [zE_get (by omega)]; exact (h1 _ (List.getElem_mem _)).1
  · rw [zE_get (by omega), zE_get (by omega)]
    exact List.pairwise_iff_getElem.1 h2 i j (by omega) (by omega) hij
theorem hasK_mem {zs : List Ent} (hv : cvFrom (-1) zs = true) {i : Nat} (hi : i < zs.length) : hasK zs zs[i].1 = true := by
  cases h : hasK zs zs[i].1 with
  | true => rfl
  | false => exact absurd rfl (hasK_not hv h i hi)
/-- The place of the eldest entry's key is the eldest's. -/
theorem oldK {zs : List Ent} (hv : cvB zs = true) (hl : zs.length = 6) {key : Int} (hk : key = (zE (initL zs) 0).1) : (0 ≤ key ∧ key ≤ 63) ∧ hasK zs key = true ∧ key = (zs.getD (oldI zs) (0, 0, 0)).1 := by
  obtain ⟨h1, h2⟩ := root_old hv hl
  obtain ⟨h3, -⟩ := cv_sorted zs (-1) (cvB_from hv).1
  rw [h2] at hk
  subst hk
  have e := zE_get (zs := zs) (i := oldI zs) (by omega)
  refine ⟨?_, ?_, rfl⟩
  · rw [e]; exact (h3 _ (List.getElem_mem _)).1
  · rw [e]; exact hasK_mem (cvB_from hv).1 (by omega)

theorem cut_pos {zs : List Ent} {key : Int} (hv : cvB zs = true) (hh : hasK zs key = true) : posOf (cutAt zs (posOf zs key)) key = posOf zs key := by
  obtain ⟨hp, hk⟩ := hasK_at hh
  obtain ⟨-, h2⟩ := cv_sorted zs (-1) (cvB_from hv).1
  have hl := cutAt_len hp
  refine posOf_eq (fun k h hkp => ?_) (fun h => ?_) (by omega)
  · have e : (cutAt zs (posOf zs key))[k] = zs[k] := by
      simp only [cutAt]
      rw [List.getElem_append_left (by simp; omega), List.getElem_take]
    rw [e]; exact posOf_lt hkp
  · have e : (cutAt zs (posOf zs key))[posOf zs key] = zs[posOf zs key + 1]'(by omega) := by
      simp only [cutAt]
      rw [List.getElem_append_right (by simp; omega), List.getElem_drop]
      congr 1; simp; omega
    rw [e]
    have := List.pairwise_iff_getElem.1 h2 (posOf zs key) (posOf zs key + 1) hp (by omega) (by omega)
    omega
/-- A key that the cache has: its entry written over. -/
theorem cp_has {zs : List Ent} {key value now : Int} (hg : cpG zs key value now = true) (hh : hasK zs key = true) : cpL zs key value now = zs.set (posOf zs key) (key, value, now) := by
  rw [cp_good hg]
  simp only [cpG, Bool.and_eq_true] at hg
  obtain ⟨⟨⟨hv, hk⟩, -⟩, -⟩ := hg
  obtain ⟨hp, -⟩ := hasK_at hh
  have h6 := (cvB_from hv).2
  have hd := (drop_has (zs := zs) (key := key) (by simp [dropG, hv, hk]) hh).1
  have hx : cpX zs key = cutAt zs (posOf zs key) := by
    unfold cpX; rw [hd, if_neg (by rw [cutAt_len hp]; omega)]
  rw [hx, cut_pos hv hh, List.set_eq_take_append_cons_drop, if_pos hp]
  have e1 : (cutAt zs (posOf zs key)).take (posOf zs key) = zs.take (posOf zs key) := by
    unfold cutAt; rw [List.take_append_of_le_length (by simp; omega), List.take_take, Nat.min_self]
  have e2 : (cutAt zs (posOf zs key)).drop (posOf zs key) = zs.drop (posOf zs key + 1) := by
    unfold cutAt; rw [List.drop_append_of_le_length (by simp; omega)]; simp
  rw [e1, e2]; simp


/-- A key that the cache lacks, with room. -/
theorem cp_room {zs : List Ent} {key value now : Int} (hg : cpG zs key value now = true) (hh : hasK zs key = false) (hl : zs.length ≠ 6) : cpL zs key value now = insAt zs (posOf zs key) (key, value, now) := by
  rw [cp_good hg]
  simp only [cpG, Bool.and_eq_true] at hg
  obtain ⟨⟨⟨hv, hk⟩, -⟩, -⟩ := hg
  have h6 := (cvB_from hv).2
  have hd := (drop_hasnot (zs := zs) (key := key) (by simp [dropG, hv, hk]) hh).1
  have hx : cpX zs key = zs := by unfold cpX; rw [hd, if_neg (by omega)]
  rw [hx]; rfl
theorem enB_of {zs : List Ent} : ∀ (p : Int), cvFrom p zs = true → ∀ e ∈ zs, enB e = true := by
  induction zs with
  | nil => intro p _ e he; cases he
  | cons x zs ih =>
    intro p h e he
    simp only [cvFrom, Bool.and_eq_true, decide_eq_true_eq] at h
    rcases List.mem_cons.1 he with rfl | he
    · exact h.1.1
    · exact ih _ h.2 e he
theorem cv_of : ∀ {zs : List Ent} (p : Int), (∀ e ∈ zs, enB e = true ∧ p < e.1) → zs.Pairwise (fun x y => x.1 < y.1) → cvFrom p zs = true
  | [], _, _, _ => rfl
  | x :: zs, p, h, hs => by
    simp only [cvFrom, Bool.and_eq_true, decide_eq_true_eq]
    have hp := List.pairwise_cons.1 hs
    exact ⟨⟨(h x (by simp)).1, (h x (by simp)).2⟩, cv_of x.1 (fun e he => ⟨(h e (by simp [he])).1, hp.1 e he⟩) hp.2⟩
theorem cv_cut {zs : List Ent} (hv : cvB zs = true) (i : Nat) : cvB (cutAt zs i) = true := by
  obtain ⟨h1, h2⟩ := cvB_from hv
  obtain ⟨h3, h4⟩ := cv_sorted zs (-1) h1
  have hs : (cutAt zs i).Sublist zs := by
    unfold cutAt
    have e := List.take_append_drop i zs
    have h : (zs.take i ++ zs.drop (i + 1)).Sublist (zs.take i ++ zs.drop i) := List.Sublist.append (List.Sublist.refl _) (List.drop_sublist_drop_left zs (by omega))
    rwa [e] at h
  simp only [cvB, Bool.and_eq_true, decide_eq_true_eq]
  exact ⟨cv_of _ (fun e he => ⟨enB_of _ h1 e (hs.subset he), (h3 e (hs.subset he)).2⟩) (h4.sublist hs), by have := hs.length_le; omega⟩
/-- A key that the cache lacks, the cache full. -/
theorem cp_full {zs : List Ent} {key value now k2 : Int} (hg : cpG zs key value now = true) (hh : hasK zs key = false) (hl : zs.length = 6) (hk2 : k2 = (zE (initL zs) 0).1) : cpL zs key value now = insAt (cutAt zs (posOf zs k2)) (posOf (cutAt zs (posOf zs k2)) key) (key, value, now) := by
  rw [cp_good hg]
  simp only [cpG, Bool.and_eq_true] at hg
  obtain ⟨⟨⟨hv, hk⟩, -⟩, -⟩ := hg
  obtain ⟨hr, hh2, he⟩ := oldK hv hl hk2
  have hd := (drop_hasnot (zs := zs) (key := key) (by simp [dropG, hv, hk]) hh).1
  have hpk : ptB k2 = true := by simp [ptB]; omega
  have hd2 := (drop_has (zs := zs) (key := k2) (by simp [dropG, hv, hpk]) hh2).1
  have hx : cpX zs key = cutAt zs (posOf zs k2) := by unfold cpX; rw [hd, if_pos (by omega), ← he, hd2]
  rw [hx]; rfl
end Go.Proofs.Ytcahemedlmagdaa
