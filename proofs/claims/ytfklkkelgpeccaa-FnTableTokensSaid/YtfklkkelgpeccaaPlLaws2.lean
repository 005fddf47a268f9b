/- What the laws of the table lean on; no walk. -/
import Derived.Test.YtfklkkelgpeccaaPlLaws
import Derived.Test.YtfklkkelgpeccaaPtM
namespace Go.Proofs.Ytfklkkelgpeccaa
open Go.RowKit
set_option linter.unusedVariables false
set_option linter.unusedSimpArgs false

theorem asc_pairs : ∀ {zs : List Int} {p : Int}, ascFrom p zs = true → zs.Pairwise (· < ·)
  | [], _, _ => .nil
  | x :: zs, p, h => by
    simp only [ascFrom, Bool.and_eq_true, decide_eq_true_eq] at h
    have hgt : ∀ {zs : List Int} {p : Int}, ascFrom p zs = true → ∀ y ∈ zs, p < y := by
      intro zs
      induction zs with
      | nil => intro p _ y hy; cases hy
      | cons z zs ih =>
        intro p h y hy
        simp only [ascFrom, Bool.and_eq_true, decide_eq_true_eq] at h
        rcases List.mem_cons.1 hy with rfl | hy
        · exact h.1.2
        · have := ih h.2 y hy; omega
    exact List.pairwise_cons.2 ⟨hgt h.2, asc_pairs h.2⟩
/-- The owner of a position in a table that is made of nodes and weights. -/
theorem ownFrom_mem {x m : Int} : ∀ {l : List (Int × Nat)}, ownFrom x l = some m → ∃ k, (m, k) ∈ l ∧ tokP x m k = true
  | [], h => by cases h
  | (n, k) :: l, h => by
    rw [ownFrom] at h
    split at h
    · rename_i ht; cases h; exact ⟨k, by simp, ht⟩
    · obtain ⟨k', h1, h2⟩ := ownFrom_mem h; exact ⟨k', by simp [h1], h2⟩
theorem ownFrom_some {x n : Int} {k : Nat} : ∀ {l : List (Int × Nat)}, (n, k) ∈ l → tokP x n k = true → l.Pairwise (fun a b => a.1 < b.1) → ∃ m, ownFrom x l = some m ∧ m ≤ n
  | [], h, _, _ => by cases h
  | (a, j) :: l, h, ht, hs => by
    rw [ownFrom]
    obtain ⟨h1, h2⟩ := List.pairwise_cons.1 hs
    split
    · refine ⟨a, rfl, ?_⟩
      rcases List.mem_cons.1 h with e | h
      · cases e; omega
      · have := h1 _ h; simp only at this; omega
    · rename_i hn
      rcases List.mem_cons.1 h with e | h
      · cases e; rw [ht] at hn; exact absurd rfl hn
      · exact ownFrom_some h ht h2
theorem pairs_sorted {ns ws : List Int} (h : ns.Pairwise (· < ·)) (hl : ws.length = ns.length) : (pairsL ns ws).Pairwise (fun a b => a.1 < b.1) := by
  rw [List.pairwise_iff_getElem]
  intro i j hi hj hij
  rw [pairs_len hl] at hi hj
  rw [pairs_get hl i hi, pairs_get hl j hj]
  exact List.pairwise_iff_getElem.1 h i j hi hj hij
/-- The table of good nodes and weights, as a list of positions. -/
theorem pt_keys {ns ws : List Int} (h : ptG ns ws = true) : ptL ns ws = (keys64 (fun x => ownFrom x (pairsL ns ws)) 64).map fun x => (x, (ownFrom x (pairsL ns ws)).getD 0) := by
  rw [pt_good h]; exact tabTo_keys _ 64
theorem mem_keys {f : Int → Option Int} {x : Int} : x ∈ keys64 f 64 ↔ (0 ≤ x ∧ x < 64) ∧ (f x).isSome = true := by
  unfold keys64
  rw [List.mem_filter, List.mem_map]
  constructor
  · rintro ⟨⟨i, hi, rfl⟩, h⟩; simp at hi; exact ⟨by omega, h⟩
  · rintro ⟨h1, h2⟩; exact ⟨⟨x.toNat, by simp; omega, by omega⟩, h2⟩
theorem keys_sorted (f : Int → Option Int) (p : Nat) : (keys64 f p).Pairwise (· < ·) := by
  unfold keys64
  exact List.Pairwise.filter _ (List.pairwise_map.2 (List.pairwise_lt_range.imp (fun h => by omega)))
theorem mem_table {ns ws : List Int} (h : ptG ns ws = true) {t : Tok} : t ∈ ptL ns ws ↔ (0 ≤ t.1 ∧ t.1 < 64) ∧ ownFrom t.1 (pairsL ns ws) = some t.2 := by
  rw [pt_keys h, List.mem_map]
  constructor
  · rintro ⟨x, hx, rfl⟩
    obtain ⟨h1, h2⟩ := mem_keys.1 hx
    obtain ⟨c, hc⟩ := Option.isSome_iff_exists.1 h2
    exact ⟨h1, by simp only [hc]; rfl⟩
  · rintro ⟨h1, h2⟩
    exact ⟨t.1, mem_keys.2 ⟨h1, by rw [h2]; rfl⟩, by rw [h2]; rfl⟩
theorem table_sorted (ns ws : List Int) : (ptL ns ws).Pairwise (fun x y => x.1 < y.1) := by
  by_cases h : ptG ns ws = true
  · rw [pt_keys h]
    exact List.pairwise_map.2 ((keys_sorted _ 64).imp (fun h => h))
  · rw [pt_bad (by simpa using h)]; exact .nil
theorem pairs_mem {ns ws : List Int} {a : Int × Nat} (h : a ∈ pairsL ns ws) : a.1 ∈ ns := by
  unfold pairsL at h
  exact (List.of_mem_zip h).1
theorem tokP_zero {n : Int} {k : Nat} (h : 0 < k) : tokP (tok n 0) n k = true := by
  unfold tokP toks
  rw [List.any_eq_true]
  exact ⟨tok n 0, List.mem_map.2 ⟨0, by simpa using h, rfl⟩, by simp⟩
/-- A table of good nodes and weights is valid. -/
theorem table_valid {ns ws : List Int} (h : ptG ns ws = true) : tvB (ptL ns ws) = true := by
  obtain ⟨h1, h2, h3⟩ := ptG_parts h
  obtain ⟨⟨hn1, hn10⟩, hasc⟩ := nodesB_parts h1
  have hmem : ∀ t ∈ ptL ns ws, ptB t.1 = true ∧ ptB t.2 = true ∧ -1 < t.1 := fun t ht => by
    obtain ⟨h4, h5⟩ := (mem_table h).1 ht
    obtain ⟨k, hk, -⟩ := ownFrom_mem h5
    have := asc_pt hasc _ (pairs_mem hk)
    exact ⟨ptB_of ⟨by omega, by omega⟩, ptB_of this, by omega⟩
  have hpos : 0 < (ptL ns ws).length := by
    have hp := pairs_get h2 0 (by omega)
    have hw := h3 _ (List.getElem_mem (show 0 < ws.length by omega))
    have hm : (ns[0], (ws[0]'(by omega)).toNat) ∈ pairsL ns ws := by rw [← hp]; exact List.getElem_mem _
    obtain ⟨m, hm2, -⟩ := ownFrom_some (x := tok ns[0] 0) hm (tokP_zero (by omega)) (pairs_sorted (asc_pairs hasc) h2)
    have := (mem_table h (t := (tok ns[0] 0, m))).2 ⟨tok_range _ _, hm2⟩
    exact List.length_pos_of_mem this
  simp only [tvB, Bool.and_eq_true, decide_eq_true_eq]
  exact ⟨tv_of hmem (table_sorted ns ws), hpos⟩
theorem table_none {ns ws : List Int} (h : (ptL ns ws).length ≠ 0) : ptG ns ws = true := by
  cases hg : ptG ns ws with
  | true => rfl
  | false => rw [pt_bad hg] at h; exact absurd rfl h
/-- The keys from c on, and then those ahead of c. -/
def from64 (c : Nat) : List Int := ((List.range (64 - c)).map fun (i : Nat) => ((c + i : Nat) : Int)) ++ ((List.range c).map fun (i : Nat) => (i : Int))

theorem head_filter (f : Int → Option Int) : ∀ L : List Int, ((L.filter fun x => (f x).isSome).map fun x => ((x, (f x).getD 0) : Tok)).head?.map Prod.snd = L.findSome? f
  | [] => rfl
  | x :: L => by
    rw [List.filter_cons, List.findSome?_cons]
    cases h : f x with
    | none => simpa using head_filter f L
    | some n => simp [h]
theorem find_two {pred : Tok → Bool} : ∀ {A B : List Tok}, (∀ t ∈ A, pred t = false) → (∀ t ∈ B, pred t = true) → (A ++ B).find? pred = B.head?
  | [], [], _, _ => rfl
  | [], b :: B, _, h => by simp [List.find?_cons, h b (by simp)]
  | a :: A, B, h1, h2 => by
    rw [List.cons_append, List.find?_cons, h1 a (by simp)]
    exact find_two (fun t ht => h1 t (by simp [ht])) h2
/-- The node that holds a key: the first token from the key on, round the circle. -/
theorem ownT_gen (f : Int → Option Int) {c : Nat} (hc : c < 64) : ownT ((keys64 f 64).map fun x => ((x, (f x).getD 0) : Tok)) c = ((from64 c).findSome? f).getD 0 := by
  have hr : List.range 64 = List.range c ++ (List.range (64 - c)).map (c + ·) := by
    rw [← List.range_add]; congr 1; omega
  have hz : (keys64 f 64).map (fun x => ((x, (f x).getD 0) : Tok)) =
      ((((List.range c).map fun (i : Nat) => (i : Int)).filter fun x => (f x).isSome).map fun x => ((x, (f x).getD 0) : Tok)) ++
      ((((List.range (64 - c)).map fun (i : Nat) => ((c + i : Nat) : Int)).filter fun x => (f x).isSome).map fun x => ((x, (f x).getD 0) : Tok)) := by
    unfold keys64
    rw [hr, List.map_append, List.filter_append, List.map_append, List.map_map]
    rfl
  have hfa : (from64 c).findSome? f = (((List.range (64 - c)).map fun (i : Nat) => ((c + i : Nat) : Int)).findSome? f).or (((List.range c).map fun (i : Nat) => (i : Int)).findSome? f) := by
    unfold from64; rw [List.findSome?_append]
  rw [hz, hfa, ← head_filter, ← head_filter]
  have hA : ∀ t ∈ ((((List.range c).map fun (i : Nat) => (i : Int)).filter fun x => (f x).isSome).map fun x => ((x, (f x).getD 0) : Tok)), decide ((c : Int) ≤ t.1) = false := fun t ht => by
    obtain ⟨x, hx, rfl⟩ := List.mem_map.1 ht
    obtain ⟨i, hi, rfl⟩ := List.mem_map.1 (List.mem_filter.1 hx).1
    simp at hi; simp; omega
  have hB : ∀ t ∈ ((((List.range (64 - c)).map fun (i : Nat) => ((c + i : Nat) : Int)).filter fun x => (f x).isSome).map fun x => ((x, (f x).getD 0) : Tok)), decide ((c : Int) ≤ t.1) = true := fun t ht => by
    obtain ⟨x, hx, rfl⟩ := List.mem_map.1 ht
    obtain ⟨i, hi, rfl⟩ := List.mem_map.1 (List.mem_filter.1 hx).1
    simp; omega
  generalize ((((List.range c).map fun (i : Nat) => (i : Int)).filter fun x => (f x).isSome).map fun x => ((x, (f x).getD 0) : Tok)) = A at *
  generalize ((((List.range (64 - c)).map fun (i : Nat) => ((c + i : Nat) : Int)).filter fun x => (f x).isSome).map fun x => ((x, (f x).getD 0) : Tok)) = B at *
  unfold ownT
  rw [find_two hA hB]
  cases B with
  | cons b B => rfl
  | nil =>
    cases A with
    | nil => rfl
    | cons a A => rfl
theorem ownT_from {ns ws : List Int} (h : ptG ns ws = true) {c : Nat} (hc : c < 64) : ownT (ptL ns ws) c = ((from64 c).findSome? fun x => ownFrom x (pairsL ns ws)).getD 0 := by
  rw [pt_keys h]
  exact ownT_gen (fun x => ownFrom x (pairsL ns ws)) hc
theorem fs_step {f g : Int → Option Int} {t nk : Int} (h1 : ∀ x, x ≠ t → g x = f x) (h2 : g t = some nk) : ∀ L : List Int, (L.findSome? g = L.findSome? f ∨ L.findSome? g = some nk) ∧ (L.findSome? f = some nk → L.findSome? g = some nk)
  | [] => ⟨.inl rfl, fun h => by cases h⟩
  | x :: L => by
    obtain ⟨h3, h4⟩ := fs_step h1 h2 L
    rw [List.findSome?_cons, List.findSome?_cons]
    by_cases e : x = t
    · subst e; rw [h2]; exact ⟨.inr rfl, fun _ => rfl⟩
    · rw [h1 x e]
      cases h : f x with
      | some n => exact ⟨.inl rfl, fun h5 => h5⟩
      | none => exact ⟨h3, h4⟩
theorem tokP_other {x n : Int} {k : Nat} (h : x ≠ tok n k) : tokP x n (k + 1) = tokP x n k := by
  rw [tokP_succ]; simp [Ne.symm h]
/-- One token more of the node at place k. -/
theorem own_set1 {n : Int} {K : Nat} : ∀ {l : List (Int × Nat)} {k : Nat} (hk : k < l.length), l[k] = (n, K) →
    (∀ x, x ≠ tok n K → ownFrom x (l.set k (n, K + 1)) = ownFrom x l) ∧ (ownFrom (tok n K) (l.set k (n, K + 1)) = ownFrom (tok n K) l ∨ ownFrom (tok n K) (l.set k (n, K + 1)) = some n)
  | [], k, hk, _ => by simp at hk
  | a :: l, 0, _, e => by
    simp only [List.getElem_cons_zero] at e
    subst e
    rw [List.set_cons_zero]
    refine ⟨fun x hx => by rw [ownFrom, ownFrom, tokP_other hx], .inr ?_⟩
    rw [ownFrom, tokP_succ]; simp
  | a :: l, k + 1, hk, e => by
    obtain ⟨h1, h2⟩ := own_set1 (l := l) (k := k) (by simpa using hk) (by simpa using e)
    rw [List.set_cons_succ]
    obtain ⟨b, j⟩ := a
    refine ⟨fun x hx => by rw [ownFrom, ownFrom, h1 x hx], ?_⟩
    rw [ownFrom, ownFrom]
    split
    · exact .inl rfl
    · exact h2
theorem pairs_set {ns ws : List Int} {k : Nat} {w : Int} (hl : ws.length = ns.length) (hk : k < ns.length) : pairsL ns (ws.set k w) = (pairsL ns ws).set k (ns[k], w.toNat) := by
  apply List.ext_getElem
  · simp [pairsL, hl]
  · intro i h1 h2
    have hi : i < ns.length := by rw [pairs_len (by simpa using hl)] at h1; exact h1
    rw [pairs_get (by simpa using hl) i hi, List.getElem_set, List.getElem_set]
    split
    · rename_i e; subst e; rfl
    · rw [pairs_get hl i hi]
/-- More weight attracts keys to one node only. -/
theorem weight_own {ns ws : List Int} {k : Nat} (h : ptG ns ws = true) (hk : k < ns.length) (hw : ∃ h2 : k < ws.length, ws[k] ≤ 4) : ptG ns (ws.set k (ws.getD k 0 + 1)) = true ∧
    ∀ c : Nat, c < 64 → ownT (ptL ns (ws.set k (ws.getD k 0 + 1))) c = ownT (ptL ns ws) c ∨ (ownT (ptL ns (ws.set k (ws.getD k 0 + 1))) c = ns[k] ∧ ownT (ptL ns ws) c ≠ ns[k]) := by
  obtain ⟨h1, h2, h3⟩ := ptG_parts h
  obtain ⟨hkw, hw4⟩ := hw
  have hgd : ws.getD k 0 = ws[k] := by simp [List.getD, hkw]
  rw [hgd]
  have hG : ptG ns (ws.set k (ws[k] + 1)) = true := by
    simp only [ptG, Bool.and_eq_true, decide_eq_true_eq, List.all_eq_true]
    refine ⟨⟨h1, by simpa using h2⟩, fun x hx => ?_⟩
    rcases List.mem_or_eq_of_mem_set hx with hx | rfl
    · exact inB_of (h3 x hx)
    · have := h3 _ (List.getElem_mem hkw); exact inB_of (by omega)
  refine ⟨hG, fun c hc => ?_⟩
  rw [ownT_from hG hc, ownT_from h hc, pairs_set h2 hk]
  have hw1 := h3 _ (List.getElem_mem hkw)
  have hPk : (pairsL ns ws)[k]'(by rw [pairs_len h2]; exact hk) = (ns[k], ws[k].toNat) := pairs_get h2 k hk
  have hK : (ws[k] + 1).toNat = ws[k].toNat + 1 := by omega
  rw [hK]
  obtain ⟨h5, h6⟩ := own_set1 (l := pairsL ns ws) (k := k) (by rw [pairs_len h2]; exact hk) hPk
  rcases h6 with h6 | h6
  · left
    have : (fun x => ownFrom x ((pairsL ns ws).set k (ns[k], ws[k].toNat + 1))) = fun x => ownFrom x (pairsL ns ws) := by
      funext x
      by_cases e : x = tok ns[k] ws[k].toNat
      · rw [e]; exact h6
      · exact h5 x e
    rw [this]
  · obtain ⟨h7, h8⟩ := fs_step (f := fun x => ownFrom x (pairsL ns ws)) (g := fun x => ownFrom x ((pairsL ns ws).set k (ns[k], ws[k].toNat + 1))) h5 h6 (from64 c)
    rcases h7 with h7 | h7
    · left; rw [h7]
    · by_cases e : ((from64 c).findSome? fun x => ownFrom x (pairsL ns ws)).getD 0 = ns[k]
      · left; rw [h7, e]; rfl
      · right; exact ⟨by rw [h7]; rfl, e⟩
theorem cnt_moved {zs xs : List Tok} {n : Int} (h : ∀ c : Nat, c < 64 → ownT xs c = ownT zs c ∨ (ownT xs c = n ∧ ownT zs c ≠ n)) : ∀ j : Nat, j ≤ 64 → cntT xs n j = cntT zs n j + (mvTo zs xs j).length
  | 0, _ => by simp [cntT, mvTo]
  | j + 1, hj => by
    have ih := cnt_moved h j (by omega)
    rw [cntT, cntT, mvTo]
    rcases h j (by omega) with h1 | ⟨h1, h2⟩
    · rw [h1, if_pos rfl]
      by_cases e : ownT zs j = n
      · rw [if_pos e, if_pos e]; omega
      · rw [if_neg e, if_neg e]; exact ih
    · rw [h1, if_pos rfl, if_neg h2, if_neg h2]
      simp only [List.length_append, List.length_singleton]; omega
theorem mv_owner {zs xs : List Tok} {n : Int} (h : ∀ c : Nat, c < 64 → ownT xs c = ownT zs c ∨ (ownT xs c = n ∧ ownT zs c ≠ n)) {x : Int} (hx : x ∈ mvTo zs xs 64) : (0 ≤ x ∧ x ≤ 63) ∧ ownT xs x = n := by
  have hr : ∀ j : Nat, ∀ x ∈ mvTo zs xs j, 0 ≤ x ∧ x < j := by
    intro j
    induction j with
    | zero => intro x hx; cases hx
    | succ j ih =>
      intro x hx
      rw [mvTo] at hx
      split at hx
      · have := ih x hx; omega
      · rcases List.mem_append.1 hx with hx | hx
        · have := ih x hx; omega
        · simp at hx; omega
  have := hr 64 x hx
  obtain ⟨k, rfl⟩ := Int.eq_ofNat_of_zero_le this.1
  have h2 := (mem_mvTo zs xs k 64).1 hx
  refine ⟨by omega, ?_⟩
  rcases h k (by omega) with h3 | h3
  · exact absurd h3.symm h2.2
  · exact h3.1
/-- A single node holds everything. -/
theorem single_own {n w : Int} (h : ptG [n] [w] = true) (c : Int) : ownT (ptL [n] [w]) c = n := by
  have hp := (tvB_parts (table_valid h)).2.2
  obtain ⟨t, ht, e⟩ := ownT_mem hp c
  obtain ⟨k, hk, -⟩ := ownFrom_mem ((mem_table h).1 ht).2
  rw [e]
  have := pairs_mem hk
  simpa using this
theorem cnt_all {zs : List Tok} {n : Int} (h : ∀ c, ownT zs c = n) : ∀ j : Nat, cntT zs n j = j
  | 0 => rfl
  | j + 1 => by rw [cntT, if_pos (h _), cnt_all h j]; omega
theorem mv_none (zs : List Tok) : ∀ j, mvTo zs zs j = []
  | 0 => rfl
  | j + 1 => by rw [mvTo, if_pos rfl, mv_none zs j]
theorem single_good {ns ws : List Int} (h : ptG ns ws = true) : ∃ n w, ns.take 1 = [n] ∧ ws.take 1 = [w] ∧ ns[0]? = some n ∧ ptG [n] [w] = true := by
  obtain ⟨h1, h2, h3⟩ := ptG_parts h
  obtain ⟨⟨hn1, hn10⟩, hasc⟩ := nodesB_parts h1
  cases ns with
  | nil => simp at hn1
  | cons n ns =>
    cases ws with
    | nil => simp at h2
    | cons w ws =>
      refine ⟨n, w, rfl, rfl, rfl, ?_⟩
      have hn := asc_pt hasc n (by simp)
      have hw := h3 w (by simp)
      simp [ptG, nodesB, ascFrom, inB, ptB]; omega
/-- A token holds its own position. -/
theorem own_self {zs : List Tok} (h : tvB zs = true) {i : Nat} (hi : i < zs.length) : ownT zs zs[i].1 = zs[i].2 := by
  obtain ⟨-, hs, -⟩ := tvB_parts h
  exact ownT_at hi (Int.le_refl _) (fun j hj hji => List.pairwise_iff_getElem.1 hs j i hj hi hji)
theorem cnt_pos {zs : List Tok} {n : Int} {c : Nat} (h : ownT zs c = n) : ∀ j : Nat, c < j → 1 ≤ cntT zs n j
  | 0, h => by omega
  | j + 1, hj => by
    rw [cntT]
    have := (cntT_le zs n j).1
    by_cases e : c = j
    · subst e; rw [if_pos h]; omega
    · have ih := cnt_pos h j (by omega)
      split <;> omega
theorem load_self {zs : List Tok} (h : tvB zs = true) {i : Nat} (hi : i < zs.length) : 1 ≤ cntT zs zs[i].2 64 := by
  obtain ⟨h1, -, -⟩ := tvB_parts h
  have hr := (h1 _ (List.getElem_mem hi)).1
  obtain ⟨c, hc⟩ := Int.eq_ofNat_of_zero_le hr.1
  refine cnt_pos (c := c) ?_ 64 (by omega)
  rw [← own_self h hi, hc]
/-- The table has every token of every node, or one of a smaller node at its place. -/
theorem table_has {ns ws : List Int} (h : ptG ns ws = true) {i : Nat} (hi : i < ns.length) {K k : Nat} (hK : ∃ h2 : i < ws.length, ws[i] = K) (hk : k < K) : ∃ j, ∃ hj : j < (ptL ns ws).length, (ptL ns ws)[j].1 = tok ns[i] k ∧ (ptL ns ws)[j].2 ≤ ns[i] := by
  obtain ⟨h1, h2, h3⟩ := ptG_parts h
  obtain ⟨-, hasc⟩ := nodesB_parts h1
  obtain ⟨hiw, hK⟩ := hK
  have hp := pairs_get h2 i hi
  have e : ws[i].toNat = K := by omega
  have hm : (ns[i], K) ∈ pairsL ns ws := by rw [← e, ← hp]; exact List.getElem_mem _
  have ht : tokP (tok ns[i] k) ns[i] K = true := by
    unfold tokP toks
    rw [List.any_eq_true]
    exact ⟨tok ns[i] k, List.mem_map.2 ⟨k, by simpa using hk, rfl⟩, by simp⟩
  obtain ⟨m, hm2, hle⟩ := ownFrom_some hm ht (pairs_sorted (asc_pairs hasc) h2)
  have hmem := (mem_table h (t := (tok ns[i] k, m))).2 ⟨tok_range _ _, hm2⟩
  obtain ⟨j, hj, he⟩ := List.getElem_of_mem hmem
  exact ⟨j, hj, by rw [he], by rw [he]; exact hle⟩
theorem table_node {ns ws : List Int} (h : ptG ns ws = true) {t : Tok} (ht : t ∈ ptL ns ws) : t.2 ∈ ns := by
  obtain ⟨k, hk, -⟩ := ownFrom_mem ((mem_table h).1 ht).2
  exact pairs_mem hk
end Go.Proofs.Ytfklkkelgpeccaa
