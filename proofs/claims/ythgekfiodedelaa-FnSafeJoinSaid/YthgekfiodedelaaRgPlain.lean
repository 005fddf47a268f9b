/- Rings in plain words: the repairing steps keep a ring safe, and rounds of them lead to the ideal ring. No program in sight. -/
namespace Go.Proofs.Ythgekfiodedelaa
set_option linter.unusedVariables false
set_option linter.unusedSimpArgs false

/-- Is x strictly between a and b, going upward? -/
def btw (a x b : Int) : Bool := if a < b then decide (a < x) && decide (x < b) else decide (a < x) || decide (x < b)
theorem btw_iff (a x b : Int) : btw a x b = true ↔ (a < b ∧ a < x ∧ x < b) ∨ (b ≤ a ∧ (a < x ∨ x < b)) := by
  unfold btw; split <;> simp <;> omega
theorem btw_not (a x b : Int) : btw a x b = false ↔ ¬ ((a < b ∧ a < x ∧ x < b) ∨ (b ≤ a ∧ (a < x ∨ x < b))) := by
  rw [← btw_iff]; simp

/-- A node: its position, its predecessor, its two successors. -/
structure Nd where
  id : Int
  bf : Int
  a0 : Int
  a1 : Int
instance : Inhabited Nd := ⟨⟨0, 0, 0, 0⟩⟩

def idsL (R : List Nd) : List Int := R.map Nd.id
def liveR (R : List Nd) (x : Int) : Bool := (idsL R).any (· == x)
/-- The place of a position. -/
def fnd (R : List Nd) (x : Int) : Nat := (idsL R).findIdx (· == x)
def nth (R : List Nd) (k : Nat) : Nd := R.getD k default
def skips (n : Nd) (x : Int) : Bool := btw n.id x n.a0 || btw n.a0 x n.a1
def prcB (R : List Nd) (x : Int) : Bool := !R.any (fun n => skips n x)
def princ (R : List Nd) : List Int := (idsL R).filter (prcB R)
def safeL (R : List Nd) : Bool := R.all (fun n => liveR R n.a0 || liveR R n.a1) && decide (3 ≤ (princ R).length)

theorem live_iff (R : List Nd) (x : Int) : liveR R x = true ↔ x ∈ idsL R := by simp [liveR]
theorem live_set {R : List Nd} {k : Nat} {n : Nd} (h : n.id = (nth R k).id) : idsL (R.set k n) = idsL R := by
  unfold idsL
  rw [List.map_set]
  apply List.ext_getElem?
  intro i
  rw [List.getElem?_set]
  split
  · rename_i e; subst e
    by_cases hk : k < R.length
    · simp [hk, h, nth, List.getD_eq_getElem?_getD]
    · simp [hk]
  · rfl
theorem live_of {R R' : List Nd} (h : idsL R' = idsL R) (x : Int) : liveR R' x = liveR R x := by simp [liveR, h]
theorem fnd_of {R R' : List Nd} (h : idsL R' = idsL R) (x : Int) : fnd R' x = fnd R x := by simp [fnd, h]
theorem len_of {R R' : List Nd} (h : idsL R' = idsL R) : R'.length = R.length := by
  have := congrArg List.length h; simpa [idsL] using this
theorem nth_set (R : List Nd) (k j : Nat) (n : Nd) (hk : k < R.length) : nth (R.set k n) j = if j = k then n else nth R j := by
  unfold nth
  simp only [List.getD_eq_getElem?_getD, List.getElem?_set]
  by_cases e : j = k
  · subst e; simp [hk]
  · simp [e, Ne.symm e]
theorem nth_id {R : List Nd} {k : Nat} (hk : k < R.length) : (nth R k).id ∈ idsL R := by
  unfold nth idsL
  rw [List.getD_eq_getElem?_getD, List.getElem?_eq_getElem hk]
  exact List.mem_map_of_mem (List.getElem_mem hk)
theorem ids_get {R : List Nd} {k : Nat} (hk : k < R.length) : (idsL R)[k]'(by simpa [idsL] using hk) = (nth R k).id := by
  simp [idsL, nth, List.getD_eq_getElem?_getD, hk]
theorem id_of {R R' : List Nd} (h : idsL R' = idsL R) {k : Nat} (hk : k < R.length) : (nth R' k).id = (nth R k).id := by
  have hk' : k < R'.length := by rw [len_of h]; exact hk
  rw [← ids_get hk, ← ids_get hk']
  simp [h]
theorem fnd_lt {R : List Nd} {x : Int} (h : x ∈ idsL R) : fnd R x < R.length := by
  have := List.findIdx_lt_length_of_exists (p := (· == x)) (xs := idsL R) ⟨x, h, by simp⟩
  simpa [fnd, idsL] using this
theorem fnd_id {R : List Nd} {x : Int} (h : x ∈ idsL R) : (nth R (fnd R x)).id = x := by
  have hl := fnd_lt h
  rw [← ids_get hl]
  have := List.findIdx_getElem (p := (· == x)) (xs := idsL R) (w := by simpa [fnd, idsL] using hl)
  simpa [fnd] using this
/-- Positions in ascending order. -/
def Asc (I : List Int) : Prop := I.Pairwise (· < ·) ∧ ∀ x ∈ I, 0 ≤ x ∧ x < 64
theorem id_inj {R : List Nd} (h : Asc (idsL R)) {i j : Nat} (hi : i < R.length) (hj : j < R.length) (e : (nth R i).id = (nth R j).id) : i = j := by
  rw [← ids_get hi, ← ids_get hj] at e
  have hp := List.pairwise_iff_getElem.1 h.1
  rcases Nat.lt_trichotomy i j with hij | hij | hij
  · have := hp i j (by simpa [idsL] using hi) (by simpa [idsL] using hj) hij; omega
  · exact hij
  · have := hp j i (by simpa [idsL] using hj) (by simpa [idsL] using hi) hij; omega
theorem fnd_nth {R : List Nd} (h : Asc (idsL R)) {k : Nat} (hk : k < R.length) : fnd R (nth R k).id = k :=
  id_inj h (fnd_lt (nth_id hk)) hk (fnd_id (nth_id hk))

/-- The steps. -/
def dropS (R : List Nd) (k : Nat) : List Nd := if liveR R (nth R k).a0 then R else R.set k { nth R k with a0 := (nth R k).a1, a1 := ((nth R k).a1 + 1) % 64 }
def followS (R : List Nd) (k s : Nat) : List Nd := R.set k { nth R k with a0 := (nth R s).id, a1 := (nth R s).a0 }
def adoptS (R : List Nd) (k : Nat) : List Nd := if liveR R (nth R k).a0 then followS R k (fnd R (nth R k).a0) else R
def closerG (R : List Nd) (k : Nat) (o : Int) : Bool := liveR R o && btw (nth R k).id o (nth R k).a0
def closerS (R : List Nd) (k : Nat) (o : Int) : List Nd := if closerG R k o then followS R k (fnd R o) else R
def notifyG (R : List Nd) (k : Nat) (o : Int) : Bool := liveR R o && o != (nth R k).id && !(decide (0 ≤ (nth R k).bf) && liveR R (nth R k).bf && !btw (nth R k).bf o (nth R k).id)
def notifyS (R : List Nd) (k : Nat) (o : Int) : List Nd := if notifyG R k o then R.set k { nth R k with bf := o } else R
def nextOf (R : List Nd) (k : Nat) : Nat := fnd R (nth R k).a0
def stab3 (R : List Nd) (k : Nat) : List Nd := if 0 ≤ (nth R (nextOf R k)).bf then closerS R k (nth R (nextOf R k)).bf else R
def stab4 (R : List Nd) (k : Nat) : List Nd := notifyS R (nextOf R k) (nth R k).id
def stabS (R : List Nd) (k : Nat) : List Nd := stab4 (stab3 (adoptS (dropS R k) k) k) k
def rounds (R : List Nd) : Nat → List Nd
  | 0 => R
  | k + 1 => stabS (rounds R k) k
def roundS (R : List Nd) : List Nd := rounds R R.length
def turns (R : List Nd) : Nat → List Nd
  | 0 => R
  | i + 1 => roundS (turns R i)
def idealS (I : List Int) : List Nd := (List.range I.length).map fun i => ⟨I.getD i 0, I.getD ((i + I.length - 1) % I.length) 0, I.getD ((i + 1) % I.length) 0, I.getD ((i + 2) % I.length) 0⟩

/-- A node in range that skips none of three positions, one of whose successors is live. -/
structure NdOk (I : List Int) (p q r : Int) (n : Nd) : Prop where
  r0 : 0 ≤ n.a0 ∧ n.a0 < 64
  r1 : 0 ≤ n.a1 ∧ n.a1 < 64
  rb : n.bf = -1 ∨ (0 ≤ n.bf ∧ n.bf < 64)
  sp : skips n p = false
  sq : skips n q = false
  sr : skips n r = false
  lv : n.a0 ∈ I ∨ n.a1 ∈ I
structure Good (I : List Int) (p q r : Int) (R : List Nd) : Prop where
  ids : idsL R = I
  asc : Asc I
  hp : p ∈ I
  hq : q ∈ I
  hr : r ∈ I
  pq : p < q
  qr : q < r
  ok : ∀ k, k < R.length → NdOk I p q r (nth R k)

theorem skips_iff (n : Nd) (x : Int) : skips n x = false ↔ btw n.id x n.a0 = false ∧ btw n.a0 x n.a1 = false := by simp [skips]
/-- A first successor is another node. -/
theorem NdOk.ne {I : List Int} {p q r : Int} {n : Nd} (h : NdOk I p q r n) (pq : p < q) : n.a0 ≠ n.id := by
  intro e
  have h1 := ((skips_iff n p).1 h.sp).1
  have h2 := ((skips_iff n q).1 h.sq).1
  rw [btw_not] at h1 h2
  omega
theorem Good.set {I : List Int} {p q r : Int} {R : List Nd} (h : Good I p q r R) {k : Nat} (hk : k < R.length) {n : Nd} (hi : n.id = (nth R k).id) (hn : NdOk I p q r n) : Good I p q r (R.set k n) := by
  refine ⟨by rw [live_set hi, h.ids], h.asc, h.hp, h.hq, h.hr, h.pq, h.qr, fun j hj => ?_⟩
  rw [List.length_set] at hj
  rw [nth_set R k j n hk]
  split
  · exact hn
  · exact h.ok j hj
theorem Good.idr {I : List Int} {p q r : Int} {R : List Nd} (h : Good I p q r R) {k : Nat} (hk : k < R.length) : 0 ≤ (nth R k).id ∧ (nth R k).id < 64 := h.asc.2 _ (by rw [← h.ids]; exact nth_id hk)
theorem Good.drop {I : List Int} {p q r : Int} {R : List Nd} (h : Good I p q r R) {k : Nat} (hk : k < R.length) : Good I p q r (dropS R k) := by
  unfold dropS
  split
  · exact h
  · rename_i hl
    have hd : (nth R k).a0 ∉ I := fun e => hl ((live_iff _ _).2 (by rw [h.ids]; exact e))
    have o := h.ok k hk
    have hi := h.idr hk
    have d : ∀ x, x ∈ I → skips (nth R k) x = false → skips { nth R k with a0 := (nth R k).a1, a1 := ((nth R k).a1 + 1) % 64 } x = false := by
      intro x hx hs
      have hne : (nth R k).a0 ≠ x := fun e => hd (e ▸ hx)
      have hr := h.asc.2 x hx
      obtain ⟨h1, h2⟩ := (skips_iff _ _).1 hs
      obtain ⟨r0, r1⟩ := o.r0; obtain ⟨s0, s1⟩ := o.r1
      rw [btw_not] at h1 h2
      rw [skips_iff, btw_not, btw_not]
      simp only
      omega
    refine h.set hk rfl ⟨o.r1, ⟨?_, ?_⟩, o.rb, d p h.hp o.sp, d q h.hq o.sq, d r h.hr o.sr, .inl ?_⟩
    · simp only; omega
    · simp only; omega
    · exact o.lv.resolve_left hd
theorem drop_live {I : List Int} {p q r : Int} {R : List Nd} (h : Good I p q r R) {k : Nat} (hk : k < R.length) : (nth (dropS R k) k).a0 ∈ I := by
  unfold dropS
  split
  · rename_i hl; rw [live_iff, h.ids] at hl; exact hl
  · rename_i hl
    rw [nth_set R k k _ hk, if_pos rfl]
    exact (h.ok k hk).lv.resolve_left (fun e => hl ((live_iff _ _).2 (by rw [h.ids]; exact e)))
theorem Good.follow {I : List Int} {p q r : Int} {R : List Nd} (h : Good I p q r R) {k s : Nat} (hk : k < R.length) (hs : s < R.length) (hb : (nth R s).id = (nth R k).a0 ∨ btw (nth R k).id (nth R s).id (nth R k).a0 = true) : Good I p q r (followS R k s) := by
  have o := h.ok k hk; have os := h.ok s hs
  have hi := h.idr hk; have his := h.idr hs
  have d : ∀ x, x ∈ I → skips (nth R k) x = false → skips (nth R s) x = false → skips { nth R k with a0 := (nth R s).id, a1 := (nth R s).a0 } x = false := by
    intro x hx h1 h2
    obtain ⟨h1, -⟩ := (skips_iff _ _).1 h1
    obtain ⟨h2, -⟩ := (skips_iff _ _).1 h2
    rw [skips_iff]
    simp only
    refine ⟨?_, h2⟩
    rw [btw_not] at h1 ⊢
    rw [btw_iff] at hb
    have hr := h.asc.2 x hx
    obtain ⟨r0, r1⟩ := o.r0
    have hne := o.ne h.pq
    omega
  refine h.set hk rfl ⟨his, os.r0, o.rb, d p h.hp o.sp os.sp, d q h.hq o.sq os.sq, d r h.hr o.sr os.sr, .inl ?_⟩
  have := nth_id hs
  rw [h.ids] at this
  exact this
theorem Good.len {I : List Int} {p q r : Int} {R : List Nd} (h : Good I p q r R) : R.length = I.length := by rw [← h.ids]; simp [idsL]
theorem Good.fl {I : List Int} {p q r : Int} {R : List Nd} (h : Good I p q r R) {x : Int} (hx : x ∈ I) : fnd R x < R.length ∧ (nth R (fnd R x)).id = x := by
  rw [← h.ids] at hx; exact ⟨fnd_lt hx, fnd_id hx⟩
theorem adopt_eq {I : List Int} {p q r : Int} {R : List Nd} (h : Good I p q r R) {k : Nat} (hk : k < R.length) (hl : (nth R k).a0 ∈ I) : adoptS R k = R.set k { nth R k with a1 := (nth R (nextOf R k)).a0 } := by
  unfold adoptS followS nextOf
  rw [if_pos ((live_iff _ _).2 (by rw [h.ids]; exact hl)), (h.fl hl).2]
theorem Good.adopt {I : List Int} {p q r : Int} {R : List Nd} (h : Good I p q r R) {k : Nat} (hk : k < R.length) : Good I p q r (adoptS R k) := by
  unfold adoptS
  split
  · rename_i hl
    rw [live_iff, h.ids] at hl
    obtain ⟨h1, h2⟩ := h.fl hl
    exact h.follow hk h1 (.inl h2)
  · exact h
theorem Good.closer {I : List Int} {p q r : Int} {R : List Nd} (h : Good I p q r R) {k : Nat} (hk : k < R.length) (o : Int) : Good I p q r (closerS R k o) := by
  unfold closerS
  split
  · rename_i hl
    simp only [closerG, Bool.and_eq_true] at hl
    rw [live_iff, h.ids] at hl
    obtain ⟨h1, h2⟩ := h.fl hl.1
    exact h.follow hk h1 (.inr (by rw [h2]; exact hl.2))
  · exact h
theorem Good.notify {I : List Int} {p q r : Int} {R : List Nd} (h : Good I p q r R) {k : Nat} (hk : k < R.length) (o : Int) : Good I p q r (notifyS R k o) := by
  unfold notifyS
  split
  · rename_i hl
    simp only [notifyG, Bool.and_eq_true] at hl
    have h1 := hl.1.1
    rw [live_iff, h.ids] at h1
    have hr := h.asc.2 o h1
    have ok := h.ok k hk
    exact h.set hk rfl ⟨ok.r0, ok.r1, .inr hr, ok.sp, ok.sq, ok.sr, ok.lv⟩
  · exact h

/-- What a step of one node may turn: the places stay, and of the others only one predecessor. -/
theorem nth_drop {R : List Nd} {k : Nat} (hk : k < R.length) {I : List Int} {p q r : Int} (h : Good I p q r R) (hl : (nth R k).a0 ∈ I) : dropS R k = R := by
  unfold dropS; rw [if_pos ((live_iff _ _).2 (by rw [h.ids]; exact hl))]
theorem Good.next {I : List Int} {p q r : Int} {R : List Nd} (h : Good I p q r R) {k : Nat} (hk : k < R.length) (hl : (nth R k).a0 ∈ I) : nextOf R k < R.length ∧ (nth R (nextOf R k)).id = (nth R k).a0 := h.fl hl
theorem adopt_len (R : List Nd) (k : Nat) : (adoptS R k).length = R.length := by unfold adoptS followS; split <;> simp
theorem drop_len (R : List Nd) (k : Nat) : (dropS R k).length = R.length := by unfold dropS; split <;> simp
theorem closer_len (R : List Nd) (k : Nat) (o : Int) : (closerS R k o).length = R.length := by unfold closerS followS; split <;> simp
theorem stab3_len (R : List Nd) (k : Nat) : (stab3 R k).length = R.length := by unfold stab3; split <;> simp [closer_len]
theorem notify_len (R : List Nd) (k : Nat) (o : Int) : (notifyS R k o).length = R.length := by unfold notifyS; split <;> simp
theorem stab_len (R : List Nd) (k : Nat) : (stabS R k).length = R.length := by unfold stabS stab4; rw [notify_len, stab3_len, adopt_len, drop_len]
theorem rounds_len (R : List Nd) (j : Nat) : (rounds R j).length = R.length := by
  induction j with
  | zero => rfl
  | succ j ih => rw [rounds, stab_len, ih]
theorem adopt_a0 {I : List Int} {p q r : Int} {R : List Nd} (h : Good I p q r R) {k : Nat} (hk : k < R.length) (hl : (nth R k).a0 ∈ I) (j : Nat) : (nth (adoptS R k) j).a0 = (nth R j).a0 ∧ (nth (adoptS R k) j).bf = (nth R j).bf ∧ (nth (adoptS R k) j).id = (nth R j).id ∧ (j ≠ k → (nth (adoptS R k) j).a1 = (nth R j).a1) ∧ (nth (adoptS R k) k).a1 = (nth R (nextOf R k)).a0 := by
  rw [adopt_eq h hk hl, nth_set _ _ _ _ hk, nth_set _ _ _ _ hk]
  split
  · rename_i e; subst e; simp
  · rename_i e; simp [e]
theorem closer_live {I : List Int} {p q r : Int} {R : List Nd} (h : Good I p q r R) {k : Nat} (hk : k < R.length) (hl : (nth R k).a0 ∈ I) (o : Int) : (nth (closerS R k o) k).a0 ∈ I := by
  unfold closerS followS
  split
  · rename_i hg
    simp only [closerG, Bool.and_eq_true] at hg
    have ho := hg.1
    rw [live_iff, h.ids] at ho
    rw [nth_set _ _ _ _ hk, if_pos rfl]
    simp only
    rw [(h.fl ho).2]; exact ho
  · exact hl
theorem Good.stab3 {I : List Int} {p q r : Int} {R : List Nd} (h : Good I p q r R) {k : Nat} (hk : k < R.length) (hl : (nth R k).a0 ∈ I) : Good I p q r (stab3 R k) ∧ (nth (stab3 R k) k).a0 ∈ I := by
  unfold Proofs.Ythgekfiodedelaa.stab3
  split
  · exact ⟨h.closer hk _, closer_live h hk hl _⟩
  · exact ⟨h, hl⟩
theorem Good.stab {I : List Int} {p q r : Int} {R : List Nd} (h : Good I p q r R) {k : Nat} (hk : k < R.length) : Good I p q r (stabS R k) := by
  unfold stabS
  have h1 := h.drop hk
  have l1 := drop_live h hk
  have k1 : k < (dropS R k).length := by rw [drop_len]; exact hk
  have h2 := h1.adopt k1
  have l2 : (nth (adoptS (dropS R k) k) k).a0 ∈ I := by rw [(adopt_a0 h1 k1 l1 k).1]; exact l1
  have k2 : k < (adoptS (dropS R k) k).length := by rw [adopt_len]; exact k1
  obtain ⟨h3, l3⟩ := h2.stab3 k2 l2
  unfold stab4
  exact h3.notify (h3.fl l3).1 _
theorem Good.rounds {I : List Int} {p q r : Int} {R : List Nd} (h : Good I p q r R) : ∀ j, j ≤ R.length → Good I p q r (rounds R j)
  | 0, _ => h
  | j + 1, hj => (h.rounds j (by omega)).stab (by rw [rounds_len]; omega)
theorem Good.round {I : List Int} {p q r : Int} {R : List Nd} (h : Good I p q r R) : Good I p q r (roundS R) := h.rounds _ (Nat.le_refl _)

/-- A node's first successor is live behind its own step, and stays so behind others'. -/
theorem notify_at (R : List Nd) (k : Nat) (o : Int) (j : Nat) (hk : k < R.length) : (nth (notifyS R k o) j).a0 = (nth R j).a0 ∧ (nth (notifyS R k o) j).a1 = (nth R j).a1 ∧ (nth (notifyS R k o) j).id = (nth R j).id ∧ (j ≠ k → (nth (notifyS R k o) j).bf = (nth R j).bf) := by
  unfold notifyS
  split
  · rw [nth_set _ _ _ _ hk]
    split
    · rename_i e; subst e; simp
    · simp
  · simp
theorem closer_at (R : List Nd) (k : Nat) (o : Int) (j : Nat) (hk : k < R.length) : (nth (closerS R k o) j).bf = (nth R j).bf ∧ (nth (closerS R k o) j).id = (nth R j).id ∧ (j ≠ k → nth (closerS R k o) j = nth R j) := by
  unfold closerS followS
  split
  · rw [nth_set _ _ _ _ hk]
    split
    · rename_i e; subst e; simp
    · simp
  · simp
theorem stab3_at (R : List Nd) (k : Nat) (j : Nat) (hk : k < R.length) : (nth (stab3 R k) j).bf = (nth R j).bf ∧ (nth (stab3 R k) j).id = (nth R j).id ∧ (j ≠ k → nth (stab3 R k) j = nth R j) := by
  unfold stab3
  split
  · exact closer_at R k _ j hk
  · simp
theorem drop_at (R : List Nd) (k : Nat) (j : Nat) (hk : k < R.length) : (nth (dropS R k) j).bf = (nth R j).bf ∧ (nth (dropS R k) j).id = (nth R j).id ∧ (j ≠ k → nth (dropS R k) j = nth R j) := by
  unfold dropS
  split
  · simp
  · rw [nth_set _ _ _ _ hk]
    split
    · rename_i e; subst e; simp
    · simp
theorem stab_live {I : List Int} {p q r : Int} {R : List Nd} (h : Good I p q r R) {k : Nat} (hk : k < R.length) (j : Nat) (hj : j < R.length) (hl : j = k ∨ (nth R j).a0 ∈ I) : (nth (stabS R k) j).a0 ∈ I := by
  unfold stabS
  have h1 := h.drop hk
  have l1 := drop_live h hk
  have k1 : k < (dropS R k).length := by rw [drop_len]; exact hk
  have h2 := h1.adopt k1
  have l2 : (nth (adoptS (dropS R k) k) k).a0 ∈ I := by rw [(adopt_a0 h1 k1 l1 k).1]; exact l1
  have k2 : k < (adoptS (dropS R k) k).length := by rw [adopt_len]; exact k1
  obtain ⟨h3, l3⟩ := h2.stab3 k2 l2
  unfold stab4
  rw [(notify_at _ (nextOf _ k) _ j (h3.fl l3).1).1]
  by_cases e : j = k
  · subst e; exact l3
  · rw [(stab3_at _ k j k2).2.2 e, (adopt_a0 h1 k1 l1 j).1, (drop_at R k j hk).2.2 e]
    exact hl.resolve_left e
theorem rounds_live {I : List Int} {p q r : Int} {R : List Nd} (h : Good I p q r R) : ∀ j, j ≤ R.length → ∀ i, i < R.length → (i < j ∨ (nth R i).a0 ∈ I) → (nth (rounds R j) i).a0 ∈ I
  | 0, _, i, hi, hl => hl.resolve_left (by omega)
  | j + 1, hj, i, hi, hl => by
    have hr := h.rounds j (by omega)
    refine stab_live hr (by rw [rounds_len]; omega) i (by rw [rounds_len]; exact hi) ?_
    by_cases e : i = j
    · exact .inl e
    · refine .inr (rounds_live h j (by omega) i hi ?_)
      rcases hl with h1 | h1
      · exact .inl (by omega)
      · exact .inr h1
/-- Behind a round all first successors are live. -/
theorem round_live {I : List Int} {p q r : Int} {R : List Nd} (h : Good I p q r R) (i : Nat) (hi : i < R.length) : (nth (roundS R) i).a0 ∈ I := rounds_live h _ (Nat.le_refl _) i hi (.inl hi)
def Live (I : List Int) (R : List Nd) : Prop := ∀ i, i < R.length → (nth R i).a0 ∈ I
theorem Live.rounds {I : List Int} {p q r : Int} {R : List Nd} (h : Good I p q r R) (hl : Live I R) (j : Nat) (hj : j ≤ R.length) : Live I (Proofs.Ythgekfiodedelaa.rounds R j) := fun i hi => by
  rw [rounds_len] at hi
  exact rounds_live h j hj i hi (.inr (hl i hi))

/-- How far a ring is from the ideal one. -/
def gap (I : List Int) (a b : Int) : Nat := I.countP fun i => btw a i b
def bgap (I : List Int) (n : Nd) : Nat := if n.bf ∈ I then gap I n.bf n.id else I.length + 1
def wNd (I : List Int) (n : Nd) : Nat := gap I n.id n.a0 + bgap I n
def pot (I : List Int) : List Nd → Nat
  | [] => 0
  | n :: R => wNd I n + pot I R
theorem gap_lt {I : List Int} {a b a' b' : Int} {x : Int} (hx : x ∈ I) (h : ∀ i, i ∈ I → btw a' i b' = true → btw a i b = true) (h1 : btw a x b = true) (h2 : btw a' x b' = false) : gap I a' b' < gap I a b := by
  unfold gap
  induction I with
  | nil => cases hx
  | cons y I ih =>
    rw [List.countP_cons, List.countP_cons]
    have hm : I.countP (fun i => btw a' i b') ≤ I.countP (fun i => btw a i b) := List.countP_mono_left (fun i hi hb => h i (by simp [hi]) hb)
    by_cases e : x = y
    · subst e; rw [h1, h2]; simp; omega
    · have hx' : x ∈ I := by simpa [e] using hx
      have := ih hx' (fun i hi => h i (by simp [hi]))
      have hy := h y (by simp)
      cases h3 : btw a' y b' with
      | false => simp; omega
      | true => rw [hy h3]; simp; omega
theorem gap_le (I : List Int) (a b : Int) : gap I a b ≤ I.length := List.countP_le_length
theorem wNd_le (I : List Int) (n : Nd) : wNd I n ≤ 2 * I.length + 1 := by
  unfold wNd bgap
  have := gap_le I n.id n.a0
  have := gap_le I n.bf n.id
  split <;> omega
theorem pot_le (I : List Int) : ∀ R : List Nd, pot I R ≤ R.length * (2 * I.length + 1)
  | [] => by simp [pot]
  | n :: R => by
    have := wNd_le I n
    have := pot_le I R
    simp only [pot, List.length_cons, Nat.add_mul, Nat.one_mul]; omega
theorem pot_set (I : List Int) : ∀ (R : List Nd) (k : Nat) (n : Nd), k < R.length → pot I (R.set k n) + wNd I (nth R k) = pot I R + wNd I n
  | [], k, n, h => by simp at h
  | m :: R, 0, n, _ => by simp [pot, nth]; omega
  | m :: R, k + 1, n, h => by
    have := pot_set I R k n (by simpa using h)
    simp only [List.set_cons_succ, pot]
    have e : nth (m :: R) (k + 1) = nth R k := by simp [nth]
    rw [e]; omega

theorem pot_set_le {I : List Int} {R : List Nd} {k : Nat} {n : Nd} (hk : k < R.length) (h : wNd I n < wNd I (nth R k)) : pot I (R.set k n) < pot I R := by
  have := pot_set I R k n hk; omega
theorem pot_set_eq {I : List Int} {R : List Nd} {k : Nat} {n : Nd} (hk : k < R.length) (h : wNd I n = wNd I (nth R k)) : pot I (R.set k n) = pot I R := by
  have := pot_set I R k n hk; omega
theorem adopt_pot {I : List Int} {p q r : Int} {R : List Nd} (h : Good I p q r R) {k : Nat} (hk : k < R.length) (hl : (nth R k).a0 ∈ I) : pot I (adoptS R k) = pot I R := by
  rw [adopt_eq h hk hl]
  exact pot_set_eq hk rfl
theorem closer_pot {I : List Int} {p q r : Int} {R : List Nd} (h : Good I p q r R) {k : Nat} (hk : k < R.length) (o : Int) : pot I (closerS R k o) < pot I R ∨ closerG R k o = false := by
  cases hg : closerG R k o with
  | false => exact .inr rfl
  | true =>
    refine .inl ?_
    have hg' := hg
    simp only [closerG, Bool.and_eq_true] at hg'
    obtain ⟨h1, h2⟩ := hg'
    rw [live_iff, h.ids] at h1
    unfold closerS followS
    rw [if_pos hg, (h.fl h1).2]
    refine pot_set_le hk ?_
    have : gap I (nth R k).id o < gap I (nth R k).id (nth R k).a0 := by
      refine gap_lt h1 (fun i hi hb => ?_) h2 ?_
      · rw [btw_iff] at hb h2 ⊢; omega
      · rw [btw_not]; omega
    unfold wNd bgap
    simp only
    omega
theorem notify_pot {I : List Int} {p q r : Int} {R : List Nd} (h : Good I p q r R) {k : Nat} (hk : k < R.length) (o : Int) : pot I (notifyS R k o) < pot I R ∨ notifyG R k o = false := by
  cases hg : notifyG R k o with
  | false => exact .inr rfl
  | true =>
    refine .inl ?_
    unfold notifyS
    rw [if_pos hg]
    simp only [notifyG, Bool.and_eq_true, bne_iff_ne, Bool.not_eq_true', Bool.and_eq_false_iff, decide_eq_false_iff_not] at hg
    obtain ⟨⟨h1, h2⟩, h3⟩ := hg
    rw [live_iff, h.ids] at h1
    refine pot_set_le hk ?_
    have hb : gap I o (nth R k).id < bgap I (nth R k) := by
      unfold bgap
      split
      · rename_i hbf
        have hr := h.asc.2 _ hbf
        have h4 : btw (nth R k).bf o (nth R k).id = true := by
          rcases h3 with (h3 | h3) | h3
          · omega
          · rw [(live_iff _ _).2 (by rw [h.ids]; exact hbf)] at h3; cases h3
          · simpa using h3
        refine gap_lt h1 (fun i hi hb => ?_) h4 ?_
        · rw [btw_iff] at hb h4 ⊢; omega
        · rw [btw_not]; omega
      · have := gap_le I o (nth R k).id; omega
    unfold wNd
    have e : bgap I { nth R k with bf := o } = gap I o (nth R k).id := by unfold bgap; rw [if_pos h1]
    rw [e]
    simp only
    omega
/-- A node's step brings the ring nearer to the ideal one, or it turns neither a first successor nor a predecessor, and its successor knows it. -/
theorem stab_pot {I : List Int} {p q r : Int} {R : List Nd} (h : Good I p q r R) {k : Nat} (hk : k < R.length) (hl : (nth R k).a0 ∈ I) :
    pot I (stabS R k) < pot I R ∨ (stabS R k = adoptS R k ∧ (nth R (nextOf R k)).bf = (nth R k).id) := by
  unfold stabS
  rw [nth_drop hk h hl]
  have h2 := h.adopt hk
  have hp2 := adopt_pot h hk hl
  have k2 : k < (adoptS R k).length := by rw [adopt_len]; exact hk
  have ha := adopt_a0 h hk hl
  have l2 : (nth (adoptS R k) k).a0 ∈ I := by rw [(ha k).1]; exact hl
  have hn2 : nextOf (adoptS R k) k = nextOf R k := by unfold nextOf; rw [(ha k).1]; exact fnd_of (by rw [h2.ids, h.ids]) _
  obtain ⟨hnl, hni⟩ := h.next hk hl
  obtain ⟨h3, l3⟩ := h2.stab3 k2 l2
  have hbf : (nth (adoptS R k) (nextOf (adoptS R k) k)).bf = (nth R (nextOf R k)).bf := by rw [hn2, (ha _).2.1]
  have np := notify_pot h3 (k := nextOf (stab3 (adoptS R k) k) k) (h3.fl l3).1 (nth (stab3 (adoptS R k) k) k).id
  have c3 : pot I (stab3 (adoptS R k) k) < pot I R ∨ (stab3 (adoptS R k) k = adoptS R k ∧ (0 ≤ (nth R (nextOf R k)).bf → closerG (adoptS R k) k (nth R (nextOf R k)).bf = false)) := by
    unfold Proofs.Ythgekfiodedelaa.stab3
    rw [hbf]
    split
    · rcases closer_pot h2 k2 (nth R (nextOf R k)).bf with hc | hc
      · exact .inl (by omega)
      · exact .inr ⟨by unfold closerS; rw [hc]; rfl, fun _ => hc⟩
    · rename_i hn; exact .inr ⟨rfl, fun h => absurd h hn⟩
  rcases c3 with c3 | ⟨c3, c4⟩
  · left
    rcases np with np | np
    · unfold stab4; omega
    · unfold stab4 notifyS; rw [np]; exact c3
  · rw [c3] at np
    rcases np with np | np
    · left; unfold stab4; rw [c3]; omega
    · right
      refine ⟨by unfold stab4 notifyS; rw [c3, np]; rfl, ?_⟩
      have o := h.ok k hk
      have hne := o.ne h.pq
      have hid := h.idr hk
      rw [hn2, (ha k).2.2.1] at np
      have hI : (nth R k).id ∈ I := by have := nth_id hk; rwa [h.ids] at this
      have hlv : liveR (adoptS R k) (nth R k).id = true := (live_iff _ _).2 (by rw [h2.ids]; exact hI)
      have hne2 : ((nth R k).id != (nth (adoptS R k) (nextOf R k)).id) = true := by
        rw [(ha _).2.2.1, hni]; simp; omega
      simp only [notifyG, hlv, hne2, Bool.true_and, Bool.and_eq_false_iff, Bool.not_eq_false'] at np
      simp only [Bool.and_eq_true, decide_eq_true_eq, Bool.not_eq_true'] at np
      obtain ⟨⟨n1, n2⟩, n3⟩ : (0 ≤ (nth (adoptS R k) (nextOf R k)).bf ∧ liveR (adoptS R k) (nth (adoptS R k) (nextOf R k)).bf = true) ∧ btw (nth (adoptS R k) (nextOf R k)).bf (nth R k).id (nth (adoptS R k) (nextOf R k)).id = false := by simpa using np
      rw [(ha _).2.1] at n1 n2 n3
      rw [(ha _).2.2.1, hni] at n3
      have c5 := c4 n1
      rw [closerG, n2, Bool.true_and, (ha k).2.2.1, (ha k).1] at c5
      rw [live_iff, h2.ids] at n2
      have hr := h.asc.2 _ n2
      rw [btw_not] at n3 c5
      obtain ⟨r0, r1⟩ := o.r0
      omega

/-- First successors and predecessors as they were. -/
def SameAB (R R' : List Nd) : Prop := ∀ i, i < R.length → (nth R' i).a0 = (nth R i).a0 ∧ (nth R' i).bf = (nth R i).bf ∧ (nth R' i).id = (nth R i).id
theorem rounds_pot {I : List Int} {p q r : Int} {R : List Nd} (h : Good I p q r R) (hl : Live I R) : ∀ j, j ≤ R.length →
    pot I (rounds R j) < pot I R ∨ (pot I (rounds R j) = pot I R ∧ SameAB R (rounds R j) ∧ ∀ i, i < j → (nth R (nextOf R i)).bf = (nth R i).id ∧ (nth (rounds R j) i).a1 = (nth R (nextOf R i)).a0)
  | 0, _ => .inr ⟨rfl, fun i _ => ⟨rfl, rfl, rfl⟩, fun i hi => by omega⟩
  | j + 1, hj => by
    have hr := h.rounds j (by omega)
    have hlr := hl.rounds h j (by omega)
    have hj' : j < (rounds R j).length := by rw [rounds_len]; omega
    have hla := hlr j hj'
    have hs := stab_pot hr hj' hla
    have hap := adopt_pot hr hj' hla
    have haa := adopt_a0 hr hj' hla
    rcases rounds_pot h hl j (by omega) with hp | ⟨hp, hsame, hall⟩
    · left
      rcases hs with hs | ⟨hs, -⟩
      · show pot I (stabS (rounds R j) j) < _; omega
      · show pot I (stabS (rounds R j) j) < _; rw [hs]; omega
    · rcases hs with hs | ⟨hs, hbf⟩
      · left; show pot I (stabS (rounds R j) j) < _; omega
      · right
        have hn : ∀ i, i < R.length → nextOf (rounds R j) i = nextOf R i := fun i hi => by
          unfold nextOf; rw [(hsame i hi).1]; exact fnd_of (by rw [hr.ids, h.ids]) _
        have hnl : ∀ i, i < R.length → nextOf R i < R.length := fun i hi => (h.next hi (hl i hi)).1
        show pot I (stabS (rounds R j) j) = _ ∧ SameAB R (stabS (rounds R j) j) ∧ _
        rw [hs]
        refine ⟨by omega, fun i hi => ?_, fun i hi => ?_⟩
        · obtain ⟨a1, a2, a3, -, -⟩ := haa i
          obtain ⟨b1, b2, b3⟩ := hsame i hi
          exact ⟨a1.trans b1, a2.trans b2, a3.trans b3⟩
        · have hiR : i < R.length := by omega
          show _ ∧ (nth (stabS (rounds R j) j) i).a1 = _
          rw [hs]
          by_cases e : i = j
          · subst e
            rw [hn i hiR, (hsame _ (hnl i hiR)).2.1, (hsame i hiR).2.2] at hbf
            refine ⟨hbf, ?_⟩
            rw [(haa i).2.2.2.2, hn i hiR, (hsame _ (hnl i hiR)).1]
          · obtain ⟨c1, c2⟩ := hall i (by omega)
            exact ⟨c1, by rw [(haa i).2.2.2.1 e]; exact c2⟩
/-- No live node stands between a node and its first successor, if no two nodes share one. -/
theorem no_between {I : List Int} {p q r : Int} {R : List Nd} (h : Good I p q r R) (hl : Live I R) (hinj : ∀ i j, i < R.length → j < R.length → (nth R i).a0 = (nth R j).a0 → i = j) :
    ∀ (m : Nat) (k j : Nat), k < R.length → j < R.length → ((p - (nth R j).id) % 64).toNat ≤ m → btw (nth R k).id (nth R j).id (nth R k).a0 = false
  | m, k, j, hk, hj, hm => by
    cases hb : btw (nth R k).id (nth R j).id (nth R k).a0 with
    | false => rfl
    | true =>
      exfalso
      have ok := h.ok k hk; have oj := h.ok j hj
      have hik := h.idr hk; have hij := h.idr hj
      obtain ⟨sk, -⟩ := (skips_iff _ _).1 ok.sp
      obtain ⟨sj, -⟩ := (skips_iff _ _).1 oj.sp
      have hpr := h.asc.2 _ h.hp
      have hne : k ≠ j := fun e => by subst e; rw [btw_iff] at hb; omega
      have hnea : (nth R k).a0 ≠ (nth R j).a0 := fun e => hne (hinj k j hk hj e)
      have nk := ok.ne h.pq; have nj := oj.ne h.pq
      obtain ⟨rk0, rk1⟩ := ok.r0; obtain ⟨rj0, rj1⟩ := oj.r0
      have hpj : p ≠ (nth R j).id := fun e => by rw [← e] at hb; rw [hb] at sk; cases sk
      rw [btw_iff] at hb
      rw [btw_not] at sk sj
      cases m with
      | zero => omega
      | succ m =>
        -- the nearer one of the two first successors
        by_cases hnear : btw (nth R j).id (nth R k).a0 (nth R j).a0 = true
        · obtain ⟨h1, h2⟩ := h.next hk (hl k hk)
          have := no_between h hl hinj m j (nextOf R k) hj h1 (by rw [h2]; rw [btw_iff] at hnear; omega)
          rw [h2, hnear] at this; cases this
        · obtain ⟨h1, h2⟩ := h.next hj (hl j hj)
          have hnear' : btw (nth R j).id (nth R k).a0 (nth R j).a0 = false := by simpa using hnear
          rw [btw_not] at hnear'
          have := no_between h hl hinj m k (nextOf R j) hk h1 (by rw [h2]; omega)
          rw [h2, btw_not] at this; omega

theorem next_at {I : List Int} (hA : Asc I) {k : Nat} (hk : k < I.length) {y : Int} (hy : y ∈ I) (hne : y ≠ I[k]) (hnb : ∀ z, z ∈ I → btw I[k] z y = false) : y = I.getD ((k + 1) % I.length) 0 := by
  have hm : (k + 1) % I.length < I.length := Nat.mod_lt _ (by omega)
  rw [List.getD_eq_getElem?_getD, List.getElem?_eq_getElem hm, Option.getD_some]
  obtain ⟨m, hml, rfl⟩ := List.getElem_of_mem hy
  have hp := List.pairwise_iff_getElem.1 hA.1
  have hz := hnb _ (List.getElem_mem hm)
  rw [btw_not] at hz
  have hmk : m ≠ k := fun e => hne (by subst e; rfl)
  by_cases e : m = (k + 1) % I.length
  · subst e; rfl
  · exfalso
    by_cases hlast : k + 1 = I.length
    · have e0 : (k + 1) % I.length = 0 := by rw [hlast]; exact Nat.mod_self _
      simp only [e0] at hz e
      have h1 := hp 0 m (by omega) hml (by omega)
      have h2 := hp m k hml hk (by omega)
      omega
    · have e0 : (k + 1) % I.length = k + 1 := Nat.mod_eq_of_lt (by omega)
      simp only [e0] at hz e
      have h1 := hp k (k + 1) hk (by omega) (by omega)
      rcases Nat.lt_or_gt_of_ne hmk with hlt | hgt
      · have h2 := hp m k hml hk hlt; omega
      · have h2 := hp (k + 1) m (by omega) hml (by omega); omega
theorem nth_ext {R R' : List Nd} (hl : R.length = R'.length) (h : ∀ i, i < R.length → nth R i = nth R' i) : R = R' := by
  apply List.ext_getElem hl
  intro i h1 h2
  have := h i h1
  simpa [nth, List.getD_eq_getElem?_getD, h1, h2] using this
theorem nth_ideal (I : List Int) (i : Nat) (hi : i < I.length) : nth (idealS I) i = ⟨I.getD i 0, I.getD ((i + I.length - 1) % I.length) 0, I.getD ((i + 1) % I.length) 0, I.getD ((i + 2) % I.length) 0⟩ := by
  simp [nth, idealS, List.getD_eq_getElem?_getD, hi]
theorem ideal_len (I : List Int) : (idealS I).length = I.length := by simp [idealS]
theorem idsL_at {R : List Nd} {i : Nat} (hi : i < R.length) : (idsL R).getD i 0 = (nth R i).id := by
  rw [← ids_get hi]
  simp [List.getD_eq_getElem?_getD, idsL, hi]
/-- The ring behind a round that turned nothing but second successors is ideal. -/
theorem round_ideal {I : List Int} {p q r : Int} {R : List Nd} (h : Good I p q r R) (hl : Live I R) (hp : ¬ pot I (roundS R) < pot I R) : roundS R = idealS I := by
  rcases rounds_pot h hl R.length (Nat.le_refl _) with h1 | ⟨-, hsame, hall⟩
  · exact absurd h1 hp
  have hlen := h.len
  have hr := h.round
  have hrl : (roundS R).length = R.length := rounds_len R _
  have hinj : ∀ i j, i < R.length → j < R.length → (nth R i).a0 = (nth R j).a0 → i = j := by
    intro i j hi hj e
    have hn : nextOf R i = nextOf R j := by unfold nextOf; rw [e]
    have h1 := (hall i hi).1
    have h2 := (hall j hj).1
    rw [hn, h2] at h1
    exact (id_inj (by rw [h.ids]; exact h.asc) hj hi h1).symm
  have hIk : ∀ k (hk : k < R.length), I.getD k 0 = (nth R k).id := fun k hk => by rw [← h.ids]; exact idsL_at hk
  have hIk' : ∀ k (hk : k < I.length), I[k] = (nth R k).id := fun k hk => by
    rw [← hIk k (by omega), List.getD_eq_getElem?_getD, List.getElem?_eq_getElem hk]; rfl
  have hnext : ∀ k, k < R.length → (nth R k).a0 = I.getD ((k + 1) % I.length) 0 := by
    intro k hk
    refine next_at h.asc (by omega) (hl k hk) ?_ (fun z hz => ?_)
    · rw [hIk' k (by omega)]; exact (h.ok k hk).ne h.pq
    · rw [hIk' k (by omega)]
      obtain ⟨f1, f2⟩ := h.fl hz
      have := no_between h hl hinj _ k (fnd R z) hk f1 (Nat.le_refl _)
      rwa [f2] at this
  have hmod : ∀ k, k % I.length < R.length ∨ R.length = 0 := fun k => by
    rcases Nat.eq_zero_or_pos R.length with h0 | h0
    · exact .inr h0
    · exact .inl (by rw [hlen]; exact Nat.mod_lt _ (by omega))
  have hnx : ∀ k, k < R.length → nextOf R k = (k + 1) % I.length := by
    intro k hk
    have hm := (hmod (k + 1)).resolve_right (by omega)
    unfold nextOf
    rw [hnext k hk, hIk _ hm]
    exact fnd_nth (by rw [h.ids]; exact h.asc) hm
  refine nth_ext (by rw [hrl, ideal_len, hlen]) (fun i hi => ?_)
  rw [hrl] at hi
  obtain ⟨s1, s2, s3⟩ := hsame i hi
  have h2 := (hall i hi).2
  have hm1 := (hmod (i + 1)).resolve_right (by omega)
  have hm2 := (hmod (i + I.length - 1)).resolve_right (by omega)
  rw [nth_ideal I i (by omega)]
  have e1 : (nth (roundS R) i).a1 = I.getD ((i + 2) % I.length) 0 := by
    rw [show (nth (roundS R) i).a1 = _ from h2, hnx i hi, hnext _ hm1]
    congr 1
    rw [Nat.mod_add_mod]
  have e2 : (nth (roundS R) i).bf = I.getD ((i + I.length - 1) % I.length) 0 := by
    rw [show (nth (roundS R) i).bf = _ from s2, hIk _ hm2]
    have h3 := (hall _ hm2).1
    rw [hnx _ hm2] at h3
    have e : ((i + I.length - 1) % I.length + 1) % I.length = i := by
      rw [Nat.mod_add_mod, show i + I.length - 1 + 1 = i + I.length by omega, Nat.add_mod_right]
      exact Nat.mod_eq_of_lt (by omega)
    rw [e] at h3
    exact h3
  have e3 : (nth (roundS R) i).a0 = I.getD ((i + 1) % I.length) 0 := by rw [show (nth (roundS R) i).a0 = _ from s1, hnext i hi]
  have e4 : (nth (roundS R) i).id = I.getD i 0 := by rw [show (nth (roundS R) i).id = _ from s3, hIk i hi]
  rw [← e1, ← e2, ← e3, ← e4]
theorem turns_next (R : List Nd) : ∀ t, turns (roundS R) t = turns R (t + 1)
  | 0 => rfl
  | t + 1 => by show roundS (turns (roundS R) t) = roundS (turns R (t + 1)); rw [turns_next R t]
theorem Good.turns {I : List Int} {p q r : Int} {R : List Nd} (h : Good I p q r R) : ∀ t, Good I p q r (Proofs.Ythgekfiodedelaa.turns R t)
  | 0 => h
  | t + 1 => (h.turns t).round
theorem conv_live {I : List Int} {p q r : Int} : ∀ (m : Nat) (R : List Nd), Good I p q r R → Live I R → pot I R ≤ m → ∃ t, t ≤ m + 1 ∧ turns R t = idealS I
  | m, R, h, hl, hm => by
    by_cases hp : pot I (roundS R) < pot I R
    · cases m with
      | zero => omega
      | succ m =>
        have hrl : (roundS R).length = R.length := rounds_len R _
        obtain ⟨t, ht, he⟩ := conv_live m (roundS R) h.round (fun i hi => round_live h i (by omega)) (by omega)
        exact ⟨t + 1, by omega, by rw [← turns_next]; exact he⟩
    · exact ⟨1, by omega, round_ideal h hl hp⟩
/-- Rounds lead to the ideal ring: 212 are enough. -/
theorem conv {I : List Int} {p q r : Int} {R : List Nd} (h : Good I p q r R) (h10 : I.length ≤ 10) : ∃ t, t ≤ 212 ∧ turns R t = idealS I := by
  have hrl : (roundS R).length = R.length := rounds_len R _
  have hb := pot_le I (roundS R)
  rw [hrl, h.len] at hb
  have hb2 : I.length * (2 * I.length + 1) ≤ 10 * (2 * 10 + 1) := Nat.mul_le_mul h10 (by omega)
  obtain ⟨t, ht, he⟩ := conv_live 210 (roundS R) h.round (fun i hi => round_live h i (by omega)) (by omega)
  exact ⟨t + 1, by omega, by rw [← turns_next]; exact he⟩
end Go.Proofs.Ythgekfiodedelaa
