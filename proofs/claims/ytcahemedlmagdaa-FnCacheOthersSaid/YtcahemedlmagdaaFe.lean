/- Where the entry of a key stands: findEntry. -/
import Derived.Test.YtcahemedlmagdaaCv2
namespace Go.Proofs.Ytcahemedlmagdaa
open Go.RowKit
set_option linter.unusedVariables false
set_option linter.unusedSimpArgs false

/-- How many entries stand before the key. -/
def posOf (zs : List Ent) (key : Int) : Nat := (zs.takeWhile fun e => decide (e.1 < key)).length
/-- Has place i the key? -/
def keyAt (zs : List Ent) (key : Int) (i : Nat) : Bool := match zs[i]? with
  | some e => e.1 == key
  | none => false
def hasK (zs : List Ent) (key : Int) : Bool := keyAt zs key (posOf zs key)

theorem posOf_eq {zs : List Ent} {key : Int} {i : Nat} (h1 : ∀ k (h : k < zs.length), k < i → zs[k].1 < key) (h2 : ∀ h : i < zs.length, key ≤ zs[i].1) (hi : i ≤ zs.length) : posOf zs key = i := by
  induction zs generalizing i with
  | nil => simp at hi; subst hi; rfl
  | cons e es ih =>
    cases i with
    | zero =>
      have := h2 (by simp)
      simp only [List.getElem_cons_zero] at this
      simp [posOf, List.takeWhile_cons, show ¬ e.1 < key by omega]
    | succ i =>
      have h0 := h1 0 (by simp) (by omega)
      simp only [List.getElem_cons_zero] at h0
      have := ih (i := i) (fun k h hk => by have := h1 (k + 1) (by simpa using h) (by omega); simpa using this) (fun h => by have := h2 (by simpa using h); simpa using this) (by simpa using hi)
      unfold posOf at this ⊢
      rw [List.takeWhile_cons, if_pos (by simpa using h0), List.length_cons, this]
theorem posOf_le (zs : List Ent) (key : Int) : posOf zs key ≤ zs.length := (List.takeWhile_prefix _).length_le
theorem posOf_lt {zs : List Ent} {key : Int} {k : Nat} (h : k < posOf zs key) : (zs[k]'(Nat.lt_of_lt_of_le h (posOf_le _ _))).1 < key := by
  induction zs generalizing k with
  | nil => simp [posOf] at h
  | cons e es ih =>
    unfold posOf at h
    rw [List.takeWhile_cons] at h
    split at h
    · rename_i he
      cases k with
      | zero => simpa using he
      | succ k => simp only [List.length_cons] at h; simpa using ih (k := k) (by unfold posOf; omega)
    · simp at h
theorem posOf_ge {zs : List Ent} {key : Int} (h : posOf zs key < zs.length) : key ≤ zs[posOf zs key].1 := by
  induction zs with
  | nil => simp at h
  | cons e es ih =>
    by_cases he : e.1 < key
    · have hp : posOf (e :: es) key = posOf es key + 1 := by unfold posOf; rw [List.takeWhile_cons, if_pos (by simpa using he)]; rfl
      simp only [hp, List.getElem_cons_succ]
      exact ih (by rw [hp] at h; simpa using h)
    · have hp : posOf (e :: es) key = 0 := by unfold posOf; rw [List.takeWhile_cons, if_neg (by simpa using he)]; rfl
      simp only [hp, List.getElem_cons_zero]
      omega

/-- Sorted by key, all in range. -/
theorem cv_all {zs : List Ent} {p : Int} (h : cvFrom p zs = true) : ∀ k (hk : k < zs.length), enB zs[k] = true ∧ p < zs[k].1 := by
  induction zs generalizing p with
  | nil => intro k hk; simp at hk
  | cons e es ih =>
    simp only [cvFrom, Bool.and_eq_true, decide_eq_true_eq] at h
    intro k hk
    cases k with
    | zero => exact ⟨h.1.1, h.1.2⟩
    | succ k =>
      have := ih h.2 k (by simpa using hk)
      simp only [List.getElem_cons_succ]
      exact ⟨this.1, by omega⟩
theorem cv_lt {zs : List Ent} {p : Int} (h : cvFrom p zs = true) : ∀ a b (hb : b < zs.length) (hab : a < b), (zs[a]'(by omega)).1 < zs[b].1 := by
  induction zs generalizing p with
  | nil => intro a b hb; simp at hb
  | cons e es ih =>
    simp only [cvFrom, Bool.and_eq_true, decide_eq_true_eq] at h
    intro a b hb hab
    cases b with
    | zero => omega
    | succ b =>
      cases a with
      | zero => exact (cv_all h.2 b (by simpa using hb)).2
      | succ a => simpa using ih h.2 a b (by simpa using hb) (by omega)
theorem cvB_from {zs : List Ent} (h : cvB zs = true) : cvFrom (-1) zs = true ∧ zs.length ≤ 6 := by
  simpa [cvB] using h

set_option maxHeartbeats 400000 in
theorem findEntry1_any (x y z key : Int) (w : World) (hx : 0 ≤ x ∧ x ≤ 63) (hk : 0 ≤ key ∧ key ≤ 63) :
    Calls Try.prog 46 #[.agg #[.int .i64 x, .int .i64 y, .int .i64 z], .int .i64 key] w fun e w' => e = .returned (.int .i64 (x - key)) ∧ Below w.heap.size w w' := by
  obtain ⟨x0, x1⟩ := hx; obtain ⟨k0, k1⟩ := hk
  go_enter Try.func46, Try.ntmps46
  go_wp2
  go_ret
  exact ⟨rfl, below_alloc _ _⟩
theorem entersFE : ∀ (args : Array Value) (w : World), (callFunc 46 args).run Try.prog w = .ok (.enter 46 args) w := enters_of Try.func46 (by kernel_rfl) rfl

set_option maxHeartbeats 2000000 in
theorem binarySearch_any (v : Value) (zs : List Ent) (key : Int) (w : World) (hv : cvB zs = true) (hk : 0 ≤ key ∧ key ≤ 63) (hr : RRow EL w v zs) :
    Calls Try.prog 45 #[v, .int .i64 key, .func (.func 46) #[] #[]] w fun e w' => e = .returned (.tuple #[.int .i64 (posOf zs key), .bool (hasK zs key)]) ∧ Below w.heap.size w w' := by
  obtain ⟨a, cap, rfl, hc, hm, -⟩ := id hr
  have hcell := hr.ent
  obtain ⟨hcv, hl⟩ := cvB_from hv
  clear hr hv
  have HC := Lib.hid hcv; clear hcv
  have eg := entersFE
  go_enter Try.func45, Try.ntmps45
  go_wp2
  go_loopw [9, 10] (fun i j wr => ∃ a b : Nat, a ≤ b ∧ b ≤ zs.length ∧ i = .int .i64 a ∧ j = .int .i64 b ∧ Hid (∀ k (h : k < zs.length), k < a → zs[k].1 < key) ∧ Hid (∀ k (h : k < zs.length), b ≤ k → key ≤ zs[k].1) ∧ Below w.heap.size w wr) (fun i j _ => (intOf j).toNat - (intOf i).toNat)
  case atStart => exact ⟨0, zs.length, Nat.zero_le _, Nat.le_refl _, rfl, rfl, Lib.hid (fun k h hk => by omega), Lib.hid (fun k h hk => by omega), Below.refl _ _⟩
  case round =>
    obtain ⟨a', b', hab, hb', rfl, rfl, H1, H2, hB⟩ := hrel
    by_cases hlt : a' < b'
    · obtain ⟨m, hm1⟩ : ∃ m, m = (a' + b') / 2 := ⟨_, rfl⟩
      have em : ((a' : Int) + b') / 2 = m := by omega
      have hma : a' ≤ m := by omega
      have hmb : m < b' := by omega
      have hml : m < zs.length := by omega
      clear hm1
      obtain ⟨b, off, rfl, hbl, h0, h1, h2⟩ := hcell m hml
      obtain ⟨x0, x1⟩ := (enB_parts (cv_all HC.out m hml).1).1
      have r0 := (hB.cell (p := ⟨b, off + m * 3, none⟩) hbl).trans h0
      have r1 := (hB.cell (p := ⟨b, off + m * 3 + 1, none⟩) hbl).trans h1
      have r2 := (hB.cell (p := ⟨b, off + m * 3 + 2, none⟩) hbl).trans h2
      clear h0 h1 h2 hcell
      obtain ⟨x, hx⟩ : ∃ x, x = zs[m].1 := ⟨_, rfl⟩
      rw [← hx] at r0 x0 x1
      generalize zs[m].2.1 = y at *
      generalize zs[m].2.2 = z at *
      have HX := Lib.hid hx; clear hx
      by_cases hxk : x < key
      · have hd : decide (x - key < 0) = true := decide_eq_true (by omega)
        go_wp2_with fail
        refine (findEntry1_any _ _ _ _ _ ⟨x0, x1⟩ hk).mono ?_
        rintro e w2 ⟨rfl, b2⟩
        have c2 := bNext hB b2
        go_wp2
        go_roundw
        case rel => exact ⟨m + 1, b', by omega, hb', by go_num, rfl, Lib.hid (fun k h hk' => by
          by_cases hkm : k < m
          · have := cv_lt HC.out k m hml hkm; rw [← HX.out] at this; omega
          · obtain rfl : k = m := by omega
            rw [← HX.out]; exact hxk), H2, c2⟩
        case measure => simp [intOf]; omega
      · have hd : decide (x - key < 0) = false := decide_eq_false (by omega)
        go_wp2_with fail
        refine (findEntry1_any _ _ _ _ _ ⟨x0, x1⟩ hk).mono ?_
        rintro e w2 ⟨rfl, b2⟩
        have c2 := bNext hB b2
        go_wp2
        go_roundw
        case rel => exact ⟨a', m, hma, by omega, rfl, rfl, H1, Lib.hid (fun k h hk' => by
          by_cases hkm : m < k
          · have := cv_lt HC.out m k h hkm; rw [← HX.out] at this; omega
          · obtain rfl : k = m := by omega
            rw [← HX.out]; omega), c2⟩
        case measure => simp [intOf]; omega
    · obtain rfl : a' = b' := by omega
      have HP : Hid (posOf zs key = a') := Lib.hid (posOf_eq (fun k h hk' => H1.out k h hk') (fun h => H2.out a' h (Nat.le_refl _)) hb')
      by_cases hend : a' < zs.length
      · have hde : decide ((a' : Int) < zs.length) = true := decide_eq_true (by omega)
        obtain ⟨b, off, rfl, hbl, h0, h1, h2⟩ := hcell a' hend
        obtain ⟨x0, x1⟩ := (enB_parts (cv_all HC.out a' hend).1).1
        have r0 := (hB.cell (p := ⟨b, off + a' * 3, none⟩) hbl).trans h0
        have r1 := (hB.cell (p := ⟨b, off + a' * 3 + 1, none⟩) hbl).trans h1
        have r2 := (hB.cell (p := ⟨b, off + a' * 3 + 2, none⟩) hbl).trans h2
        clear h0 h1 h2 hcell
        obtain ⟨x, hx⟩ : ∃ x, x = zs[a'].1 := ⟨_, rfl⟩
        rw [← hx] at r0 x0 x1
        generalize zs[a'].2.1 = y at *
        generalize zs[a'].2.2 = z at *
        have HX := Lib.hid hx; clear hx
        go_wp2_with fail
        refine (findEntry1_any _ _ _ _ _ ⟨x0, x1⟩ hk).mono ?_
        rintro e w2 ⟨rfl, b2⟩
        have c2 := bNext hB b2
        go_wp2
        go_ret2
        have : hasK zs key = (x - key == 0) := by
          rw [hasK, HP.out, keyAt, List.getElem?_eq_getElem hend]
          simp only [← HX.out]
          rw [Bool.eq_iff_iff]; simp; omega
        exact ⟨by rw [HP.out, this]; rfl, c2⟩
      · have hde : decide ((a' : Int) < zs.length) = false := decide_eq_false (by omega)
        go_wp2
        go_ret2
        have : hasK zs key = false := by
          rw [hasK, HP.out, keyAt, List.getElem?_eq_none (by omega)]
        exact ⟨by rw [HP.out, this]; rfl, hB⟩

set_option maxHeartbeats 1000000 in
theorem findEntry_any (v : Value) (zs : List Ent) (key : Int) (w : World) (hv : cvB zs = true) (hk : 0 ≤ key ∧ key ≤ 63) (hr : RRow EL w v zs) :
    Calls Try.prog 27 #[v, .int .i64 key] w fun e w' => e = .returned (.tuple #[.int .i64 (posOf zs key), .bool (hasK zs key)]) ∧ Below w.heap.size w w' := by
  obtain ⟨a, cap, rfl, hc, hm, -⟩ := id hr
  have HR := Lib.hid hr; clear hr
  have HV := Lib.hid hv; clear hv
  go_enter Try.func27, Try.ntmps27
  go_wp2_with fail
  refine (binarySearch_any _ zs key _ HV.out hk HR.out).mono ?_
  rintro e w2 ⟨rfl, b2⟩
  go_wp2
  go_ret2
  exact ⟨rfl, b2⟩
end Go.Proofs.Ytcahemedlmagdaa
