/- Who holds a key in a table: of both sides. -/
import Derived.Test.YtfklkkelgpeccaaTkEq
import Derived.Test.YtfklkkelgpeccaaMemG
import Derived.IntWalk
namespace Go.Proofs.Ytfklkkelgpeccaa
open Go.RowKit
set_option linter.unusedVariables false
set_option linter.unusedSimpArgs false

/-- The place of the first token at a key or behind it. -/
def IxT (zs : List Tok) (key r : Int) : Prop := (∃ j, ∃ h : j < zs.length, r = j ∧ key ≤ zs[j].1 ∧ ∀ i, (h2 : i < zs.length) → i < j → zs[i].1 < key) ∨ (r = -1 ∧ ∀ i, (h2 : i < zs.length) → zs[i].1 < key)
/-- The node that holds a key. -/
def ownT (zs : List Tok) (key : Int) : Int := match zs.find? (fun t => decide (key ≤ t.1)) with | some t => t.2 | none => (zs.getD 0 (0, 0)).2
theorem ownT_at {zs : List Tok} {key : Int} {j : Nat} (h : j < zs.length) (hk : key ≤ zs[j].1) (hb : ∀ i, (h2 : i < zs.length) → i < j → zs[i].1 < key) : ownT zs key = zs[j].2 := by
  have : zs.find? (fun t => decide (key ≤ t.1)) = some zs[j] := by
    rw [List.find?_eq_some_iff_getElem]
    refine ⟨by simpa using hk, j, h, rfl, fun i hi => ?_⟩
    have := hb i (by omega) hi
    simp; omega
  simp [ownT, this]
theorem ownT_none {zs : List Tok} {key : Int} (hb : ∀ i, (h2 : i < zs.length) → zs[i].1 < key) : ownT zs key = (zs.getD 0 (0, 0)).2 := by
  have : zs.find? (fun t => decide (key ≤ t.1)) = none := by
    rw [List.find?_eq_none]
    intro t ht
    obtain ⟨i, hi, rfl⟩ := List.getElem_of_mem ht
    have := hb i hi
    simp; omega
  simp [ownT, this]

set_option maxHeartbeats 1000000 in
theorem l31Owner_any (v : Value) (zs : List Tok) (key : Int) (w : World) (hl : zs.length ≤ 4194304) (h0 : 0 < zs.length) (hr : RRow TL w v zs) :
    Calls Try.prog 41 #[v, .int .i64 key] w fun e w' => e = .returned (.int .i64 (ownT zs key)) ∧ w = w' := by
  obtain ⟨a, cap, rfl, hc, hm, -⟩ := id hr
  have hcell := hr.tok
  have HC := Lib.hid hcell
  clear hr hcell
  go_enter Try.func41, Try.ntmps41
  go_wp2
  go_loop [5] (fun i => ∃ j : Nat, j ≤ zs.length ∧ i = .int .i64 j ∧ Hid (∀ i, (h2 : i < zs.length) → i < j → zs[i].1 < key)) (fun i => zs.length - (intOf i).toNat)
  case atStart => exact ⟨0, Nat.zero_le _, rfl, Lib.hid (fun i _ h => absurd h (by omega))⟩
  case round =>
    obtain ⟨j, hj, rfl, HB⟩ := hrel
    by_cases hlt : j < zs.length
    · obtain ⟨b, off, rfl, hbl, c0, c1⟩ := HC.out j hlt
      have hlt' : decide ((j : Int) < (zs.length : Int)) = true := decide_eq_true (by omega)
      by_cases hk : key ≤ zs[j].1
      · have hd : decide (key ≤ zs[j].1) = true := decide_eq_true hk
        have HO := Lib.hid (ownT_at hlt hk HB.out)
        go_wp2
        go_ret
        exact ⟨ret_int (by rw [HO.out]), rfl⟩
      · have hd : decide (key ≤ zs[j].1) = false := decide_eq_false hk
        have HB2 : Hid (∀ i, (h2 : i < zs.length) → i < j + 1 → zs[i].1 < key) := Lib.hid (fun i h2 h3 => by
          by_cases e : i = j
          · subst e; omega
          · exact HB.out i h2 (by omega))
        go_wp2
        go_round
        case rel => exact ⟨j + 1, by omega, by go_num, HB2⟩
        case measure => simp [intOf]; omega
    · have HO := Lib.hid (ownT_none (key := key) (fun i h2 => HB.out i h2 (by omega)))
      obtain ⟨b, off, rfl, hbl, c0, c1⟩ := HC.out 0 h0
      simp only [Nat.zero_mul, Nat.add_zero] at c0 c1
      have hz : (zs.getD 0 (0, 0)) = zs[0] := by simp [List.getD_eq_getElem?_getD, List.getElem?_eq_getElem h0]
      have h0' : (0 : Int) < (zs.length : Int) := by omega
      go_wp2
      go_ret
      exact ⟨ret_int (by rw [HO.out, hz]), rfl⟩

theorem ownerKey_any (x y key : Int) (kb : Nat) (w : World) (hk : w.cell? ⟨kb, 0, none⟩ = some (.int .i64 key)) (hkb : kb < w.heap.size) :
    Calls Try.prog 62 #[.agg #[.int .i64 x, .int .i64 y], .pointer (some ⟨kb, 0, none⟩)] w fun e w' => e = .returned (.bool (decide (key ≤ x))) ∧ Below w.heap.size w w' := by
  have hne : ¬ w.heap.size = kb := by omega
  go_enter Try.func62, Try.ntmps62
  go_wp2
  go_ret
  exact ⟨rfl, below_alloc _ _⟩

set_option maxHeartbeats 1000000 in
theorem indexTok_any (v : Value) (zs : List Tok) (key : Int) (kb : Nat) (w : World) (hl : zs.length ≤ 4194304) (hr : RRow TL w v zs) (hk : w.cell? ⟨kb, 0, none⟩ = some (.int .i64 key)) (hkb : kb < w.heap.size) :
    Calls Try.prog 61 #[v, .func (.func 62) #[] #[.pointer (some ⟨kb, 0, none⟩)]] w fun e w' => ∃ r, e = .returned (.int .i64 r) ∧ IxT zs key r ∧ Below w.heap.size w w' := by
  obtain ⟨a, cap, rfl, hc, hm, -⟩ := id hr
  have hcell := hr.tok
  have HC := Lib.hid hcell
  have HK := Lib.hid hk
  clear hr hcell hk
  go_enter Try.func61, Try.ntmps61
  go_wp2
  go_loopw [5, 8] (fun i5 i wr => ∃ j : Nat, j ≤ zs.length ∧ i = .int .i64 j ∧ Hid (∀ i, (h2 : i < zs.length) → i < j → zs[i].1 < key) ∧ Below w.heap.size w wr) (fun _ i _ => zs.length - (intOf i).toNat)
  case atStart => exact ⟨0, Nat.zero_le _, rfl, Lib.hid (fun i _ h => absurd h (by omega)), Below.refl _ _⟩
  case round =>
    obtain ⟨j, hj, rfl, HB, hb⟩ := hrel
    by_cases hlt : j < zs.length
    · obtain ⟨b, off, rfl, hbl, c0, c1⟩ := HC.out j hlt
      have hr0 : wr.cell? ⟨b, off + j * 2, none⟩ = some (.int .i64 zs[j].1) := by rw [hb.cell (p := ⟨b, off + j * 2, none⟩) hbl]; exact c0
      have hr1 : wr.cell? ⟨b, off + j * 2 + 1, none⟩ = some (.int .i64 zs[j].2) := by rw [hb.cell (p := ⟨b, off + j * 2 + 1, none⟩) hbl]; exact c1
      clear c0 c1
      obtain ⟨x, hx⟩ : ∃ x, x = zs[j].1 := ⟨_, rfl⟩
      obtain ⟨y, hy⟩ : ∃ y, y = zs[j].2 := ⟨_, rfl⟩
      rw [← hx] at hr0; rw [← hy] at hr1
      have HX := Lib.hid hx; clear hx hy
      have hkw : wr.cell? ⟨kb, 0, none⟩ = some (.int .i64 key) := by rw [hb.cell (p := ⟨kb, 0, none⟩) hkb]; exact HK.out
      have HKW := Lib.hid hkw; clear hkw
      have hsz := hb.size
      go_wp2_with fail
      refine (ownerKey_any x y key kb _ HKW.out (by omega)).mono ?_
      rintro e w2 ⟨rfl, b2⟩
      have c2 := bNext hb b2
      by_cases hkx : key ≤ x
      · have hd : decide (key ≤ x) = true := decide_eq_true hkx
        have HI : Hid (IxT zs key j) := Lib.hid (.inl ⟨j, hlt, rfl, by rw [← HX.out]; exact hkx, HB.out⟩)
        go_wp2
        go_ret
        exact ⟨_, rfl, HI.out, c2⟩
      · have hd : decide (key ≤ x) = false := decide_eq_false hkx
        have HB2 : Hid (∀ i, (h2 : i < zs.length) → i < j + 1 → zs[i].1 < key) := Lib.hid (fun i h2 h3 => by
          by_cases e : i = j
          · subst e; have := HX.out; omega
          · exact HB.out i h2 (by omega))
        go_wp2
        go_roundw
        case rel => exact ⟨j + 1, by omega, by go_num, HB2, c2⟩
        case measure => simp [intOf]; omega
    · have HI : Hid (IxT zs key (-1)) := Lib.hid (.inr ⟨rfl, fun i h2 => HB.out i h2 (by omega)⟩)
      go_wp2
      go_ret
      exact ⟨_, rfl, HI.out, hb⟩

theorem run_max2' {P : Program} (w : World) (ts : Array TypeId) (t : TypeId) (x y E : Int) (h : max x y = E) : (Builtin.max_ ts t #[.int .i64 x, .int .i64 y]).run P w = .ok (.int .i64 E) w := by
  have e : (if y < x then x else y) = E := by rw [← h]; split <;> omega
  have e' : (if x < y then y else x) = E := by rw [← h]; split <;> omega
  first | (rw [← e]; simp [Builtin.max_, Builtin.max2]; done) | (rw [← e']; simp [Builtin.max_, Builtin.max2]; done)

set_option maxHeartbeats 1000000 in
/-- The function that ownerIn gives, called: the table lies boxed at tb. -/
theorem ownerFn_any (v : Value) (zs : List Tok) (key : Int) (tb : Nat) (w : World) (hl : zs.length ≤ 4194304) (h0 : 0 < zs.length) (hr : RRow TL w v zs) (ht : w.cell? ⟨tb, 0, none⟩ = some v) (htb : tb < w.heap.size) :
    Calls Try.prog 60 #[.int .i64 key, .pointer (some ⟨tb, 0, none⟩)] w fun e w' => e = .returned (.int .i64 (ownT zs key)) ∧ Below w.heap.size w w' := by
  obtain ⟨a, cap, rfl, hc, hm, -⟩ := id hr
  have HR := Lib.hid hr
  have HT := Lib.hid ht
  clear hr ht
  have hne : ¬ w.heap.size = tb := by omega
  have x0 := HT.out
  have b0 := below_alloc w (.cells #[.int .i64 key] 3)
  have hkc : (w.alloc (.cells #[.int .i64 key] 3)).cell? ⟨w.heap.size, 0, none⟩ = some (.int .i64 key) := by simp
  have HKC := Lib.hid hkc; clear hkc
  go_enter Try.func60, Try.ntmps60
  go_wp2_with fail
  clear x0
  refine (indexTok_any _ zs key w.heap.size _ hl (HR.out.al _) HKC.out (by simp)).mono ?_
  rintro e w2 ⟨r, rfl, hi, b2⟩
  have c2 := bNext b0 b2
  have x0 : w2.cell? ⟨tb, 0, none⟩ = some (.slice a zs.length cap) := by rw [c2.cell (p := ⟨tb, 0, none⟩) htb]; exact HT.out
  have hcell := (HR.out.bl c2).tok
  rcases hi with ⟨j, hj, rfl, hk, hb⟩ | ⟨rfl, hb⟩
  · have HO := Lib.hid (ownT_at hj hk hb)
    have hmx := fun w ts t => run_max2' (P := Try.prog) w ts t (j : Int) 0 (j : Int) (by omega)
    obtain ⟨b, off, rfl, hbl, c0, c1⟩ := hcell j hj
    have hj' : (j : Int) < (zs.length : Int) := by omega
    have hj0 : (0 : Int) ≤ (j : Int) := by omega
    clear hk hb hcell
    go_wp2
    go_ret
    exact ⟨ret_int (by rw [HO.out]), c2⟩
  · have HO := Lib.hid (ownT_none hb)
    have hmx := fun w ts t => run_max2' (P := Try.prog) w ts t (-1) 0 0 (by omega)
    obtain ⟨b, off, rfl, hbl, c0, c1⟩ := hcell 0 h0
    simp only [Nat.zero_mul, Nat.add_zero] at c0 c1
    have hz : (zs.getD 0 (0, 0)) = zs[0] := by simp [List.getD_eq_getElem?_getD, List.getElem?_eq_getElem h0]
    have h0' : (0 : Int) < (zs.length : Int) := by omega
    clear hb hcell
    go_wp2
    go_ret
    exact ⟨ret_int (by rw [HO.out, hz]), c2⟩
end Go.Proofs.Ytfklkkelgpeccaa
