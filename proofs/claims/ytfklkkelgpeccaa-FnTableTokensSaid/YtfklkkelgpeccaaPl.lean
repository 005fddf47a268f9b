/- PlaceLoad of both sides. -/
import Derived.Test.YtfklkkelgpeccaaPo
namespace Go.Proofs.Ytfklkkelgpeccaa
open Go.RowKit
set_option linter.unusedVariables false
set_option linter.unusedSimpArgs false

/-- How many of the first j keys a node holds. -/
def cntT (zs : List Tok) (node : Int) : Nat → Int
  | 0 => 0
  | j + 1 => if ownT zs j = node then cntT zs node j + 1 else cntT zs node j
theorem cntT_le (zs : List Tok) (node : Int) (j : Nat) : 0 ≤ cntT zs node j ∧ cntT zs node j ≤ j := by
  induction j with
  | zero => simp [cntT]
  | succ j ih => simp only [cntT]; split <;> omega
def plN (zs : List Tok) (node : Int) : Int := if tvB zs && ptB node then cntT zs node 64 else -1

set_option maxHeartbeats 1000000 in
theorem specPlaceLoad_any (v : Value) (zs : List Tok) (key : Int) (w : World) (hl : zs.length ≤ 4194304) (hr : RRow TL w v zs) :
    Calls Try.prog 19 #[v, .int .i64 key] w fun e w' => e = .returned (.int .i64 (plN zs key)) ∧ Below w.heap.size w w' := by
  obtain ⟨a, cap, rfl, -, -, -⟩ := id hr
  have HR := Lib.hid hr; clear hr
  go_enter Try.func19, Try.ntmps19
  go_wp2_with fail
  refine (l31Table_any _ zs _ hl HR.out).mono ?_
  rintro e w1 ⟨rfl, d1⟩
  have c1 := d1.below
  cases hv : tvB zs with
  | false =>
    have HV := Lib.hid hv; clear hv
    go_wp2
    go_ret
    exact ⟨ret_int (by simp [plN, HV.out]), c1⟩
  | true =>
    have h0 := tvB_pos hv
    have HV := Lib.hid hv; clear hv
    go_wp2_with fail
    refine (l1Point_any _ _).mono ?_
    rintro e w2 ⟨rfl, rfl⟩
    cases hk : ptB key with
    | false =>
      have HK := Lib.hid hk; clear hk
      go_wp2
      go_ret
      exact ⟨ret_int (by simp [plN, HK.out]), c1⟩
    | true =>
      have HK := Lib.hid hk; clear hk
      go_wp2
      go_loopw [5, 6] (fun n i wr => ∃ j : Nat, ∃ m : Int, j ≤ 64 ∧ i = .int .i64 j ∧ n = .int .i64 m ∧ Hid (m = cntT zs key j) ∧ Below w.heap.size w wr) (fun _ i _ => 64 - (intOf i).toNat)
      case atStart => exact ⟨0, 0, by omega, rfl, rfl, Lib.hid rfl, c1⟩
      case round =>
        obtain ⟨j, m, hj, rfl, rfl, HM, hB⟩ := hrel
        by_cases hlt : j < 64
        · have q0 : decide ((j : Int) < 64) = true := decide_eq_true (by omega)
          have q0' : decide (j < 64) = true := decide_eq_true hlt
          obtain ⟨hm0, hm1⟩ : 0 ≤ m ∧ m ≤ j := by rw [HM.out]; exact cntT_le zs key j
          obtain ⟨o, ho⟩ : ∃ o, o = ownT zs j := ⟨_, rfl⟩
          have HS : Hid (cntT zs key (j + 1) = if o = key then m + 1 else m) := Lib.hid (by rw [HM.out, ho]; rfl)
          have HO := Lib.hid ho; clear ho
          go_wp2_with fail
          refine (l31Owner_any _ zs j _ hl h0 (HR.out.bl hB)).mono ?_
          rw [← HO.out]
          rintro e w3 ⟨rfl, rfl⟩
          by_cases hq : o = key
          · have q1 : (o == key) = true := by simp [hq]
            have HQ := Lib.hid hq; clear hq
            go_wp2
            go_roundw
            case rel => exact ⟨j + 1, m + 1, by omega, by go_num, by go_num, Lib.hid (by rw [HS.out, if_pos HQ.out]), hB⟩
            case measure => simp [intOf]; omega
          · have q1 : (o == key) = false := by simp [hq]
            have HQ := Lib.hid hq; clear hq
            go_wp2
            go_roundw
            case rel => exact ⟨j + 1, m, by omega, by go_num, rfl, Lib.hid (by rw [HS.out, if_neg HQ.out]), hB⟩
            case measure => simp [intOf]; omega
        · obtain rfl : j = 64 := by omega
          go_wp2
          go_ret
          exact ⟨ret_int (by simp [plN, HV.out, HK.out, HM.out]), hB⟩

set_option maxHeartbeats 1000000 in
theorem implPlaceLoad_any (v : Value) (zs : List Tok) (key : Int) (w : World) (hl : zs.length ≤ 4194304) (hr : RRow TL w v zs) :
    Calls Try.prog 20 #[v, .int .i64 key] w fun e w' => e = .returned (.int .i64 (plN zs key)) ∧ Below w.heap.size w w' := by
  obtain ⟨a, cap, rfl, -, -, -⟩ := id hr
  have HR := Lib.hid hr; clear hr
  go_enter Try.func20, Try.ntmps20
  go_wp2_with fail
  refine (tableOk_any _ zs _ hl HR.out).mono ?_
  rintro e w1 ⟨rfl, c1⟩
  cases hv : tvB zs with
  | false =>
    have HV := Lib.hid hv; clear hv
    go_wp2
    go_ret
    exact ⟨ret_int (by simp [plN, HV.out]), c1⟩
  | true =>
    have h0 := tvB_pos hv
    have HV := Lib.hid hv; clear hv
    go_wp2_with fail
    refine (ok_any _ _).mono ?_
    rintro e w2 ⟨rfl, rfl⟩
    cases hk : ptB key with
    | false =>
      have HK := Lib.hid hk; clear hk
      go_wp2
      go_ret
      exact ⟨ret_int (by simp [plN, HK.out]), c1⟩
    | true =>
      have HK := Lib.hid hk; clear hk
      go_wp2_with fail
      refine (ownerIn_any _ _ _ _).mono ?_
      rintro e w2 ⟨rfl, rfl⟩
      have c2 := bAl c1 (.cells #[.slice a zs.length cap] 25)
      have ht : (w1.alloc (.cells #[.slice a zs.length cap] 25)).cell? ⟨w1.heap.size, 0, none⟩ = some (.slice a zs.length cap) := by simp
      have HT := Lib.hid ht; clear ht
      obtain ⟨wa, hwa⟩ : ∃ wa, wa = w1.alloc (.cells #[.slice a zs.length cap] 25) := ⟨_, rfl⟩
      have htb : w1.heap.size < wa.heap.size := by rw [hwa]; simp
      rw [← hwa] at c2 HT ⊢
      obtain ⟨tb, htb'⟩ : ∃ tb, tb = w1.heap.size := ⟨_, rfl⟩
      rw [← htb'] at HT htb ⊢
      clear hwa htb'
      go_wp2
      go_loopw [6, 7, 18] (fun n k i wr => ∃ j : Nat, ∃ m : Int, j ≤ 64 ∧ i = .int .i64 j ∧ n = .int .i64 m ∧ Hid (m = cntT zs key j) ∧ Below w.heap.size w wr ∧ Below wa.heap.size wa wr) (fun _ _ i _ => 64 - (intOf i).toNat)
      case atStart => exact ⟨0, 0, by omega, rfl, rfl, Lib.hid rfl, c2, Below.refl _ _⟩
      case round =>
        obtain ⟨j, m, hj, rfl, rfl, HM, hB, hA⟩ := hrel
        by_cases hlt : j < 64
        · have q0 : decide ((j : Int) < 64) = true := decide_eq_true (by omega)
          have q0' : decide (j < 64) = true := decide_eq_true hlt
          obtain ⟨hm0, hm1⟩ : 0 ≤ m ∧ m ≤ j := by rw [HM.out]; exact cntT_le zs key j
          obtain ⟨o, ho⟩ : ∃ o, o = ownT zs j := ⟨_, rfl⟩
          have HS : Hid (cntT zs key (j + 1) = if o = key then m + 1 else m) := Lib.hid (by rw [HM.out, ho]; rfl)
          have HO := Lib.hid ho; clear ho
          have htr := (hA.cell (p := ⟨tb, 0, none⟩) htb).trans HT.out
          have HTR := Lib.hid htr; clear htr
          have hsz := hA.size
          go_wp2_with fail
          refine (ownerFn_any _ zs j tb _ hl h0 (HR.out.bl hB) HTR.out (by omega)).mono ?_
          rw [← HO.out]
          rintro e w3 ⟨rfl, b3⟩
          have c3 := bNext hB b3
          have A3 := bNext hA b3
          by_cases hq : o = key
          · have q1 : (o == key) = true := by simp [hq]
            have HQ := Lib.hid hq; clear hq
            go_wp2
            go_roundw
            case rel => exact ⟨j + 1, m + 1, by omega, by go_num, by go_num, Lib.hid (by rw [HS.out, if_pos HQ.out]), c3, A3⟩
            case measure => simp [intOf]; omega
          · have q1 : (o == key) = false := by simp [hq]
            have HQ := Lib.hid hq; clear hq
            go_wp2
            go_roundw
            case rel => exact ⟨j + 1, m, by omega, by go_num, rfl, Lib.hid (by rw [HS.out, if_neg HQ.out]), c3, A3⟩
            case measure => simp [intOf]; omega
        · obtain rfl : j = 64 := by omega
          go_wp2
          go_ret
          exact ⟨ret_int (by simp [plN, HV.out, HK.out, HM.out]), hB⟩
end Go.Proofs.Ytfklkkelgpeccaa
