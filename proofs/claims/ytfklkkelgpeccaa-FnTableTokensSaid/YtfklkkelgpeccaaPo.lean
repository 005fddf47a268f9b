/- PlaceOwner of both sides. -/
import Derived.Test.YtfklkkelgpeccaaTok3
import Derived.Test.YtfklkkelgpeccaaOwner
namespace Go.Proofs.Ytfklkkelgpeccaa
open Go.RowKit
set_option linter.unusedVariables false
set_option linter.unusedSimpArgs false

def poN (zs : List Tok) (key : Int) : Int := if tvB zs && ptB key then ownT zs key else -1
theorem tvB_pos {zs : List Tok} (h : tvB zs = true) : 0 < zs.length := by
  simp only [tvB, Bool.and_eq_true, decide_eq_true_eq] at h; exact h.2

theorem ownerIn_any (a : Option Addr) (l cap : Nat) (w : World) :
    Calls Try.prog 45 #[.slice a l cap] w fun e w' => e = .returned (.func (.func 60) #[] #[.pointer (some ⟨w.heap.size, 0, none⟩)]) ∧ w' = w.alloc (.cells #[.slice a l cap] 25) := by
  go_enter Try.func45, Try.ntmps45
  go_wp2
  go_ret
  exact ⟨rfl, rfl⟩

set_option maxHeartbeats 1000000 in
theorem specPlaceOwner_any (v : Value) (zs : List Tok) (key : Int) (w : World) (hl : zs.length ≤ 4194304) (hr : RRow TL w v zs) :
    Calls Try.prog 15 #[v, .int .i64 key] w fun e w' => e = .returned (.int .i64 (poN zs key)) ∧ Below w.heap.size w w' := by
  obtain ⟨a, cap, rfl, -, -, -⟩ := id hr
  have HR := Lib.hid hr; clear hr
  go_enter Try.func15, Try.ntmps15
  go_wp2_with fail
  refine (l31Table_any _ zs _ hl HR.out).mono ?_
  rintro e w1 ⟨rfl, d1⟩
  have c1 := d1.below
  cases hv : tvB zs with
  | false =>
    have HV := Lib.hid hv; clear hv
    go_wp2
    go_ret
    exact ⟨ret_int (by simp [poN, HV.out]), c1⟩
  | true =>
    have h0 := tvB_pos hv
    have HV := Lib.hid hv; clear hv
    go_wp2_with fail
    refine (l1Point_any _ _).mono ?_
    rintro e w2 ⟨rfl, rfl⟩
    cases hk : ptB key with
    | false =>
      have HK := Lib.hid hk; clear hk
      go_wp2
      go_ret
      exact ⟨ret_int (by simp [poN, HK.out]), c1⟩
    | true =>
      have HK := Lib.hid hk; clear hk
      go_wp2_with fail
      refine (l31Owner_any _ zs key _ hl h0 (HR.out.bl c1)).mono ?_
      rintro e w3 ⟨rfl, rfl⟩
      go_wp2
      go_ret
      exact ⟨ret_int (by simp [poN, HV.out, HK.out]), c1⟩

set_option maxHeartbeats 1000000 in
theorem implPlaceOwner_any (v : Value) (zs : List Tok) (key : Int) (w : World) (hl : zs.length ≤ 4194304) (hr : RRow TL w v zs) :
    Calls Try.prog 17 #[v, .int .i64 key] w fun e w' => e = .returned (.int .i64 (poN zs key)) ∧ Below w.heap.size w w' := by
  obtain ⟨a, cap, rfl, -, -, -⟩ := id hr
  have HR := Lib.hid hr; clear hr
  go_enter Try.func17, Try.ntmps17
  go_wp2_with fail
  refine (tableOk_any _ zs _ hl HR.out).mono ?_
  rintro e w1 ⟨rfl, c1⟩
  cases hv : tvB zs with
  | false =>
    have HV := Lib.hid hv; clear hv
    go_wp2
    go_ret
    exact ⟨ret_int (by simp [poN, HV.out]), c1⟩
  | true =>
    have h0 := tvB_pos hv
    have HV := Lib.hid hv; clear hv
    go_wp2_with fail
    refine (ok_any _ _).mono ?_
    rintro e w2 ⟨rfl, rfl⟩
    cases hk : ptB key with
    | false =>
      have HK := Lib.hid hk; clear hk
      go_wp2
      go_ret
      exact ⟨ret_int (by simp [poN, HK.out]), c1⟩
    | true =>
      have HK := Lib.hid hk; clear hk
      go_wp2_with fail
      refine (ownerIn_any _ _ _ _).mono ?_
      rintro e w2 ⟨rfl, rfl⟩
      have c2 := bAl c1 (.cells #[.slice a zs.length cap] 25)
      have ht : (w1.alloc (.cells #[.slice a zs.length cap] 25)).cell? ⟨w1.heap.size, 0, none⟩ = some (.slice a zs.length cap) := by simp
      have HT := Lib.hid ht; clear ht
      go_wp2_with fail
      refine (ownerFn_any _ zs key w1.heap.size _ hl h0 (HR.out.bl c2) HT.out (by simp)).mono ?_
      rintro e w3 ⟨rfl, b3⟩
      have c3 := bNext c2 b3
      go_wp2
      go_ret
      exact ⟨ret_int (by simp [poN, HV.out, HK.out]), c3⟩
end Go.Proofs.Ytfklkkelgpeccaa
