/- Transfers: which items hold, what TransferNew makes. -/
import Derived.Test.YtlfmgagokaekjaaInts
import Derived.Test.YtlfmgagokaekjaaRange
import Derived.Test.YtlfmgagokaekjaaClone
import Derived.Test.YtlfmgagokaekjaaFind
import Derived.Test.YtlfmgagokaekjaaEq
import Derived.Laws.AppendOwnNone
namespace Go.Proofs.Ytlfmgagokaekjaa
open Go.RowKit
set_option linter.unusedVariables false
set_option linter.unusedSimpArgs false

set_option maxHeartbeats 400000 in
theorem isSum_any (n : Int) (w : World) : Calls Try.prog 59 #[.int .i64 n] w fun e w' => e = .returned (.bool (inB n 0 990)) ∧ w = w' := by
  go_enter Try.func59, Try.ntmps59
  go_wp2_with (go_at_call 48; refine (inRange_any _ _ _ _).mono ?_; rintro e w' ⟨rfl, rfl⟩)
  go_ret
  exact ⟨rfl, rfl⟩

set_option maxHeartbeats 400000 in
theorem itemsOk1_any (n : Int) (w : World) : Calls Try.prog 58 #[.int .i64 n] w fun e w' => e = .returned (.bool (!inB n 0 990)) ∧ w = w' := by
  go_enter Try.func58, Try.ntmps58
  go_wp2_with (go_at_call 59; refine (isSum_any _ _).mono ?_; rintro e w' ⟨rfl, rfl⟩)
  go_ret
  exact ⟨rfl, rfl⟩
theorem says1 : Says 58 (fun n => !inB n 0 990) := ⟨enters_of Try.func58 (by kernel_rfl) rfl, itemsOk1_any⟩

def allB (zs : List Int) : Bool := !(zs.any fun n => !inB n 0 990)
def itemsB (zs : List Int) : Bool := allB zs && decide (zs.length ≤ 20)
theorem itemsB_len {zs : List Int} (h : itemsB zs = true) : zs.length ≤ 20 := by simp [itemsB] at h; exact h.2

set_option maxHeartbeats 400000 in
theorem itemsOk_any (v : Value) (zs : List Int) (m : Nat) (w : World) (hl : zs.length ≤ 4194304) (hr : RInts w v zs) :
    Calls Try.prog 42 #[v, .int .i64 m] w fun e w' => e = .returned (.bool (allB zs && decide (zs.length ≤ m))) ∧ w = w' := by
  obtain ⟨a, cap, rfl, hc, hm, _⟩ := id hr
  have HR := Lib.hid hr; clear hr
  go_enter Try.func42, Try.ntmps42
  by_cases h : zs.length ≤ m
  · have h' : decide ((zs.length : Int) ≤ m) = true := decide_eq_true (by omega)
    have HD : Hid (decide (zs.length ≤ m) = true) := Lib.hid (decide_eq_true h)
    go_wp2_with fail
    refine (containsFunc_any _ _ says1 _ zs _ hl HR.out).mono ?_
    rintro e w' ⟨rfl, rfl⟩
    go_wp2
    go_ret
    exact ⟨by rw [HD.out, Bool.and_true]; rfl, rfl⟩
  · have h' : decide ((zs.length : Int) ≤ m) = false := decide_eq_false (by omega)
    have HD : Hid (decide (zs.length ≤ m) = false) := Lib.hid (decide_eq_false h)
    have h2 : decide (zs.length ≤ m) = false := decide_eq_false h
    go_wp2
    go_ret
    exact ⟨by rw [HD.out, Bool.and_false]; rfl, rfl⟩

theorem allB_take (zs : List Int) (j : Nat) (hj : j < zs.length) : allB (zs.take (j + 1)) = (allB (zs.take j) && inB zs[j] 0 990) := by
  have e : zs.take (j + 1) = zs.take j ++ [zs[j]] := (List.take_append_getElem hj).symm
  unfold allB
  rw [e, List.any_append]
  simp
theorem allB_prefix {zs : List Int} {j : Nat} (h : allB (zs.take j) = false) : allB zs = false := by
  simp only [allB, Bool.not_eq_false', List.any_eq_true] at h ⊢
  obtain ⟨x, hx, hp⟩ := h
  exact ⟨x, List.mem_of_mem_take hx, hp⟩

set_option maxHeartbeats 400000 in
theorem l22Items_any (v : Value) (zs : List Int) (w : World) (hl : zs.length ≤ 4194304) (hr : RInts w v zs) :
    Calls Try.prog 45 #[v] w fun e w' => e = .returned (.bool (itemsB zs)) ∧ w = w' := by
  obtain ⟨a, cap, rfl, hc, hm, hcell⟩ := hr
  have HC := Lib.hid hcell; clear hcell
  go_enter Try.func45, Try.ntmps45
  go_wp2
  go_loop [3] (fun i => ∃ j : Nat, j ≤ zs.length ∧ i = .int .i64 j ∧ Hid (allB (zs.take j) = true)) (fun i => zs.length - (intOf i).toNat)
  case atStart => exact ⟨0, by omega, rfl, Lib.hid rfl⟩
  case round =>
    obtain ⟨j, hj, rfl, hall⟩ := hrel
    by_cases hlt : j < zs.length
    · obtain ⟨b, off, rfl, hb, hx⟩ := HC.out j hlt
      have HS := Lib.hid (allB_take zs j hlt)
      obtain ⟨x, hxx⟩ : ∃ x, x = zs[j] := ⟨_, rfl⟩
      rw [← hxx] at hx HS
      clear hxx
      cases hin : inB x 0 990 with
      | true =>
        have HI := Lib.hid hin
        go_wp2_with (go_at_call 50; refine (l6In_any _ _ _ _).mono ?_; rintro e w' ⟨rfl, rfl⟩)
        go_round
        case rel => exact ⟨j + 1, by omega, by go_num, Lib.hid (by rw [HS.out, hall.out, HI.out]; rfl)⟩
        case measure => simp [intOf]; omega
      | false =>
        have HI := Lib.hid hin
        go_wp2_with (go_at_call 50; refine (l6In_any _ _ _ _).mono ?_; rintro e w' ⟨rfl, rfl⟩)
        go_ret
        exact ⟨by rw [itemsB, allB_prefix (j := j + 1) (by rw [HS.out, HI.out, Bool.and_false])]; rfl, rfl⟩
    · have hjl : j = zs.length := by omega
      have HA : Hid (allB zs = true) := Lib.hid (by have := hall.out; rwa [hjl, List.take_length] at this)
      clear hall hjl
      go_wp2
      go_ret
      refine ⟨?_, rfl⟩
      rw [itemsB, HA.out, Bool.true_and]
      apply ret_bool
      simp; omega
end Go.Proofs.Ytlfmgagokaekjaa
