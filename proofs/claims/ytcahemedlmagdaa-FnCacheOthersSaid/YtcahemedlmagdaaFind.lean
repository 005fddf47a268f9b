/- slices.IndexFunc and slices.ContainsFunc at []int, for a function that reads no memory. -/
import Derived.Test.YtcahemedlmagdaaInts
import Derived.Shelf.Abstract
namespace Go.Proofs.Ytcahemedlmagdaa
open Go.RowKit
set_option linter.unusedVariables false
set_option linter.unusedSimpArgs false

/-- The first place at which p holds, or -1. -/
def firstAt (p : Int → Bool) : Nat → List Int → Int
  | _, [] => -1
  | i, z :: zs => if p z then (i : Int) else firstAt p (i + 1) zs
theorem firstAt_none (p : Int → Bool) (zs : List Int) (i : Nat) (h : zs.any p = false) : firstAt p i zs = -1 := by
  induction zs generalizing i with
  | nil => rfl
  | cons z zs ih => simp at h; simp [firstAt, h.1]; exact ih _ (by simpa using h.2)
theorem firstAt_some (p : Int → Bool) (zs : List Int) (i : Nat) (h : zs.any p = true) : 0 ≤ firstAt p i zs := by
  induction zs generalizing i with
  | nil => simp at h
  | cons z zs ih =>
    simp only [firstAt]
    split
    · omega
    · rename_i hz
      exact ih _ (by simpa [hz] using h)

/-- The function value g says p of every number, and turns nothing. -/
def Says (g : Nat) (p : Int → Bool) : Prop := (∀ (args : Array Value) (w : World), (callFunc g args).run Try.prog w = .ok (.enter g args) w) ∧ ∀ (n : Int) (w : World), Calls Try.prog g #[.int .i64 n] w fun e w' => e = .returned (.bool (p n)) ∧ w = w'

set_option maxHeartbeats 1000000 in
theorem indexFunc_any (g : Nat) (p : Int → Bool) (hp : Says g p) (v : Value) (zs : List Int) (w : World) (hl : zs.length ≤ 4194304) (hr : RInts w v zs) :
    Calls Try.prog 55 #[v, .func (.func g) #[] #[]] w fun e w' => e = .returned (.int .i64 (firstAt p 0 zs)) ∧ w = w' := by
  obtain ⟨a, cap, rfl, hc, hm, hcell⟩ := hr
  obtain ⟨eg, hp⟩ := hp
  go_enter Try.func55, Try.ntmps55
  go_wp2
  go_loop [5, 8] (fun _ i => ∃ j : Nat, j ≤ zs.length ∧ i = .int .i64 j ∧ Hid (firstAt p 0 zs = firstAt p j (zs.drop j))) (fun _ i => zs.length - (intOf i).toNat)
  case atStart => exact ⟨0, Nat.zero_le _, rfl, by simp [Hid]⟩
  case round =>
    obtain ⟨j, hj, rfl, hH⟩ := hrel
    by_cases hlt : j < zs.length
    · obtain ⟨b, off, rfl, hb, hcj⟩ := hcell j hlt
      have hD : Hid (zs.drop j = zs[j] :: zs.drop (j + 1)) := List.drop_eq_getElem_cons hlt
      obtain ⟨z, hz⟩ : ∃ z, z = zs[j] := ⟨_, rfl⟩
      rw [← hz] at hcj hD
      clear hz hcell
      have hpz := hp z
      cases hpb : p z with
      | true =>
        rw [hpb] at hpz
        have HP := Lib.hid hpz; clear hpz
        have HB := Lib.hid hpb; clear hpb
        go_wp2_with (with_reducible refine (HP.out _).mono ?_; rintro e w' ⟨rfl, rfl⟩)
        go_ret
        exact ⟨ret_int (by rw [hH.out, hD.out, firstAt, HB.out]; rfl), rfl⟩
      | false =>
        rw [hpb] at hpz
        have HP := Lib.hid hpz; clear hpz
        have HB := Lib.hid hpb; clear hpb
        go_wp2_with (with_reducible refine (HP.out _).mono ?_; rintro e w' ⟨rfl, rfl⟩)
        go_round
        case rel => exact ⟨j + 1, by omega, by go_num, by rw [hH.out, hD.out, firstAt, HB.out]; simp [Hid]⟩
        case measure => simp [intOf]; omega
    · go_wp2
      go_ret
      exact ⟨ret_int (by rw [hH.out, List.drop_of_length_le (by omega)]; rfl), rfl⟩

set_option maxHeartbeats 1000000 in
theorem containsFunc_any (g : Nat) (p : Int → Bool) (hp : Says g p) (v : Value) (zs : List Int) (w : World) (hl : zs.length ≤ 4194304) (hr : RInts w v zs) :
    Calls Try.prog 51 #[v, .func (.func g) #[] #[]] w fun e w' => e = .returned (.bool (zs.any p)) ∧ w = w' := by
  have HP := Lib.hid hp; clear hp
  have HR := Lib.hid hr; clear hr
  go_enter Try.func51, Try.ntmps51
  go_wp2_with fail
  refine (indexFunc_any g p HP.out v zs _ hl HR.out).mono ?_
  rintro e w' ⟨rfl, rfl⟩
  cases h : zs.any p with
  | true =>
    have h0 := firstAt_some p zs 0 h
    generalize firstAt p 0 zs = q at *
    go_wp2
    go_ret
    exact ⟨ret_bool (by rw [h]), rfl⟩
  | false =>
    rw [firstAt_none p zs 0 h]
    go_wp2
    go_ret
    exact ⟨ret_bool (by rw [h]), rfl⟩
end Go.Proofs.Ytcahemedlmagdaa
