/- Which tables are valid: of the program. -/
import Derived.Test.YtfklkkelgpeccaaTv
import Derived.Deep.RegionHeld3
namespace Go.Proofs.Ytfklkkelgpeccaa
open Go.RowKit
set_option linter.unusedVariables false
set_option linter.unusedSimpArgs false

theorem all_bad {zs : List Int} {j : Nat} (h : j < zs.length) (hb : ptB zs[j] = false) : zs.all ptB = false := by
  rw [List.all_eq_false]
  exact ⟨zs[j], List.getElem_mem h, by simp [hb]⟩
theorem all_good {zs : List Int} (h : ∀ i, (h2 : i < zs.length) → i < zs.length → ptB zs[i] = true) : zs.all ptB = true := by
  rw [List.all_eq_true]
  intro x hx
  obtain ⟨i, hi, rfl⟩ := List.getElem_of_mem hx
  exact h i hi hi

set_option maxHeartbeats 1000000 in
theorem positions_any (v : Value) (zs : List Int) (w : World) (hl : zs.length ≤ 4194304) (hr : RInts w v zs) :
    Calls Try.prog 59 #[v] w fun e w' => e = .returned (.bool (zs.all ptB)) ∧ w = w' := by
  obtain ⟨a, cap, rfl, hc, hm, hcell⟩ := id hr
  have HC := Lib.hid hcell
  clear hr hcell
  go_enter Try.func59, Try.ntmps59
  go_wp2
  go_loop [4, 7] (fun it i => ∃ j : Nat, j ≤ zs.length ∧ i = .int .i64 j ∧ Hid (∀ i, (h2 : i < zs.length) → i < j → ptB zs[i] = true)) (fun _ i => zs.length - (intOf i).toNat)
  case atStart => exact ⟨0, Nat.zero_le _, rfl, Lib.hid (fun i _ h => absurd h (by omega))⟩
  case round =>
    obtain ⟨j, hj, rfl, HB⟩ := hrel
    by_cases hlt : j < zs.length
    · obtain ⟨b, off, rfl, hbl, c0⟩ := HC.out j hlt
      go_wp2_with fail
      refine (ok_any _ _).mono ?_
      rintro e w' ⟨rfl, rfl⟩
      cases h1 : ptB zs[j] with
      | false =>
        have HA := Lib.hid (all_bad hlt h1)
        clear h1
        go_wp2
        go_ret
        exact ⟨ret_bool (by rw [HA.out]), rfl⟩
      | true =>
        have HB2 : Hid (∀ i, (h2 : i < zs.length) → i < j + 1 → ptB zs[i] = true) := Lib.hid (fun i h2 h3 => by
          by_cases e : i = j
          · subst e; exact h1
          · exact HB.out i h2 (by omega))
        clear h1
        go_wp2
        go_round
        case rel => exact ⟨j + 1, by omega, by go_num, HB2⟩
        case measure => simp [intOf]; omega
    · have HA : Hid (zs.all ptB = true) := Lib.hid (all_good fun i h2 _ => HB.out i h2 (by omega))
      go_wp2
      go_ret
      exact ⟨ret_bool (by rw [HA.out]), rfl⟩

theorem RInts.two (w : World) (x y : Int) {g : Nat} (hg : g = w.heap.size) : RInts (w.alloc (.cells #[.int .i64 x, .int .i64 y] 3)) (.slice (some ⟨g, 0, none⟩) 2 2) [x, y] := by
  subst hg
  refine ⟨_, 2, rfl, by simp, by unfold maxLen; omega, fun i hi => ⟨w.heap.size, 0, rfl, by simp, ?_⟩⟩
  have h : (w.alloc (.cells #[.int .i64 x, .int .i64 y] 3)).cell? ⟨w.heap.size, i, none⟩ = (#[Value.int .i64 x, Value.int .i64 y])[i]? := cell_of_row _ _ i _ _ (0, 0) (heap_alloc_new _ _)
  rw [Nat.zero_add, h]
  have : i = 0 ∨ i = 1 := by simp at hi; omega
  rcases this with rfl | rfl <;> rfl
end Go.Proofs.Ytfklkkelgpeccaa
