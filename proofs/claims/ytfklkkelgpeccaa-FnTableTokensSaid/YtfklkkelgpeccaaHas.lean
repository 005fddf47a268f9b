/- What hasInt answers. -/
import Derived.Test.YtfklkkelgpeccaaInts
namespace Go.Proofs.Ytfklkkelgpeccaa
open Go.RowKit
set_option linter.unusedVariables false
set_option linter.unusedSimpArgs false

set_option maxHeartbeats 400000 in
theorem hasInt_any (v : Value) (zs : List Int) (n : Int) (w : World) (hlen : zs.length ≤ 4194304) (hr : RInts w v zs) :
    Calls Try.prog 31 #[v, .int .i64 n] w fun e w' => e = .returned (.bool (decide (n ∈ zs))) ∧ w = w' := by
  obtain ⟨a, cap, rfl, hc, hm, hcell⟩ := hr
  go_enter Try.func31, Try.ntmps31
  go_wp2
  go_loop [5] (fun i => ∃ j : Nat, j ≤ zs.length ∧ i = .int .i64 j ∧ Hid (n ∉ zs.take j)) (fun i => zs.length - (intOf i).toNat)
  case atStart => exact ⟨0, Nat.zero_le _, rfl, by simp [Hid]⟩
  case round =>
    obtain ⟨j, hj, rfl, hH⟩ := hrel
    by_cases hlt : j < zs.length
    · obtain ⟨b, off, rfl, hb, hcj⟩ := hcell j hlt
      have hD : Hid (zs.take (j + 1) = zs.take j ++ [zs[j]]) := List.take_succ_eq_append_getElem hlt
      have hM : Hid (zs[j] ∈ zs) := List.getElem_mem hlt
      obtain ⟨z, hz⟩ : ∃ z, z = zs[j] := ⟨_, rfl⟩
      rw [← hz] at hcj hD hM
      clear hz
      by_cases hzk : z = n
      · have hzk' : (z == n) = true := by simp [hzk]
        have HZ := Lib.hid hzk; clear hzk
        go_wp2
        go_ret
        exact ⟨ret_bool (by rw [decide_eq_true]; rw [← HZ.out]; exact hM.out), rfl⟩
      · have hzk' : (z == n) = false := by simp [hzk]
        go_wp2
        go_round
        case rel => exact ⟨j + 1, by omega, by go_num, by show n ∉ _; rw [hD.out]; simp; exact ⟨hH.out, fun h => hzk h.symm⟩⟩
        case measure => simp [intOf]; omega
    · go_wp2
      go_ret
      exact ⟨ret_bool (by rw [decide_eq_false]; have := hH.out; rw [List.take_of_length_le (by omega)] at this; exact this), rfl⟩

end Go.Proofs.Ytfklkkelgpeccaa
