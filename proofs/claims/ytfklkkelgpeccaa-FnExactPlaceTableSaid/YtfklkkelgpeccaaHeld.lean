/- What heldIntS answers. -/
import Derived.Test.YtfklkkelgpeccaaInts
namespace Go.Proofs.Ytfklkkelgpeccaa
open Go.RowKit
set_option linter.unusedVariables false
set_option linter.unusedSimpArgs false

set_option maxHeartbeats 400000 in
theorem heldIntS_any (v : Value) (zs : List Int) (k : Int) (w : World) (hk0 : 0 ≤ k) (hk1 : k ≤ 4611686018427387904) (hlen : zs.length ≤ 4194304) (hr : RInts w v zs) :
    Calls Try.prog 26 #[v, .int .i64 k] w fun e w' => e = .returned (.int .i64 (heldFrom k zs)) ∧ w = w' := by
  obtain ⟨a, cap, rfl, hc, hm, hcell⟩ := hr
  go_enter Try.func26, Try.ntmps26
  go_wp2
  go_loop [1, 5] (fun q i => ∃ j : Nat, j ≤ zs.length ∧ i = .int .i64 j ∧ q = .int .i64 (k + j) ∧ Hid (heldFrom k zs = heldFrom (k + j) (zs.drop j))) (fun _ i => zs.length - (intOf i).toNat)
  case atStart => exact ⟨0, Nat.zero_le _, rfl, by simp, by simp [Hid]⟩
  case round =>
    obtain ⟨j, hj, rfl, rfl, hH⟩ := hrel
    by_cases hlt : j < zs.length
    · obtain ⟨b, off, rfl, hb, hcj⟩ := hcell j hlt
      have hD : Hid (zs.drop j = zs[j] :: zs.drop (j + 1)) := List.drop_eq_getElem_cons hlt
      obtain ⟨z, hz⟩ : ∃ z, z = zs[j] := ⟨_, rfl⟩
      rw [← hz] at hcj hD
      clear hz
      by_cases hzk : z = k + j
      · have hzk' : (z != k + j) = false := by simp [hzk]
        have HZ := Lib.hid hzk; clear hzk
        go_wp2
        go_round
        case rel => exact ⟨j + 1, by omega, by go_num, by go_num, by rw [hH.out, hD.out, heldFrom, if_pos HZ.out]; simp [Hid]; congr 1; omega⟩
        case measure => simp [intOf]; omega
      · have hzk' : (z != k + j) = true := by simp [hzk]
        go_wp2
        go_ret
        exact ⟨ret_int (by rw [hH.out, hD.out, heldFrom, if_neg hzk]), rfl⟩
    · go_wp2
      go_ret
      exact ⟨ret_int (by rw [hH.out, List.drop_of_length_le (by omega)]; rfl), rfl⟩

end Go.Proofs.Ytfklkkelgpeccaa
