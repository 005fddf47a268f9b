/- What sameInts answers. -/
import Derived.Test.YthgekfiodedelaaInts
namespace Go.Proofs.Ythgekfiodedelaa
open Go.RowKit
set_option linter.unusedVariables false
set_option linter.unusedSimpArgs false

set_option maxHeartbeats 400000 in
theorem sameInts_any (v1 v2 : Value) (xs ys : List Int) (w : World) (hl1 : xs.length ≤ 4194304) (hr1 : RInts w v1 xs) (hr2 : RInts w v2 ys) :
    Calls Try.prog 15 #[v1, v2] w fun e w' => e = .returned (.bool (decide (xs = ys))) ∧ ∃ n, w' = w.drewN n := by
  obtain ⟨a, cap, rfl, hc, hm, hcell⟩ := hr1
  obtain ⟨a2, cap2, rfl, hc2, hm2, hcell2⟩ := hr2
  by_cases hne : xs.length = ys.length
  · have hlen2 : ys.length ≤ 4194304 := by omega
    have hne' : ((xs.length : Int) != ys.length) = false := by simp [hne]
    have HN := Lib.hid hne; clear hne
    go_enter Try.func15, Try.ntmps15
    go_wp2
    go_loopw [5] (fun i wr => ∃ j : Nat, j ≤ xs.length ∧ i = .int .i64 j ∧ Hid (xs.take j = ys.take j) ∧ ∃ m, wr = w.drewN m) (fun i _ => xs.length - (intOf i).toNat)
    case atStart => exact ⟨0, Nat.zero_le _, rfl, by simp [Hid], 0, rfl⟩
    case round =>
      obtain ⟨j, hj, rfl, hH, m0, rfl⟩ := hrel
      by_cases hlt : j < xs.length
      · have hlt2 : j < ys.length := by have := HN.out; omega
        obtain ⟨b, off, rfl, hb, hcj⟩ := hcell j hlt
        obtain ⟨b2, off2, rfl, hb2, hcj2⟩ := hcell2 j hlt2
        obtain ⟨x, hx⟩ : ∃ x, x = xs[j] := ⟨_, rfl⟩
        obtain ⟨y, hy⟩ : ∃ y, y = ys[j] := ⟨_, rfl⟩
        rw [← hx] at hcj
        rw [← hy] at hcj2
        have HX := Lib.hid hx; clear hx
        have HY := Lib.hid hy; clear hy
        by_cases hxy : x = y
        · have hxy' : (x != y) = false := by simp [hxy]
          have HE := Lib.hid hxy; clear hxy
          go_wp2
          go_quiet (fail)
          go_wp2
          go_roundw
          case rel => exact ⟨j + 1, by omega, by go_num, take_snoc_eq hlt hlt2 hH.out (by rw [← HX.out, ← HY.out]; exact HE.out), (by first | exact ⟨_, rfl⟩ | exact draws_two _ _ _)⟩
          case measure => simp [intOf]; omega
        · have hxy' : (x != y) = true := by simp [hxy]
          go_wp2
          go_quiet (fail)
          go_wp2
          go_ret
          exact ⟨ret_bool (by rw [decide_eq_false]; exact take_ne hlt hlt2 (by rw [← HX.out, ← HY.out]; exact hxy)), (by first | exact ⟨_, rfl⟩ | exact draws_two _ _ _)⟩
      · go_wp2
        go_ret
        exact ⟨ret_bool (by rw [decide_eq_true]; exact eqLists xs ys j hj hH.out HN.out (by omega)), _, rfl⟩
  · have hne' : ((xs.length : Int) != ys.length) = true := by simp; omega
    go_enter Try.func15, Try.ntmps15
    go_wp2
    go_ret
    exact ⟨ret_bool (by rw [decide_eq_false]; intro h; subst h; exact hne rfl), 0, rfl⟩


end Go.Proofs.Ythgekfiodedelaa
