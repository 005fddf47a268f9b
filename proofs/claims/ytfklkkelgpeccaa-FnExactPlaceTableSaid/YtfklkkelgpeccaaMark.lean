/- What markIntS does. -/
import Derived.Test.YtfklkkelgpeccaaInts
namespace Go.Proofs.Ytfklkkelgpeccaa
open Go.RowKit
set_option linter.unusedVariables false
set_option linter.unusedSimpArgs false

theorem set_up {zs : List Int} {k : Int} {j : Nat} (hj : j < zs.length) : (ints (upFrom k j ++ zs.drop j)).set j (.int .i64 (k + j)) = ints (upFrom k (j + 1) ++ zs.drop (j + 1)) := by
  have hu : ∀ (k : Int) (j : Nat), upFrom k (j + 1) = upFrom k j ++ [k + j] := by
    intro k j
    induction j generalizing k with
    | zero => simp [upFrom]
    | succ j ih => rw [upFrom, ih (k + 1)]; simp [upFrom]; omega
  have hs : ∀ (l : List Value) (h : j < l.length) (u : Value), (l.drop j).set 0 u = u :: l.drop (j + 1) := by
    intro l h u
    rw [List.drop_eq_getElem_cons h]; rfl
  rw [hu]
  simp [ints, List.set_append, length_upFrom, List.map_drop]
  exact hs _ (by simpa using hj) _

set_option maxHeartbeats 400000 in
theorem markIntS_any (v : Value) (zs : List Int) (k : Int) (w : World) (B : Nat) (hk0 : 0 ≤ k) (hk1 : k ≤ 4611686018427387904) (hlen : zs.length ≤ 4194304) (hown0 : OwnA w B v zs) :
    Calls Try.prog 25 #[v, .int .i64 k] w fun e w' => e = .returned (.int .i64 (k + zs.length)) ∧ OwnA w' B v (upFrom k zs.length) ∧ w.grownBy w' v.ownBlock := by
  obtain ⟨e, hown⟩ := hown0
  rcases ownsRow_shape hown with ⟨rfl, h0⟩ | ⟨g, cap, rfl, hB, hg, hn, hc⟩
  · obtain rfl : zs = [] := List.eq_nil_of_length_eq_zero h0
    go_enter Try.func25, Try.ntmps25
    go_wp2
    refine wp_loop_rounds 1 ?_
    rw [rounds_succ]
    go_wp2
    go_ret
    exact ⟨by simp, ⟨e, hown⟩, ⟨rfl, rfl, rfl, Nat.le_refl _, fun _ _ _ => rfl⟩⟩
  · go_enter Try.func25, Try.ntmps25
    go_wp2
    go_loopw [1, 5] (fun q i wr => ∃ j : Nat, j ≤ zs.length ∧ i = .int .i64 j ∧ q = .int .i64 (k + j) ∧ wr.ownsRow B e 1 (.slice (some ⟨g, 0, none⟩) zs.length cap) zs.length (ints (upFrom k j ++ zs.drop j)) ∧ w.grownBy wr (some g)) (fun _ i _ => zs.length - (intOf i).toNat)
    case atStart => exact ⟨0, Nat.zero_le _, rfl, by simp, by simpa [upFrom] using hown, ⟨rfl, rfl, rfl, Nat.le_refl _, fun _ _ _ => rfl⟩⟩
    case round =>
      obtain ⟨j, hj, rfl, rfl, hownj, hgr⟩ := hrel
      by_cases hlt : j < zs.length
      · have hcj : ∃ u, wr.cell? ⟨g, j, none⟩ = some u := ⟨_, (hownj.cellAt j (by omega)).trans (List.getElem?_eq_getElem (by simp [length_upFrom]; omega))⟩
        obtain ⟨u, hcj⟩ := hcj
        have hfz := hownj.frozenAt j
        have hst := hownj.stored j (.int .i64 (k + j))
        rw [set_up hlt] at hst
        have HS := Lib.hid hst
        clear hst
        go_wp2
        go_roundw
        case rel => exact ⟨j + 1, by omega, by go_num, by go_num, HS.out.1, hgr.trans HS.out.2⟩
        case measure => simp [intOf]; omega
      · obtain rfl : j = zs.length := by omega
        go_wp2
        go_ret
        exact ⟨rfl, ⟨e, by simpa [length_upFrom] using hownj⟩, hgr⟩
end Go.Proofs.Ytfklkkelgpeccaa
