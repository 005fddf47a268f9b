/- eqTokenS and sameTokens at equal lists. -/
import Derived.Test.YtfklkkelgpeccaaTk
import Derived.StillTailTactics
import Derived.Laws.StructEq
namespace Go.Proofs.Ytfklkkelgpeccaa
open Go.RowKit
set_option linter.unusedVariables false
set_option linter.unusedSimpArgs false

set_option maxRecDepth 100000 in
set_option maxHeartbeats 1000000 in
theorem eqTokenS_same (v1 v2 : Value) (zs : List Tok) (w : World) (hl : zs.length ≤ 4194304) (hr1 : RRow TL w v1 zs) (hr2 : RRow TL w v2 zs) :
    Calls Try.prog 18 #[v1, v2] w fun e w' => e = .returned (.bool true) ∧ Below w.heap.size w w' := by
  obtain ⟨a, cap, rfl, hc, hm, -⟩ := id hr1
  obtain ⟨a2, cap2, rfl, hc2, hm2, -⟩ := id hr2
  have hcell := hr1.tok
  have hcell2 := hr2.tok
  clear hr1 hr2
  go_enter Try.func18, Try.ntmps18
  go_wp2
  go_loopw [5] (fun i wr => ∃ j : Nat, j ≤ zs.length ∧ i = .int .i64 j ∧ Below w.heap.size w wr) (fun i _ => zs.length - (intOf i).toNat)
  case atStart => exact ⟨0, Nat.zero_le _, rfl, Below.refl _ _⟩
  case round =>
    obtain ⟨j, hj, rfl, hb⟩ := hrel
    by_cases hlt : j < zs.length
    · obtain ⟨b, off, rfl, hbl, h0, h1⟩ := hcell j hlt
      obtain ⟨b2, off2, rfl, hbl2, g0, g1⟩ := hcell2 j hlt
      clear hcell hcell2
      have hr0 : wr.cell? ⟨b, off + j * 2, none⟩ = some (.int .i64 zs[j].1) := by rw [hb.cell (p := ⟨b, off + j * 2, none⟩) hbl]; exact h0
      have hr1 : wr.cell? ⟨b, off + j * 2 + 1, none⟩ = some (.int .i64 zs[j].2) := by rw [hb.cell (p := ⟨b, off + j * 2 + 1, none⟩) hbl]; exact h1
      have hs0 : wr.cell? ⟨b2, off2 + j * 2, none⟩ = some (.int .i64 zs[j].1) := by rw [hb.cell (p := ⟨b2, off2 + j * 2, none⟩) hbl2]; exact g0
      have hs1 : wr.cell? ⟨b2, off2 + j * 2 + 1, none⟩ = some (.int .i64 zs[j].2) := by rw [hb.cell (p := ⟨b2, off2 + j * 2 + 1, none⟩) hbl2]; exact g1
      clear h0 h1 g0 g1
      generalize zs[j].1 = x at *
      generalize zs[j].2 = y at *
      go_wp2_with fail
      go_still_tail 8, (by kernel_rfl)
      go_wp2_with fail
      refine (eqToken_any _ _ _ _ _).mono ?_
      rintro e w2 ⟨rfl, b2⟩
      have c2 := bNext (bD1 hb) b2
      have hd : decide (((x, y) : Tok) = (x, y)) = true := decide_eq_true rfl
      go_wp2
      go_roundw
      case rel => exact ⟨j + 1, by omega, by go_num, c2⟩
      case measure => simp [intOf]; omega
    · go_wp2
      go_ret
      exact ⟨rfl, hb⟩
set_option maxRecDepth 100000 in
set_option maxHeartbeats 1000000 in
theorem sameTokens_same (v1 v2 : Value) (zs : List Tok) (w : World) (hl : zs.length ≤ 4194304) (hr1 : RRow TL w v1 zs) (hr2 : RRow TL w v2 zs) :
    Calls Try.prog 37 #[v1, v2] w fun e w' => e = .returned (.bool true) ∧ Below w.heap.size w w' := by
  obtain ⟨a, cap, rfl, hc, hm, -⟩ := id hr1
  obtain ⟨a2, cap2, rfl, hc2, hm2, -⟩ := id hr2
  have hcell := hr1.tok
  have hcell2 := hr2.tok
  clear hr1 hr2
  go_enter Try.func37, Try.ntmps37
  go_wp2
  go_loopw [5] (fun i wr => ∃ j : Nat, j ≤ zs.length ∧ i = .int .i64 j ∧ Below w.heap.size w wr) (fun i _ => zs.length - (intOf i).toNat)
  case atStart => exact ⟨0, Nat.zero_le _, rfl, Below.refl _ _⟩
  case round =>
    obtain ⟨j, hj, rfl, hb⟩ := hrel
    by_cases hlt : j < zs.length
    · obtain ⟨b, off, rfl, hbl, h0, h1⟩ := hcell j hlt
      obtain ⟨b2, off2, rfl, hbl2, g0, g1⟩ := hcell2 j hlt
      clear hcell hcell2
      have hr0 : wr.cell? ⟨b, off + j * 2, none⟩ = some (.int .i64 zs[j].1) := by rw [hb.cell (p := ⟨b, off + j * 2, none⟩) hbl]; exact h0
      have hr1 : wr.cell? ⟨b, off + j * 2 + 1, none⟩ = some (.int .i64 zs[j].2) := by rw [hb.cell (p := ⟨b, off + j * 2 + 1, none⟩) hbl]; exact h1
      have hs0 : wr.cell? ⟨b2, off2 + j * 2, none⟩ = some (.int .i64 zs[j].1) := by rw [hb.cell (p := ⟨b2, off2 + j * 2, none⟩) hbl2]; exact g0
      have hs1 : wr.cell? ⟨b2, off2 + j * 2 + 1, none⟩ = some (.int .i64 zs[j].2) := by rw [hb.cell (p := ⟨b2, off2 + j * 2 + 1, none⟩) hbl2]; exact g1
      clear h0 h1 g0 g1
      generalize zs[j].1 = x at *
      generalize zs[j].2 = y at *
      go_wp2
      go_quiet (fail)
      go_wp2
      go_roundw
      case rel => exact ⟨j + 1, by omega, by go_num, bDr hb _⟩
      case measure => simp [intOf]; omega
    · go_wp2
      go_ret
      exact ⟨rfl, hb⟩
end Go.Proofs.Ytfklkkelgpeccaa
