/- eqEntryS and sameEntries at equal lists. -/
import Derived.Test.YtcahemedlmagdaaEnt
import Derived.StillTailTactics
import Derived.Laws.StructEq
namespace Go.Proofs.Ytcahemedlmagdaa
open Go.RowKit
set_option linter.unusedVariables false
set_option linter.unusedSimpArgs false

set_option maxHeartbeats 1000000 in
theorem eqEntryS_same (v1 v2 : Value) (zs : List Ent) (w : World) (hl : zs.length ≤ 4194304) (hr1 : RRow EL w v1 zs) (hr2 : RRow EL w v2 zs) :
    Calls Try.prog 16 #[v1, v2] w fun e w' => e = .returned (.bool true) ∧ Below w.heap.size w w' := by
  obtain ⟨a, cap, rfl, hc, hm, -⟩ := id hr1
  obtain ⟨a2, cap2, rfl, hc2, hm2, -⟩ := id hr2
  have hcell := hr1.ent
  have hcell2 := hr2.ent
  clear hr1 hr2
  go_enter Try.func16, Try.ntmps16
  go_wp2
  go_loopw [5] (fun i wr => ∃ j : Nat, j ≤ zs.length ∧ i = .int .i64 j ∧ Below w.heap.size w wr) (fun i _ => zs.length - (intOf i).toNat)
  case atStart => exact ⟨0, Nat.zero_le _, rfl, Below.refl _ _⟩
  case round =>
    obtain ⟨j, hj, rfl, hb⟩ := hrel
    by_cases hlt : j < zs.length
    · obtain ⟨b, off, rfl, hbl, h0, h1, h2⟩ := hcell j hlt
      obtain ⟨b2, off2, rfl, hbl2, g0, g1, g2⟩ := hcell2 j hlt
      clear hcell hcell2
      have hr0 : wr.cell? ⟨b, off + j * 3, none⟩ = some (.int .i64 zs[j].1) := by rw [hb.cell (p := ⟨b, off + j * 3, none⟩) hbl]; exact h0
      have hr1 : wr.cell? ⟨b, off + j * 3 + 1, none⟩ = some (.int .i64 zs[j].2.1) := by rw [hb.cell (p := ⟨b, off + j * 3 + 1, none⟩) hbl]; exact h1
      have hr2 : wr.cell? ⟨b, off + j * 3 + 2, none⟩ = some (.int .i64 zs[j].2.2) := by rw [hb.cell (p := ⟨b, off + j * 3 + 2, none⟩) hbl]; exact h2
      have hs0 : wr.cell? ⟨b2, off2 + j * 3, none⟩ = some (.int .i64 zs[j].1) := by rw [hb.cell (p := ⟨b2, off2 + j * 3, none⟩) hbl2]; exact g0
      have hs1 : wr.cell? ⟨b2, off2 + j * 3 + 1, none⟩ = some (.int .i64 zs[j].2.1) := by rw [hb.cell (p := ⟨b2, off2 + j * 3 + 1, none⟩) hbl2]; exact g1
      have hs2 : wr.cell? ⟨b2, off2 + j * 3 + 2, none⟩ = some (.int .i64 zs[j].2.2) := by rw [hb.cell (p := ⟨b2, off2 + j * 3 + 2, none⟩) hbl2]; exact g2
      clear h0 h1 h2 g0 g1 g2
      generalize zs[j].1 = x at *
      generalize zs[j].2.1 = y at *
      generalize zs[j].2.2 = z at *
      go_wp2_with fail
      go_still_tail 8, (by kernel_rfl)
      go_wp2_with fail
      refine (eqEntry_any _ _ _ _ _ _ _).mono ?_
      rintro e w2 ⟨rfl, b2⟩
      have c2 := bNext (bD1 hb) b2
      have hd : decide (((x, y, z) : Ent) = (x, y, z)) = true := decide_eq_true rfl
      go_wp2
      go_roundw
      case rel => exact ⟨j + 1, by omega, by go_num, c2⟩
      case measure => simp [intOf]; omega
    · go_wp2
      go_ret
      exact ⟨rfl, hb⟩
set_option maxHeartbeats 1000000 in
theorem sameEntries_same (v1 v2 : Value) (zs : List Ent) (w : World) (hl : zs.length ≤ 4194304) (hr1 : RRow EL w v1 zs) (hr2 : RRow EL w v2 zs) :
    Calls Try.prog 13 #[v1, v2] w fun e w' => e = .returned (.bool true) ∧ Below w.heap.size w w' := by
  obtain ⟨a, cap, rfl, hc, hm, -⟩ := id hr1
  obtain ⟨a2, cap2, rfl, hc2, hm2, -⟩ := id hr2
  have hcell := hr1.ent
  have hcell2 := hr2.ent
  clear hr1 hr2
  go_enter Try.func13, Try.ntmps13
  go_wp2
  go_loopw [5] (fun i wr => ∃ j : Nat, j ≤ zs.length ∧ i = .int .i64 j ∧ Below w.heap.size w wr) (fun i _ => zs.length - (intOf i).toNat)
  case atStart => exact ⟨0, Nat.zero_le _, rfl, Below.refl _ _⟩
  case round =>
    obtain ⟨j, hj, rfl, hb⟩ := hrel
    by_cases hlt : j < zs.length
    · obtain ⟨b, off, rfl, hbl, h0, h1, h2⟩ := hcell j hlt
      obtain ⟨b2, off2, rfl, hbl2, g0, g1, g2⟩ := hcell2 j hlt
      clear hcell hcell2
      have hr0 : wr.cell? ⟨b, off + j * 3, none⟩ = some (.int .i64 zs[j].1) := by rw [hb.cell (p := ⟨b, off + j * 3, none⟩) hbl]; exact h0
      have hr1 : wr.cell? ⟨b, off + j * 3 + 1, none⟩ = some (.int .i64 zs[j].2.1) := by rw [hb.cell (p := ⟨b, off + j * 3 + 1, none⟩) hbl]; exact h1
      have hr2 : wr.cell? ⟨b, off + j * 3 + 2, none⟩ = some (.int .i64 zs[j].2.2) := by rw [hb.cell (p := ⟨b, off + j * 3 + 2, none⟩) hbl]; exact h2
      have hs0 : wr.cell? ⟨b2, off2 + j * 3, none⟩ = some (.int .i64 zs[j].1) := by rw [hb.cell (p := ⟨b2, off2 + j * 3, none⟩) hbl2]; exact g0
      have hs1 : wr.cell? ⟨b2, off2 + j * 3 + 1, none⟩ = some (.int .i64 zs[j].2.1) := by rw [hb.cell (p := ⟨b2, off2 + j * 3 + 1, none⟩) hbl2]; exact g1
      have hs2 : wr.cell? ⟨b2, off2 + j * 3 + 2, none⟩ = some (.int .i64 zs[j].2.2) := by rw [hb.cell (p := ⟨b2, off2 + j * 3 + 2, none⟩) hbl2]; exact g2
      clear h0 h1 h2 g0 g1 g2
      generalize zs[j].1 = x at *
      generalize zs[j].2.1 = y at *
      generalize zs[j].2.2 = z at *
      go_wp2
      go_quiet (fail)
      go_wp2
      go_roundw
      case rel => exact ⟨j + 1, by omega, by go_num, bDr hb _⟩
      case measure => simp [intOf]; omega
    · go_wp2
      go_ret
      exact ⟨rfl, hb⟩
end Go.Proofs.Ytcahemedlmagdaa
