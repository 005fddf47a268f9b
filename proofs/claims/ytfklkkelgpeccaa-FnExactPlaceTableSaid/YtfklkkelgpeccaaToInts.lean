/- What toIntS makes. -/
import Derived.Test.YtfklkkelgpeccaaInts
namespace Go.Proofs.Ytfklkkelgpeccaa
open Go.RowKit
set_option linter.unusedVariables false
set_option linter.unusedSimpArgs false

theorem set_to {zs : List Int} {j : Nat} (hj : j < zs.length) : (ints (zs.take j ++ List.replicate (zs.length - j) 0)).set j (.int .i64 zs[j]) = ints (zs.take (j + 1) ++ List.replicate (zs.length - (j + 1)) 0) := by
  have e : zs.length - j = (zs.length - (j + 1)) + 1 := by omega
  have hl : (List.map (Value.int .i64) (zs.take j)).length = j := by simp; omega
  rw [List.take_succ_eq_append_getElem hj, e, List.replicate_succ]
  unfold ints
  rw [List.map_append, List.set_append, if_neg (by rw [hl]; omega), hl, Nat.sub_self, List.map_append, List.map_append, List.append_assoc]
  rfl

set_option maxHeartbeats 1000000 in
theorem toIntS_any (v : Value) (zs : List Int) (w : World) (hlen : zs.length ≤ 4194304) (hr : RInts w v zs) :
    Calls Try.prog 33 #[v] w fun e w' => ∃ u, e = .returned u ∧ OwnInts w' w.heap.size u zs ∧ Below w.heap.size w w' := by
  obtain ⟨a, cap, rfl, hc, hm, hcell⟩ := hr
  obtain ⟨i0, hi, hz0, hz1, hz2⟩ := info_parts infoInt
  go_enter Try.func33, Try.ntmps33
  go_wp2_with (at_make; refine wpList_make_full _ rfl _ _ 29 rfl w.heap.size 3 i0 (.int .i64 0) 1 Try.underlying29 hi hz0 hz1 .i64 .i64 _ _ zs.length rfl rfl rfl rfl ?c1 ?c2 ?c3 ?_)
  case c1 => rw [hz2]; omega
  case c2 => omega
  case c3 => exact Nat.le_refl _
  intro w1 hown1 hg1
  have hown1' : w1.ownsRow w.heap.size 3 1 (.slice (some ⟨w.heap.size, 0, none⟩) zs.length zs.length) zs.length (ints (zs.take 0 ++ List.replicate (zs.length - 0) 0)) := by
    have e : (madeCells #[Value.int .i64 0] zs.length).toList = ints (zs.take 0 ++ List.replicate (zs.length - 0) 0) := by
      simp [toList_madeCells_one, ints]
    rw [← e]; exact hown1
  have hbel : Below w.heap.size w w1 := (Below.refl _ _).grown hg1 (Nat.le_refl _) (fun j hj => by cases hj)
  clear hown1 hg1
  go_wp2
  go_loopw [4] (fun i wr => ∃ j : Nat, j ≤ zs.length ∧ i = .int .i64 j ∧ wr.ownsRow w.heap.size 3 1 (.slice (some ⟨w.heap.size, 0, none⟩) zs.length zs.length) zs.length (ints (zs.take j ++ List.replicate (zs.length - j) 0)) ∧ Below w.heap.size w wr) (fun i _ => zs.length - (intOf i).toNat)
  case atStart => exact ⟨0, Nat.zero_le _, rfl, hown1', hbel⟩
  case round =>
    obtain ⟨j, hj, rfl, hownj, hb⟩ := hrel
    by_cases hlt : j < zs.length
    · obtain ⟨b, off, rfl, hbl, hcj⟩ := hcell j hlt
      have hcj' : wr.cell? ⟨b, off + j, none⟩ = some (.int .i64 zs[j]) := by rw [hb.cell (p := ⟨b, off + j, none⟩) hbl]; exact hcj
      have hst := hownj.stored j (.int .i64 zs[j])
      rw [set_to hlt] at hst
      have hcu : ∃ u, wr.cell? ⟨w.heap.size, j, none⟩ = some u := ⟨_, (hownj.cellAt j (by omega)).trans (List.getElem?_eq_getElem (by simp; omega))⟩
      obtain ⟨u, hcu⟩ := hcu
      have hfz := hownj.frozenAt j
      obtain ⟨z, hz⟩ : ∃ z, z = zs[j] := ⟨_, rfl⟩
      rw [← hz] at hcj' hst
      clear hz hcj hcell
      have HS := Lib.hid hst
      clear hst
      go_wp2
      go_roundw
      case rel => exact ⟨j + 1, by omega, by go_num, HS.out.1, hb.setCell (Nat.le_refl _) _⟩
      case measure => simp [intOf]; omega
    · obtain rfl : j = zs.length := by omega
      go_wp2
      go_ret
      exact ⟨_, rfl, by simpa [OwnInts] using hownj, hb⟩
end Go.Proofs.Ytfklkkelgpeccaa
