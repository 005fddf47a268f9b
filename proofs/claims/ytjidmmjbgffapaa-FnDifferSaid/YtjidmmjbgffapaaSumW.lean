/- Sums of the program: isSum, the closure in SumsOf, ContainsFunc, treeOf. -/
import Derived.Test.YtjidmmjbgffapaaInts
import Derived.Test.YtjidmmjbgffapaaRange
import Derived.Test.YtjidmmjbgffapaaTree
import Derived.Laws.CopyOwn
import Derived.Laws.Rows
import Derived.Laws.Tables
import Derived.Deep.MidRow
import Derived.BigRegion
namespace Go.Proofs.Ytjidmmjbgffapaa
open Go.RowKit
set_option linter.unusedVariables false
set_option linter.unusedSimpArgs false

set_option maxHeartbeats 400000 in
theorem isSum_any (n : Int) (w : World) : Calls Try.prog 33 #[.int .i64 n] w fun e w' => e = .returned (.bool (inB n 0 990)) ∧ w = w' := by
  go_enter Try.func33, Try.ntmps33
  go_wp2_with (go_at_call 38; refine (inRange_any _ _ _ _).mono ?_; rintro e w' ⟨rfl, rfl⟩)
  go_ret
  exact ⟨rfl, rfl⟩

set_option maxHeartbeats 400000 in
theorem sumsOf1_any (n : Int) (w : World) : Calls Try.prog 32 #[.int .i64 n] w fun e w' => e = .returned (.bool (!inB n 0 990)) ∧ w = w' := by
  go_enter Try.func32, Try.ntmps32
  go_wp2_with (go_at_call 33; refine (isSum_any _ _).mono ?_; rintro e w' ⟨rfl, rfl⟩)
  go_ret
  exact ⟨rfl, rfl⟩

theorem infoTree : (Try.prog.info? 43).map (·.size) = some 31 := by kernel_rfl
theorem infoTree' : ∃ a, Try.prog.info? 43 = some a ∧ a.size = 31 := by
  have h := infoTree
  cases hq : Try.prog.info? 43 with
  | none => rw [hq] at h; cases h
  | some a => rw [hq] at h; simp at h; exact ⟨a, rfl, h⟩
theorem sizeInt : (Try.prog.info? 3).map (·.size) = some 1 := by kernel_rfl
def zeros31 : List Value := List.replicate 31 (.int .i64 0)

theorem alloc2_get (w : World) (X Y : Obj) (h : w.heap.size + 1 < ((w.alloc X).alloc Y).heap.size) : ((w.alloc X).alloc Y).heap[w.heap.size + 1] = Y :=
  (Array.getElem?_eq_some_iff.1 (heap_alloc2_new w X Y)).2

theorem splice_zeros (zs : List Int) (h : zs.length = 16) : splice zeros31 15 (ints zs) = ints (arrK zs 15) := by
  rw [arrK_start zs h]
  simp [splice, zeros31, ints, h]

set_option maxHeartbeats 2000000 in
theorem treeOf_any (a : Option Addr) (cap : Nat) (zs : List Int) (w : World) (hl : zs.length = 16) (hz : ∀ z ∈ zs, 0 ≤ z ∧ z ≤ 990) (hr : RInts w (.slice a 16 cap) zs) :
    Calls Try.prog 34 #[.slice a 16 cap] w fun e w' => e = .returned (.agg (ints (treeL zs)).toArray) ∧ Below w.heap.size w w' := by
  have HL := Lib.hid hl
  have hcopy : ∀ (X Y : Obj), 0 < (ints zs).length → (some (⟨w.heap.size + 1, 15, none⟩ : Addr)) = some ⟨w.heap.size + 1, 15, none⟩ ∧ ∃ ad, a = some ad ∧ ∀ j v, (ints zs)[j]? = some v → ((w.alloc X).alloc Y).cell? (ad.add j) = some v := by
    intro X Y _
    obtain ⟨a', cap', hv, hn, hc, hcell⟩ := hr
    simp only [Value.slice.injEq] at hv
    obtain ⟨rfl, _, rfl⟩ := hv
    obtain ⟨b, off, rfl, hb, hx⟩ := hcell 0 (by omega)
    refine ⟨rfl, _, rfl, fun j v hj => ?_⟩
    have hjl : j < zs.length := by
      have := (List.getElem?_eq_some_iff.1 hj).1
      simpa using this
    obtain ⟨b', off', he, hb', hx'⟩ := hcell j hjl
    cases he
    rw [Addr.add_mid]
    have hbel : Below w.heap.size w ((w.alloc X).alloc Y) := ((Below.refl _ _).alloc (Nat.le_refl _) X).alloc (by simp) Y
    rw [hbel.cell (p := ⟨b, off + j, none⟩) hb', hx']
    simp [ints, hjl] at hj
    rw [hj]
  clear hl
  have hlen : (ints zs).length = Nat.min 16 16 := by simp [HL.out]
  go_enter Try.func34, Try.ntmps34
  go_wp2_with (with_reducible refine wpList_copy_splice rfl (.tmp 5) (.tmp 6) 22 22 rfl 3 Try.underlying22 sizeInt (some ⟨w.heap.size + 1, 15, none⟩) a 16 16 16 cap rfl rfl (w.heap.size + 1) 15 zeros31 43 ?hg (ints zs) hlen (hcopy _ _) ?hfit ?h1 (w.heap.size + 1) _ (Below.refl _ _) (Nat.le_refl _) ?_)
  case hg => exact alloc2_get _ _ _ _
  case hfit => simp [zeros31]
  case h1 => intro v hv; simp [ints] at hv; obtain ⟨z, _, rfl⟩ := hv; rfl
  rw [splice_zeros zs HL.out]
  intro w1 hblk hbel
  have hb0 : w1.heap[w.heap.size]? = some (.cells zeros31.toArray 43 (0, 0)) := by
    rw [hbel.block w.heap.size (by omega)]; exact heap_alloc2_old _ _ _
  have hbw : Below w.heap.size w w1 := (((Below.refl _ _).alloc (Nat.le_refl _) _).alloc (by simp) _).trans (hbel.mono (by omega))
  clear hbel hr
  go_wp2
  go_loopw [4] (fun i wr => ∃ j : Nat, j ≤ 15 ∧ i = .int .i64 ((j : Int) - 1) ∧ Hid (wr.heap[w.heap.size + 1]? = some (.cells (ints (arrK zs j)).toArray 43 (0, 0))) ∧ Hid (wr.heap[w.heap.size]? = some (.cells zeros31.toArray 43 (0, 0))) ∧ Below w.heap.size w wr) (fun i _ => (intOf i + 1).toNat)
  case atStart => exact ⟨15, by omega, rfl, hblk, hb0, hbw⟩
  case round =>
    obtain ⟨j, hj, rfl, hA, hB, hbel⟩ := hrel
    cases j with
    | zero =>
      have he : ((0 : Nat) : Int) - 1 = -1 := rfl
      rw [he]
      clear he
      have hA2 := hA.out
      rw [arrK_zero] at hA2
      have hA3 := Lib.hid hA2
      clear hA2
      have hsz31 : (Try.prog.info? 43).map (·.size) = some (ints (treeL zs)).toArray.size := by simp; exact infoTree'
      have hall : (ints (treeL zs)).toArray.all (·.oneCell') = true := by
        rw [Array.all_eq_true_iff_forall_mem]
        intro v hv
        simp [ints] at hv
        obtain ⟨z, _, rfl⟩ := hv
        rfl
      have HALL := Lib.hid hall
      clear hall
      have hszz : zeros31.toArray.size = (ints (treeL zs)).toArray.size := by simp [zeros31]
      have HZ := Lib.hid hszz
      clear hszz
      have HT := Lib.hid hsz31
      clear hsz31
      go_wp2_with (first | refine wpList_load_row (o := ⟨some 29, _, _, _, _, _⟩) rfl 43 (.tmp 3) rfl (w.heap.size + 1) rfl 43 (ints (treeL zs)).toArray (0, 0) _ hA3.out Try.underlying43 rfl HT.out ?_ | refine wpList_store_row (o := ⟨none, .store _ _ _, _, _, _, _⟩) rfl 43 (.tmp 2) (.tmp 29) rfl w.heap.size (ints (treeL zs)).toArray rfl rfl 43 zeros31.toArray hB.out HT.out HZ.out HALL.out ?_)
      refine bodyPost_ret (results_cell_row rfl _ _ w.heap.size 43 (ints (treeL zs)).toArray (0, 0) _ rfl (setRow_heap _ _ _ _ _ _ hB.out) Try.underlying43 rfl HT.out) rfl ⟨rfl, below_setRow hbel (Nat.le_refl _) _⟩
    | succ m =>
      have he : ((m + 1 : Nat) : Int) - 1 = m := by omega
      rw [he]
      clear he
      have hrow := hA.out
      have hr1 := tr_range zs hz (2 * m + 1)
      have hr2 := tr_range zs hz (2 * m + 2)
      have hti := tr_inner zs (show m < 15 by omega)
      have hc1 : wr.cell? ⟨w.heap.size + 1, 2 * m + 1, none⟩ = some (.int .i64 (tr zs (2 * m + 1))) := by
        rw [cell_of_row _ _ _ _ _ _ hrow]; exact arrK_get? _ (by omega) (by omega)
      have hc2 : wr.cell? ⟨w.heap.size + 1, 2 * m + 2, none⟩ = some (.int .i64 (tr zs (2 * m + 2))) := by
        rw [cell_of_row _ _ _ _ _ _ hrow]; exact arrK_get? _ (by omega) (by omega)
      have hc3 : ∃ u, wr.cell? ⟨w.heap.size + 1, m, none⟩ = some u :=
        ⟨_, (cell_of_row _ _ _ _ _ _ hrow).trans (Array.getElem?_eq_getElem (by simp; omega))⟩
      obtain ⟨u, hc3⟩ := hc3
      have hf := frozen_of_row wr (w.heap.size + 1) m _ _ hrow
      have hst := heap_setCell_same wr (w.heap.size + 1) m _ _ (.int .i64 (mix (tr zs (2 * m + 1)) (tr zs (2 * m + 2)))) hrow
      have hst2 := heap_setCell_other wr ⟨w.heap.size + 1, m, none⟩ w.heap.size (.int .i64 (mix (tr zs (2 * m + 1)) (tr zs (2 * m + 2)))) (by simp)
      rw [hB.out] at hst2
      generalize tr zs (2 * m + 1) = x at *
      generalize tr zs (2 * m + 2) = y at *
      obtain ⟨x0, x1⟩ := hr1
      obtain ⟨y0, y1⟩ := hr2
      have H1 := Lib.hid hti
      have H2 := Lib.hid hst
      have H3 := Lib.hid hst2
      clear hti hst hst2 hrow
      go_wp2
      go_region
      go_wp2
      go_roundw
      case rel => exact ⟨m, by omega, rfl, (by show _ = _; rw [← arrK_setArr zs (by omega) H1.out]; exact H2.out), H3.out, (hbel.setCell (Nat.le_succ _) _).drew⟩
      case measure => simp [intOf]
end Go.Proofs.Ytjidmmjbgffapaa
