/- The reference's sums: l21Values, l21Sum, l21Build, SumsOf. -/
import Derived.Test.YtjidmmjbgffapaaInts
import Derived.Test.YtjidmmjbgffapaaRange
import Derived.Test.YtjidmmjbgffapaaTree
import Derived.Deep.RegionHeld3
import Derived.IntWalk
namespace Go.Proofs.Ytjidmmjbgffapaa
open Go.RowKit
set_option linter.unusedVariables false
set_option linter.unusedSimpArgs false

def valuesM (zs : List Int) (many : Int) : Bool := decide ((∀ z ∈ zs, 0 ≤ z ∧ z ≤ 990) ∧ (zs.length : Int) = many)

set_option maxHeartbeats 1000000 in
theorem l21Values_any (v : Value) (zs : List Int) (many : Int) (w : World) (hl : zs.length ≤ 4194304) (hr : RInts w v zs) :
    Calls Try.prog 29 #[v, .int .i64 many] w fun e w' => e = .returned (.bool (valuesM zs many)) ∧ w = w' := by
  obtain ⟨a, cap, rfl, hc, hm, hcell⟩ := hr
  go_enter Try.func29, Try.ntmps29
  go_wp2
  go_loop [5] (fun i => ∃ j : Nat, j ≤ zs.length ∧ i = .int .i64 j ∧ Hid (∀ z ∈ zs.take j, 0 ≤ z ∧ z ≤ 990)) (fun i => zs.length - (intOf i).toNat)
  case atStart => exact ⟨0, Nat.zero_le _, rfl, by simp [Hid]⟩
  case round =>
    obtain ⟨j, hj, rfl, hH⟩ := hrel
    by_cases hlt : j < zs.length
    · obtain ⟨b, off, rfl, hb, hcj⟩ := hcell j hlt
      have hD : Hid (zs.take (j + 1) = zs.take j ++ [zs[j]]) := List.take_succ_eq_append_getElem hlt
      have hM : Hid (zs[j] ∈ zs) := List.getElem_mem hlt
      obtain ⟨z, hz⟩ : ∃ z, z = zs[j] := ⟨_, rfl⟩
      rw [← hz] at hcj hD hM
      clear hz hcell
      cases hb : inB z 0 990 with
      | true =>
        go_wp2_with (go_at_call 41; refine (l6In_any _ _ _ _).mono ?_; rintro e w' ⟨rfl, rfl⟩)
        go_round
        case rel => exact ⟨j + 1, by omega, by go_num, by
          show ∀ z ∈ _, _
          rw [hD.out]
          intro y hy
          rcases List.mem_append.1 hy with h | h
          · exact hH.out y h
          · simp at h; subst h; exact inB_true hb⟩
        case measure => simp [intOf]; omega
      | false =>
        go_wp2_with (go_at_call 41; refine (l6In_any _ _ _ _).mono ?_; rintro e w' ⟨rfl, rfl⟩)
        go_ret
        exact ⟨ret_bool (by unfold valuesM; rw [decide_eq_false]; intro h; exact inB_false hb (h.1 z hM.out)), rfl⟩
    · go_wp2
      go_ret
      exact ⟨ret_bool (by
        have := hH.out
        rw [List.take_of_length_le (by omega)] at this
        unfold valuesM
        rw [Bool.eq_iff_iff]
        simp
        intro _ z hz
        exact this z hz), rfl⟩

set_option maxHeartbeats 400000 in
theorem l21Sum_any (a b : Int) (w : World) (ha : 0 ≤ a) (ha' : a ≤ 990) (hb : 0 ≤ b) (hb' : b ≤ 990) :
    Calls Try.prog 45 #[.int .i64 a, .int .i64 b] w fun e w' => e = .returned (.int .i64 (mix a b)) ∧ w = w' := by
  go_enter Try.func45, Try.ntmps45
  go_wp2
  go_ret
  exact ⟨ret_int rfl, rfl⟩

set_option maxHeartbeats 4000000 in
theorem l21Build_any (v : Value) (zs : List Int) (w : World) (h16 : zs.length = 16) (hz : ∀ z ∈ zs, 0 ≤ z ∧ z ≤ 990) (hr : RInts w v zs) :
    Calls Try.prog 30 #[v] w fun e w' => ∃ u, e = .returned u ∧ OwnInts w' w.heap.size u (treeL zs) ∧ Below w.heap.size w w' := by
  obtain ⟨a, cap, rfl, hc, hm, hcell⟩ := hr
  obtain ⟨b, off, rfl, -, -⟩ := hcell 0 (by omega)
  have H16 := Lib.hid h16; clear h16
  have hcz : ∀ i, (h : i < 16) → ∃ z, w.cell? ⟨b, off + i, none⟩ = some (.int .i64 z) ∧ z = tr zs (15 + i) ∧ b < w.heap.size := by
    intro i hi
    obtain ⟨b', off', he, hb', hx⟩ := hcell i (by rw [H16.out]; exact hi)
    cases he
    refine ⟨_, hx, ?_, hb'⟩
    rw [tr_leaf _ (by omega), List.getD_eq_getElem?_getD, List.getElem?_eq_getElem (by have := H16.out; omega)]
    simp
  have HC := Lib.hid hcz
  clear hcz hcell
  obtain ⟨i0, hi, hz0, hz1, hz2⟩ := info_parts infoInt
  go_enter Try.func30, Try.ntmps30
  go_wp2_with (at_make; refine wpList_make_full _ rfl _ _ 22 rfl w.heap.size 3 i0 (.int .i64 0) 1 Try.underlying22 hi hz0 hz1 .i64 .i64 _ _ 31 rfl rfl rfl rfl ?c1 ?c2 ?c3 ?_)
  case c1 => rw [hz2]; omega
  case c2 => unfold maxLen; omega
  case c3 => exact Nat.le_refl _
  intro w1 hown1 hg1
  have hown : OwnInts w1 w.heap.size (.slice (some ⟨w.heap.size, 0, none⟩) 31 31) (arrK zs 31) := by
    rw [arrK_top]
    have e : (madeCells #[Value.int .i64 0] 31).toList = ints (List.replicate 31 0) := by simp [toList_madeCells_one, ints]
    unfold OwnInts
    rw [← e, List.length_replicate]
    exact hown1
  have hbel : Below w.heap.size w w1 := (Below.refl _ _).grown hg1 (Nat.le_refl _) (fun j hj => by cases hj)
  clear hown1 hg1
  go_wp2
  go_loopw [4] (fun i wr => ∃ j : Nat, j ≤ 31 ∧ i = .int .i64 ((j : Int) - 1) ∧ OwnInts wr w.heap.size (.slice (some ⟨w.heap.size, 0, none⟩) 31 31) (arrK zs j) ∧ Below w.heap.size w wr) (fun i _ => (intOf i + 1).toNat)
  case atStart => exact ⟨31, Nat.le_refl _, rfl, hown, hbel⟩
  case round =>
    obtain ⟨j, hj, rfl, hownj, hb⟩ := hrel
    cases j with
    | zero =>
      have he : ((0 : Nat) : Int) - 1 = -1 := rfl
      rw [he]
      clear he
      go_wp2
      go_ret
      exact ⟨_, rfl, by rw [arrK_zero] at hownj; exact hownj, hb⟩
    | succ m =>
      have he : ((m + 1 : Nat) : Int) - 1 = m := by omega
      rw [he]
      clear he
      have hcm := hownj.cellAt (j := m) (by simp; omega)
      have hfm := hownj.frozenAt m
      have hset := own_set hownj m (tr zs m)
      rw [arrK_set] at hset
      generalize (arrK zs (m + 1))[m]'(by simp; omega) = u at hcm
      by_cases h15 : 15 ≤ m
      · obtain ⟨q, rfl⟩ : ∃ q, m = 15 + q := ⟨m - 15, by omega⟩
        obtain ⟨z, hcz, hzt, hbl⟩ := HC.out q (by omega)
        rw [← hzt] at hset
        have hcz' : wr.cell? ⟨b, off + q, none⟩ = some (.int .i64 z) := by rw [hb.cell (p := ⟨b, off + q, none⟩) hbl]; exact hcz
        have hz2 : wr.cell? ⟨b, off + (15 + (q : Int) - 16 + 1).toNat, none⟩ = some (.int .i64 z) := by
          rw [show (15 + (q : Int) - 16 + 1).toNat = q by omega]; exact hcz'
        have hge : 16 ≤ zs.length := by have := H16.out; omega
        have HS := Lib.hid hset
        clear hset hzt hcz hcz'
        go_wp2
        go_roundw
        case rel => exact ⟨15 + q, by omega, by go_num, HS.out, hb.setCell (Nat.le_refl _) _⟩
        case measure => simp [intOf]; omega
      · obtain ⟨y0, y1⟩ := tr_range zs hz (2 * m + 1)
        obtain ⟨x0, x1⟩ := tr_range zs hz (2 * m + 2)
        have hti := tr_inner zs (show m < 15 by omega)
        have hca := hownj.cellAt (j := 2 * m + 1) (by simp; omega)
        have hcb := hownj.cellAt (j := 2 * m + 2) (by simp; omega)
        rw [arrK_get _ _ (by omega)] at hca hcb
        rw [hti] at hset
        generalize tr zs (2 * m + 1) = y at *
        generalize tr zs (2 * m + 2) = x at *
        have HS := Lib.hid hset
        clear hset hti hownj
        go_wp2
        have f1 : IntKind.i64.wrap (2 * (m : Int)) = 2 * m := IntWalk.i64_in _ (by omega)
        have f2 : IntKind.i64.wrap (2 * (m : Int) + 1) = 2 * m + 1 := IntWalk.i64_in _ (by omega)
        have f3 : IntKind.i64.wrap (2 * (m : Int) + 2) = 2 * m + 2 := IntWalk.i64_in _ (by omega)
        have f4 : (0 : Int) ≤ 2 * m + 1 := by omega
        have f5 : 2 * (m : Int) + 1 < 31 := by omega
        have f6 : (0 : Int) ≤ 2 * m + 2 := by omega
        have f7 : 2 * (m : Int) + 2 < 31 := by omega
        have f8 : (2 * (m : Int) + 1).toNat = 2 * m + 1 := by omega
        have f9 : (2 * (m : Int) + 2).toNat = 2 * m + 2 := by omega
        have f10 : (m : Int) < 31 := by omega
        go_region_held3 (fun w' => w'.cell? ⟨w.heap.size, 2 * m + 1, none⟩ = some (.int .i64 y) ∧ w'.cell? ⟨w.heap.size, 2 * m + 2, none⟩ = some (.int .i64 x)) (simp [go_sem, *]) (first | (go_at_call 45; refine (l21Sum_any _ _ _ y0 y1 x0 x1).mono ?_; rintro e w' ⟨rfl, rfl⟩))
        clear f1 f2 f3 f4 f5 f6 f7 f8 f9 f10
        go_wp2
        go_roundw
        case rel => exact ⟨m, by omega, rfl, HS.out, (hb.setCell (Nat.le_refl _) _).drew⟩
        case measure => simp [intOf]

theorem valuesM_16 (zs : List Int) : valuesM zs 16 = sumOkB zs := by
  rw [Bool.eq_iff_iff]
  constructor
  · intro h
    obtain ⟨h1, h2⟩ : (∀ z ∈ zs, 0 ≤ z ∧ z ≤ 990) ∧ (zs.length : Int) = 16 := by simpa [valuesM] using h
    exact sumOk_of (by omega) h1
  · intro h
    obtain ⟨h1, h2⟩ := sumOk_true h
    unfold valuesM
    rw [decide_eq_true_iff]
    exact ⟨h2, by omega⟩

set_option maxHeartbeats 1000000 in
theorem specSumsOf_any (v : Value) (zs : List Int) (w : World) (hl : zs.length ≤ 4194304) (hr : RInts w v zs) :
    Calls Try.prog 15 #[v] w fun e w' => ∃ u, e = .returned u ∧ OwnInts w' w.heap.size u (sumsM zs) ∧ Below w.heap.size w w' := by
  have HR := Lib.hid hr; clear hr
  cases hb : sumOkB zs with
  | false =>
    go_enter Try.func15, Try.ntmps15
    go_wp2_with fail
    refine (l21Values_any v zs 16 _ hl HR.out).mono ?_
    rw [valuesM_16, hb]
    rintro e w' ⟨rfl, rfl⟩
    go_wp2
    go_ret
    exact ⟨_, rfl, by simp [sumsM, hb]; exact own_empty w, below_alloc _ _⟩
  | true =>
    obtain ⟨h16, hz⟩ := sumOk_true hb
    have H16 := Lib.hid h16; clear h16
    have HZ := Lib.hid hz; clear hz
    go_enter Try.func15, Try.ntmps15
    go_wp2_with fail
    refine (l21Values_any v zs 16 _ hl HR.out).mono ?_
    rw [valuesM_16, hb]
    rintro e w' ⟨rfl, rfl⟩
    go_wp2_with fail
    refine (l21Build_any v zs _ H16.out HZ.out HR.out).mono ?_
    rintro e w1 ⟨u, rfl, o1, b1⟩
    go_wp2
    go_ret
    exact ⟨_, rfl, by simp [sumsM, hb]; exact o1, b1⟩
end Go.Proofs.Ytjidmmjbgffapaa
