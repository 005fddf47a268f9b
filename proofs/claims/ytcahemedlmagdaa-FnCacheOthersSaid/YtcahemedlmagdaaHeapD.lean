/- heap.down on entryHeap. -/
import Derived.Test.YtcahemedlmagdaaHeap
namespace Go.Proofs.Ytcahemedlmagdaa
open Go.RowKit
set_option linter.unusedVariables false
set_option linter.unusedSimpArgs false

theorem methLen0 (p : Addr) (w : World) : (method 200 68 (.pointer (some p)) "Len").run Try.prog w = (load p >>= fun v => pure (73, v)).run Try.prog w := by kernel_rfl
theorem methLen (p : Addr) (w : World) (v : Value) (h : w.cell? p = some v) : (method 200 68 (.pointer (some p)) "Len").run Try.prog w = .ok (73, v) w := by
  rw [methLen0]; simp [h]
theorem methLess0 (p : Addr) (w : World) : (method 200 68 (.pointer (some p)) "Less").run Try.prog w = (load p >>= fun v => pure (74, v)).run Try.prog w := by kernel_rfl
theorem methLess (p : Addr) (w : World) (v : Value) (h : w.cell? p = some v) : (method 200 68 (.pointer (some p)) "Less").run Try.prog w = .ok (74, v) w := by
  rw [methLess0]; simp [h]
theorem methSwap0 (p : Addr) (w : World) : (method 200 68 (.pointer (some p)) "Swap").run Try.prog w = (load p >>= fun v => pure (75, v)).run Try.prog w := by kernel_rfl
theorem methSwap (p : Addr) (w : World) (v : Value) (h : w.cell? p = some v) : (method 200 68 (.pointer (some p)) "Swap").run Try.prog w = .ok (75, v) w := by
  rw [methSwap0]; simp [h]
theorem methPop (p : Addr) (w : World) : (method 200 68 (.pointer (some p)) "Pop").run Try.prog w = .ok (76, .pointer (some p)) w := by kernel_rfl
theorem grown_draws (w : World) (n : Nat) (c : Option Nat) : w.grownBy (w.drewN n) c := ⟨rfl, rfl, rfl, Nat.le_refl _, fun _ _ _ => rfl⟩
theorem HeapAt.dr {w : World} {B p g cap : Nat} {zs : List Ent} (h : HeapAt w B p g cap zs) (n : Nat) : HeapAt (w.drewN n) B p g cap zs := by
  obtain ⟨h1, h2, h3, h4⟩ := h
  exact ⟨h1.bl (below_draws' w n), h2.bl (below_draws' w n), h3, h4⟩
theorem HeapAt.sw {w w' : World} {B p g cap : Nat} {zs zs' : List Ent} (h : HeapAt w B p g cap zs) (hl : zs'.length = zs.length) (o : OwnRow EL entT w' B (.slice (some ⟨g, 0, none⟩) zs.length cap) zs') (gr : w.grownBy w' (some g)) : HeapAt w' B p g cap zs' := by
  obtain ⟨h1, h2, h3, h4⟩ := h
  rw [HeapAt, hl]
  exact ⟨h1.gr gr (fun k hk => by cases hk; exact Ne.symm h4), o, h3, h4⟩
theorem kid_a {n k : Nat} {zs : List Ent} (h : 2 * k + 2 < n) (hl : lessE (zE zs (2 * k + 2)) (zE zs (2 * k + 1)) = true) : kidL n zs k = 2 * k + 2 := by simp [kidL, h, hl]
theorem kid_b {n k : Nat} {zs : List Ent} (h : 2 * k + 2 < n) (hl : lessE (zE zs (2 * k + 2)) (zE zs (2 * k + 1)) = false) : kidL n zs k = 2 * k + 1 := by simp [kidL, hl]
theorem kid_c {n k : Nat} {zs : List Ent} (h : ¬ 2 * k + 2 < n) : kidL n zs k = 2 * k + 1 := by simp [kidL, h]
theorem down_end {n k f : Nat} {zs : List Ent} (h : ¬ 2 * k + 1 < n) : downL n (f + 1) k zs = zs := by simp [downL, h]
theorem down_stop {n k f j : Nat} {zs : List Ent} (h : 2 * k + 1 < n) (hj : kidL n zs k = j) (hl : lessE (zE zs j) (zE zs k) = false) : downL n (f + 1) k zs = zs := by subst hj; simp [downL, hl]
theorem down_go {n k f j : Nat} {zs : List Ent} (h : 2 * k + 1 < n) (hj : kidL n zs k = j) (hl : lessE (zE zs j) (zE zs k) = true) : downL n (f + 1) k zs = downL n f j (swapL zs k j) := by subst hj; simp [downL, h, hl]

set_option maxHeartbeats 4000000 in
theorem heapDown_any (B p g cap : Nat) (zs : List Ent) (i n : Nat) (w : World) (hi : i < n) (hn : n ≤ zs.length) (hl : zs.length ≤ 6) (hh : HeapAt w B p g cap zs) :
    Calls Try.prog 53 #[.iface 68 (.pointer (some ⟨p, 0, none⟩)), .int .i64 i, .int .i64 n] w fun e' w' => (∃ t, e' = .returned t) ∧ HeapAt w' B p g cap (downL n 6 i zs) ∧ w.grownBy w' (some g) := by
  have HH := Lib.hid hh; clear hh
  go_enter Try.func53, Try.ntmps53
  go_wp2
  go_loopw [7, 8, 9, 10] (fun s7 s8 s9 s10 wr => ∃ (k f : Nat) (xs : List Ent), s7 = .int .i64 k ∧ k < n ∧ n ≤ k + f ∧ Hid (downL n 6 i zs = downL n f k xs) ∧ xs.length = zs.length ∧ Hid (HeapAt wr B p g cap xs) ∧ Hid (w.grownBy wr (some g))) (fun s7 _ _ _ _ => n - (intOf s7).toNat)
  case atStart => exact ⟨i, 6, zs, rfl, hi, by omega, Lib.hid rfl, rfl, HH, Lib.hid (grown_draws w 0 _)⟩
  case round =>
    obtain ⟨k, f', xs, rfl, hk, hf, HD, hxl, HX, HG⟩ := hrel
    obtain ⟨f, rfl⟩ : ∃ f, f' = f + 1 := ⟨f' - 1, by omega⟩
    have HXL := Lib.hid hxl
    have hxn : n ≤ xs.length := by omega
    have hx6 : xs.length ≤ 6 := by omega
    clear hxl
    by_cases hc : 2 * k + 1 < n
    · have m1 : IntKind.i64.wrap (2 * (k : Int)) = 2 * (k : Int) := IntWalk.i64_in _ (by omega)
      have m2 : IntKind.i64.wrap (2 * (k : Int) + 1) = ((2 * k + 1 : Nat) : Int) := by rw [IntWalk.i64_in _ (by omega)]; omega
      have m3 : IntKind.i64.wrap (((2 * k + 1 : Nat) : Int) + 1) = ((2 * k + 2 : Nat) : Int) := by rw [IntWalk.i64_in _ (by omega)]; omega
      obtain ⟨j1, hj1⟩ : ∃ j, j = 2 * k + 1 := ⟨_, rfl⟩
      obtain ⟨j2, hj2⟩ : ∃ j, j = 2 * k + 2 := ⟨_, rfl⟩
      rw [← hj1] at m2 m3
      rw [← hj2] at m3
      have q1 : decide ((n : Int) ≤ (j1 : Int)) = false := decide_eq_false (by omega)
      have q1' : decide (n ≤ j1) = false := decide_eq_false (by omega)
      have q2 : decide ((j1 : Int) < 0) = false := decide_eq_false (by omega)
      have J1 := Lib.hid hj1; have J2 := Lib.hid hj2
      by_cases hc2 : j2 < n
      · have q3 : decide ((j2 : Int) < (n : Int)) = true := decide_eq_true (by omega)
        have q3' : decide (j2 < n) = true := decide_eq_true hc2
        have hj1n : j1 < xs.length := by omega
        have hj2n : j2 < xs.length := by omega
        clear hj1 hj2
        have x0 := HX.out.1.get1
        have hm := methLess ⟨p, 0, none⟩ wr _ x0
        go_wp2_with fail
        clear hm x0
        refine (heapLess_any _ xs j2 j1 _ (by omega) hj2n hj1n HX.out.2.1.reads).mono ?_
        rintro e w1 ⟨rfl, n1, hw1⟩
        have HX1 : Hid (HeapAt w1 B p g cap xs) := Lib.hid (by rw [hw1]; exact HX.out.dr n1)
        have HG1 : Hid (w.grownBy w1 (some g)) := Lib.hid (by rw [hw1]; exact HG.out.trans (grown_draws wr n1 _))
        clear hw1
        cases h1 : lessE xs[j2] xs[j1] with
        | true =>
          have HJ : Hid (kidL n xs k = j2) := Lib.hid (by rw [J2.out]; exact kid_a (by have := J2.out; omega) (by rw [← J1.out, ← J2.out, zE_get hj2n, zE_get hj1n]; exact h1))
          clear h1
          have hjk : k < j2 := by have := kidL_gt n k xs; rw [HJ.out] at this; exact this
          have hjlt : j2 < n := by have := kidL_lt (zs := xs) hc; rw [HJ.out] at this; exact this
          have hkn : k < xs.length := by omega
          have x1 := HX1.out.1.get1
          have hm1 := methLess ⟨p, 0, none⟩ _ _ x1
          go_wp2_with fail
          clear hm1 x1
          refine (heapLess_any _ xs j2 k _ (by omega) hj2n hkn HX1.out.2.1.reads).mono ?_
          rintro e w2 ⟨rfl, n2, hw2⟩
          have HX2 : Hid (HeapAt w2 B p g cap xs) := Lib.hid (by rw [hw2]; exact HX1.out.dr n2)
          have HG2 : Hid (w.grownBy w2 (some g)) := Lib.hid (by rw [hw2]; exact HG1.out.trans (grown_draws _ n2 _))
          clear hw2
          cases h2 : lessE xs[j2] xs[k] with
          | false =>
            have HE := Lib.hid (down_stop (f := f) hc HJ.out (by rw [zE_get hj2n, zE_get hkn]; exact h2))
            clear h2
            go_wp2
            go_ret
            exact ⟨⟨_, rfl⟩, by rw [HD.out, HE.out]; exact HX2.out, HG2.out⟩
          | true =>
            have HE := Lib.hid (down_go (f := f) hc HJ.out (by rw [zE_get hj2n, zE_get hkn]; exact h2))
            clear h2
            have x2 := HX2.out.1.get1
            have hm2 := methSwap ⟨p, 0, none⟩ _ _ x2
            go_wp2_with fail
            clear hm2 x2
            refine (heapSwap_any g cap _ B xs k j2 _ (by omega) hkn hj2n (by omega) HX2.out.2.1).mono ?_
            rintro e w3 ⟨rfl, o3, g3⟩
            have HX3 := Lib.hid (HX2.out.sw (swapL_len xs k j2) o3 g3)
            have HG3 := Lib.hid (HG2.out.trans g3)
            clear o3 g3
            go_wp2
            go_roundw
            case rel => exact ⟨j2, f, swapL xs k j2, rfl, hjlt, by omega, Lib.hid (by rw [HD.out, HE.out]), by rw [swapL_len]; exact HXL.out, HX3, HG3⟩
            case measure => simp [intOf]; omega
        | false =>
          have HJ : Hid (kidL n xs k = j1) := Lib.hid (by rw [J1.out]; exact kid_b (by have := J2.out; omega) (by rw [← J1.out, ← J2.out, zE_get hj2n, zE_get hj1n]; exact h1))
          clear h1
          have hjk : k < j1 := by have := kidL_gt n k xs; rw [HJ.out] at this; exact this
          have hjlt : j1 < n := by have := kidL_lt (zs := xs) hc; rw [HJ.out] at this; exact this
          have hkn : k < xs.length := by omega
          have x1 := HX1.out.1.get1
          have hm1 := methLess ⟨p, 0, none⟩ _ _ x1
          go_wp2_with fail
          clear hm1 x1
          refine (heapLess_any _ xs j1 k _ (by omega) hj1n hkn HX1.out.2.1.reads).mono ?_
          rintro e w2 ⟨rfl, n2, hw2⟩
          have HX2 : Hid (HeapAt w2 B p g cap xs) := Lib.hid (by rw [hw2]; exact HX1.out.dr n2)
          have HG2 : Hid (w.grownBy w2 (some g)) := Lib.hid (by rw [hw2]; exact HG1.out.trans (grown_draws _ n2 _))
          clear hw2
          cases h2 : lessE xs[j1] xs[k] with
          | false =>
            have HE := Lib.hid (down_stop (f := f) hc HJ.out (by rw [zE_get hj1n, zE_get hkn]; exact h2))
            clear h2
            go_wp2
            go_ret
            exact ⟨⟨_, rfl⟩, by rw [HD.out, HE.out]; exact HX2.out, HG2.out⟩
          | true =>
            have HE := Lib.hid (down_go (f := f) hc HJ.out (by rw [zE_get hj1n, zE_get hkn]; exact h2))
            clear h2
            have x2 := HX2.out.1.get1
            have hm2 := methSwap ⟨p, 0, none⟩ _ _ x2
            go_wp2_with fail
            clear hm2 x2
            refine (heapSwap_any g cap _ B xs k j1 _ (by omega) hkn hj1n (by omega) HX2.out.2.1).mono ?_
            rintro e w3 ⟨rfl, o3, g3⟩
            have HX3 := Lib.hid (HX2.out.sw (swapL_len xs k j1) o3 g3)
            have HG3 := Lib.hid (HG2.out.trans g3)
            clear o3 g3
            go_wp2
            go_roundw
            case rel => exact ⟨j1, f, swapL xs k j1, rfl, hjlt, by omega, Lib.hid (by rw [HD.out, HE.out]), by rw [swapL_len]; exact HXL.out, HX3, HG3⟩
            case measure => simp [intOf]; omega
      · have q3 : decide ((j2 : Int) < (n : Int)) = false := decide_eq_false (by omega)
        have q3' : decide (j2 < n) = false := decide_eq_false hc2
        have hj1n : j1 < xs.length := by omega
        clear hj1 hj2
        have HJ : Hid (kidL n xs k = j1) := Lib.hid (by rw [J1.out]; exact kid_c (by have := J2.out; omega))
        have hjk : k < j1 := by have := kidL_gt n k xs; rw [HJ.out] at this; exact this
        have hjlt : j1 < n := by have := kidL_lt (zs := xs) hc; rw [HJ.out] at this; exact this
        have hkn : k < xs.length := by omega
        have x1 := HX.out.1.get1
        have hm1 := methLess ⟨p, 0, none⟩ _ _ x1
        go_wp2_with fail
        clear hm1 x1
        refine (heapLess_any _ xs j1 k _ (by omega) hj1n hkn HX.out.2.1.reads).mono ?_
        rintro e w2 ⟨rfl, n2, hw2⟩
        have HX2 : Hid (HeapAt w2 B p g cap xs) := Lib.hid (by rw [hw2]; exact HX.out.dr n2)
        have HG2 : Hid (w.grownBy w2 (some g)) := Lib.hid (by rw [hw2]; exact HG.out.trans (grown_draws _ n2 _))
        clear hw2
        cases h2 : lessE xs[j1] xs[k] with
        | false =>
          have HE := Lib.hid (down_stop (f := f) hc HJ.out (by rw [zE_get hj1n, zE_get hkn]; exact h2))
          clear h2
          go_wp2
          go_ret
          exact ⟨⟨_, rfl⟩, by rw [HD.out, HE.out]; exact HX2.out, HG2.out⟩
        | true =>
          have HE := Lib.hid (down_go (f := f) hc HJ.out (by rw [zE_get hj1n, zE_get hkn]; exact h2))
          clear h2
          have x2 := HX2.out.1.get1
          have hm2 := methSwap ⟨p, 0, none⟩ _ _ x2
          go_wp2_with fail
          clear hm2 x2
          refine (heapSwap_any g cap _ B xs k j1 _ (by omega) hkn hj1n (by omega) HX2.out.2.1).mono ?_
          rintro e w3 ⟨rfl, o3, g3⟩
          have HX3 := Lib.hid (HX2.out.sw (swapL_len xs k j1) o3 g3)
          have HG3 := Lib.hid (HG2.out.trans g3)
          clear o3 g3
          go_wp2
          go_roundw
          case rel => exact ⟨j1, f, swapL xs k j1, rfl, hjlt, by omega, Lib.hid (by rw [HD.out, HE.out]), by rw [swapL_len]; exact HXL.out, HX3, HG3⟩
          case measure => simp [intOf]; omega
    · have HE := Lib.hid (down_end (f := f) (zs := xs) hc)
      have m1 : IntKind.i64.wrap (2 * (k : Int)) = 2 * (k : Int) := IntWalk.i64_in _ (by omega)
      have m2 : IntKind.i64.wrap (2 * (k : Int) + 1) = ((2 * k + 1 : Nat) : Int) := by rw [IntWalk.i64_in _ (by omega)]; omega
      obtain ⟨j1, hj1⟩ : ∃ j, j = 2 * k + 1 := ⟨_, rfl⟩
      rw [← hj1] at m2
      have q1 : decide ((n : Int) ≤ (j1 : Int)) = true := decide_eq_true (by omega)
      have q1' : decide (n ≤ j1) = true := decide_eq_true (by omega)
      clear hj1
      go_wp2
      go_ret
      exact ⟨⟨_, rfl⟩, by rw [HD.out, HE.out]; exact HX.out, HG.out⟩
end Go.Proofs.Ytcahemedlmagdaa
