/- What DrawTransferResume draws; the walk of FnTransferResume: the law returns true. -/
import Derived.Test.YthcgpidlgcfbbabDrawTr
import Derived.Test.YthcgpidlgcfbbabTrAck
import Derived.Deep.RegionHeld3
namespace Go.Proofs.Ythcgpidlgcfbbab
open Go.RowKit
set_option linter.unusedVariables false
set_option linter.unusedSimpArgs false

set_option maxHeartbeats 400000 in
theorem drawTransferResume_any (v : Value) (zs : List Int) (w : World) (hr : RBytes w v zs) (hl : zs.length ≤ 1048576) :
    Calls Try.prog 26 #[v] w fun e w' => ∃ u xs n k, e = .returned (trV u n k) ∧ OwnInts w' w.heap.size u xs ∧ xs.length ≤ 21 ∧ (-9 ≤ n ∧ n ≤ 99) ∧ (-9 ≤ k ∧ k ≤ 99) ∧ Below w.heap.size w w' := by
  obtain ⟨⟨a, cap, rfl, g1, g2, -⟩, -⟩ := id hr
  have HR := Lib.hid hr; clear hr
  have a0 := below_alloc w (.cells #[.slice none 0 0, .int .i64 0, .int .i64 0] 33)
  have B0 := Blk.new w #[.slice none 0 0, .int .i64 0, .int .i64 0] 33
  go_enter Try.func26, Try.ntmps26
  go_wp2_with fail
  refine (l6Open_any _ zs _ (HR.out.below a0) hl).mono ?_
  rintro e w1 ⟨b, rfl, hb, r1, b1⟩
  have B1 := B0.bl b1
  have c1 := bNext a0 b1
  simp only [World.size_alloc] at hb
  have hlt := r1.lt
  go_wp2_with fail
  refine (l92Transfer_any _ b 0 _ r1 (by omega)).mono ?_
  unfold trV
  rintro e w2 ⟨u, xs, n, k, rfl, o2, hl2, hn, hk, -, g2⟩
  obtain ⟨a2, q2, rfl, -, -, -⟩ := o2.reads
  have B2 := B1.gr g2 (fun j hj => by cases hj; omega)
  have c2 := bGr c1 g2 (fun j hj => by cases hj; omega)
  have h1 := c1.size
  obtain ⟨x0, x1, x2⟩ := B2.get3
  obtain ⟨f0, f1, f2⟩ := B2.fr3
  have hB := B1.lt
  go_wp2
  refine bodyPost_ret (results_cell_row rfl _ _ w.heap.size 33 #[.slice a2 xs.length q2, .int .i64 n, .int .i64 k] (0, 0) _ rfl (B2.put3 _ _ _).h Try.underlying33 rfl infoTr) rfl ⟨_, xs, n, k, rfl, (o2.p3 (by omega) _ _ _).base (by omega), hl2, hn, hk, bP3 c2 (Nat.le_refl _) _ _ _⟩

theorem validB_parts {n k : Int} {xs : List Int} (h : validB n k xs = true) : 0 ≤ k ∧ k ≤ n ∧ n ≤ xs.length ∧ xs.length ≤ 20 := by
  simp only [validB, Bool.and_eq_true] at h
  obtain ⟨⟨h1, h2⟩, h3⟩ := h
  have := itemsB_len h1
  have a := inB_true h2
  have b := inB_true h3
  omega

theorem res_again {n k : Int} {xs : List Int} (h : validB n k xs = true) : validB k k xs = true := by
  obtain ⟨h1, h2, h3, h4⟩ := validB_parts h
  simp only [validB, Bool.and_eq_true] at h ⊢
  exact ⟨⟨h.1.1, inB_of ⟨h1, by omega⟩⟩, inB_of ⟨h1, Int.le_refl _⟩⟩

set_option maxHeartbeats 1000000 in
theorem transferResume_walk (v : Value) (zs : List Int) (w : World) (hr : RBytes w v zs) :
    Calls Try.prog 6 #[v] w fun e w' => e = .returned (.bool true) ∧ Below w.heap.size w w' := by
  obtain ⟨⟨a, cap, rfl, g1, g2, -⟩, -⟩ := id hr
  have HR := Lib.hid hr; clear hr
  by_cases hl : zs.length ≤ 1048576
  · go_enter Try.func6, Try.ntmps6
    go_wp2_with fail
    refine (drawTransferResume_any _ zs _ HR.out hl).mono ?_
    unfold trV
    rintro e w1 ⟨u, xs, n, k, rfl, o1, hxl, hn, hk, b1⟩
    obtain ⟨a1, q1, rfl, -, -, -⟩ := o1.reads
    have B1 := Blk.new w1 #[.slice a1 xs.length q1, .int .i64 n, .int .i64 k] 33
    have c1 := bAl b1 (.cells #[.slice a1 xs.length q1, .int .i64 n, .int .i64 k] 33)
    have O1 := Lib.hid (o1.al (.cells #[.slice a1 xs.length q1, .int .i64 n, .int .i64 k] 33))
    clear o1
    obtain ⟨R, hR⟩ : ∃ R, R = resL n k xs := ⟨_, rfl⟩
    obtain ⟨N, hN⟩ : ∃ N, N = resN n k xs := ⟨_, rfl⟩
    have hRl : R.length ≤ 21 := by rw [hR]; exact Nat.le_trans (resL_len n k xs) hxl
    have HRR := Lib.hid hR; have HNN := Lib.hid hN; clear hR hN
    go_wp2_with fail
    refine (implTransferResume_any _ n k xs _ (by omega) O1.out.reads).mono ?_
    rw [← HRR.out, ← HNN.out]
    unfold trV
    rintro e w2 ⟨u2, rfl, o2, b2⟩
    obtain ⟨a2, q2, rfl, -, -, -⟩ := o2.reads
    have B1b := (B1.bl b2).al (.cells #[.slice a2 R.length q2, .int .i64 N, .int .i64 N] 33)
    have B2 := Blk.new w2 #[.slice a2 R.length q2, .int .i64 N, .int .i64 N] 33
    have c2 := bAl (bNext c1 b2) (.cells #[.slice a2 R.length q2, .int .i64 N, .int .i64 N] 33)
    have O1b := Lib.hid ((O1.out.bl b2).al (.cells #[.slice a2 R.length q2, .int .i64 N, .int .i64 N] 33))
    have O2 := Lib.hid (o2.al (.cells #[.slice a2 R.length q2, .int .i64 N, .int .i64 N] 33))
    clear o2 B1 O1
    obtain ⟨x0, x1, x2⟩ := B1b.get3
    go_wp2_with fail
    refine (specTransferResume_any _ n k xs _ _ (by omega) O1b.out).mono ?_
    rw [← HRR.out, ← HNN.out]
    unfold trV
    rintro e w3 ⟨u3, rfl, o3, b3⟩
    clear x0 x1 x2
    obtain ⟨a3, q3, rfl, -, -, -⟩ := o3.reads
    have B1c := (B1b.bl b3).al (.cells #[.slice a3 R.length q3, .int .i64 N, .int .i64 N] 33)
    have B2c := (B2.bl b3).al (.cells #[.slice a3 R.length q3, .int .i64 N, .int .i64 N] 33)
    have B3 := Blk.new w3 #[.slice a3 R.length q3, .int .i64 N, .int .i64 N] 33
    have c3 := bAl (bNext c2 b3) (.cells #[.slice a3 R.length q3, .int .i64 N, .int .i64 N] 33)
    have O1c := Lib.hid ((O1b.out.bl b3).al (.cells #[.slice a3 R.length q3, .int .i64 N, .int .i64 N] 33))
    have O2c := Lib.hid ((O2.out.bl b3).al (.cells #[.slice a3 R.length q3, .int .i64 N, .int .i64 N] 33))
    have O3 := Lib.hid (o3.al (.cells #[.slice a3 R.length q3, .int .i64 N, .int .i64 N] 33))
    clear o3 B1b B2 O1b O2
    obtain ⟨x0, x1, x2⟩ := B1c.get3
    obtain ⟨y0, y1, y2⟩ := B2c.get3
    obtain ⟨z0, z1, z2⟩ := B3.get3
    cases hv : validB n k xs with
    | false =>
      have HV := Lib.hid hv; clear hv
      go_wp2_with fail
      clear x0 x1 x2 y0 y1 y2 z0 z1 z2
      refine (sameTransfer_any _ _ N N R _ (by omega) O2c.out.reads O3.out.reads).mono ?_
      rintro e w4 ⟨rfl, b4⟩
      have c4 := bNext c3 b4
      obtain ⟨x0, x1, x2⟩ := (B1c.bl b4).get3
      go_wp2_with fail
      clear x0 x1 x2
      refine (specTransferValid_any _ n k xs _ (by omega) (O1c.out.bl b4).reads).mono ?_
      rw [HV.out]
      rintro e w5 ⟨rfl, b5⟩
      have c5 := bNext c4 b5
      obtain ⟨y0, y1, y2⟩ := ((B2c.bl b4).bl b5).get3
      obtain ⟨z0, z1, z2⟩ := ((B3.bl b4).bl b5).get3
      go_wp2_with fail
      clear y0 y1 y2 z0 z1 z2
      refine (sameTransfer_any _ _ N N R _ (by omega) ((O2c.out.bl b4).bl b5).reads ((O3.out.bl b4).bl b5).reads).mono ?_
      rintro e w6 ⟨rfl, b6⟩
      have c6 := bNext c5 b6
      go_wp2
      go_ret
      exact ⟨rfl, c6⟩
    | true =>
      obtain ⟨e1, e2⟩ := res_good hv
      obtain ⟨k0, k1, n1, l1⟩ := validB_parts hv
      have HV := Lib.hid hv; have HV2 := Lib.hid (res_again hv); clear hv
      obtain rfl : R = xs := by rw [HRR.out, e1]
      obtain rfl : N = k := by rw [HNN.out, e2]
      clear e1 e2 HRR HNN
      go_wp2_with fail
      clear x0 x1 x2 y0 y1 y2 z0 z1 z2
      refine (sameTransfer_any _ _ N N R _ (by omega) O2c.out.reads O3.out.reads).mono ?_
      rintro e w4 ⟨rfl, b4⟩
      have c4 := bNext c3 b4
      obtain ⟨x0, x1, x2⟩ := (B1c.bl b4).get3
      go_wp2_with fail
      clear x0 x1 x2
      refine (specTransferValid_any _ n N R _ (by omega) (O1c.out.bl b4).reads).mono ?_
      rw [HV.out]
      rintro e w5 ⟨rfl, b5⟩
      have c5 := bNext c4 b5
      have B1d := (B1c.bl b4).bl b5
      have B2d := (B2c.bl b4).bl b5
      have O1d := Lib.hid ((O1c.out.bl b4).bl b5)
      have O2d := Lib.hid ((O2c.out.bl b4).bl b5)
      clear B1c B2c B3 O1c O2c O3
      obtain ⟨x0, x1, x2⟩ := B1d.get3
      have hne1 : ¬ w5.heap.size = w1.heap.size := by have := B1d.lt; omega
      have hne2 : ¬ w1.heap.size = w5.heap.size := by have := B1d.lt; omega
      have hne3 : ¬ w5.heap.size = w2.heap.size := by have := B2d.lt; omega
      have hne4 : ¬ w2.heap.size = w5.heap.size := by have := B2d.lt; omega
      obtain ⟨y0, y1, y2⟩ := (B1d.al (.cells #[.slice a1 R.length q1, .int .i64 n, .int .i64 N] 33)).get3
      have B4 := Blk.new w5 #[.slice a1 R.length q1, .int .i64 N, .int .i64 N] 33
      have B2e := B2d.al (.cells #[.slice a1 R.length q1, .int .i64 N, .int .i64 N] 33)
      have O1e := Lib.hid (O1d.out.al (.cells #[.slice a1 R.length q1, .int .i64 N, .int .i64 N] 33))
      have O2e := Lib.hid (O2d.out.al (.cells #[.slice a1 R.length q1, .int .i64 N, .int .i64 N] 33))
      have c6 := bAl c5 (.cells #[.slice a1 R.length q1, .int .i64 N, .int .i64 N] 33)
      clear B1d B2d O1d O2d
      go_wp2_with fail
      clear x0 x1 x2 y0 y1 y2
      have k1 := And.intro B2e.d1.get3 B4.d1.get3
      have HR1 : Hid (resL N N R = R) := Lib.hid (res_good HV2.out).1
      have HR2 : Hid (resN N N R = N) := Lib.hid (res_good HV2.out).2
      go_region_held3 (fun w' => (w'.cell? ⟨w2.heap.size, 0, none⟩ = some (.slice a2 R.length q2) ∧ w'.cell? ⟨w2.heap.size, 1, none⟩ = some (.int .i64 N) ∧ w'.cell? ⟨w2.heap.size, 2, none⟩ = some (.int .i64 N)) ∧ (w'.cell? ⟨w5.heap.size, 0, none⟩ = some (.slice a1 R.length q1) ∧ w'.cell? ⟨w5.heap.size, 1, none⟩ = some (.int .i64 N) ∧ w'.cell? ⟨w5.heap.size, 2, none⟩ = some (.int .i64 N))) (first | exact k1 | exact k7 | exact k8 | exact k9) (first | (go_at_call 19; refine (sameTransfer_any _ _ N N R _ (by omega) o8.reads O28.out.reads).mono ?_; rintro e w9 ⟨rfl, b9⟩; have B29 := B28.bl b9; have B49 := B48.bl b9; have k9 := And.intro B29.get3 B49.get3; have c9 := bNext c8 b9) | (go_at_call 27; refine (implTransferResume_any _ N N R _ (by omega) O27.out.reads).mono ?_; rw [HR1.out, HR2.out]; unfold trV; rintro e w8 ⟨u8, rfl, o8, b8⟩; obtain ⟨a8, q8, rfl, -, -, -⟩ := o8.reads; have B28 := B27.bl b8; have B48 := B47.bl b8; have k8 := And.intro B28.get3 B48.get3; have O28 := Lib.hid (O27.out.bl b8); have c8 := bNext c7 b8) | (go_at_call 19; refine (sameTransfer_any _ _ N N R _ (by omega) O2e.out.d1.reads O1e.out.d1.reads).mono ?_; rintro e w7 ⟨rfl, b7⟩; have B27 := B2e.d1.bl b7; have B47 := B4.d1.bl b7; have k7 := And.intro B27.get3 B47.get3; have O27 := Lib.hid (O2e.out.d1.bl b7); have c7 := bNext (bD1 c6) b7))
      all_goals (go_wp2; go_ret; exact ⟨rfl, c9⟩)
  · have hl' : decide ((1048576 : Int) < zs.length) = true := decide_eq_true (by omega)
    go_enter Try.func6, Try.ntmps6
    go_wp2
    go_ret
    exact ⟨rfl, Below.refl _ _⟩
end Go.Proofs.Ythcgpidlgcfbbab
