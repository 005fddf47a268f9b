/- The walk of FnTransferAck: the law returns true. -/
import Derived.Test.YtlfmgagokaekjaaDrawAck
import Derived.Test.YtlfmgagokaekjaaTrParts
namespace Go.Proofs.Ytlfmgagokaekjaa
open Go.RowKit
set_option linter.unusedVariables false
set_option linter.unusedSimpArgs false

theorem ack_again {n k m : Int} {xs : List Int} (h : ackG n k m xs = true) : validB n (max k m) xs = true := by
  simp only [ackG, Bool.and_eq_true] at h
  obtain ⟨hv, hm⟩ := h
  have b := inB_true hm
  obtain ⟨h1, h2, h3, h4⟩ := validB_parts hv
  simp only [validB, Bool.and_eq_true] at hv ⊢
  exact ⟨hv.1, inB_of ⟨by omega, by omega⟩⟩

set_option maxHeartbeats 1000000 in
theorem transferAck_walk (v : Value) (zs : List Int) (w : World) (hr : RBytes w v zs) :
    Calls Try.prog 6 #[v] w fun e w' => e = .returned (.bool true) ∧ Below w.heap.size w w' := by
  obtain ⟨⟨a, cap, rfl, g1, g2, -⟩, -⟩ := id hr
  have HR := Lib.hid hr; clear hr
  by_cases hl : zs.length ≤ 1048576
  · go_enter Try.func6, Try.ntmps6
    go_wp2_with fail
    refine (drawTransferAck_any _ zs _ HR.out hl).mono ?_
    unfold trV
    rintro e w1 ⟨u, xs, n, k, m, rfl, o1, hxl, hn, hk, hm, b1⟩
    obtain ⟨a1, q1, rfl, -, -, -⟩ := o1.reads
    have B1 := Blk.new w1 #[.slice a1 xs.length q1, .int .i64 n, .int .i64 k] 33
    have c1 := bAl b1 (.cells #[.slice a1 xs.length q1, .int .i64 n, .int .i64 k] 33)
    have O1 := Lib.hid (o1.al (.cells #[.slice a1 xs.length q1, .int .i64 n, .int .i64 k] 33))
    clear o1
    obtain ⟨R, hR⟩ : ∃ R, R = ackL n k m xs := ⟨_, rfl⟩
    obtain ⟨N, hN⟩ : ∃ N, N = ackN n k m xs := ⟨_, rfl⟩
    obtain ⟨K, hK⟩ : ∃ K, K = ackK n k m xs := ⟨_, rfl⟩
    obtain ⟨OK, hOK⟩ : ∃ OK, OK = ackT n k m xs := ⟨_, rfl⟩
    have hRl : R.length ≤ 21 := by rw [hR]; exact Nat.le_trans (ackL_len n k m xs) hxl
    have HRR := Lib.hid hR; have HNN := Lib.hid hN; have HKK := Lib.hid hK; have HOK := Lib.hid hOK; clear hR hN hK hOK
    obtain ⟨x0, x1, x2⟩ := B1.get3
    go_wp2_with fail
    clear x0 x1 x2
    refine (implTransferAck_any _ n k m xs _ (by omega) O1.out.reads).mono ?_
    rw [← HRR.out, ← HNN.out, ← HKK.out, ← HOK.out]
    unfold trV
    rintro e w2 ⟨u2, rfl, o2, b2⟩
    obtain ⟨a2, q2, rfl, -, -, -⟩ := o2.reads
    have B1b := (B1.bl b2).al (.cells #[.slice a2 R.length q2, .int .i64 N, .int .i64 K] 33)
    have B2 := Blk.new w2 #[.slice a2 R.length q2, .int .i64 N, .int .i64 K] 33
    have c2 := bAl (bNext c1 b2) (.cells #[.slice a2 R.length q2, .int .i64 N, .int .i64 K] 33)
    have O1b := Lib.hid ((O1.out.bl b2).al (.cells #[.slice a2 R.length q2, .int .i64 N, .int .i64 K] 33))
    have O2 := Lib.hid (o2.al (.cells #[.slice a2 R.length q2, .int .i64 N, .int .i64 K] 33))
    clear o2 B1 O1
    obtain ⟨x0, x1, x2⟩ := B1b.get3
    go_wp2_with fail
    refine (specTransferAck_any _ n k m xs _ _ (by omega) O1b.out).mono ?_
    rw [← HRR.out, ← HNN.out, ← HKK.out, ← HOK.out]
    unfold trV
    rintro e w3 ⟨u3, rfl, o3, b3⟩
    clear x0 x1 x2
    obtain ⟨a3, q3, rfl, -, -, -⟩ := o3.reads
    have B1c := (B1b.bl b3).al (.cells #[.slice a3 R.length q3, .int .i64 N, .int .i64 K] 33)
    have B2c := (B2.bl b3).al (.cells #[.slice a3 R.length q3, .int .i64 N, .int .i64 K] 33)
    have B3 := Blk.new w3 #[.slice a3 R.length q3, .int .i64 N, .int .i64 K] 33
    have c3 := bAl (bNext c2 b3) (.cells #[.slice a3 R.length q3, .int .i64 N, .int .i64 K] 33)
    have O1c := Lib.hid ((O1b.out.bl b3).al (.cells #[.slice a3 R.length q3, .int .i64 N, .int .i64 K] 33))
    have O2c := Lib.hid ((O2.out.bl b3).al (.cells #[.slice a3 R.length q3, .int .i64 N, .int .i64 K] 33))
    have O3 := Lib.hid (o3.al (.cells #[.slice a3 R.length q3, .int .i64 N, .int .i64 K] 33))
    clear o3 B1b B2 O1b O2
    obtain ⟨y0, y1, y2⟩ := B2c.get3
    obtain ⟨z0, z1, z2⟩ := B3.get3
    go_wp2_with fail
    clear y0 y1 y2 z0 z1 z2
    refine (sameTransfer_any _ _ N K R _ (by omega) O2c.out.reads O3.out.reads).mono ?_
    rintro e w4 ⟨rfl, b4⟩
    have c4 := bNext c3 b4
    have B1d := B1c.bl b4
    have B2d := B2c.bl b4
    have B3d := B3.bl b4
    have O1d := Lib.hid (O1c.out.bl b4)
    have O2d := Lib.hid (O2c.out.bl b4)
    have O3d := Lib.hid (O3.out.bl b4)
    clear B1c B2c B3 O1c O2c O3
    obtain ⟨x0, x1, x2⟩ := B1d.get3
    go_wp2_with fail
    clear x0 x1 x2
    refine (specTransferValid_any _ n k xs _ (by omega) O1d.out.reads).mono ?_
    rintro e w5 ⟨rfl, b5⟩
    have c5 := bNext c4 b5
    have B1e := B1d.bl b5
    have B2e := B2d.bl b5
    have B3e := B3d.bl b5
    have O1e := Lib.hid (O1d.out.bl b5)
    have O2e := Lib.hid (O2d.out.bl b5)
    have O3e := Lib.hid (O3d.out.bl b5)
    clear B1d B2d B3d O1d O2d O3d
    obtain ⟨x0, x1, x2⟩ := B1e.get3
    obtain ⟨y0, y1, y2⟩ := B2e.get3
    obtain ⟨z0, z1, z2⟩ := B3e.get3
    cases hv : validB n k xs with
    | false =>
      clear hv
      go_wp2_with fail
      clear x0 x1 x2 y0 y1 y2 z0 z1 z2
      refine (sameTransfer_any _ _ N K R _ (by omega) O2e.out.reads O3e.out.reads).mono ?_
      rintro e w6 ⟨rfl, b6⟩
      have c6 := bNext c5 b6
      go_wp2
      go_ret
      exact ⟨rfl, c6⟩
    | true =>
      by_cases hm0 : m < 0
      · have hd1 : decide (m < 0) = true := decide_eq_true hm0
        clear hv
        go_wp2_with fail
        clear x0 x1 x2 y0 y1 y2 z0 z1 z2
        refine (sameTransfer_any _ _ N K R _ (by omega) O2e.out.reads O3e.out.reads).mono ?_
        rintro e w6 ⟨rfl, b6⟩
        have c6 := bNext c5 b6
        go_wp2
        go_ret
        exact ⟨rfl, c6⟩
      · have hd1 : decide (m < 0) = false := decide_eq_false hm0
        by_cases hmn : n < m
        · have hd2 : decide (n < m) = true := decide_eq_true hmn
          clear hv
          go_wp2_with fail
          clear x0 x1 x2 y0 y1 y2 z0 z1 z2
          refine (sameTransfer_any _ _ N K R _ (by omega) O2e.out.reads O3e.out.reads).mono ?_
          rintro e w6 ⟨rfl, b6⟩
          have c6 := bNext c5 b6
          go_wp2
          go_ret
          exact ⟨rfl, c6⟩
        · have hd2 : decide (n < m) = false := decide_eq_false hmn
          have hG : ackG n k m xs = true := by simp only [ackG, hv, Bool.true_and]; exact inB_of ⟨by omega, by omega⟩
          obtain ⟨e1, e2, e3, e4⟩ := ack_good hG
          have HV2 := Lib.hid (ack_again hG)
          obtain rfl : R = xs := by rw [HRR.out, e1]
          obtain rfl : N = n := by rw [HNN.out, e2]
          have hKm : max k m = K := by rw [HKK.out, e3]
          obtain rfl : OK = decide (k ≤ m) := by rw [HOK.out, e4]
          clear HRR HNN HKK HOK e1 e2 e3 e4 hG hv
          have hmx := fun w ts t => run_max2 (P := Try.prog) w ts t k m K hKm
          have HV3 : Hid (validB N K R = true) := Lib.hid (by rw [← hKm]; exact HV2.out)
          clear hKm HV2
          have B5 := Blk.new w5 #[.slice a1 R.length q1, .int .i64 N, .int .i64 K] 33
          have B2f := B2e.al (.cells #[.slice a1 R.length q1, .int .i64 N, .int .i64 K] 33)
          have O1f := Lib.hid (O1e.out.al (.cells #[.slice a1 R.length q1, .int .i64 N, .int .i64 K] 33))
          have O2f := Lib.hid (O2e.out.al (.cells #[.slice a1 R.length q1, .int .i64 N, .int .i64 K] 33))
          have c6 := bAl c5 (.cells #[.slice a1 R.length q1, .int .i64 N, .int .i64 K] 33)
          have hlt5 := B1e.lt
          have hlt6 := B2e.lt
          have hne1 : ¬ w5.heap.size = w1.heap.size := by omega
          have hne2 : ¬ w1.heap.size = w5.heap.size := by omega
          have hne3 : ¬ w5.heap.size = w2.heap.size := by omega
          have hne4 : ¬ w2.heap.size = w5.heap.size := by omega
          clear y0 y1 y2 z0 z1 z2
          have Xk := (B1e.al (.cells #[.slice a1 R.length q1, .int .i64 N, .int .i64 k] 33)).get3
          obtain ⟨xk0, xk1, xk2⟩ := Xk
          obtain ⟨y0, y1, y2⟩ := B2f.get3
          obtain ⟨z0, z1, z2⟩ := B5.get3
          obtain ⟨p0, p1, p2⟩ := (B1e.al (.cells #[.slice a1 R.length q1, .int .i64 N, .int .i64 K] 33)).get3
          go_wp2_with fail
          clear x0 x1 x2 y0 y1 y2 z0 z1 z2 xk0 xk1 xk2 p0 p1 p2
          refine (sameTransfer_any _ _ N K R _ (by omega) O2f.out.reads O1f.out.reads).mono ?_
          rintro e w6 ⟨rfl, b6⟩
          have c7 := bNext c6 b6
          obtain ⟨y0, y1, y2⟩ := (B2f.bl b6).get3
          go_wp2_with fail
          clear y0 y1 y2
          refine (implTransferValid_any _ N K R _ (by omega) (O2f.out.bl b6).reads).mono ?_
          rw [HV3.out]
          rintro e w7 ⟨rfl, b7⟩
          have c8 := bNext c7 b7
          go_wp2
          go_ret
          exact ⟨rfl, c8⟩
  · have hl' : decide ((1048576 : Int) < zs.length) = true := decide_eq_true (by omega)
    go_enter Try.func6, Try.ntmps6
    go_wp2
    go_ret
    exact ⟨rfl, Below.refl _ _⟩
end Go.Proofs.Ytlfmgagokaekjaa
