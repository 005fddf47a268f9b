/- The walk of FnTransferNothing: the law returns true. -/
import Derived.Test.YtlfmgagokaekjaaDrawSend
import Derived.Test.YtlfmgagokaekjaaSendI
import Derived.Test.YtlfmgagokaekjaaSameChunk
import Derived.Test.YtlfmgagokaekjaaTrParts
import Derived.IntWalk
namespace Go.Proofs.Ytlfmgagokaekjaa
open Go.RowKit
set_option linter.unusedVariables false
set_option linter.unusedSimpArgs false

set_option maxRecDepth 100000 in
set_option maxHeartbeats 4000000 in
theorem transferNothing_walk (v : Value) (zs : List Int) (w : World) (hr : RBytes w v zs) :
    Calls Try.prog 10 #[v] w fun e w' => e = .returned (.bool true) ∧ Below w.heap.size w w' := by
  obtain ⟨⟨a, cap, rfl, g1, g2, -⟩, -⟩ := id hr
  have HR := Lib.hid hr; clear hr
  by_cases hl : zs.length ≤ 1048576
  · go_enter Try.func10, Try.ntmps10
    go_wp2_with fail
    refine (drawTransferSend_any _ zs _ HR.out hl).mono ?_
    unfold trV
    rintro e w1 ⟨u, xs, n, k, m, rfl, o1, hxl, hn, hk, hm, b1⟩
    obtain ⟨a1, q1, rfl, -, -, -⟩ := id o1.reads
    have hsb0 := b1.size
    have c1 := bAl b1 (.cells #[.slice a1 xs.length q1, .int .i64 n, .int .i64 k] 33)
    have X0 := Blk.new w1 #[.slice a1 xs.length q1, .int .i64 n, .int .i64 k] 33
    have XI0 := Lib.hid (o1.al (.cells #[.slice a1 xs.length q1, .int .i64 n, .int .i64 k] 33)); clear o1
    obtain ⟨R, hR⟩ : ∃ R, R = sendL n k m xs := ⟨_, rfl⟩
    obtain ⟨N, hN⟩ : ∃ N, N = sendN n k m xs := ⟨_, rfl⟩
    obtain ⟨K, hK⟩ : ∃ K, K = sendK n k m xs := ⟨_, rfl⟩
    obtain ⟨A, hA⟩ : ∃ A, A = sendA n k m xs := ⟨_, rfl⟩
    obtain ⟨U, hU⟩ : ∃ U, U = sendC n k m xs := ⟨_, rfl⟩
    obtain ⟨OK, hOK⟩ : ∃ OK, OK = sendB n k m xs := ⟨_, rfl⟩
    have hRl : R.length ≤ 21 := by rw [hR]; exact Nat.le_trans (sendL_len n k m xs) hxl
    have hUl : U.length ≤ 21 := by rw [hU]; exact Nat.le_trans (sendC_len n k m xs) hxl
    have HRR := Lib.hid hR; have HNN := Lib.hid hN; have HKK := Lib.hid hK; have HAA := Lib.hid hA; have HUU := Lib.hid hU; have HOK := Lib.hid hOK; clear hR hN hK hA hU hOK
    obtain ⟨x0, x1, x2⟩ := X0.get3
    go_wp2_with fail
    clear x0 x1 x2
    refine (implTransferSend_any _ n k m xs _ (by omega) XI0.out.reads).mono ?_
    rw [← HRR.out, ← HNN.out, ← HKK.out, ← HAA.out, ← HUU.out, ← HOK.out]
    unfold trV chV
    rintro e w2 ⟨u2, v2, rfl, o2, p2, b2⟩
    obtain ⟨a2, q2, rfl, -, -, -⟩ := id o2.reads
    obtain ⟨d2, r2, rfl, -, -, -⟩ := id p2.reads
    have hsb1 := b2.size; try simp only [World.size_alloc] at hsb1
    have c_2 := bNext c1 b2
    have X_2 := X0.bl b2
    have XI_2 := Lib.hid (XI0.out.bl b2)
    clear c1 X0 XI0
    have c_3 := bAl c_2 (.cells #[.slice a2 R.length q2, .int .i64 N, .int .i64 K] 33)
    have X_3 := X_2.al (.cells #[.slice a2 R.length q2, .int .i64 N, .int .i64 K] 33)
    have XI_3 := Lib.hid (XI_2.out.al (.cells #[.slice a2 R.length q2, .int .i64 N, .int .i64 K] 33))
    clear c_2 X_2 XI_2
    have Y0 := Blk.new w2 #[.slice a2 R.length q2, .int .i64 N, .int .i64 K] 33
    have c_4 := bAl c_3 (.cells #[.int .i64 A, .slice d2 U.length r2] 25)
    have X_4 := X_3.al (.cells #[.int .i64 A, .slice d2 U.length r2] 25)
    have XI_4 := Lib.hid (XI_3.out.al (.cells #[.int .i64 A, .slice d2 U.length r2] 25))
    have Y_4 := Y0.al (.cells #[.int .i64 A, .slice d2 U.length r2] 25)
    clear c_3 X_3 XI_3 Y0
    have C0 := Blk.new (w2.alloc (.cells #[.slice a2 R.length q2, .int .i64 N, .int .i64 K] 33)) #[.int .i64 A, .slice d2 U.length r2] 25
    simp only [World.size_alloc] at C0
    have YI := Lib.hid ((o2.al (.cells #[.slice a2 R.length q2, .int .i64 N, .int .i64 K] 33)).al (.cells #[.int .i64 A, .slice d2 U.length r2] 25)); have CI := Lib.hid ((p2.al (.cells #[.slice a2 R.length q2, .int .i64 N, .int .i64 K] 33)).al (.cells #[.int .i64 A, .slice d2 U.length r2] 25)); clear o2 p2
    obtain ⟨x0, x1, x2⟩ := X_4.get3
    go_wp2_with fail
    clear x0 x1 x2
    refine (specTransferSend_any _ n k m xs _ _ (by omega) XI_4.out).mono ?_
    rw [← HRR.out, ← HNN.out, ← HKK.out, ← HAA.out, ← HUU.out, ← HOK.out]
    unfold trV chV
    rintro e w3 ⟨u3, v3, rfl, o3, p3, b3⟩
    obtain ⟨a3, q3, rfl, -, -, -⟩ := id o3.reads
    obtain ⟨d3, r3, rfl, -, -, -⟩ := id p3.reads
    have hsb5 := b3.size; try simp only [World.size_alloc] at hsb5
    have c_6 := bNext c_4 b3
    have X_6 := X_4.bl b3
    have XI_6 := Lib.hid (XI_4.out.bl b3)
    have Y_6 := Y_4.bl b3
    have C_6 := C0.bl b3
    have YI_6 := Lib.hid (YI.out.bl b3)
    have CI_6 := Lib.hid (CI.out.bl b3)
    clear c_4 X_4 XI_4 Y_4 C0 YI CI
    have c_7 := bAl c_6 (.cells #[.slice a3 R.length q3, .int .i64 N, .int .i64 K] 33)
    have X_7 := X_6.al (.cells #[.slice a3 R.length q3, .int .i64 N, .int .i64 K] 33)
    have XI_7 := Lib.hid (XI_6.out.al (.cells #[.slice a3 R.length q3, .int .i64 N, .int .i64 K] 33))
    have Y_7 := Y_6.al (.cells #[.slice a3 R.length q3, .int .i64 N, .int .i64 K] 33)
    have C_7 := C_6.al (.cells #[.slice a3 R.length q3, .int .i64 N, .int .i64 K] 33)
    have YI_7 := Lib.hid (YI_6.out.al (.cells #[.slice a3 R.length q3, .int .i64 N, .int .i64 K] 33))
    have CI_7 := Lib.hid (CI_6.out.al (.cells #[.slice a3 R.length q3, .int .i64 N, .int .i64 K] 33))
    clear c_6 X_6 XI_6 Y_6 C_6 YI_6 CI_6
    have P0 := Blk.new w3 #[.slice a3 R.length q3, .int .i64 N, .int .i64 K] 33
    have c_8 := bAl c_7 (.cells #[.int .i64 A, .slice d3 U.length r3] 25)
    have X_8 := X_7.al (.cells #[.int .i64 A, .slice d3 U.length r3] 25)
    have XI_8 := Lib.hid (XI_7.out.al (.cells #[.int .i64 A, .slice d3 U.length r3] 25))
    have Y_8 := Y_7.al (.cells #[.int .i64 A, .slice d3 U.length r3] 25)
    have C_8 := C_7.al (.cells #[.int .i64 A, .slice d3 U.length r3] 25)
    have YI_8 := Lib.hid (YI_7.out.al (.cells #[.int .i64 A, .slice d3 U.length r3] 25))
    have CI_8 := Lib.hid (CI_7.out.al (.cells #[.int .i64 A, .slice d3 U.length r3] 25))
    have P_8 := P0.al (.cells #[.int .i64 A, .slice d3 U.length r3] 25)
    clear c_7 X_7 XI_7 Y_7 C_7 YI_7 CI_7 P0
    have D0 := Blk.new (w3.alloc (.cells #[.slice a3 R.length q3, .int .i64 N, .int .i64 K] 33)) #[.int .i64 A, .slice d3 U.length r3] 25
    simp only [World.size_alloc] at D0
    have PI := Lib.hid ((o3.al (.cells #[.slice a3 R.length q3, .int .i64 N, .int .i64 K] 33)).al (.cells #[.int .i64 A, .slice d3 U.length r3] 25)); have DI := Lib.hid ((p3.al (.cells #[.slice a3 R.length q3, .int .i64 N, .int .i64 K] 33)).al (.cells #[.int .i64 A, .slice d3 U.length r3] 25)); clear o3 p3
    obtain ⟨x0, x1⟩ := C_8.get2
    obtain ⟨y0, y1⟩ := D0.get2
    go_wp2_with fail
    clear x0 x1 y0 y1
    refine (sameChunk_any _ _ A U _ (by omega) CI_8.out.reads DI.out.reads).mono ?_
    rintro e w4 ⟨rfl, b4⟩
    have hsb9 := b4.size; try simp only [World.size_alloc] at hsb9
    have c_10 := bNext c_8 b4
    have X_10 := X_8.bl b4
    have XI_10 := Lib.hid (XI_8.out.bl b4)
    have Y_10 := Y_8.bl b4
    have C_10 := C_8.bl b4
    have YI_10 := Lib.hid (YI_8.out.bl b4)
    have CI_10 := Lib.hid (CI_8.out.bl b4)
    have P_10 := P_8.bl b4
    have D_10 := D0.bl b4
    have PI_10 := Lib.hid (PI.out.bl b4)
    have DI_10 := Lib.hid (DI.out.bl b4)
    clear c_8 X_8 XI_8 Y_8 C_8 YI_8 CI_8 P_8 D0 PI DI
    obtain ⟨x0, x1, x2⟩ := Y_10.get3
    obtain ⟨y0, y1, y2⟩ := P_10.get3
    go_wp2_with fail
    clear x0 x1 x2 y0 y1 y2
    refine (sameTransfer_any _ _ N K R _ (by omega) YI_10.out.reads PI_10.out.reads).mono ?_
    rintro e w5 ⟨rfl, b5⟩
    have hsb11 := b5.size; try simp only [World.size_alloc] at hsb11
    have c_12 := bNext c_10 b5
    have X_12 := X_10.bl b5
    have XI_12 := Lib.hid (XI_10.out.bl b5)
    have Y_12 := Y_10.bl b5
    have C_12 := C_10.bl b5
    have YI_12 := Lib.hid (YI_10.out.bl b5)
    have CI_12 := Lib.hid (CI_10.out.bl b5)
    have P_12 := P_10.bl b5
    have D_12 := D_10.bl b5
    have PI_12 := Lib.hid (PI_10.out.bl b5)
    have DI_12 := Lib.hid (DI_10.out.bl b5)
    clear c_10 X_10 XI_10 Y_10 C_10 YI_10 CI_10 P_10 D_10 PI_10 DI_10
    obtain ⟨x0, x1, x2⟩ := X_12.get3
    go_wp2_with fail
    clear x0 x1 x2
    refine (specTransferValid_any _ n k xs _ (by omega) XI_12.out.reads).mono ?_
    rintro e w6 ⟨rfl, b6⟩
    have hsb13 := b6.size; try simp only [World.size_alloc] at hsb13
    have c_14 := bNext c_12 b6
    have X_14 := X_12.bl b6
    have XI_14 := Lib.hid (XI_12.out.bl b6)
    have Y_14 := Y_12.bl b6
    have C_14 := C_12.bl b6
    have YI_14 := Lib.hid (YI_12.out.bl b6)
    have CI_14 := Lib.hid (CI_12.out.bl b6)
    have P_14 := P_12.bl b6
    have D_14 := D_12.bl b6
    have PI_14 := Lib.hid (PI_12.out.bl b6)
    have DI_14 := Lib.hid (DI_12.out.bl b6)
    clear c_12 X_12 XI_12 Y_12 C_12 YI_12 CI_12 P_12 D_12 PI_12 DI_12
    cases hv : validB n k xs with
    | false =>
      clear hv
      obtain ⟨x0, x1⟩ := C_14.get2
      obtain ⟨y0, y1⟩ := D_14.get2
      go_wp2_with fail
      clear x0 x1 y0 y1
      refine (sameChunk_any _ _ A U _ (by omega) CI_14.out.reads DI_14.out.reads).mono ?_
      rintro e w7 ⟨rfl, b7⟩
      have hsb15 := b7.size; try simp only [World.size_alloc] at hsb15
      have c_16 := bNext c_14 b7
      have X_16 := X_14.bl b7
      have XI_16 := Lib.hid (XI_14.out.bl b7)
      have Y_16 := Y_14.bl b7
      have C_16 := C_14.bl b7
      have YI_16 := Lib.hid (YI_14.out.bl b7)
      have CI_16 := Lib.hid (CI_14.out.bl b7)
      have P_16 := P_14.bl b7
      have D_16 := D_14.bl b7
      have PI_16 := Lib.hid (PI_14.out.bl b7)
      have DI_16 := Lib.hid (DI_14.out.bl b7)
      clear c_14 X_14 XI_14 Y_14 C_14 YI_14 CI_14 P_14 D_14 PI_14 DI_14
      obtain ⟨x0, x1, x2⟩ := Y_16.get3
      obtain ⟨y0, y1, y2⟩ := P_16.get3
      go_wp2_with fail
      clear x0 x1 x2 y0 y1 y2
      refine (sameTransfer_any _ _ N K R _ (by omega) YI_16.out.reads PI_16.out.reads).mono ?_
      rintro e w8 ⟨rfl, b8⟩
      have hsb17 := b8.size; try simp only [World.size_alloc] at hsb17
      have c_18 := bNext c_16 b8
      have X_18 := X_16.bl b8
      have XI_18 := Lib.hid (XI_16.out.bl b8)
      have Y_18 := Y_16.bl b8
      have C_18 := C_16.bl b8
      have YI_18 := Lib.hid (YI_16.out.bl b8)
      have CI_18 := Lib.hid (CI_16.out.bl b8)
      have P_18 := P_16.bl b8
      have D_18 := D_16.bl b8
      have PI_18 := Lib.hid (PI_16.out.bl b8)
      have DI_18 := Lib.hid (DI_16.out.bl b8)
      clear c_16 X_16 XI_16 Y_16 C_16 YI_16 CI_16 P_16 D_16 PI_16 DI_16
      go_wp2
      go_ret
      exact ⟨rfl, c_18⟩
    | true =>
      by_cases hm0 : m < 0
      · have hd1 : decide (m < 0) = true := decide_eq_true hm0
        clear hv
        obtain ⟨x0, x1⟩ := C_14.get2
        obtain ⟨y0, y1⟩ := D_14.get2
        go_wp2_with fail
        clear x0 x1 y0 y1
        refine (sameChunk_any _ _ A U _ (by omega) CI_14.out.reads DI_14.out.reads).mono ?_
        rintro e w7 ⟨rfl, b7⟩
        have hsb15 := b7.size; try simp only [World.size_alloc] at hsb15
        have c_16 := bNext c_14 b7
        have X_16 := X_14.bl b7
        have XI_16 := Lib.hid (XI_14.out.bl b7)
        have Y_16 := Y_14.bl b7
        have C_16 := C_14.bl b7
        have YI_16 := Lib.hid (YI_14.out.bl b7)
        have CI_16 := Lib.hid (CI_14.out.bl b7)
        have P_16 := P_14.bl b7
        have D_16 := D_14.bl b7
        have PI_16 := Lib.hid (PI_14.out.bl b7)
        have DI_16 := Lib.hid (DI_14.out.bl b7)
        clear c_14 X_14 XI_14 Y_14 C_14 YI_14 CI_14 P_14 D_14 PI_14 DI_14
        obtain ⟨x0, x1, x2⟩ := Y_16.get3
        obtain ⟨y0, y1, y2⟩ := P_16.get3
        go_wp2_with fail
        clear x0 x1 x2 y0 y1 y2
        refine (sameTransfer_any _ _ N K R _ (by omega) YI_16.out.reads PI_16.out.reads).mono ?_
        rintro e w8 ⟨rfl, b8⟩
        have hsb17 := b8.size; try simp only [World.size_alloc] at hsb17
        have c_18 := bNext c_16 b8
        have X_18 := X_16.bl b8
        have XI_18 := Lib.hid (XI_16.out.bl b8)
        have Y_18 := Y_16.bl b8
        have C_18 := C_16.bl b8
        have YI_18 := Lib.hid (YI_16.out.bl b8)
        have CI_18 := Lib.hid (CI_16.out.bl b8)
        have P_18 := P_16.bl b8
        have D_18 := D_16.bl b8
        have PI_18 := Lib.hid (PI_16.out.bl b8)
        have DI_18 := Lib.hid (DI_16.out.bl b8)
        clear c_16 X_16 XI_16 Y_16 C_16 YI_16 CI_16 P_16 D_16 PI_16 DI_16
        go_wp2
        go_ret
        exact ⟨rfl, c_18⟩
      · have hd1 : decide (m < 0) = false := decide_eq_false hm0
        by_cases hm20 : 20 < m
        · have hd2 : decide (20 < m) = true := decide_eq_true hm20
          clear hv
          obtain ⟨x0, x1⟩ := C_14.get2
          obtain ⟨y0, y1⟩ := D_14.get2
          go_wp2_with fail
          clear x0 x1 y0 y1
          refine (sameChunk_any _ _ A U _ (by omega) CI_14.out.reads DI_14.out.reads).mono ?_
          rintro e w7 ⟨rfl, b7⟩
          have hsb15 := b7.size; try simp only [World.size_alloc] at hsb15
          have c_16 := bNext c_14 b7
          have X_16 := X_14.bl b7
          have XI_16 := Lib.hid (XI_14.out.bl b7)
          have Y_16 := Y_14.bl b7
          have C_16 := C_14.bl b7
          have YI_16 := Lib.hid (YI_14.out.bl b7)
          have CI_16 := Lib.hid (CI_14.out.bl b7)
          have P_16 := P_14.bl b7
          have D_16 := D_14.bl b7
          have PI_16 := Lib.hid (PI_14.out.bl b7)
          have DI_16 := Lib.hid (DI_14.out.bl b7)
          clear c_14 X_14 XI_14 Y_14 C_14 YI_14 CI_14 P_14 D_14 PI_14 DI_14
          obtain ⟨x0, x1, x2⟩ := Y_16.get3
          obtain ⟨y0, y1, y2⟩ := P_16.get3
          go_wp2_with fail
          clear x0 x1 x2 y0 y1 y2
          refine (sameTransfer_any _ _ N K R _ (by omega) YI_16.out.reads PI_16.out.reads).mono ?_
          rintro e w8 ⟨rfl, b8⟩
          have hsb17 := b8.size; try simp only [World.size_alloc] at hsb17
          have c_18 := bNext c_16 b8
          have X_18 := X_16.bl b8
          have XI_18 := Lib.hid (XI_16.out.bl b8)
          have Y_18 := Y_16.bl b8
          have C_18 := C_16.bl b8
          have YI_18 := Lib.hid (YI_16.out.bl b8)
          have CI_18 := Lib.hid (CI_16.out.bl b8)
          have P_18 := P_16.bl b8
          have D_18 := D_16.bl b8
          have PI_18 := Lib.hid (PI_16.out.bl b8)
          have DI_18 := Lib.hid (DI_16.out.bl b8)
          clear c_16 X_16 XI_16 Y_16 C_16 YI_16 CI_16 P_16 D_16 PI_16 DI_16
          go_wp2
          go_ret
          exact ⟨rfl, c_18⟩
        · have hd2 : decide (20 < m) = false := decide_eq_false hm20
          obtain ⟨hk0, hkn, hnl, -⟩ := validB_parts hv
          have ew : IntKind.i64.wrap (n - k) = n - k := IntWalk.i64_in _ (by omega)
          cases hOK : OK with
          | true =>
            subst hOK
            obtain ⟨h1, h2⟩ := sent_more HOK.out.symm
            have hq : (n == (xs.length : Int)) = false := by rw [beq_eq_false_iff_ne]; exact h1
            have hd3 : decide (m ≤ n - k) = false := decide_eq_false h2
            clear hv h1 h2
            obtain ⟨x0, x1, x2⟩ := X_14.get3
            go_wp2
            go_ret
            exact ⟨rfl, c_14⟩
          | false =>
            subst hOK
            obtain ⟨h1, e1, e2, e3⟩ := unsent_parts hv hm0 hm20 HOK.out.symm
            have hRe : R = xs := by rw [HRR.out, e1]
            have hNe : N = n := by rw [HNN.out, e2]
            have hKe : K = k := by rw [HKK.out, e3]
            clear HRR HNN HKK HAA HUU HOK e1 e2 e3 hv
            subst hRe hNe hKe
            by_cases hnl2 : N = (R.length : Int)
            · have hq : (N == (R.length : Int)) = true := by rw [beq_iff_eq]; exact hnl2
              have HH := Lib.hid hnl2; clear hnl2 h1
              obtain ⟨x0, x1, x2⟩ := X_14.get3
              obtain ⟨y0, y1, y2⟩ := Y_14.get3
              go_wp2_with fail
              clear x0 x1 x2 y0 y1 y2
              refine (sameTransfer_any _ _ N K R _ (by omega) YI_14.out.reads XI_14.out.reads).mono ?_
              rintro e w7 ⟨rfl, b7⟩
              have hsb15 := b7.size; try simp only [World.size_alloc] at hsb15
              have c_16 := bNext c_14 b7
              have X_16 := X_14.bl b7
              have XI_16 := Lib.hid (XI_14.out.bl b7)
              have Y_16 := Y_14.bl b7
              have C_16 := C_14.bl b7
              have YI_16 := Lib.hid (YI_14.out.bl b7)
              have CI_16 := Lib.hid (CI_14.out.bl b7)
              have P_16 := P_14.bl b7
              have D_16 := D_14.bl b7
              have PI_16 := Lib.hid (PI_14.out.bl b7)
              have DI_16 := Lib.hid (DI_14.out.bl b7)
              clear c_14 X_14 XI_14 Y_14 C_14 YI_14 CI_14 P_14 D_14 PI_14 DI_14
              go_wp2
              go_ret
              exact ⟨rfl, c_16⟩
            · have hq : (N == (R.length : Int)) = false := by rw [beq_eq_false_iff_ne]; exact hnl2
              have hd3 : decide (m ≤ N - K) = true := decide_eq_true (h1.resolve_left hnl2)
              have HH := Lib.hid hnl2; clear hnl2 h1
              obtain ⟨x0, x1, x2⟩ := X_14.get3
              obtain ⟨y0, y1, y2⟩ := Y_14.get3
              go_wp2_with fail
              clear x0 x1 x2 y0 y1 y2
              refine (sameTransfer_any _ _ N K R _ (by omega) YI_14.out.reads XI_14.out.reads).mono ?_
              rintro e w7 ⟨rfl, b7⟩
              have hsb15 := b7.size; try simp only [World.size_alloc] at hsb15
              have c_16 := bNext c_14 b7
              have X_16 := X_14.bl b7
              have XI_16 := Lib.hid (XI_14.out.bl b7)
              have Y_16 := Y_14.bl b7
              have C_16 := C_14.bl b7
              have YI_16 := Lib.hid (YI_14.out.bl b7)
              have CI_16 := Lib.hid (CI_14.out.bl b7)
              have P_16 := P_14.bl b7
              have D_16 := D_14.bl b7
              have PI_16 := Lib.hid (PI_14.out.bl b7)
              have DI_16 := Lib.hid (DI_14.out.bl b7)
              clear c_14 X_14 XI_14 Y_14 C_14 YI_14 CI_14 P_14 D_14 PI_14 DI_14
              go_wp2
              go_ret
              exact ⟨rfl, c_16⟩
  · have hl' : decide ((1048576 : Int) < zs.length) = true := decide_eq_true (by omega)
    go_enter Try.func10, Try.ntmps10
    go_wp2
    go_ret
    exact ⟨rfl, Below.refl _ _⟩
end Go.Proofs.Ytlfmgagokaekjaa
