/- The walk of FnTransferAll: the law returns true. -/
import Derived.Test.YtlfmgagokaekjaaSendI
import Derived.Test.YtlfmgagokaekjaaSteps
import Derived.Test.YtlfmgagokaekjaaTrAck
import Derived.Test.YtlfmgagokaekjaaTrNew
import Derived.Test.YtlfmgagokaekjaaDrawItems
import Derived.Test.YtlfmgagokaekjaaCopyOwn
import Derived.Test.YtlfmgagokaekjaaTrParts
namespace Go.Proofs.Ytlfmgagokaekjaa
open Go.RowKit
set_option linter.unusedVariables false
set_option linter.unusedSimpArgs false

set_option maxRecDepth 100000 in
set_option maxHeartbeats 4000000 in
theorem transferAll_walk (v : Value) (zs : List Int) (v2 : Value) (zs2 : List Int) (w : World) (hr : RBytes w v zs) (hr2 : RBytes w v2 zs2) :
    Calls Try.prog 7 #[v, v2] w fun e w' => e = .returned (.bool true) ∧ Below w.heap.size w w' := by
  obtain ⟨⟨a, cap, rfl, g1, g2, -⟩, -⟩ := id hr
  obtain ⟨⟨am, capm, rfl, g3, g4, -⟩, -⟩ := id hr2
  have HR := Lib.hid hr; clear hr hr2
  unfold maxLen at g4
  obtain ⟨L, hL⟩ : ∃ L, L = zs2.length := ⟨_, rfl⟩
  rw [← hL]; rw [← hL] at g3
  clear hL
  by_cases hl : zs.length ≤ 1048576
  · have hl' : decide ((1048576 : Int) < zs.length) = false := decide_eq_false (by omega)
    by_cases hl2 : L ≤ 1048576
    · have hl2' : decide ((1048576 : Int) < L) = false := decide_eq_false (by omega)
      go_enter Try.func7, Try.ntmps7
      go_wp2_with fail
      refine (drawTransferNew_any _ zs _ HR.out hl).mono ?_
      rintro e w1 ⟨u1, xs, rfl, o1, hxl, b1⟩
      obtain ⟨a1, q1, rfl, -, -, -⟩ := id o1.reads
      have c1 := b1
      have IT := Lib.hid o1; clear o1
      obtain ⟨T, hT⟩ : ∃ T, T = newL xs := ⟨_, rfl⟩
      have hTl : T.length ≤ 21 := by
        rw [hT, newL]; split
        · exact hxl
        · simp
      have HT := Lib.hid hT; clear hT
      go_wp2_with fail
      refine (implTransferNew_any _ xs _ (by omega) IT.out.reads).mono ?_
      rw [← HT.out]
      unfold trV
      rintro e w2 ⟨u2, rfl, o2, b2⟩
      obtain ⟨a2, q2, rfl, -, -, -⟩ := id o2.reads
      have hsb1 := b1.size
      have hsb1 := b2.size; try simp only [World.size_alloc] at hsb1
      have c_2 := bNext c1 b2
      have IT_2 := Lib.hid (IT.out.bl b2)
      clear c1 IT
      have c_3 := bAl c_2 (.cells #[.slice a2 T.length q2, .int .i64 0, .int .i64 0] 33)
      have IT_3 := Lib.hid (IT_2.out.al (.cells #[.slice a2 T.length q2, .int .i64 0, .int .i64 0] 33))
      clear c_2 IT_2
      have X0 := Blk.new w2 #[.slice a2 T.length q2, .int .i64 0, .int .i64 0] 33
      have XI0 := Lib.hid (o2.al (.cells #[.slice a2 T.length q2, .int .i64 0, .int .i64 0] 33)); clear o2
      go_wp2_with fail
      refine (specTransferNew_any _ xs _ _ (by omega) IT_3.out).mono ?_
      rw [← HT.out]
      unfold trV
      rintro e w3 ⟨u3, rfl, o3, b3⟩
      obtain ⟨a3, q3, rfl, -, -, -⟩ := id o3.reads
      have hsb4 := b3.size; try simp only [World.size_alloc] at hsb4
      have c_5 := bNext c_3 b3
      have IT_5 := Lib.hid (IT_3.out.bl b3)
      have X_5 := X0.bl b3
      have XI_5 := Lib.hid (XI0.out.bl b3)
      clear c_3 IT_3 X0 XI0
      have c_6 := bAl c_5 (.cells #[.slice a3 T.length q3, .int .i64 0, .int .i64 0] 33)
      have IT_6 := Lib.hid (IT_5.out.al (.cells #[.slice a3 T.length q3, .int .i64 0, .int .i64 0] 33))
      have X_6 := X_5.al (.cells #[.slice a3 T.length q3, .int .i64 0, .int .i64 0] 33)
      have XI_6 := Lib.hid (XI_5.out.al (.cells #[.slice a3 T.length q3, .int .i64 0, .int .i64 0] 33))
      clear c_5 IT_5 X_5 XI_5
      have Y0 := Blk.new w3 #[.slice a3 T.length q3, .int .i64 0, .int .i64 0] 33
      have YI0 := Lib.hid (o3.al (.cells #[.slice a3 T.length q3, .int .i64 0, .int .i64 0] 33)); clear o3
      obtain ⟨x0, x1, x2⟩ := X_6.get3
      obtain ⟨y0, y1, y2⟩ := Y0.get3
      cases hk : itemsB xs with
      | false =>
        have HK := Lib.hid hk; clear hk
        go_wp2_with fail
        clear x0 x1 x2 y0 y1 y2
        refine (sameTransfer_any _ _ 0 0 T _ (by omega) XI_6.out.reads YI0.out.reads).mono ?_
        rintro e w4 ⟨rfl, b4⟩
        have hsb7 := b4.size; try simp only [World.size_alloc] at hsb7
        have c_8 := bNext c_6 b4
        have IT_8 := Lib.hid (IT_6.out.bl b4)
        have X_8 := X_6.bl b4
        have XI_8 := Lib.hid (XI_6.out.bl b4)
        have Y_8 := Y0.bl b4
        have YI_8 := Lib.hid (YI0.out.bl b4)
        clear c_6 IT_6 X_6 XI_6 Y0 YI0
        obtain ⟨x0, x1, x2⟩ := X_8.get3
        obtain ⟨y0, y1, y2⟩ := Y_8.get3
        go_wp2_with fail
        clear x0 x1 x2 y0 y1 y2
        refine (sameTransfer_any _ _ 0 0 T _ (by omega) XI_8.out.reads YI_8.out.reads).mono ?_
        rintro e w5 ⟨rfl, b5⟩
        go_wp2
        go_ret
        exact ⟨rfl, bNext c_8 b5⟩
      | true =>
        obtain rfl : T = xs := by rw [HT.out, newL, hk]; rfl
        have HI := Lib.hid hk; clear HT
        have HK := Lib.hid hk; clear hk
        go_wp2_with fail
        clear x0 x1 x2 y0 y1 y2
        refine (sameTransfer_any _ _ 0 0 T _ (by omega) XI_6.out.reads YI0.out.reads).mono ?_
        rintro e w4 ⟨rfl, b4⟩
        have hsb7 := b4.size; try simp only [World.size_alloc] at hsb7
        have c_8 := bNext c_6 b4
        have IT_8 := Lib.hid (IT_6.out.bl b4)
        have X_8 := X_6.bl b4
        have XI_8 := Lib.hid (XI_6.out.bl b4)
        have Y_8 := Y0.bl b4
        have YI_8 := Lib.hid (YI0.out.bl b4)
        clear c_6 IT_6 X_6 XI_6 Y0 YI0
        clear Y_8
        clear YI_8
        have hl20 := (itemsB_all HI.out).2
        have hB4 := c_8.size
        have c_9 := bAl c_8 (.cells #[] 3)
        have IT_9 := Lib.hid (IT_8.out.al (.cells #[] 3))
        have X_9 := X_8.al (.cells #[] 3)
        have XI_9 := Lib.hid (XI_8.out.al (.cells #[] 3))
        clear c_8 IT_8 X_8 XI_8
        have G0 := own_empty w4
        obtain ⟨x0, x1, x2⟩ := X_9.get3
        have hsz4 := sAl w4 (.cells #[] 3)
        have c_10 := bAl c_9 (.cells #[.slice a2 T.length q2, .int .i64 0, .int .i64 0] 33)
        have IT_10 := Lib.hid (IT_9.out.al (.cells #[.slice a2 T.length q2, .int .i64 0, .int .i64 0] 33))
        have X_10 := X_9.al (.cells #[.slice a2 T.length q2, .int .i64 0, .int .i64 0] 33)
        have XI_10 := Lib.hid (XI_9.out.al (.cells #[.slice a2 T.length q2, .int .i64 0, .int .i64 0] 33))
        clear c_9 IT_9 X_9 XI_9
        have G1 := Lib.hid (G0.al (.cells #[.slice a2 T.length q2, .int .i64 0, .int .i64 0] 33)); clear G0
        have V0 := Blk.new (w4.alloc (.cells #[] 3)) #[.slice a2 T.length q2, .int .i64 0, .int .i64 0] 33
        simp only [World.size_alloc] at V0
        go_wp2
        clear x0 x1 x2
        clear X_10
        obtain ⟨gx, hgx⟩ : ∃ gx, gx = w4.heap.size + 1 := ⟨_, rfl⟩
        rw [← hgx] at V0 ⊢
        have hgxw : w.heap.size ≤ gx := by omega
        clear hgx
        go_loopw [10, 12, 13, 14, 15, 16, 17, 18, 19] (fun gv i _ _ _ _ _ _ _ wr => ∃ (j q : Nat) (ax : Option Addr) (qx : Nat), j ≤ 30 ∧ j ≤ q ∧ q ≤ T.length ∧ i = .int .i64 j ∧ Blk wr gx #[.slice ax T.length qx, .int .i64 q, .int .i64 q] 33 ∧ Hid (OwnInts wr w.heap.size (.slice ax T.length qx) T) ∧ Hid (OwnInts wr w.heap.size gv (T.take q)) ∧ Hid (OwnInts wr w.heap.size (.slice a1 T.length q1) T) ∧ Below w.heap.size w wr) (fun _ i _ _ _ _ _ _ _ _ => 31 - (intOf i).toNat)
        case atStart => exact ⟨0, 0, a2, q2, by omega, by omega, by omega, rfl, V0, Lib.hid (XI_10.out.base (by omega)), Lib.hid (by simpa using G1.out.base (B' := w.heap.size) (by omega)), Lib.hid (IT_10.out.base (by omega)), c_10⟩
        case round =>
          clear V0 G1 XI_10 IT_10 c_10
          obtain ⟨j, q, ax, qx, hj, hjq, hq, rfl, V, VI, GT, IT, c0⟩ := hrel
          have hsr := c0.size
          have hd30 : decide ((j : Int) < 30) = true := decide_eq_true (by omega)
          have hd30n : decide (j < 30) = true := decide_eq_true (by omega)
          obtain ⟨M, hM, hM1, hM7⟩ : ∃ M : Nat, 1 + ((L : Int) + (j : Int)) % 7 = (M : Int) ∧ 1 ≤ M ∧ M ≤ 7 := ⟨(1 + ((L : Int) + (j : Int)) % 7).toNat, by omega, by omega, by omega⟩
          have hM2 : 1 + ((L : Int) + (j : Int)).tmod 7 = (M : Int) := by rw [Int.tmod_eq_emod_of_nonneg (by omega)]; exact hM
          have ew1 : IntKind.i64.wrap ((L : Int) + (j : Int)) = (L : Int) + (j : Int) := IntWalk.i64_in _ (by omega)
          have ew2 : IntKind.i64.wrap (1 + ((L : Int) + (j : Int)) % 7) = 1 + ((L : Int) + (j : Int)) % 7 := IntWalk.i64_in _ (by omega)
          have ew3 : IntKind.i64.wrap (1 + ((L : Int) + (j : Int)).tmod 7) = 1 + ((L : Int) + (j : Int)).tmod 7 := IntWalk.i64_in _ (by omega)
          obtain ⟨E, hE⟩ : ∃ E, E = min (min T.length (q + 4)) (q + M) := ⟨_, rfl⟩
          by_cases hlt : q < E
          · obtain ⟨e1, e2, e3, e4, e5, e6⟩ := send_go HI.out (Nat.le_refl q) hq (show M ≤ 20 by omega) hE hlt
            have hEl : E ≤ T.length := by omega
            have hE4 : E ≤ q + 4 := by omega
            obtain ⟨p1, p2⟩ := put_step (g := q) HI.out (Nat.le_refl q) hq hlt hEl hE4
            rw [Nat.max_eq_right (by omega)] at p1
            obtain ⟨G2, hG2⟩ : ∃ G2, G2 = T.take E := ⟨_, rfl⟩
            have hGl : E = G2.length := by rw [hG2]; simp; omega
            obtain ⟨Ch, hCh⟩ : ∃ Ch, Ch = (T.take E).drop q := ⟨_, rfl⟩
            have hChl : Ch.length ≤ 10 := by rw [hCh]; simp; omega
            rw [← hCh] at e5 p1 p2; rw [← hG2] at p1
            subst hGl
            obtain ⟨k1, k2, k3, k4⟩ := ack_step (k := q) (m := G2.length) HI.out (by omega) hEl (by omega) (Nat.le_refl _)
            have HE := Lib.hid e1; have HE2 := Lib.hid e2; have HE3 := Lib.hid e3; have HE4 := Lib.hid e4; have HE5 := Lib.hid e5; have HE6 := Lib.hid e6; have HP1 := Lib.hid p1; have HP2 := Lib.hid p2; have HK1 := Lib.hid k1; have HK2 := Lib.hid k2; have HK3 := Lib.hid k3; have HK4 := Lib.hid k4; have HG2 := Lib.hid hG2
            clear e1 e2 e3 e4 e5 e6 p1 p2 k1 k2 k3 k4 hG2 hCh hE
            obtain ⟨gv, hgv⟩ : ∃ gv, gv = T.take q := ⟨_, rfl⟩
            rw [← hgv] at HP1 HP2
            have GT0 : Hid (OwnInts wr w.heap.size _ gv) := Lib.hid (by rw [hgv]; exact GT.out)
            have hgvl : gv.length ≤ 21 := by rw [hgv]; simp; omega
            clear hgv GT
            obtain ⟨ag, qg, rfl, -, -, -⟩ := id GT0.out.reads
            obtain ⟨x0, x1, x2⟩ := V.get3
            go_wp2_with fail
            clear x0 x1 x2
            refine (implTransferSend_any _ q q M T _ (by omega) VI.out.reads).mono ?_
            rw [HE.out, HE2.out, HE3.out, HE4.out, HE5.out, HE6.out]
            unfold trV chV
            rintro e w5 ⟨u5, v5, rfl, o5, p5, b5⟩
            obtain ⟨a5, q5, rfl, -, -, -⟩ := id o5.reads
            obtain ⟨a6, q6, rfl, -, -, -⟩ := id p5.reads
            have hsb11 := b5.size; try simp only [World.size_alloc] at hsb11
            have X_12 := V.bl b5
            have XI_12 := Lib.hid (VI.out.bl b5)
            have GT_12 := Lib.hid (GT0.out.bl b5)
            have IT_12 := Lib.hid (IT.out.bl b5)
            have c_12 := bNext c0 b5
            clear V VI GT0 IT c0
            have X_13 := X_12.al (.cells #[.slice a5 T.length q5, .int .i64 G2.length, .int .i64 q] 33)
            have XI_13 := Lib.hid (XI_12.out.al (.cells #[.slice a5 T.length q5, .int .i64 G2.length, .int .i64 q] 33))
            have GT_13 := Lib.hid (GT_12.out.al (.cells #[.slice a5 T.length q5, .int .i64 G2.length, .int .i64 q] 33))
            have IT_13 := Lib.hid (IT_12.out.al (.cells #[.slice a5 T.length q5, .int .i64 G2.length, .int .i64 q] 33))
            have c_13 := bAl c_12 (.cells #[.slice a5 T.length q5, .int .i64 G2.length, .int .i64 q] 33)
            clear X_12 XI_12 GT_12 IT_12 c_12
            have Y0 := Blk.new w5 #[.slice a5 T.length q5, .int .i64 G2.length, .int .i64 q] 33
            have X_14 := X_13.al (.cells #[.int .i64 q, .slice a6 Ch.length q6] 25)
            have XI_14 := Lib.hid (XI_13.out.al (.cells #[.int .i64 q, .slice a6 Ch.length q6] 25))
            have GT_14 := Lib.hid (GT_13.out.al (.cells #[.int .i64 q, .slice a6 Ch.length q6] 25))
            have IT_14 := Lib.hid (IT_13.out.al (.cells #[.int .i64 q, .slice a6 Ch.length q6] 25))
            have c_14 := bAl c_13 (.cells #[.int .i64 q, .slice a6 Ch.length q6] 25)
            have Y_14 := Y0.al (.cells #[.int .i64 q, .slice a6 Ch.length q6] 25)
            clear X_13 XI_13 GT_13 IT_13 c_13 Y0
            have C0 := Blk.new (w5.alloc (.cells #[.slice a5 T.length q5, .int .i64 G2.length, .int .i64 q] 33)) #[.int .i64 q, .slice a6 Ch.length q6] 25
            simp only [World.size_alloc] at C0
            have YI := Lib.hid ((o5.al (.cells #[.slice a5 T.length q5, .int .i64 G2.length, .int .i64 q] 33)).al (.cells #[.int .i64 q, .slice a6 Ch.length q6] 25)); have CI := Lib.hid ((p5.al (.cells #[.slice a5 T.length q5, .int .i64 G2.length, .int .i64 q] 33)).al (.cells #[.int .i64 q, .slice a6 Ch.length q6] 25)); clear o5 p5
            obtain ⟨x0, x1⟩ := C0.get2
            go_wp2_with fail
            clear x0 x1
            refine (implChunkPut_any _ gv _ q Ch _ (by omega) (by omega) GT_14.out.reads CI.out.reads).mono ?_
            rw [HP1.out, HP2.out]
            rintro e w6 ⟨v6, rfl, o6, b6⟩
            obtain ⟨a7, q7, rfl, -, -, -⟩ := id o6.reads
            have hsb15 := b6.size; try simp only [World.size_alloc] at hsb15
            have X_16 := X_14.bl b6
            have XI_16 := Lib.hid (XI_14.out.bl b6)
            have GT_16 := Lib.hid (GT_14.out.bl b6)
            have IT_16 := Lib.hid (IT_14.out.bl b6)
            have c_16 := bNext c_14 b6
            have Y_16 := Y_14.bl b6
            have C_16 := C0.bl b6
            have YI_16 := Lib.hid (YI.out.bl b6)
            have CI_16 := Lib.hid (CI.out.bl b6)
            clear X_14 XI_14 GT_14 IT_14 c_14 Y_14 C0 YI CI
            have L6 := Lib.hid (o6.base (B' := w5.heap.size) (by simp only [World.size_alloc]; omega)); clear o6
            clear C_16
            clear CI_16
            clear GT_16
            obtain ⟨x0, x1, x2⟩ := Y_16.get3
            go_wp2_with fail
            clear x0 x1 x2
            refine (implTransferAck_any _ G2.length q G2.length T _ (by omega) YI_16.out.reads).mono ?_
            rw [HK1.out, HK2.out, HK3.out, HK4.out]
            unfold trV
            rintro e w7 ⟨u7, rfl, o7, b7⟩
            obtain ⟨a8, q8, rfl, -, -, -⟩ := id o7.reads
            have hsb17 := b7.size; try simp only [World.size_alloc] at hsb17
            have X_18 := X_16.bl b7
            have XI_18 := Lib.hid (XI_16.out.bl b7)
            have IT_18 := Lib.hid (IT_16.out.bl b7)
            have c_18 := bNext c_16 b7
            have Y_18 := Y_16.bl b7
            have YI_18 := Lib.hid (YI_16.out.bl b7)
            have GL_18 := Lib.hid (L6.out.bl b7)
            clear X_16 XI_16 IT_16 c_16 Y_16 YI_16 L6
            have X_19 := X_18.al (.cells #[.slice a8 T.length q8, .int .i64 G2.length, .int .i64 G2.length] 33)
            have XI_19 := Lib.hid (XI_18.out.al (.cells #[.slice a8 T.length q8, .int .i64 G2.length, .int .i64 G2.length] 33))
            have IT_19 := Lib.hid (IT_18.out.al (.cells #[.slice a8 T.length q8, .int .i64 G2.length, .int .i64 G2.length] 33))
            have c_19 := bAl c_18 (.cells #[.slice a8 T.length q8, .int .i64 G2.length, .int .i64 G2.length] 33)
            have Y_19 := Y_18.al (.cells #[.slice a8 T.length q8, .int .i64 G2.length, .int .i64 G2.length] 33)
            have YI_19 := Lib.hid (YI_18.out.al (.cells #[.slice a8 T.length q8, .int .i64 G2.length, .int .i64 G2.length] 33))
            have GL_19 := Lib.hid (GL_18.out.al (.cells #[.slice a8 T.length q8, .int .i64 G2.length, .int .i64 G2.length] 33))
            clear X_18 XI_18 IT_18 c_18 Y_18 YI_18 GL_18
            have Z0 := Blk.new w7 #[.slice a8 T.length q8, .int .i64 G2.length, .int .i64 G2.length] 33
            have ZI := Lib.hid (o7.al (.cells #[.slice a8 T.length q8, .int .i64 G2.length, .int .i64 G2.length] 33)); clear o7
            clear Y_19
            clear YI_19
            have hgx7 := X_19.lt
            simp only [World.size_alloc] at hgx7
            obtain ⟨z0, z1, z2⟩ := Z0.get3
            obtain ⟨x0, x1, x2⟩ := X_19.get3
            obtain ⟨xf0, xf1, xf2⟩ := X_19.fr3
            go_wp2
            clear z0 z1 z2 x0 x1 x2 xf0 xf1 xf2
            clear Z0
            clear XI_19
            have X_20 := X_19.put3 (.slice a8 T.length q8) (.int .i64 G2.length) (.int .i64 G2.length)
            have IT_20 := Lib.hid (IT_19.out.gr (grown_put3 (w7.alloc (.cells #[.slice a8 T.length q8, .int .i64 G2.length, .int .i64 G2.length] 33)) gx (.slice a8 T.length q8) (.int .i64 G2.length) (.int .i64 G2.length)) (ap_ne (own_ne IT_19.out X_19 (by decide))))
            have c_20 := bP3 c_19 (g := gx) (by omega) (.slice a8 T.length q8) (.int .i64 G2.length) (.int .i64 G2.length)
            have GL_20 := Lib.hid (GL_19.out.gr (grown_put3 (w7.alloc (.cells #[.slice a8 T.length q8, .int .i64 G2.length, .int .i64 G2.length] 33)) gx (.slice a8 T.length q8) (.int .i64 G2.length) (.int .i64 G2.length)) (ap_ne (own_ne GL_19.out X_19 (by decide))))
            have ZI_20 := Lib.hid (ZI.out.gr (grown_put3 (w7.alloc (.cells #[.slice a8 T.length q8, .int .i64 G2.length, .int .i64 G2.length] 33)) gx (.slice a8 T.length q8) (.int .i64 G2.length) (.int .i64 G2.length)) (ap_ne (own_ne ZI.out X_19 (by decide))))
            clear X_19 IT_19 c_19 GL_19 ZI
            go_roundw
            case rel => exact ⟨j + 1, G2.length, a8, q8, by omega, by omega, hEl, by go_num, X_20, Lib.hid (ZI_20.out.base (by omega)), Lib.hid (by rw [← HG2.out]; exact GL_20.out.base (by omega)), IT_20, c_20⟩
            case measure => simp [intOf]; omega
          · obtain ⟨e1, e2, e3, e4, e5, e6⟩ := send_stop HI.out (Nat.le_refl q) hq (show M ≤ 20 by omega) hE (by omega)
            have hqe : q = T.length := by omega
            have HE := Lib.hid e1; have HE2 := Lib.hid e2; have HE3 := Lib.hid e3; have HE4 := Lib.hid e4; have HE5 := Lib.hid e5; have HE6 := Lib.hid e6
            clear e1 e2 e3 e4 e5 e6 hE
            have GT0 : Hid (OwnInts wr w.heap.size _ T) := Lib.hid (by have h := GT.out; rw [hqe, List.take_length] at h; exact h)
            clear GT
            obtain ⟨ag, qg, rfl, -, -, -⟩ := id GT0.out.reads
            subst hqe
            obtain ⟨x0, x1, x2⟩ := V.get3
            go_wp2_with fail
            clear x0 x1 x2
            refine (implTransferSend_any _ T.length T.length M T _ (by omega) VI.out.reads).mono ?_
            rw [HE.out, HE2.out, HE3.out, HE4.out, HE5.out, HE6.out]
            unfold trV chV
            rintro e w5 ⟨u5, v5, rfl, o5, p5, b5⟩
            obtain ⟨a5, q5, rfl, -, -, -⟩ := id o5.reads
            have hsb11 := b5.size; try simp only [World.size_alloc] at hsb11
            have X_12 := V.bl b5
            have XI_12 := Lib.hid (VI.out.bl b5)
            have GT_12 := Lib.hid (GT0.out.bl b5)
            have IT_12 := Lib.hid (IT.out.bl b5)
            have c_12 := bNext c0 b5
            clear V VI GT0 IT c0
            obtain ⟨a6, q6, rfl, -, -, -⟩ := id p5.reads
            have X_13 := X_12.al (.cells #[.slice a5 T.length q5, .int .i64 T.length, .int .i64 T.length] 33)
            have XI_13 := Lib.hid (XI_12.out.al (.cells #[.slice a5 T.length q5, .int .i64 T.length, .int .i64 T.length] 33))
            have GT_13 := Lib.hid (GT_12.out.al (.cells #[.slice a5 T.length q5, .int .i64 T.length, .int .i64 T.length] 33))
            have IT_13 := Lib.hid (IT_12.out.al (.cells #[.slice a5 T.length q5, .int .i64 T.length, .int .i64 T.length] 33))
            have c_13 := bAl c_12 (.cells #[.slice a5 T.length q5, .int .i64 T.length, .int .i64 T.length] 33)
            clear X_12 XI_12 GT_12 IT_12 c_12
            have X_14 := X_13.al (.cells #[.int .i64 0, .slice a6 ([] : List Int).length q6] 25)
            have XI_14 := Lib.hid (XI_13.out.al (.cells #[.int .i64 0, .slice a6 ([] : List Int).length q6] 25))
            have GT_14 := Lib.hid (GT_13.out.al (.cells #[.int .i64 0, .slice a6 ([] : List Int).length q6] 25))
            have IT_14 := Lib.hid (IT_13.out.al (.cells #[.int .i64 0, .slice a6 ([] : List Int).length q6] 25))
            have c_14 := bAl c_13 (.cells #[.int .i64 0, .slice a6 ([] : List Int).length q6] 25)
            clear X_13 XI_13 GT_13 IT_13 c_13
            go_wp2_with fail
            refine (same_ints _ _ T _ (by omega) GT_14.out.reads IT_14.out.reads).mono ?_
            rintro e w6 ⟨rfl, b6⟩
            have hsb15 := b6.size; try simp only [World.size_alloc] at hsb15
            have X_16 := X_14.bl b6
            have XI_16 := Lib.hid (XI_14.out.bl b6)
            have GT_16 := Lib.hid (GT_14.out.bl b6)
            have IT_16 := Lib.hid (IT_14.out.bl b6)
            have c_16 := bNext c_14 b6
            clear X_14 XI_14 GT_14 IT_14 c_14
            obtain ⟨x0, x1, x2⟩ := X_16.get3
            go_wp2
            go_ret
            exact ⟨rfl, c_16⟩
    · have hl2' : decide ((1048576 : Int) < L) = true := decide_eq_true (by omega)
      go_enter Try.func7, Try.ntmps7
      go_wp2
      go_ret
      exact ⟨rfl, Below.refl _ _⟩
  · have hl' : decide ((1048576 : Int) < zs.length) = true := decide_eq_true (by omega)
    go_enter Try.func7, Try.ntmps7
    go_wp2
    go_ret
    exact ⟨rfl, Below.refl _ _⟩
end Go.Proofs.Ytlfmgagokaekjaa
