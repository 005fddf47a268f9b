/- The walk of FnTransferCrash: the law returns true. -/
import Derived.Test.YtlfmgagokaekjaaSendI
import Derived.Test.YtlfmgagokaekjaaSteps
import Derived.Test.YtlfmgagokaekjaaTrAck
import Derived.Test.YtlfmgagokaekjaaTrNew
import Derived.Test.YtlfmgagokaekjaaDrawItems
import Derived.Test.YtlfmgagokaekjaaCopyOwn
import Derived.Test.YtlfmgagokaekjaaTrParts
import Derived.Deep.DeepCutAuto
namespace Go.Proofs.Ytlfmgagokaekjaa
open Go.RowKit
set_option linter.unusedVariables false
set_option linter.unusedSimpArgs false

theorem cnt_same (j L : Nat) (h : ¬ (j + L) % 3 = 0) : (j + 1 + 5 - 2 * (L % 3)) / 6 = (j + 5 - 2 * (L % 3)) / 6 := by
  have hL : L % 3 = 0 ∨ L % 3 = 1 ∨ L % 3 = 2 := by omega
  rcases hL with h1 | h1 | h1
  · have : j % 3 = 1 ∨ j % 3 = 2 := by omega
    rw [h1]; omega
  · have : j % 3 = 0 ∨ j % 3 = 1 := by omega
    rw [h1]; omega
  · have : j % 3 = 0 ∨ j % 3 = 2 := by omega
    rw [h1]; omega

theorem run_min2 {P : Program} (w : World) (ts : Array TypeId) (t : TypeId) (x y E : Int) (h : min x y = E) : (Builtin.min_ ts t #[.int .i64 x, .int .i64 y]).run P w = .ok (.int .i64 E) w := by
  have e : (if y < x then y else x) = E := by rw [← h]; split <;> omega
  have e' : (if x < y then x else y) = E := by rw [← h]; split <;> omega
  first | (rw [← e]; simp [Builtin.min_, Builtin.min2]; done) | (rw [← e']; simp [Builtin.min_, Builtin.min2]; done)

set_option maxRecDepth 100000 in
set_option maxHeartbeats 8000000 in
theorem transferCrash_walk (v : Value) (zs : List Int) (v2 : Value) (zs2 : List Int) (w : World) (hr : RBytes w v zs) (hr2 : RBytes w v2 zs2) :
    Calls Try.prog 8 #[v, v2] w fun e w' => e = .returned (.bool true) ∧ Below w.heap.size w w' := by
  obtain ⟨⟨a, cap, rfl, g1, g2, -⟩, -⟩ := id hr
  obtain ⟨⟨am, capm, rfl, g3, g4, -⟩, -⟩ := id hr2
  have HR := Lib.hid hr; clear hr hr2
  unfold maxLen at g4
  obtain ⟨L, hL⟩ : ∃ L, L = zs2.length := ⟨_, rfl⟩
  rw [← hL]; rw [← hL] at g3
  clear hL
  by_cases hl : zs.length ≤ 1048576
  · have hl' : decide ((1048576 : Int) < zs.length) = false := decide_eq_false (by omega)
    by_cases hl2 : L ≤ 1048576
    · have hl2' : decide ((1048576 : Int) < L) = false := decide_eq_false (by omega)
      go_enter Try.func8, Try.ntmps8
      go_wp2_with fail
      refine (drawTransferNew_any _ zs _ HR.out hl).mono ?_
      rintro e w1 ⟨u1, xs, rfl, o1, hxl, b1⟩
      obtain ⟨a1, q1, rfl, -, -, -⟩ := id o1.reads
      have c1 := b1
      have IT := Lib.hid o1; clear o1
      obtain ⟨T, hT⟩ : ∃ T, T = newL xs := ⟨_, rfl⟩
      have hTl : T.length ≤ 21 := by
        rw [hT, newL]; split
        · exact hxl
        · simp
      have HT := Lib.hid hT; clear hT
      go_wp2_with fail
      refine (implTransferNew_any _ xs _ (by omega) IT.out.reads).mono ?_
      rw [← HT.out]
      unfold trV
      rintro e w2 ⟨u2, rfl, o2, b2⟩
      obtain ⟨a2, q2, rfl, -, -, -⟩ := id o2.reads
      have hsb1 := b1.size
      have hsb1 := b2.size; try simp only [World.size_alloc] at hsb1
      have c_2 := bNext c1 b2
      have IT_2 := Lib.hid (IT.out.bl b2)
      clear c1 IT
      have c_3 := bAl c_2 (.cells #[.slice a2 T.length q2, .int .i64 0, .int .i64 0] 33)
      have IT_3 := Lib.hid (IT_2.out.al (.cells #[.slice a2 T.length q2, .int .i64 0, .int .i64 0] 33))
      clear c_2 IT_2
      have X0 := Blk.new w2 #[.slice a2 T.length q2, .int .i64 0, .int .i64 0] 33
      have XI0 := Lib.hid (o2.al (.cells #[.slice a2 T.length q2, .int .i64 0, .int .i64 0] 33)); clear o2
      go_wp2_with fail
      refine (specTransferNew_any _ xs _ _ (by omega) IT_3.out).mono ?_
      rw [← HT.out]
      unfold trV
      rintro e w3 ⟨u3, rfl, o3, b3⟩
      obtain ⟨a3, q3, rfl, -, -, -⟩ := id o3.reads
      have hsb4 := b3.size; try simp only [World.size_alloc] at hsb4
      have c_5 := bNext c_3 b3
      have IT_5 := Lib.hid (IT_3.out.bl b3)
      have X_5 := X0.bl b3
      have XI_5 := Lib.hid (XI0.out.bl b3)
      clear c_3 IT_3 X0 XI0
      have c_6 := bAl c_5 (.cells #[.slice a3 T.length q3, .int .i64 0, .int .i64 0] 33)
      have IT_6 := Lib.hid (IT_5.out.al (.cells #[.slice a3 T.length q3, .int .i64 0, .int .i64 0] 33))
      have X_6 := X_5.al (.cells #[.slice a3 T.length q3, .int .i64 0, .int .i64 0] 33)
      have XI_6 := Lib.hid (XI_5.out.al (.cells #[.slice a3 T.length q3, .int .i64 0, .int .i64 0] 33))
      clear c_5 IT_5 X_5 XI_5
      have Y0 := Blk.new w3 #[.slice a3 T.length q3, .int .i64 0, .int .i64 0] 33
      have YI0 := Lib.hid (o3.al (.cells #[.slice a3 T.length q3, .int .i64 0, .int .i64 0] 33)); clear o3
      obtain ⟨x0, x1, x2⟩ := X_6.get3
      obtain ⟨y0, y1, y2⟩ := Y0.get3
      cases hk : itemsB xs with
      | false =>
        have HK := Lib.hid hk; clear hk
        go_wp2_with fail
        clear x0 x1 x2 y0 y1 y2
        refine (sameTransfer_any _ _ 0 0 T _ (by omega) XI_6.out.reads YI0.out.reads).mono ?_
        rintro e w4 ⟨rfl, b4⟩
        have hsb7 := b4.size; try simp only [World.size_alloc] at hsb7
        have c_8 := bNext c_6 b4
        have IT_8 := Lib.hid (IT_6.out.bl b4)
        have X_8 := X_6.bl b4
        have XI_8 := Lib.hid (XI_6.out.bl b4)
        have Y_8 := Y0.bl b4
        have YI_8 := Lib.hid (YI0.out.bl b4)
        clear c_6 IT_6 X_6 XI_6 Y0 YI0
        obtain ⟨x0, x1, x2⟩ := X_8.get3
        obtain ⟨y0, y1, y2⟩ := Y_8.get3
        go_wp2_with fail
        clear x0 x1 x2 y0 y1 y2
        refine (sameTransfer_any _ _ 0 0 T _ (by omega) XI_8.out.reads YI_8.out.reads).mono ?_
        rintro e w5 ⟨rfl, b5⟩
        go_wp2
        go_ret
        exact ⟨rfl, bNext c_8 b5⟩
      | true =>
        obtain rfl : T = xs := by rw [HT.out, newL, hk]; rfl
        have HI := Lib.hid hk; clear HT
        have HK := Lib.hid hk; clear hk
        go_wp2_with fail
        clear x0 x1 x2 y0 y1 y2
        refine (sameTransfer_any _ _ 0 0 T _ (by omega) XI_6.out.reads YI0.out.reads).mono ?_
        rintro e w4 ⟨rfl, b4⟩
        have hsb7 := b4.size; try simp only [World.size_alloc] at hsb7
        have c_8 := bNext c_6 b4
        have IT_8 := Lib.hid (IT_6.out.bl b4)
        have X_8 := X_6.bl b4
        have XI_8 := Lib.hid (XI_6.out.bl b4)
        have Y_8 := Y0.bl b4
        have YI_8 := Lib.hid (YI0.out.bl b4)
        clear c_6 IT_6 X_6 XI_6 Y0 YI0
        clear Y_8
        clear YI_8
        have hl20 := (itemsB_all HI.out).2
        have hB4 := c_8.size
        have c_9 := bAl c_8 (.cells #[] 3)
        have IT_9 := Lib.hid (IT_8.out.al (.cells #[] 3))
        have X_9 := X_8.al (.cells #[] 3)
        have XI_9 := Lib.hid (XI_8.out.al (.cells #[] 3))
        clear c_8 IT_8 X_8 XI_8
        have G0 := own_empty w4
        obtain ⟨x0, x1, x2⟩ := X_9.get3
        have hsz4 := sAl w4 (.cells #[] 3)
        have c_10 := bAl c_9 (.cells #[.slice a2 T.length q2, .int .i64 0, .int .i64 0] 33)
        have IT_10 := Lib.hid (IT_9.out.al (.cells #[.slice a2 T.length q2, .int .i64 0, .int .i64 0] 33))
        have X_10 := X_9.al (.cells #[.slice a2 T.length q2, .int .i64 0, .int .i64 0] 33)
        have XI_10 := Lib.hid (XI_9.out.al (.cells #[.slice a2 T.length q2, .int .i64 0, .int .i64 0] 33))
        clear c_9 IT_9 X_9 XI_9
        have G1 := Lib.hid (G0.al (.cells #[.slice a2 T.length q2, .int .i64 0, .int .i64 0] 33)); clear G0
        have V0 := Blk.new (w4.alloc (.cells #[] 3)) #[.slice a2 T.length q2, .int .i64 0, .int .i64 0] 33
        simp only [World.size_alloc] at V0
        go_wp2
        clear x0 x1 x2
        clear X_10
        obtain ⟨gx, hgx⟩ : ∃ gx, gx = w4.heap.size + 1 := ⟨_, rfl⟩
        rw [← hgx] at V0 ⊢
        have hgxw : w.heap.size ≤ gx := by omega
        clear hgx
        go_loopw [10, 12, 13, 14, 15, 16, 17] (fun gv i _ _ _ _ _ wr => ∃ (j n k g : Nat) (ax : Option Addr) (qx : Nat), j ≤ 120 ∧ k ≤ n ∧ n ≤ g ∧ g ≤ T.length ∧ ((j + 5 - 2 * (L % 3)) / 6 ≤ k ∨ k = T.length) ∧ i = .int .i64 j ∧ Blk wr gx #[.slice ax T.length qx, .int .i64 n, .int .i64 k] 33 ∧ Hid (OwnInts wr w.heap.size (.slice ax T.length qx) T) ∧ Hid (OwnInts wr w.heap.size gv (T.take g)) ∧ Hid (OwnInts wr w.heap.size (.slice a1 T.length q1) T) ∧ Below w.heap.size w wr) (fun _ i _ _ _ _ _ _ => 121 - (intOf i).toNat)
        case atStart => exact ⟨0, 0, 0, 0, a2, q2, by omega, by omega, by omega, by omega, .inl (by omega), rfl, V0, Lib.hid (XI_10.out.base (by omega)), Lib.hid (by simpa using G1.out.base (B' := w.heap.size) (by omega)), Lib.hid (IT_10.out.base (by omega)), c_10⟩
        case round =>
          clear V0 G1 XI_10 IT_10 c_10
          obtain ⟨j, n, k, g, ax, qx, hj, hkn, hng, hg, hP, rfl, V, VI, GT, IT, c0⟩ := hrel
          have hsr := c0.size
          have hn : n ≤ T.length := by omega
          have hk : k ≤ T.length := by omega
          by_cases hj120 : j < 120
          · have hd : decide ((j : Int) < 120) = true := decide_eq_true (by omega)
            have hdn : decide (j < 120) = true := decide_eq_true hj120
            have ew1 : IntKind.i64.wrap ((j : Int) + (L : Int)) = (j : Int) + (L : Int) := IntWalk.i64_in _ (by omega)
            by_cases h3 : (j + L) % 3 = 0
            · have hq3 : (((j : Int) + (L : Int)) % 3 == 0) = true := by rw [beq_iff_eq]; omega
              have hq3t : (((j : Int) + (L : Int)).tmod 3 == 0) = true := by rw [Int.tmod_eq_emod_of_nonneg (by omega)]; exact hq3
              obtain ⟨e1, e2⟩ := res_step HI.out hkn hn
              have HR1 := Lib.hid e1; have HR2 := Lib.hid e2; clear e1 e2
              obtain ⟨x0, x1, x2⟩ := V.get3
              go_wp2_with fail
              clear x0 x1 x2
              refine (implTransferResume_any _ n k T _ (by omega) VI.out.reads).mono ?_
              rw [HR1.out, HR2.out]
              unfold trV
              rintro e w5 ⟨u5, rfl, o5, b5⟩
              obtain ⟨a5, q5, rfl, -, -, -⟩ := id o5.reads
              have hsb11 := b5.size; try simp only [World.size_alloc] at hsb11
              have X_12 := V.bl b5
              have XI_12 := Lib.hid (VI.out.bl b5)
              have GT_12 := Lib.hid (GT.out.bl b5)
              have IT_12 := Lib.hid (IT.out.bl b5)
              have c_12 := bNext c0 b5
              clear V VI GT IT c0
              have YI := Lib.hid o5; clear o5
              clear XI_12
              have hgx5 := X_12.lt
              obtain ⟨x0, x1, x2⟩ := X_12.get3
              obtain ⟨xf0, xf1, xf2⟩ := X_12.fr3
              go_upto_region 15 with fail
              clear x0 x1 x2 xf0 xf1 xf2
              have X_13 := X_12.put3 (.slice a5 T.length q5) (.int .i64 k) (.int .i64 k)
              have GT_13 := Lib.hid (GT_12.out.gr (grown_put3 w5 gx (.slice a5 T.length q5) (.int .i64 k) (.int .i64 k)) (ap_ne (own_ne GT_12.out X_12 (by decide))))
              have IT_13 := Lib.hid (IT_12.out.gr (grown_put3 w5 gx (.slice a5 T.length q5) (.int .i64 k) (.int .i64 k)) (ap_ne (own_ne IT_12.out X_12 (by decide))))
              have c_13 := bP3 c_12 (g := gx) (by omega) (.slice a5 T.length q5) (.int .i64 k) (.int .i64 k)
              have XI_13 := Lib.hid (YI.out.gr (grown_put3 w5 gx (.slice a5 T.length q5) (.int .i64 k) (.int .i64 k)) (ap_ne (own_ne YI.out X_12 (by decide))))
              clear X_12 GT_12 IT_12 c_12 YI
              obtain ⟨w5b, hw5b⟩ : ∃ w5b, w5b = put3 w5 gx (.slice a5 T.length q5) (.int .i64 k) (.int .i64 k) := ⟨_, rfl⟩
              rw [← hw5b] at X_13 GT_13 IT_13 c_13 XI_13
              have hszw5b : w5.heap.size ≤ w5b.heap.size := by rw [hw5b]; exact (grown_put3 _ _ _ _ _).size
              simp only [put3] at hw5b; rw [← hw5b]; clear hw5b; try simp only [World.size_alloc] at hszw5b
              have hmod : True := trivial
              have hgx0 := X_13.lt
              obtain ⟨E, hE⟩ : ∃ E, E = min (min T.length (k + 4)) (k + 4) := ⟨_, rfl⟩
              by_cases hlt : k < E
              · obtain ⟨e1, e2, e3, e4, e5, e6⟩ := send_go HI.out (by omega : k ≤ k) hk (show 4 ≤ 20 by omega) hE hlt
                have hEl : E ≤ T.length := by omega
                have hE4 : E ≤ k + 4 := by omega
                obtain ⟨p1, p2⟩ := put_step (g := g) HI.out (show k ≤ g by omega) hg hlt hEl hE4
                obtain ⟨G2, hG2⟩ : ∃ G2, G2 = T.take (max g E) := ⟨_, rfl⟩
                have hGl : G2.length = max g E := by rw [hG2]; simp; omega
                have hGl2 : G2.length ≤ 21 := by omega
                have hmn := fun w ts t => run_min2 (P := Try.prog) w ts t (G2.length : Int) (E : Int) (E : Int) (by omega)
                obtain ⟨Ch, hCh⟩ : ∃ Ch, Ch = (T.take E).drop k := ⟨_, rfl⟩
                have hChl : Ch.length ≤ 10 := by rw [hCh]; simp; omega
                rw [← hCh] at e5 p1 p2; rw [← hG2] at p1
                obtain ⟨k1, k2, k3, k4⟩ := ack_step (n := E) (k := k) (m := E) HI.out (by omega) hEl (by omega) (Nat.le_refl _)
                have HE := Lib.hid e1; have HE2 := Lib.hid e2; have HE3 := Lib.hid e3; have HE4 := Lib.hid e4; have HE5 := Lib.hid e5; have HE6 := Lib.hid e6; have HP1 := Lib.hid p1; have HP2 := Lib.hid p2; have HK1 := Lib.hid k1; have HK2 := Lib.hid k2; have HK3 := Lib.hid k3; have HK4 := Lib.hid k4; have HG2 := Lib.hid hG2; have HGL := Lib.hid hGl; have HEE := Lib.hid hE
                clear e1 e2 e3 e4 e5 e6 p1 p2 k1 k2 k3 k4 hG2 hCh hE hGl
                obtain ⟨gv, hgv⟩ : ∃ gv, gv = T.take g := ⟨_, rfl⟩
                rw [← hgv] at HP1 HP2
                have GT0 : Hid (OwnInts _ w.heap.size _ gv) := Lib.hid (by rw [hgv]; exact GT_13.out)
                have hgvl : gv.length ≤ 21 := by rw [hgv]; simp; omega
                clear hgv GT_13
                obtain ⟨ag, qg, rfl, -, -, -⟩ := id GT0.out.reads
                obtain ⟨x0, x1, x2⟩ := X_13.get3
                go_wp2_with fail
                clear x0 x1 x2
                refine (implTransferSend_any _ k k 4 T _ (by omega) XI_13.out.reads).mono ?_
                have h4 : ((4 : Nat) : Int) = 4 := rfl
                rw [h4] at HE HE2 HE3 HE4 HE5 HE6
                rw [HE.out, HE2.out, HE3.out, HE4.out, HE5.out, HE6.out]
                unfold trV chV
                rintro e w6 ⟨u6, v6, rfl, o6, p6, b6⟩
                obtain ⟨a6, q6, rfl, -, -, -⟩ := id o6.reads
                obtain ⟨a7, q7, rfl, -, -, -⟩ := id p6.reads
                have hsb14 := b6.size; try simp only [World.size_alloc] at hsb14
                have X_15 := X_13.bl b6
                have GT_15 := Lib.hid (GT0.out.bl b6)
                have IT_15 := Lib.hid (IT_13.out.bl b6)
                have c_15 := bNext c_13 b6
                have XI_15 := Lib.hid (XI_13.out.bl b6)
                clear X_13 GT0 IT_13 c_13 XI_13
                have X_16 := X_15.al (.cells #[.slice a6 T.length q6, .int .i64 E, .int .i64 k] 33)
                have GT_16 := Lib.hid (GT_15.out.al (.cells #[.slice a6 T.length q6, .int .i64 E, .int .i64 k] 33))
                have IT_16 := Lib.hid (IT_15.out.al (.cells #[.slice a6 T.length q6, .int .i64 E, .int .i64 k] 33))
                have c_16 := bAl c_15 (.cells #[.slice a6 T.length q6, .int .i64 E, .int .i64 k] 33)
                have XI_16 := Lib.hid (XI_15.out.al (.cells #[.slice a6 T.length q6, .int .i64 E, .int .i64 k] 33))
                clear X_15 GT_15 IT_15 c_15 XI_15
                have Y0 := Blk.new w6 #[.slice a6 T.length q6, .int .i64 E, .int .i64 k] 33
                have X_17 := X_16.al (.cells #[.int .i64 k, .slice a7 Ch.length q7] 25)
                have GT_17 := Lib.hid (GT_16.out.al (.cells #[.int .i64 k, .slice a7 Ch.length q7] 25))
                have IT_17 := Lib.hid (IT_16.out.al (.cells #[.int .i64 k, .slice a7 Ch.length q7] 25))
                have c_17 := bAl c_16 (.cells #[.int .i64 k, .slice a7 Ch.length q7] 25)
                have XI_17 := Lib.hid (XI_16.out.al (.cells #[.int .i64 k, .slice a7 Ch.length q7] 25))
                have Y_17 := Y0.al (.cells #[.int .i64 k, .slice a7 Ch.length q7] 25)
                clear X_16 GT_16 IT_16 c_16 XI_16 Y0
                have C0 := Blk.new (w6.alloc (.cells #[.slice a6 T.length q6, .int .i64 E, .int .i64 k] 33)) #[.int .i64 k, .slice a7 Ch.length q7] 25
                simp only [World.size_alloc] at C0
                have YI2 := Lib.hid ((o6.al (.cells #[.slice a6 T.length q6, .int .i64 E, .int .i64 k] 33)).al (.cells #[.int .i64 k, .slice a7 Ch.length q7] 25)); have CI := Lib.hid ((p6.al (.cells #[.slice a6 T.length q6, .int .i64 E, .int .i64 k] 33)).al (.cells #[.int .i64 k, .slice a7 Ch.length q7] 25)); clear o6 p6
                clear XI_17
                have hgx6 := X_17.lt
                obtain ⟨y0, y1, y2⟩ := Y_17.get3
                obtain ⟨x0, x1, x2⟩ := X_17.get3
                obtain ⟨xf0, xf1, xf2⟩ := X_17.fr3
                go_upto_region 17 with fail
                clear y0 y1 y2 x0 x1 x2 xf0 xf1 xf2
                clear Y_17
                have X_18 := X_17.put3 (.slice a6 T.length q6) (.int .i64 E) (.int .i64 k)
                have GT_18 := Lib.hid (GT_17.out.gr (grown_put3 ((w6.alloc (.cells #[.slice a6 T.length q6, .int .i64 E, .int .i64 k] 33)).alloc (.cells #[.int .i64 k, .slice a7 Ch.length q7] 25)) gx (.slice a6 T.length q6) (.int .i64 E) (.int .i64 k)) (ap_ne (own_ne GT_17.out X_17 (by decide))))
                have IT_18 := Lib.hid (IT_17.out.gr (grown_put3 ((w6.alloc (.cells #[.slice a6 T.length q6, .int .i64 E, .int .i64 k] 33)).alloc (.cells #[.int .i64 k, .slice a7 Ch.length q7] 25)) gx (.slice a6 T.length q6) (.int .i64 E) (.int .i64 k)) (ap_ne (own_ne IT_17.out X_17 (by decide))))
                have c_18 := bP3 c_17 (g := gx) (by omega) (.slice a6 T.length q6) (.int .i64 E) (.int .i64 k)
                have C_18 := C0.po3 gx (.slice a6 T.length q6) (.int .i64 E) (.int .i64 k) (by omega)
                have XI_18 := Lib.hid (YI2.out.gr (grown_put3 ((w6.alloc (.cells #[.slice a6 T.length q6, .int .i64 E, .int .i64 k] 33)).alloc (.cells #[.int .i64 k, .slice a7 Ch.length q7] 25)) gx (.slice a6 T.length q6) (.int .i64 E) (.int .i64 k)) (ap_ne (own_ne YI2.out X_17 (by decide))))
                have CI_18 := Lib.hid (CI.out.gr (grown_put3 ((w6.alloc (.cells #[.slice a6 T.length q6, .int .i64 E, .int .i64 k] 33)).alloc (.cells #[.int .i64 k, .slice a7 Ch.length q7] 25)) gx (.slice a6 T.length q6) (.int .i64 E) (.int .i64 k)) (ap_ne (own_ne CI.out X_17 (by decide))))
                clear X_17 GT_17 IT_17 c_17 C0 YI2 CI
                obtain ⟨w6b, hw6b⟩ : ∃ w6b, w6b = put3 ((w6.alloc (.cells #[.slice a6 T.length q6, .int .i64 E, .int .i64 k] 33)).alloc (.cells #[.int .i64 k, .slice a7 Ch.length q7] 25)) gx (.slice a6 T.length q6) (.int .i64 E) (.int .i64 k) := ⟨_, rfl⟩
                rw [← hw6b] at X_18 GT_18 IT_18 c_18 C_18 XI_18 CI_18
                have hszw6b : ((w6.alloc (.cells #[.slice a6 T.length q6, .int .i64 E, .int .i64 k] 33)).alloc (.cells #[.int .i64 k, .slice a7 Ch.length q7] 25)).heap.size ≤ w6b.heap.size := by rw [hw6b]; exact (grown_put3 _ _ _ _ _).size
                simp only [put3] at hw6b; rw [← hw6b]; clear hw6b; try simp only [World.size_alloc] at hszw6b
                obtain ⟨x0, x1⟩ := C_18.get2
                go_wp2_with fail
                clear x0 x1
                refine (implChunkPut_any _ gv _ k Ch _ (by omega) (by omega) GT_18.out.reads CI_18.out.reads).mono ?_
                rw [HP1.out, HP2.out]
                rintro e w7 ⟨v7, rfl, o7, b7⟩
                obtain ⟨a8, q8, rfl, -, -, -⟩ := id o7.reads
                have hsb19 := b7.size; try simp only [World.size_alloc] at hsb19
                have X_20 := X_18.bl b7
                have GT_20 := Lib.hid (GT_18.out.bl b7)
                have IT_20 := Lib.hid (IT_18.out.bl b7)
                have c_20 := bNext c_18 b7
                have C_20 := C_18.bl b7
                have XI_20 := Lib.hid (XI_18.out.bl b7)
                have CI_20 := Lib.hid (CI_18.out.bl b7)
                clear X_18 GT_18 IT_18 c_18 C_18 XI_18 CI_18
                have L7 := Lib.hid (o7.base (B' := w.heap.size) (by omega)); clear o7
                clear C_20
                clear CI_20
                clear GT_20
                by_cases h2 : j % 2 = 0
                · have hq2 : ((j : Int) % 2 == 0) = true := by rw [beq_iff_eq]; omega
                  have hq2t : ((j : Int).tmod 2 == 0) = true := by rw [Int.tmod_eq_emod_of_nonneg (by omega)]; exact hq2
                  obtain ⟨x0, x1, x2⟩ := X_20.get3
                  go_wp2_with fail
                  clear x0 x1 x2
                  refine (implTransferAck_any _ E k E T _ (by omega) XI_20.out.reads).mono ?_
                  rw [HK1.out, HK2.out, HK3.out, HK4.out]
                  unfold trV
                  rintro e w8 ⟨u8, rfl, o8, b8⟩
                  obtain ⟨a9, q9, rfl, -, -, -⟩ := id o8.reads
                  have hsb21 := b8.size; try simp only [World.size_alloc] at hsb21
                  have X_22 := X_20.bl b8
                  have IT_22 := Lib.hid (IT_20.out.bl b8)
                  have c_22 := bNext c_20 b8
                  have XI_22 := Lib.hid (XI_20.out.bl b8)
                  have GL_22 := Lib.hid (L7.out.bl b8)
                  clear X_20 IT_20 c_20 XI_20 L7
                  have ZI := Lib.hid (o8.base (B' := w.heap.size) (by omega)); clear o8
                  clear XI_22
                  obtain ⟨x0, x1, x2⟩ := X_22.get3
                  obtain ⟨xf0, xf1, xf2⟩ := X_22.fr3
                  go_wp2
                  clear x0 x1 x2 xf0 xf1 xf2
                  have X_23 := X_22.put3 (.slice a9 T.length q9) (.int .i64 E) (.int .i64 E)
                  have IT_23 := Lib.hid (IT_22.out.gr (grown_put3 w8 gx (.slice a9 T.length q9) (.int .i64 E) (.int .i64 E)) (ap_ne (own_ne IT_22.out X_22 (by decide))))
                  have c_23 := bP3 c_22 (g := gx) (by omega) (.slice a9 T.length q9) (.int .i64 E) (.int .i64 E)
                  have GL_23 := Lib.hid (GL_22.out.gr (grown_put3 w8 gx (.slice a9 T.length q9) (.int .i64 E) (.int .i64 E)) (ap_ne (own_ne GL_22.out X_22 (by decide))))
                  have XI_23 := Lib.hid (ZI.out.gr (grown_put3 w8 gx (.slice a9 T.length q9) (.int .i64 E) (.int .i64 E)) (ap_ne (own_ne ZI.out X_22 (by decide))))
                  clear X_22 IT_22 c_22 GL_22 ZI
                  go_roundw
                  case rel => exact ⟨j + 1, E, E, max g E, a9, q9, by omega, Nat.le_refl _, by omega, by omega, .inl (by have := HEE.out; omega), by go_num, X_23, XI_23, Lib.hid (by rw [← HG2.out]; exact GL_23.out), IT_23, c_23⟩
                  case measure => simp [intOf]; omega
                · have hq2 : ((j : Int) % 2 == 0) = false := by rw [beq_eq_false_iff_ne]; omega
                  have hq2t : ((j : Int).tmod 2 == 0) = false := by rw [Int.tmod_eq_emod_of_nonneg (by omega)]; exact hq2
                  go_wp2
                  go_roundw
                  case rel => exact ⟨j + 1, E, k, max g E, a6, q6, by omega, by omega, by omega, by omega, (hP.elim (fun h => .inl (by omega)) .inr), by go_num, X_20, Lib.hid (XI_20.out.base (by omega)), Lib.hid (by rw [← HG2.out]; exact L7.out), IT_20, c_20⟩
                  case measure => simp [intOf]; omega
              · obtain ⟨e1, e2, e3, e4, e5, e6⟩ := send_stop HI.out (by omega : k ≤ k) hk (show 4 ≤ 20 by omega) hE (by omega)
                have HE := Lib.hid e1; have HE2 := Lib.hid e2; have HE3 := Lib.hid e3; have HE4 := Lib.hid e4; have HE5 := Lib.hid e5; have HE6 := Lib.hid e6; have HEE := Lib.hid hE
                clear e1 e2 e3 e4 e5 e6 hE
                obtain ⟨r1, r2⟩ := res_step HI.out (by omega : k ≤ k) hk
                have HR3 := Lib.hid r1; have HR4 := Lib.hid r2; clear r1 r2
                obtain ⟨x0, x1, x2⟩ := X_13.get3
                go_wp2_with fail
                clear x0 x1 x2
                refine (implTransferSend_any _ k k 4 T _ (by omega) XI_13.out.reads).mono ?_
                have h4 : ((4 : Nat) : Int) = 4 := rfl
                rw [h4] at HE HE2 HE3 HE4 HE5 HE6
                rw [HE.out, HE2.out, HE3.out, HE4.out, HE5.out, HE6.out]
                unfold trV chV
                rintro e w6 ⟨u6, v6, rfl, o6, p6, b6⟩
                obtain ⟨a6, q6, rfl, -, -, -⟩ := id o6.reads
                obtain ⟨a7, q7, rfl, -, -, -⟩ := id p6.reads
                have hsb14 := b6.size; try simp only [World.size_alloc] at hsb14
                have X_15 := X_13.bl b6
                have GT_15 := Lib.hid (GT_13.out.bl b6)
                have IT_15 := Lib.hid (IT_13.out.bl b6)
                have c_15 := bNext c_13 b6
                have XI_15 := Lib.hid (XI_13.out.bl b6)
                clear X_13 GT_13 IT_13 c_13 XI_13
                have X_16 := X_15.al (.cells #[.slice a6 T.length q6, .int .i64 k, .int .i64 k] 33)
                have GT_16 := Lib.hid (GT_15.out.al (.cells #[.slice a6 T.length q6, .int .i64 k, .int .i64 k] 33))
                have IT_16 := Lib.hid (IT_15.out.al (.cells #[.slice a6 T.length q6, .int .i64 k, .int .i64 k] 33))
                have c_16 := bAl c_15 (.cells #[.slice a6 T.length q6, .int .i64 k, .int .i64 k] 33)
                have XI_16 := Lib.hid (XI_15.out.al (.cells #[.slice a6 T.length q6, .int .i64 k, .int .i64 k] 33))
                clear X_15 GT_15 IT_15 c_15 XI_15
                have Y0 := Blk.new w6 #[.slice a6 T.length q6, .int .i64 k, .int .i64 k] 33
                have X_17 := X_16.al (.cells #[.int .i64 0, .slice a7 0 q7] 25)
                have GT_17 := Lib.hid (GT_16.out.al (.cells #[.int .i64 0, .slice a7 0 q7] 25))
                have IT_17 := Lib.hid (IT_16.out.al (.cells #[.int .i64 0, .slice a7 0 q7] 25))
                have c_17 := bAl c_16 (.cells #[.int .i64 0, .slice a7 0 q7] 25)
                have XI_17 := Lib.hid (XI_16.out.al (.cells #[.int .i64 0, .slice a7 0 q7] 25))
                have Y_17 := Y0.al (.cells #[.int .i64 0, .slice a7 0 q7] 25)
                clear X_16 GT_16 IT_16 c_16 XI_16 Y0
                have YI2 := Lib.hid ((o6.al (.cells #[.slice a6 T.length q6, .int .i64 k, .int .i64 k] 33)).al (.cells #[.int .i64 0, .slice a7 0 q7] 25)); clear o6 p6
                clear XI_17
                have hgx6 := X_17.lt
                obtain ⟨y0, y1, y2⟩ := Y_17.get3
                obtain ⟨x0, x1, x2⟩ := X_17.get3
                obtain ⟨xf0, xf1, xf2⟩ := X_17.fr3
                go_upto_region 17 with fail
                clear y0 y1 y2 x0 x1 x2 xf0 xf1 xf2
                clear Y_17
                have X_18 := X_17.put3 (.slice a6 T.length q6) (.int .i64 k) (.int .i64 k)
                have GT_18 := Lib.hid (GT_17.out.gr (grown_put3 ((w6.alloc (.cells #[.slice a6 T.length q6, .int .i64 k, .int .i64 k] 33)).alloc (.cells #[.int .i64 0, .slice a7 0 q7] 25)) gx (.slice a6 T.length q6) (.int .i64 k) (.int .i64 k)) (ap_ne (own_ne GT_17.out X_17 (by decide))))
                have IT_18 := Lib.hid (IT_17.out.gr (grown_put3 ((w6.alloc (.cells #[.slice a6 T.length q6, .int .i64 k, .int .i64 k] 33)).alloc (.cells #[.int .i64 0, .slice a7 0 q7] 25)) gx (.slice a6 T.length q6) (.int .i64 k) (.int .i64 k)) (ap_ne (own_ne IT_17.out X_17 (by decide))))
                have c_18 := bP3 c_17 (g := gx) (by omega) (.slice a6 T.length q6) (.int .i64 k) (.int .i64 k)
                have XI_18 := Lib.hid (YI2.out.gr (grown_put3 ((w6.alloc (.cells #[.slice a6 T.length q6, .int .i64 k, .int .i64 k] 33)).alloc (.cells #[.int .i64 0, .slice a7 0 q7] 25)) gx (.slice a6 T.length q6) (.int .i64 k) (.int .i64 k)) (ap_ne (own_ne YI2.out X_17 (by decide))))
                clear X_17 GT_17 IT_17 c_17 YI2
                obtain ⟨w6b, hw6b⟩ : ∃ w6b, w6b = put3 ((w6.alloc (.cells #[.slice a6 T.length q6, .int .i64 k, .int .i64 k] 33)).alloc (.cells #[.int .i64 0, .slice a7 0 q7] 25)) gx (.slice a6 T.length q6) (.int .i64 k) (.int .i64 k) := ⟨_, rfl⟩
                rw [← hw6b] at X_18 GT_18 IT_18 c_18 XI_18
                have hszw6b : ((w6.alloc (.cells #[.slice a6 T.length q6, .int .i64 k, .int .i64 k] 33)).alloc (.cells #[.int .i64 0, .slice a7 0 q7] 25)).heap.size ≤ w6b.heap.size := by rw [hw6b]; exact (grown_put3 _ _ _ _ _).size
                simp only [put3] at hw6b; rw [← hw6b]; clear hw6b; try simp only [World.size_alloc] at hszw6b
                obtain ⟨x0, x1, x2⟩ := X_18.get3
                go_wp2_with fail
                clear x0 x1 x2
                refine (implTransferResume_any _ k k T _ (by omega) XI_18.out.reads).mono ?_
                rw [HR3.out, HR4.out]
                unfold trV
                rintro e w8 ⟨u8, rfl, o8, b8⟩
                obtain ⟨a9, q9, rfl, -, -, -⟩ := id o8.reads
                have hsb19 := b8.size; try simp only [World.size_alloc] at hsb19
                have X_20 := X_18.bl b8
                have GT_20 := Lib.hid (GT_18.out.bl b8)
                have IT_20 := Lib.hid (IT_18.out.bl b8)
                have c_20 := bNext c_18 b8
                have XI_20 := Lib.hid (XI_18.out.bl b8)
                clear X_18 GT_18 IT_18 c_18 XI_18
                have ZI := Lib.hid (o8.base (B' := w.heap.size) (by omega)); clear o8
                clear XI_20
                obtain ⟨x0, x1, x2⟩ := X_20.get3
                obtain ⟨xf0, xf1, xf2⟩ := X_20.fr3
                go_wp2
                clear x0 x1 x2 xf0 xf1 xf2
                have X_21 := X_20.put3 (.slice a9 T.length q9) (.int .i64 k) (.int .i64 k)
                have GT_21 := Lib.hid (GT_20.out.gr (grown_put3 w8 gx (.slice a9 T.length q9) (.int .i64 k) (.int .i64 k)) (ap_ne (own_ne GT_20.out X_20 (by decide))))
                have IT_21 := Lib.hid (IT_20.out.gr (grown_put3 w8 gx (.slice a9 T.length q9) (.int .i64 k) (.int .i64 k)) (ap_ne (own_ne IT_20.out X_20 (by decide))))
                have c_21 := bP3 c_20 (g := gx) (by omega) (.slice a9 T.length q9) (.int .i64 k) (.int .i64 k)
                have XI_21 := Lib.hid (ZI.out.gr (grown_put3 w8 gx (.slice a9 T.length q9) (.int .i64 k) (.int .i64 k)) (ap_ne (own_ne ZI.out X_20 (by decide))))
                clear X_20 GT_20 IT_20 c_20 ZI
                go_roundw
                case rel => exact ⟨j + 1, k, k, g, a9, q9, by omega, Nat.le_refl _, by omega, hg, .inr (by have := HEE.out; omega), by go_num, X_21, XI_21, GT_21, IT_21, c_21⟩
                case measure => simp [intOf]; omega
            · have hq3 : (((j : Int) + (L : Int)) % 3 == 0) = false := by rw [beq_eq_false_iff_ne]; omega
              have hq3t : (((j : Int) + (L : Int)).tmod 3 == 0) = false := by rw [Int.tmod_eq_emod_of_nonneg (by omega)]; exact hq3
              have hmod : True := trivial
              go_upto_region 15 with fail
              have hgx0 := V.lt
              obtain ⟨E, hE⟩ : ∃ E, E = min (min T.length (n + 4)) (k + 4) := ⟨_, rfl⟩
              by_cases hlt : n < E
              · obtain ⟨e1, e2, e3, e4, e5, e6⟩ := send_go HI.out hkn hn (show 4 ≤ 20 by omega) hE hlt
                have hEl : E ≤ T.length := by omega
                have hE4 : E ≤ n + 4 := by omega
                obtain ⟨p1, p2⟩ := put_step (g := g) HI.out (show n ≤ g by omega) hg hlt hEl hE4
                obtain ⟨G2, hG2⟩ : ∃ G2, G2 = T.take (max g E) := ⟨_, rfl⟩
                have hGl : G2.length = max g E := by rw [hG2]; simp; omega
                have hGl2 : G2.length ≤ 21 := by omega
                have hmn := fun w ts t => run_min2 (P := Try.prog) w ts t (G2.length : Int) (E : Int) (E : Int) (by omega)
                obtain ⟨Ch, hCh⟩ : ∃ Ch, Ch = (T.take E).drop n := ⟨_, rfl⟩
                have hChl : Ch.length ≤ 10 := by rw [hCh]; simp; omega
                rw [← hCh] at e5 p1 p2; rw [← hG2] at p1
                obtain ⟨k1, k2, k3, k4⟩ := ack_step (n := E) (k := k) (m := E) HI.out (by omega) hEl (by omega) (Nat.le_refl _)
                have HE := Lib.hid e1; have HE2 := Lib.hid e2; have HE3 := Lib.hid e3; have HE4 := Lib.hid e4; have HE5 := Lib.hid e5; have HE6 := Lib.hid e6; have HP1 := Lib.hid p1; have HP2 := Lib.hid p2; have HK1 := Lib.hid k1; have HK2 := Lib.hid k2; have HK3 := Lib.hid k3; have HK4 := Lib.hid k4; have HG2 := Lib.hid hG2; have HGL := Lib.hid hGl; have HEE := Lib.hid hE
                clear e1 e2 e3 e4 e5 e6 p1 p2 k1 k2 k3 k4 hG2 hCh hE hGl
                obtain ⟨gv, hgv⟩ : ∃ gv, gv = T.take g := ⟨_, rfl⟩
                rw [← hgv] at HP1 HP2
                have GT0 : Hid (OwnInts _ w.heap.size _ gv) := Lib.hid (by rw [hgv]; exact GT.out)
                have hgvl : gv.length ≤ 21 := by rw [hgv]; simp; omega
                clear hgv GT
                obtain ⟨ag, qg, rfl, -, -, -⟩ := id GT0.out.reads
                obtain ⟨x0, x1, x2⟩ := V.get3
                go_wp2_with fail
                clear x0 x1 x2
                refine (implTransferSend_any _ n k 4 T _ (by omega) VI.out.reads).mono ?_
                have h4 : ((4 : Nat) : Int) = 4 := rfl
                rw [h4] at HE HE2 HE3 HE4 HE5 HE6
                rw [HE.out, HE2.out, HE3.out, HE4.out, HE5.out, HE6.out]
                unfold trV chV
                rintro e w6 ⟨u6, v6, rfl, o6, p6, b6⟩
                obtain ⟨a6, q6, rfl, -, -, -⟩ := id o6.reads
                obtain ⟨a7, q7, rfl, -, -, -⟩ := id p6.reads
                have hsb11 := b6.size; try simp only [World.size_alloc] at hsb11
                have X_12 := V.bl b6
                have XI_12 := Lib.hid (VI.out.bl b6)
                have GT_12 := Lib.hid (GT0.out.bl b6)
                have IT_12 := Lib.hid (IT.out.bl b6)
                have c_12 := bNext c0 b6
                clear V VI GT0 IT c0
                have X_13 := X_12.al (.cells #[.slice a6 T.length q6, .int .i64 E, .int .i64 k] 33)
                have XI_13 := Lib.hid (XI_12.out.al (.cells #[.slice a6 T.length q6, .int .i64 E, .int .i64 k] 33))
                have GT_13 := Lib.hid (GT_12.out.al (.cells #[.slice a6 T.length q6, .int .i64 E, .int .i64 k] 33))
                have IT_13 := Lib.hid (IT_12.out.al (.cells #[.slice a6 T.length q6, .int .i64 E, .int .i64 k] 33))
                have c_13 := bAl c_12 (.cells #[.slice a6 T.length q6, .int .i64 E, .int .i64 k] 33)
                clear X_12 XI_12 GT_12 IT_12 c_12
                have Y0 := Blk.new w6 #[.slice a6 T.length q6, .int .i64 E, .int .i64 k] 33
                have X_14 := X_13.al (.cells #[.int .i64 n, .slice a7 Ch.length q7] 25)
                have XI_14 := Lib.hid (XI_13.out.al (.cells #[.int .i64 n, .slice a7 Ch.length q7] 25))
                have GT_14 := Lib.hid (GT_13.out.al (.cells #[.int .i64 n, .slice a7 Ch.length q7] 25))
                have IT_14 := Lib.hid (IT_13.out.al (.cells #[.int .i64 n, .slice a7 Ch.length q7] 25))
                have c_14 := bAl c_13 (.cells #[.int .i64 n, .slice a7 Ch.length q7] 25)
                have Y_14 := Y0.al (.cells #[.int .i64 n, .slice a7 Ch.length q7] 25)
                clear X_13 XI_13 GT_13 IT_13 c_13 Y0
                have C0 := Blk.new (w6.alloc (.cells #[.slice a6 T.length q6, .int .i64 E, .int .i64 k] 33)) #[.int .i64 n, .slice a7 Ch.length q7] 25
                simp only [World.size_alloc] at C0
                have YI2 := Lib.hid ((o6.al (.cells #[.slice a6 T.length q6, .int .i64 E, .int .i64 k] 33)).al (.cells #[.int .i64 n, .slice a7 Ch.length q7] 25)); have CI := Lib.hid ((p6.al (.cells #[.slice a6 T.length q6, .int .i64 E, .int .i64 k] 33)).al (.cells #[.int .i64 n, .slice a7 Ch.length q7] 25)); clear o6 p6
                clear XI_14
                have hgx6 := X_14.lt
                obtain ⟨y0, y1, y2⟩ := Y_14.get3
                obtain ⟨x0, x1, x2⟩ := X_14.get3
                obtain ⟨xf0, xf1, xf2⟩ := X_14.fr3
                go_upto_region 17 with fail
                clear y0 y1 y2 x0 x1 x2 xf0 xf1 xf2
                clear Y_14
                have X_15 := X_14.put3 (.slice a6 T.length q6) (.int .i64 E) (.int .i64 k)
                have GT_15 := Lib.hid (GT_14.out.gr (grown_put3 ((w6.alloc (.cells #[.slice a6 T.length q6, .int .i64 E, .int .i64 k] 33)).alloc (.cells #[.int .i64 n, .slice a7 Ch.length q7] 25)) gx (.slice a6 T.length q6) (.int .i64 E) (.int .i64 k)) (ap_ne (own_ne GT_14.out X_14 (by decide))))
                have IT_15 := Lib.hid (IT_14.out.gr (grown_put3 ((w6.alloc (.cells #[.slice a6 T.length q6, .int .i64 E, .int .i64 k] 33)).alloc (.cells #[.int .i64 n, .slice a7 Ch.length q7] 25)) gx (.slice a6 T.length q6) (.int .i64 E) (.int .i64 k)) (ap_ne (own_ne IT_14.out X_14 (by decide))))
                have c_15 := bP3 c_14 (g := gx) (by omega) (.slice a6 T.length q6) (.int .i64 E) (.int .i64 k)
                have C_15 := C0.po3 gx (.slice a6 T.length q6) (.int .i64 E) (.int .i64 k) (by omega)
                have XI_15 := Lib.hid (YI2.out.gr (grown_put3 ((w6.alloc (.cells #[.slice a6 T.length q6, .int .i64 E, .int .i64 k] 33)).alloc (.cells #[.int .i64 n, .slice a7 Ch.length q7] 25)) gx (.slice a6 T.length q6) (.int .i64 E) (.int .i64 k)) (ap_ne (own_ne YI2.out X_14 (by decide))))
                have CI_15 := Lib.hid (CI.out.gr (grown_put3 ((w6.alloc (.cells #[.slice a6 T.length q6, .int .i64 E, .int .i64 k] 33)).alloc (.cells #[.int .i64 n, .slice a7 Ch.length q7] 25)) gx (.slice a6 T.length q6) (.int .i64 E) (.int .i64 k)) (ap_ne (own_ne CI.out X_14 (by decide))))
                clear X_14 GT_14 IT_14 c_14 C0 YI2 CI
                obtain ⟨w6b, hw6b⟩ : ∃ w6b, w6b = put3 ((w6.alloc (.cells #[.slice a6 T.length q6, .int .i64 E, .int .i64 k] 33)).alloc (.cells #[.int .i64 n, .slice a7 Ch.length q7] 25)) gx (.slice a6 T.length q6) (.int .i64 E) (.int .i64 k) := ⟨_, rfl⟩
                rw [← hw6b] at X_15 GT_15 IT_15 c_15 C_15 XI_15 CI_15
                have hszw6b : ((w6.alloc (.cells #[.slice a6 T.length q6, .int .i64 E, .int .i64 k] 33)).alloc (.cells #[.int .i64 n, .slice a7 Ch.length q7] 25)).heap.size ≤ w6b.heap.size := by rw [hw6b]; exact (grown_put3 _ _ _ _ _).size
                simp only [put3] at hw6b; rw [← hw6b]; clear hw6b; try simp only [World.size_alloc] at hszw6b
                obtain ⟨x0, x1⟩ := C_15.get2
                go_wp2_with fail
                clear x0 x1
                refine (implChunkPut_any _ gv _ n Ch _ (by omega) (by omega) GT_15.out.reads CI_15.out.reads).mono ?_
                rw [HP1.out, HP2.out]
                rintro e w7 ⟨v7, rfl, o7, b7⟩
                obtain ⟨a8, q8, rfl, -, -, -⟩ := id o7.reads
                have hsb16 := b7.size; try simp only [World.size_alloc] at hsb16
                have X_17 := X_15.bl b7
                have GT_17 := Lib.hid (GT_15.out.bl b7)
                have IT_17 := Lib.hid (IT_15.out.bl b7)
                have c_17 := bNext c_15 b7
                have C_17 := C_15.bl b7
                have XI_17 := Lib.hid (XI_15.out.bl b7)
                have CI_17 := Lib.hid (CI_15.out.bl b7)
                clear X_15 GT_15 IT_15 c_15 C_15 XI_15 CI_15
                have L7 := Lib.hid (o7.base (B' := w.heap.size) (by omega)); clear o7
                clear C_17
                clear CI_17
                clear GT_17
                by_cases h2 : j % 2 = 0
                · have hq2 : ((j : Int) % 2 == 0) = true := by rw [beq_iff_eq]; omega
                  have hq2t : ((j : Int).tmod 2 == 0) = true := by rw [Int.tmod_eq_emod_of_nonneg (by omega)]; exact hq2
                  obtain ⟨x0, x1, x2⟩ := X_17.get3
                  go_wp2_with fail
                  clear x0 x1 x2
                  refine (implTransferAck_any _ E k E T _ (by omega) XI_17.out.reads).mono ?_
                  rw [HK1.out, HK2.out, HK3.out, HK4.out]
                  unfold trV
                  rintro e w8 ⟨u8, rfl, o8, b8⟩
                  obtain ⟨a9, q9, rfl, -, -, -⟩ := id o8.reads
                  have hsb18 := b8.size; try simp only [World.size_alloc] at hsb18
                  have X_19 := X_17.bl b8
                  have IT_19 := Lib.hid (IT_17.out.bl b8)
                  have c_19 := bNext c_17 b8
                  have XI_19 := Lib.hid (XI_17.out.bl b8)
                  have GL_19 := Lib.hid (L7.out.bl b8)
                  clear X_17 IT_17 c_17 XI_17 L7
                  have ZI := Lib.hid (o8.base (B' := w.heap.size) (by omega)); clear o8
                  clear XI_19
                  obtain ⟨x0, x1, x2⟩ := X_19.get3
                  obtain ⟨xf0, xf1, xf2⟩ := X_19.fr3
                  go_wp2
                  clear x0 x1 x2 xf0 xf1 xf2
                  have X_20 := X_19.put3 (.slice a9 T.length q9) (.int .i64 E) (.int .i64 E)
                  have IT_20 := Lib.hid (IT_19.out.gr (grown_put3 w8 gx (.slice a9 T.length q9) (.int .i64 E) (.int .i64 E)) (ap_ne (own_ne IT_19.out X_19 (by decide))))
                  have c_20 := bP3 c_19 (g := gx) (by omega) (.slice a9 T.length q9) (.int .i64 E) (.int .i64 E)
                  have GL_20 := Lib.hid (GL_19.out.gr (grown_put3 w8 gx (.slice a9 T.length q9) (.int .i64 E) (.int .i64 E)) (ap_ne (own_ne GL_19.out X_19 (by decide))))
                  have XI_20 := Lib.hid (ZI.out.gr (grown_put3 w8 gx (.slice a9 T.length q9) (.int .i64 E) (.int .i64 E)) (ap_ne (own_ne ZI.out X_19 (by decide))))
                  clear X_19 IT_19 c_19 GL_19 ZI
                  go_roundw
                  case rel => exact ⟨j + 1, E, E, max g E, a9, q9, by omega, Nat.le_refl _, by omega, by omega, .inl (by have := HEE.out; omega), by go_num, X_20, XI_20, Lib.hid (by rw [← HG2.out]; exact GL_20.out), IT_20, c_20⟩
                  case measure => simp [intOf]; omega
                · have hq2 : ((j : Int) % 2 == 0) = false := by rw [beq_eq_false_iff_ne]; omega
                  have hq2t : ((j : Int).tmod 2 == 0) = false := by rw [Int.tmod_eq_emod_of_nonneg (by omega)]; exact hq2
                  go_wp2
                  go_roundw
                  case rel => exact ⟨j + 1, E, k, max g E, a6, q6, by omega, by omega, by omega, by omega, (hP.elim (fun h => .inl (by omega)) .inr), by go_num, X_17, Lib.hid (XI_17.out.base (by omega)), Lib.hid (by rw [← HG2.out]; exact L7.out), IT_17, c_17⟩
                  case measure => simp [intOf]; omega
              · obtain ⟨e1, e2, e3, e4, e5, e6⟩ := send_stop HI.out hkn hn (show 4 ≤ 20 by omega) hE (by omega)
                have HE := Lib.hid e1; have HE2 := Lib.hid e2; have HE3 := Lib.hid e3; have HE4 := Lib.hid e4; have HE5 := Lib.hid e5; have HE6 := Lib.hid e6; have HEE := Lib.hid hE
                clear e1 e2 e3 e4 e5 e6 hE
                obtain ⟨r1, r2⟩ := res_step HI.out hkn hn
                have HR3 := Lib.hid r1; have HR4 := Lib.hid r2; clear r1 r2
                obtain ⟨x0, x1, x2⟩ := V.get3
                go_wp2_with fail
                clear x0 x1 x2
                refine (implTransferSend_any _ n k 4 T _ (by omega) VI.out.reads).mono ?_
                have h4 : ((4 : Nat) : Int) = 4 := rfl
                rw [h4] at HE HE2 HE3 HE4 HE5 HE6
                rw [HE.out, HE2.out, HE3.out, HE4.out, HE5.out, HE6.out]
                unfold trV chV
                rintro e w6 ⟨u6, v6, rfl, o6, p6, b6⟩
                obtain ⟨a6, q6, rfl, -, -, -⟩ := id o6.reads
                obtain ⟨a7, q7, rfl, -, -, -⟩ := id p6.reads
                have hsb11 := b6.size; try simp only [World.size_alloc] at hsb11
                have X_12 := V.bl b6
                have XI_12 := Lib.hid (VI.out.bl b6)
                have GT_12 := Lib.hid (GT.out.bl b6)
                have IT_12 := Lib.hid (IT.out.bl b6)
                have c_12 := bNext c0 b6
                clear V VI GT IT c0
                have X_13 := X_12.al (.cells #[.slice a6 T.length q6, .int .i64 n, .int .i64 k] 33)
                have XI_13 := Lib.hid (XI_12.out.al (.cells #[.slice a6 T.length q6, .int .i64 n, .int .i64 k] 33))
                have GT_13 := Lib.hid (GT_12.out.al (.cells #[.slice a6 T.length q6, .int .i64 n, .int .i64 k] 33))
                have IT_13 := Lib.hid (IT_12.out.al (.cells #[.slice a6 T.length q6, .int .i64 n, .int .i64 k] 33))
                have c_13 := bAl c_12 (.cells #[.slice a6 T.length q6, .int .i64 n, .int .i64 k] 33)
                clear X_12 XI_12 GT_12 IT_12 c_12
                have Y0 := Blk.new w6 #[.slice a6 T.length q6, .int .i64 n, .int .i64 k] 33
                have X_14 := X_13.al (.cells #[.int .i64 0, .slice a7 0 q7] 25)
                have XI_14 := Lib.hid (XI_13.out.al (.cells #[.int .i64 0, .slice a7 0 q7] 25))
                have GT_14 := Lib.hid (GT_13.out.al (.cells #[.int .i64 0, .slice a7 0 q7] 25))
                have IT_14 := Lib.hid (IT_13.out.al (.cells #[.int .i64 0, .slice a7 0 q7] 25))
                have c_14 := bAl c_13 (.cells #[.int .i64 0, .slice a7 0 q7] 25)
                have Y_14 := Y0.al (.cells #[.int .i64 0, .slice a7 0 q7] 25)
                clear X_13 XI_13 GT_13 IT_13 c_13 Y0
                have YI2 := Lib.hid ((o6.al (.cells #[.slice a6 T.length q6, .int .i64 n, .int .i64 k] 33)).al (.cells #[.int .i64 0, .slice a7 0 q7] 25)); clear o6 p6
                clear XI_14
                have hgx6 := X_14.lt
                obtain ⟨y0, y1, y2⟩ := Y_14.get3
                obtain ⟨x0, x1, x2⟩ := X_14.get3
                obtain ⟨xf0, xf1, xf2⟩ := X_14.fr3
                go_upto_region 17 with fail
                clear y0 y1 y2 x0 x1 x2 xf0 xf1 xf2
                clear Y_14
                have X_15 := X_14.put3 (.slice a6 T.length q6) (.int .i64 n) (.int .i64 k)
                have GT_15 := Lib.hid (GT_14.out.gr (grown_put3 ((w6.alloc (.cells #[.slice a6 T.length q6, .int .i64 n, .int .i64 k] 33)).alloc (.cells #[.int .i64 0, .slice a7 0 q7] 25)) gx (.slice a6 T.length q6) (.int .i64 n) (.int .i64 k)) (ap_ne (own_ne GT_14.out X_14 (by decide))))
                have IT_15 := Lib.hid (IT_14.out.gr (grown_put3 ((w6.alloc (.cells #[.slice a6 T.length q6, .int .i64 n, .int .i64 k] 33)).alloc (.cells #[.int .i64 0, .slice a7 0 q7] 25)) gx (.slice a6 T.length q6) (.int .i64 n) (.int .i64 k)) (ap_ne (own_ne IT_14.out X_14 (by decide))))
                have c_15 := bP3 c_14 (g := gx) (by omega) (.slice a6 T.length q6) (.int .i64 n) (.int .i64 k)
                have XI_15 := Lib.hid (YI2.out.gr (grown_put3 ((w6.alloc (.cells #[.slice a6 T.length q6, .int .i64 n, .int .i64 k] 33)).alloc (.cells #[.int .i64 0, .slice a7 0 q7] 25)) gx (.slice a6 T.length q6) (.int .i64 n) (.int .i64 k)) (ap_ne (own_ne YI2.out X_14 (by decide))))
                clear X_14 GT_14 IT_14 c_14 YI2
                obtain ⟨w6b, hw6b⟩ : ∃ w6b, w6b = put3 ((w6.alloc (.cells #[.slice a6 T.length q6, .int .i64 n, .int .i64 k] 33)).alloc (.cells #[.int .i64 0, .slice a7 0 q7] 25)) gx (.slice a6 T.length q6) (.int .i64 n) (.int .i64 k) := ⟨_, rfl⟩
                rw [← hw6b] at X_15 GT_15 IT_15 c_15 XI_15
                have hszw6b : ((w6.alloc (.cells #[.slice a6 T.length q6, .int .i64 n, .int .i64 k] 33)).alloc (.cells #[.int .i64 0, .slice a7 0 q7] 25)).heap.size ≤ w6b.heap.size := by rw [hw6b]; exact (grown_put3 _ _ _ _ _).size
                simp only [put3] at hw6b; rw [← hw6b]; clear hw6b; try simp only [World.size_alloc] at hszw6b
                obtain ⟨x0, x1, x2⟩ := X_15.get3
                go_wp2_with fail
                clear x0 x1 x2
                refine (implTransferResume_any _ n k T _ (by omega) XI_15.out.reads).mono ?_
                rw [HR3.out, HR4.out]
                unfold trV
                rintro e w8 ⟨u8, rfl, o8, b8⟩
                obtain ⟨a9, q9, rfl, -, -, -⟩ := id o8.reads
                have hsb16 := b8.size; try simp only [World.size_alloc] at hsb16
                have X_17 := X_15.bl b8
                have GT_17 := Lib.hid (GT_15.out.bl b8)
                have IT_17 := Lib.hid (IT_15.out.bl b8)
                have c_17 := bNext c_15 b8
                have XI_17 := Lib.hid (XI_15.out.bl b8)
                clear X_15 GT_15 IT_15 c_15 XI_15
                have ZI := Lib.hid (o8.base (B' := w.heap.size) (by omega)); clear o8
                clear XI_17
                obtain ⟨x0, x1, x2⟩ := X_17.get3
                obtain ⟨xf0, xf1, xf2⟩ := X_17.fr3
                go_wp2
                clear x0 x1 x2 xf0 xf1 xf2
                have X_18 := X_17.put3 (.slice a9 T.length q9) (.int .i64 k) (.int .i64 k)
                have GT_18 := Lib.hid (GT_17.out.gr (grown_put3 w8 gx (.slice a9 T.length q9) (.int .i64 k) (.int .i64 k)) (ap_ne (own_ne GT_17.out X_17 (by decide))))
                have IT_18 := Lib.hid (IT_17.out.gr (grown_put3 w8 gx (.slice a9 T.length q9) (.int .i64 k) (.int .i64 k)) (ap_ne (own_ne IT_17.out X_17 (by decide))))
                have c_18 := bP3 c_17 (g := gx) (by omega) (.slice a9 T.length q9) (.int .i64 k) (.int .i64 k)
                have XI_18 := Lib.hid (ZI.out.gr (grown_put3 w8 gx (.slice a9 T.length q9) (.int .i64 k) (.int .i64 k)) (ap_ne (own_ne ZI.out X_17 (by decide))))
                clear X_17 GT_17 IT_17 c_17 ZI
                go_roundw
                case rel => exact ⟨j + 1, k, k, g, a9, q9, by omega, Nat.le_refl _, by omega, hg, (hP.elim (fun h => .inl (by rw [cnt_same j L h3]; exact h)) .inr), by go_num, X_18, XI_18, GT_18, IT_18, c_18⟩
                case measure => simp [intOf]; omega
          · have hd : decide ((j : Int) < 120) = false := decide_eq_false (by omega)
            have hdn : decide (j < 120) = false := decide_eq_false hj120
            have hge : g = T.length := by omega
            have GT0 : Hid (OwnInts wr w.heap.size _ T) := Lib.hid (by have h := GT.out; rw [hge, List.take_length] at h; exact h)
            clear GT
            go_wp2_with fail
            refine (same_ints _ _ T _ (by omega) GT0.out.reads IT.out.reads).mono ?_
            rintro e w6 ⟨rfl, b6⟩
            go_wp2
            go_ret
            exact ⟨rfl, bNext c0 b6⟩
    · have hl2' : decide ((1048576 : Int) < L) = true := decide_eq_true (by omega)
      go_enter Try.func8, Try.ntmps8
      go_wp2
      go_ret
      exact ⟨rfl, Below.refl _ _⟩
  · have hl' : decide ((1048576 : Int) < zs.length) = true := decide_eq_true (by omega)
    go_enter Try.func8, Try.ntmps8
    go_wp2
    go_ret
    exact ⟨rfl, Below.refl _ _⟩
end Go.Proofs.Ytlfmgagokaekjaa
