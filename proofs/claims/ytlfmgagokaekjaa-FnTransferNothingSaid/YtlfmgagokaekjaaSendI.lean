/- TransferSend of the program: the items pass through a channel. -/
import Derived.Test.YtlfmgagokaekjaaSendS
import Derived.Test.YtlfmgagokaekjaaChan
import Derived.Deep.DeepCutAuto
import Derived.IntWalk
namespace Go.Proofs.Ytlfmgagokaekjaa
open Go.RowKit Go.Conc
set_option linter.unusedVariables false
set_option linter.unusedSimpArgs false

theorem ints_take_succ {X : List Int} {j : Nat} (h : j < X.length) : ints (X.take (j + 1)) = ints (X.take j) ++ [.int .i64 X[j]] := by
  rw [List.take_succ_eq_append_getElem h, ints_append]; rfl
theorem ints_drop_succ {X : List Int} {j : Nat} (h : j < X.length) : ints (X.drop j) = .int .i64 X[j] :: ints (X.drop (j + 1)) := by
  rw [List.drop_eq_getElem_cons h]; rfl

theorem ext_tail (v : Value) (l : List Value) : (v :: l).toArray.extract 1 (v :: l).toArray.size = l.toArray := by simp

theorem bytesInt : ∃ i, Try.prog.info? 3 = some i ∧ i.bytes = 8 := by
  have h : (Try.prog.info? 3).map (·.bytes) = some 8 := by kernel_rfl
  obtain ⟨i, hi, hb⟩ := Option.map_eq_some_iff.1 h
  exact ⟨i, hi, hb⟩
theorem mkChan (w : World) (n : Nat) (hn : n ≤ 4) : (Instr.makeChan 63 (.int .i64 n)).run Try.prog w = .ok (.chan (some w.heap.size)) (w.alloc (.chan n #[] false 0 0 false)) := by
  obtain ⟨i, hi, hb⟩ := bytesInt
  simpa using run_makeChan (P := Try.prog) (w := w) Try.underlying63 hi .i64 n (by omega) (by rw [hb]; omega)

set_option maxRecDepth 100000 in
set_option maxHeartbeats 2000000 in
theorem implTransferSend_ap (u : Value) (n k m : Int) (zs : List Int) (w : World) (hl : zs.length ≤ 4194304) (hr : RInts w u zs) :
    Calls Try.prog 26 #[trV u n k, .int .i64 m] w fun e w' => ∃ u' u'', e = .returned (.tuple #[trV u' (sendN n k m zs) (sendK n k m zs), chV (sendA n k m zs) u'', .bool (sendB n k m zs)]) ∧ OwnInts w' w.heap.size u' (sendL n k m zs) ∧ OwnInts w' w.heap.size u'' (sendC n k m zs) ∧ Below w.heap.size w w' ∧ (∀ k, u'.ownBlock = some k → u''.ownBlock = some k → False) := by
  obtain ⟨a1, cap1, rfl, hcap1, hmax1, -⟩ := id hr
  have HR := Lib.hid hr; clear hr
  obtain ⟨i0, hi0, hz0, hz1, hz2⟩ := info_parts infoInt
  unfold trV chV
  cases hg : sendG n k m zs with
  | false =>
    obtain ⟨e1, e2, e3, e4, e5, e6⟩ := send_bad hg
    rw [e1, e2, e3, e4, e5, e6]; clear e1 e2 e3 e4 e5 e6
    cases hv : validB n k zs with
    | false =>
      have HV := Lib.hid hv; clear hv hg
      go_enter Try.func26, Try.ntmps26
      go_wp2_with fail
      refine (implTransferValid_any _ n k zs _ hl (((HR.out.al _).al _).al _)).mono ?_
      rw [HV.out]
      rintro e w1 ⟨rfl, b1⟩
      have B0 := (((Blk.new w #[.slice a1 zs.length cap1, .int .i64 n, .int .i64 k] 33).al (.cells #[.slice none 0 0, .int .i64 0, .int .i64 0] 33)).al (.cells #[.int .i64 0, .slice none 0 0] 25)).bl b1
      have B1 := ((Blk.new (w.alloc (.cells #[.slice a1 zs.length cap1, .int .i64 n, .int .i64 k] 33)) #[.slice none 0 0, .int .i64 0, .int .i64 0] 33).al (.cells #[.int .i64 0, .slice none 0 0] 25)).bl b1
      have B2 := (Blk.new ((w.alloc (.cells #[.slice a1 zs.length cap1, .int .i64 n, .int .i64 k] 33)).alloc (.cells #[.slice none 0 0, .int .i64 0, .int .i64 0] 33)) #[.int .i64 0, .slice none 0 0] 25).bl b1
      have hs := b1.size
      have c1 := bNext (al4 w _ _ _) b1
      simp only [World.size_alloc] at B0 B1 B2 hs
      obtain ⟨x0, x1, x2⟩ := B0.get3; obtain ⟨y0, y1, y2⟩ := B1.get3; obtain ⟨z0, z1⟩ := B2.get2
      obtain ⟨xf0, xf1, xf2⟩ := B0.fr3; obtain ⟨yf0, yf1, yf2⟩ := B1.fr3; obtain ⟨zf0, zf1⟩ := B2.fr2
      go_wp2
      refine bodyPost_ret (results_cct rfl _ _ (w.heap.size + 1) (w.heap.size + 1 + 1) 33 25 #[.slice none 0 0, .int .i64 0, .int .i64 0] #[.int .i64 0, .slice none 0 0] (0, 0) (0, 0) _ _ rfl ((B1.put3 _ _ _).po2 (w.heap.size + 1 + 1) _ _ (by omega)).h Try.underlying33 rfl infoTr rfl (((B2.po3 (w.heap.size + 1) _ _ _ (by omega))).put2 _ _).h Try.underlying25 rfl infoCh) rfl ⟨_, _, rfl, OwnInts.nil _ _, OwnInts.nil _ _, bP2 (bP3 c1 (by omega) _ _ _) (by omega) _ _, fun k _ h2 => by cases h2⟩
    | true =>
      have hi : inB m 0 20 = false := by rw [sendG, hv] at hg; simpa using hg
      have HV := Lib.hid hv; clear hv hg
      have HI := Lib.hid hi; clear hi
      go_enter Try.func26, Try.ntmps26
      go_wp2_with fail
      refine (implTransferValid_any _ n k zs _ hl (((HR.out.al _).al _).al _)).mono ?_
      rw [HV.out]
      rintro e w1 ⟨rfl, b1⟩
      have B0 := (((Blk.new w #[.slice a1 zs.length cap1, .int .i64 n, .int .i64 k] 33).al (.cells #[.slice none 0 0, .int .i64 0, .int .i64 0] 33)).al (.cells #[.int .i64 0, .slice none 0 0] 25)).bl b1
      have B1 := ((Blk.new (w.alloc (.cells #[.slice a1 zs.length cap1, .int .i64 n, .int .i64 k] 33)) #[.slice none 0 0, .int .i64 0, .int .i64 0] 33).al (.cells #[.int .i64 0, .slice none 0 0] 25)).bl b1
      have B2 := (Blk.new ((w.alloc (.cells #[.slice a1 zs.length cap1, .int .i64 n, .int .i64 k] 33)).alloc (.cells #[.slice none 0 0, .int .i64 0, .int .i64 0] 33)) #[.int .i64 0, .slice none 0 0] 25).bl b1
      have hs := b1.size
      have c1 := bNext (al4 w _ _ _) b1
      simp only [World.size_alloc] at B0 B1 B2 hs
      obtain ⟨x0, x1, x2⟩ := B0.get3; obtain ⟨y0, y1, y2⟩ := B1.get3; obtain ⟨z0, z1⟩ := B2.get2
      obtain ⟨xf0, xf1, xf2⟩ := B0.fr3; obtain ⟨yf0, yf1, yf2⟩ := B1.fr3; obtain ⟨zf0, zf1⟩ := B2.fr2
      go_wp2_with fail
      refine (inRange_any _ _ _ _).mono ?_
      rw [HI.out]
      rintro e w2 ⟨rfl, rfl⟩
      go_wp2
      refine bodyPost_ret (results_cct rfl _ _ (w.heap.size + 1) (w.heap.size + 1 + 1) 33 25 #[.slice none 0 0, .int .i64 0, .int .i64 0] #[.int .i64 0, .slice none 0 0] (0, 0) (0, 0) _ _ rfl ((B1.put3 _ _ _).po2 (w.heap.size + 1 + 1) _ _ (by omega)).h Try.underlying33 rfl infoTr rfl (((B2.po3 (w.heap.size + 1) _ _ _ (by omega))).put2 _ _).h Try.underlying25 rfl infoCh) rfl ⟨_, _, rfl, OwnInts.nil _ _, OwnInts.nil _ _, bP2 (bP3 c1 (by omega) _ _ _) (by omega) _ _, fun k _ h2 => by cases h2⟩
  | true =>
    obtain ⟨hv, hi, hz20, hk0, hkn, hnz, hm0, hm20⟩ := sendG_parts hg
    have HV := Lib.hid hv; clear hv
    have HI := Lib.hid hi; clear hi
    obtain ⟨n, rfl⟩ := Int.eq_ofNat_of_zero_le (show 0 ≤ n by omega)
    obtain ⟨k, rfl⟩ := Int.eq_ofNat_of_zero_le hk0
    obtain ⟨m, rfl⟩ := Int.eq_ofNat_of_zero_le hm0
    have hE0 : 0 ≤ sendE n k m zs ∧ sendE n k m zs ≤ zs.length := by unfold sendE; omega
    have hmin := fun w ts t => run_min3 (P := Try.prog) w ts t (4 : Int) ((zs.length : Int) - n) ((m : Int) - ((n : Int) - k)) (sendE n k m zs - n) (by unfold sendE; omega)
    by_cases hE : sendE n k m zs ≤ n
    · obtain ⟨e1, e2, e3, e4, e5, e6⟩ := send_none hg hE
      rw [e1, e2, e3, e4, e5, e6]; clear e1 e2 e3 e4 e5 e6 hg
      have hdE : decide (sendE n k m zs - (n : Int) ≤ 0) = true := decide_eq_true (by omega)
      generalize sendE n k m zs = E at *
      obtain ⟨hE0, hE1⟩ := hE0
      have ew1 : IntKind.i64.wrap ((zs.length : Int) - n) = (zs.length : Int) - n := IntWalk.i64_in _ (by omega)
      have ew2 : IntKind.i64.wrap ((n : Int) - k) = (n : Int) - k := IntWalk.i64_in _ (by omega)
      have ew3 : IntKind.i64.wrap ((m : Int) - ((n : Int) - k)) = (m : Int) - ((n : Int) - k) := IntWalk.i64_in _ (by omega)
      go_enter Try.func26, Try.ntmps26
      go_wp2_with fail
      refine (implTransferValid_any _ n k zs _ hl (((HR.out.al _).al _).al _)).mono ?_
      rw [HV.out]
      rintro e w1 ⟨rfl, b1⟩
      have B0 := (((Blk.new w #[.slice a1 zs.length cap1, .int .i64 n, .int .i64 k] 33).al (.cells #[.slice none 0 0, .int .i64 0, .int .i64 0] 33)).al (.cells #[.int .i64 0, .slice none 0 0] 25)).bl b1
      have B1 := ((Blk.new (w.alloc (.cells #[.slice a1 zs.length cap1, .int .i64 n, .int .i64 k] 33)) #[.slice none 0 0, .int .i64 0, .int .i64 0] 33).al (.cells #[.int .i64 0, .slice none 0 0] 25)).bl b1
      have B2 := (Blk.new ((w.alloc (.cells #[.slice a1 zs.length cap1, .int .i64 n, .int .i64 k] 33)).alloc (.cells #[.slice none 0 0, .int .i64 0, .int .i64 0] 33)) #[.int .i64 0, .slice none 0 0] 25).bl b1
      have hs := b1.size
      have c1 := bNext (al4 w _ _ _) b1
      simp only [World.size_alloc] at B0 B1 B2 hs
      obtain ⟨x0, x1, x2⟩ := B0.get3; obtain ⟨y0, y1, y2⟩ := B1.get3; obtain ⟨z0, z1⟩ := B2.get2
      obtain ⟨xf0, xf1, xf2⟩ := B0.fr3; obtain ⟨yf0, yf1, yf2⟩ := B1.fr3; obtain ⟨zf0, zf1⟩ := B2.fr2
      go_wp2_with fail
      refine (inRange_any _ _ _ _).mono ?_
      rw [HI.out]
      rintro e w2 ⟨rfl, rfl⟩
      go_wp2_with fail
      refine (copyTransfer_any _ _ _ zs _ hl (HR.out.bl c1)).mono ?_
      unfold trV
      rintro e w3 ⟨v3, rfl, o3, b3⟩
      clear x0 x1 x2 y0 y1 y2 z0 z1 xf0 xf1 xf2 yf0 yf1 yf2 zf0 zf1
      obtain ⟨a3, cap3, rfl, -, -, -⟩ := o3.reads
      have hs3 := b3.size
      have hal := below_alloc w3 (.cells #[.slice a3 zs.length cap3, .int .i64 (n : Int), .int .i64 k] 33)
      have C0 := (B0.bl b3).bl hal
      have C1 := (B1.bl b3).bl hal
      have C2 := (B2.bl b3).bl hal
      have C3 := Blk.new w3 #[.slice a3 zs.length cap3, .int .i64 (n : Int), .int .i64 k] 33
      have c3 := bNext (bNext c1 b3) hal
      have o3a := o3.bl hal
      clear hal
      obtain ⟨x0, x1, x2⟩ := C0.get3; obtain ⟨y0, y1, y2⟩ := C1.get3; obtain ⟨z0, z1⟩ := C2.get2; obtain ⟨q0, q1, q2⟩ := C3.get3
      obtain ⟨yf0, yf1, yf2⟩ := C1.fr3; obtain ⟨zf0, zf1⟩ := C2.fr2; obtain ⟨qf0, qf1, qf2⟩ := C3.fr3
      go_wp2
      refine bodyPost_ret (results_cct rfl _ _ (w.heap.size + 1) (w.heap.size + 1 + 1) 33 25 #[.slice a3 zs.length cap3, .int .i64 n, .int .i64 k] #[.int .i64 0, .slice none 0 0] (0, 0) (0, 0) _ _ rfl ((C1.put3 _ _ _).po2 (w.heap.size + 1 + 1) _ _ (by omega)).h Try.underlying33 rfl infoTr rfl ((C2.po3 (w.heap.size + 1) _ _ _ (by omega)).put2 _ _).h Try.underlying25 rfl infoCh) rfl ⟨_, _, rfl, ((o3a.p3 (by omega) _ _ _).p2 (by omega) _ _).base (by omega), OwnInts.nil _ _, bP2 (bP3 c3 (by omega) _ _ _) (by omega) _ _, fun k _ h2 => by cases h2⟩
    · obtain ⟨e1, e2, e3, e4, e5, e6⟩ := send_some hg (by omega)
      rw [e1, e2, e3, e4, e5, e6]; clear e1 e2 e3 e4 e5 e6 hg
      have hn4 : sendE n k m zs ≤ n + 4 := by unfold sendE; omega
      generalize sendE n k m zs = E at *
      obtain ⟨hE0, hE1⟩ := hE0
      obtain ⟨E, rfl⟩ := Int.eq_ofNat_of_zero_le hE0
      obtain ⟨d, hd0⟩ : ∃ d : Nat, (d : Int) = (E : Int) - n := ⟨E - n, by omega⟩
      rw [← hd0] at hmin
      have hdE : decide ((d : Int) ≤ 0) = false := decide_eq_false (by omega)
      have hdp : 0 < d := by omega
      have hdz : decide (d = 0) = false := decide_eq_false (by omega)
      have hd4 : d ≤ 4 := by omega
      have hEn : E = n + d := by omega
      subst hEn
      generalize hX : List.drop (Int.toNat (n : Int)) (List.take (Int.toNat ((n + d : Nat) : Int)) zs) = X
      simp only [Int.toNat_natCast] at hX
      have HXX := Lib.hid hX; clear hX
      rw [show ((n + d : Nat) : Int) = (n : Int) + d by omega]
      clear hd0 hn4
      have ew1 : IntKind.i64.wrap ((zs.length : Int) - n) = (zs.length : Int) - n := IntWalk.i64_in _ (by omega)
      have ew2 : IntKind.i64.wrap ((n : Int) - k) = (n : Int) - k := IntWalk.i64_in _ (by omega)
      have ew3 : IntKind.i64.wrap ((m : Int) - ((n : Int) - k)) = (m : Int) - ((n : Int) - k) := IntWalk.i64_in _ (by omega)
      obtain ⟨gz, oz, ha1⟩ : ∃ gz oz, a1 = some ⟨gz, oz, none⟩ := by
        obtain ⟨_, _, hsh, -, -, hcell⟩ := HR.out
        simp only [Value.slice.injEq] at hsh
        obtain ⟨rfl, -, -⟩ := hsh
        obtain ⟨b, off, h, -⟩ := hcell 0 (by omega)
        exact ⟨b, off, h⟩
      subst ha1
      go_enter Try.func26, Try.ntmps26
      go_wp2_with fail
      refine (implTransferValid_any _ n k zs _ hl (((HR.out.al _).al _).al _)).mono ?_
      rw [HV.out]
      rintro e w1 ⟨rfl, b1⟩
      have B0 := (((Blk.new w #[.slice (some ⟨gz, oz, none⟩) zs.length cap1, .int .i64 n, .int .i64 k] 33).al (.cells #[.slice none 0 0, .int .i64 0, .int .i64 0] 33)).al (.cells #[.int .i64 0, .slice none 0 0] 25)).bl b1
      have B1 := ((Blk.new (w.alloc (.cells #[.slice (some ⟨gz, oz, none⟩) zs.length cap1, .int .i64 n, .int .i64 k] 33)) #[.slice none 0 0, .int .i64 0, .int .i64 0] 33).al (.cells #[.int .i64 0, .slice none 0 0] 25)).bl b1
      have B2 := (Blk.new ((w.alloc (.cells #[.slice (some ⟨gz, oz, none⟩) zs.length cap1, .int .i64 n, .int .i64 k] 33)).alloc (.cells #[.slice none 0 0, .int .i64 0, .int .i64 0] 33)) #[.int .i64 0, .slice none 0 0] 25).bl b1
      have hs := b1.size
      have c1 := bNext (al4 w _ _ _) b1
      simp only [World.size_alloc] at B0 B1 B2 hs
      obtain ⟨x0, x1, x2⟩ := B0.get3; obtain ⟨y0, y1, y2⟩ := B1.get3; obtain ⟨z0, z1⟩ := B2.get2
      obtain ⟨xf0, xf1, xf2⟩ := B0.fr3; obtain ⟨yf0, yf1, yf2⟩ := B1.fr3; obtain ⟨zf0, zf1⟩ := B2.fr2
      go_wp2_with fail
      refine (inRange_any _ _ _ _).mono ?_
      rw [HI.out]
      rintro e w2 ⟨rfl, rfl⟩
      go_wp2_with fail
      refine (copyTransfer_any _ _ _ zs _ hl (HR.out.bl c1)).mono ?_
      unfold trV
      rintro e w3 ⟨v3, rfl, o3, b3⟩
      clear x0 x1 x2 y0 y1 y2 z0 z1 xf0 xf1 xf2 yf0 yf1 yf2 zf0 zf1
      obtain ⟨a3, cap3, rfl, -, -, -⟩ := o3.reads
      have hs3 := b3.size
      have hal := below_alloc w3 (.cells #[.slice a3 zs.length cap3, .int .i64 n, .int .i64 k] 33)
      have C0 := (B0.bl b3).bl hal
      have C1 := (B1.bl b3).bl hal
      have C2 := (B2.bl b3).bl hal
      have C3 := Blk.new w3 #[.slice a3 zs.length cap3, .int .i64 n, .int .i64 k] 33
      have c3 := bNext (bNext c1 b3) hal
      have o3a := o3.bl hal
      clear hal
      obtain ⟨x0, x1, x2⟩ := C0.get3
      have hmk := fun w => mkChan w d hd4
      go_upto_region 8 with fail
      clear x0 x1 x2 hmk hmin
      have D0 := C0.al (.chan d #[] false 0 0 false)
      have D1 := C1.al (.chan d #[] false 0 0 false)
      have D2 := C2.al (.chan d #[] false 0 0 false)
      have D3 := C3.al (.chan d #[] false 0 0 false)
      have o4 := o3a.al (.chan d #[] false 0 0 false)
      have c4 := bAl c3 (.chan d #[] false 0 0 false)
      have hch := heap_alloc_new (w3.alloc (.cells #[.slice a3 zs.length cap3, .int .i64 n, .int .i64 k] 33)) (.chan d #[] false 0 0 false)
      have hlt4 := sAl (w3.alloc (.cells #[.slice a3 zs.length cap3, .int .i64 n, .int .i64 k] 33)) (.chan d #[] false 0 0 false)
      have hlt3 := sAl w3 (.cells #[.slice a3 zs.length cap3, .int .i64 n, .int .i64 k] 33)
      simp only [World.size_alloc] at hch hlt4 hlt3
      obtain ⟨w4, hw4⟩ : ∃ w4, w4 = (w3.alloc (.cells #[.slice a3 zs.length cap3, .int .i64 n, .int .i64 k] 33)).alloc (.chan d #[] false 0 0 false) := ⟨_, rfl⟩
      have hs4 : w4.heap.size = w3.heap.size + 1 + 1 := by rw [hw4]; simp
      rw [← hw4] at D0 D1 D2 D3 o4 c4 hch ⊢
      clear hw4 hlt4 hlt3 C0 C1 C2 C3 B0 B1 B2 c3 o3a
      obtain ⟨x0, x1, x2⟩ := D0.get3
      have f1 : (0 : Int) ≤ (n : Int) := by omega
      have f2 : (n : Int) ≤ (n : Int) + (d : Int) := by omega
      have f3 : (n : Int) + (d : Int) ≤ (cap1 : Int) := by omega
      have hnc : ¬ cap1 = n := by omega
      have ew4 : IntKind.i64.wrap ((n : Int) + d) = (n : Int) + d := IntWalk.i64_in _ (by omega)
      go_upto_region 9 with fail
      clear x0 x1 x2
      have hXl : X.length = d := by rw [← HXX.out]; simp; omega
      have hcl : ∀ j, (h : j < X.length) → w4.cell? ⟨gz, oz + n + j, none⟩ = some (.int .i64 X[j]) := by
        intro j h
        have := ((HR.out.bl c4).sub n (n + d) (by omega)) j (.int .i64 X[j]) (by rw [HXX.out]; simp [ints])
        simpa [Addr.add_mid] using this
      have hgz : gz < w.heap.size := by
        obtain ⟨_, _, hsh, -, -, hcell⟩ := HR.out
        simp only [Value.slice.injEq] at hsh
        obtain ⟨rfl, -, -⟩ := hsh
        obtain ⟨b, off, h, hb, -⟩ := hcell 0 (by omega)
        simp only [Option.some.injEq, Addr.mk.injEq] at h
        omega
      have HX := Lib.hid hXl; clear hXl
      have HCL := Lib.hid hcl; clear hcl
      rw [show n + d - n = d by omega]
      go_loopw [11, 56] (fun it i wr => ∃ j : Nat, j ≤ d ∧ i = .int .i64 j ∧ wr.heap[w3.heap.size + 1]? = some (.chan d ((ints (X.take j)).toArray) false j 0 false) ∧ w4.grownBy wr (some (w3.heap.size + 1))) (fun _ i _ => d - (intOf i).toNat)
      case atStart => exact ⟨0, by omega, rfl, by simpa [ints] using hch, grown_refl _ _⟩
      case round =>
        obtain ⟨j, hj, rfl, hc, G⟩ := hrel
        by_cases hlt : j < d
        · have hd : decide ((j : Int) < d) = true := decide_eq_true (by omega)
          have hjX : j < X.length := by rw [HX.out]; exact hlt
          have x0 : wr.cell? ⟨gz, oz + n + j, none⟩ = some (.int .i64 X[j]) := by
            rw [← HCL.out j hjX]; exact World.cell?_of_block (G.block gz (by have := c4.size; omega) (fun e => by have := Option.some.inj e; have := b3.size; omega))
          go_upto_region 11 with fail
          refine wp_region_at ?_
          refine OpsAt.value (i := 0) (rest := [1, 2]) (v := .chan (some (w3.heap.size + 1))) (w' := wr) rfl rfl (by simp [execOp, Act.eval]) ?_
          refine OpsAt.value (i := 1) (rest := [2]) (v := .int .i64 X[j]) (w' := wr) rfl rfl (by simp [execOp, Act.eval, Act.put]) ?_
          refine OpsAt.send (i := 2) (rest := []) (c := w3.heap.size + 1) (v := .int .i64 X[j]) (z := .tuple #[]) rfl rfl (by simp [execOp, scase, Act.eval, Act.put]) hc (by simp; omega) ?_
          refine OpsAt.of ?_
          show Exit.inBlock 1 _ Exit.normal _ _
          simp only [Act.put]
          go_wp2
          go_roundw
          case rel =>
            have hcl' : w3.heap.size + 1 < wr.heap.size := by have := G.size; omega
            exact ⟨j + 1, by omega, by go_num, by rw [ints_take_succ hjX]; exact heap_setChan wr (w3.heap.size + 1) d _ false (j + 1) 0 false hcl', G.trans (grown_chan _ _ _ _ _ _ _ _)⟩
          case measure => simp [intOf]; omega
        · obtain rfl : j = d := by omega
          have hck := heap_setChan wr (w3.heap.size + 1) j (ints (X.take j)).toArray true j 0 false (by have := G.size; omega)
          have Gk := G.trans (grown_chan wr (w3.heap.size + 1) j (ints (X.take j)).toArray true j 0 false)
          have hcl : ∀ ats ty, (Builtin.close_ ats ty #[.chan (some (w3.heap.size + 1))]).run Try.prog wr = .ok (.tuple #[]) (wr.setChan (w3.heap.size + 1) j (ints (X.take j)).toArray true j 0 false) := fun ats ty => run_close_open ats ty hc
          go_upto_region 14 with fail
          clear hcl hc G
          generalize wr.setChan (w3.heap.size + 1) j (ints (X.take j)).toArray true j 0 false = wk at hck Gk ⊢
          rw [show X.take j = X from List.take_of_length_le (by rw [HX.out]; omega)] at hck
          have hsk := Gk.size
          have hs3 := b3.size
          have cB := c4.size
          have nB : ∀ {v : Nat}, v < w3.heap.size + 1 → ∀ k, some (w3.heap.size + 1) = some k → k ≠ v := fun h k e => by have := Option.some.inj e; omega
          have c5 := bGr c4 Gk (fun k e => by have := Option.some.inj e; omega)
          have E0 := (D0.gr Gk (nB (by omega)))
          have E1 := (D1.gr Gk (nB (by omega)))
          have E2 := (D2.gr Gk (nB (by omega)))
          have E3 := (D3.gr Gk (nB (by omega)))
          have o5 := o4.gr Gk (ap_of fun k h1 h2 => by have := (o3.lts k h1).2; have := Option.some.inj h2; omega)
          clear D0 D1 D2 D3 Gk
          obtain ⟨x0, x1, x2⟩ := E0.get3
          go_upto_region 15 with fail
          clear x0 x1 x2
          have F0 := Blk.new wk #[.int .i64 n, .slice none 0 0] 25
          have hcm : (wk.alloc (.cells #[.int .i64 n, .slice none 0 0] 25)).heap[w3.heap.size + 1]? = some (.chan j (ints X).toArray true j 0 false) := by rw [Below.heap_alloc _ _ _ (by omega)]; exact hck
          have hskm := sAl wk (.cells #[.int .i64 n, .slice none 0 0] 25)
          have c6 := bAl c5 (.cells #[.int .i64 n, .slice none 0 0] 25)
          have GA := gAlloc (grown_refl wk (some (w3.heap.size + 1))) (.cells #[.int .i64 n, .slice none 0 0] 25)
          clear hck
          have hF := F0.lt
          go_upto_region 16 with fail
          go_loopw [13] (fun it wr => ∃ (i : Nat) (u : Value), i ≤ j ∧ wr.heap[w3.heap.size + 1]? = some (.chan j (ints (X.drop i)).toArray true j i false) ∧ OwnInts wr (wk.heap.size + 1) u (X.take i) ∧ Blk wr wk.heap.size #[.int .i64 n, u] 25 ∧ wk.grownBy wr (some (w3.heap.size + 1))) (fun _ wr => match wr.heap[w3.heap.size + 1]? with | some (.chan _ b _ _ _ _) => b.size | _ => 0)
          case atStart => exact ⟨0, _, by omega, by simpa using hcm, by simpa using OwnInts.nil _ _, F0, GA⟩
          case round =>
            obtain ⟨i, u, hi, hc, own, F, G⟩ := hrel
            have hcl : w3.heap.size + 1 < wr.heap.size := by have := F.lt; omega
            obtain ⟨xs, hxs⟩ : ∃ xs, xs = X.take i := ⟨_, rfl⟩
            rw [← hxs] at own
            have HXS := Lib.hid hxs
            have hlx : xs.length ≤ 10 := by rw [hxs]; simp; omega
            clear hxs
            obtain ⟨au, qu, rfl, -, -, -⟩ := id own.reads
            by_cases hlt : i < j
            · have hiX : i < X.length := by rw [HX.out]; exact hlt
              go_upto_region 16 with fail
              refine wp_region_at ?_
              rw [ints_drop_succ hiX] at hc
              refine OpsAt.recv (i := 0) (rest := [1]) (c := w3.heap.size + 1) (z := .int .i64 0) rfl rfl (by simp [execOp, rcase, Act.eval, Act.put, go_sem]) hc (by simp) ?_
              refine OpsAt.value (i := 1) (rest := []) (v := .bool true) (w' := wr.setChan (w3.heap.size + 1) j ((Value.int .i64 X[i] :: ints (X.drop (i + 1))).toArray.extract 1 (Value.int .i64 X[i] :: ints (X.drop (i + 1))).toArray.size) true j (i + 1) false) rfl rfl (by simp [execOp, Act.eval, Act.put, go_sem]) ?_
              rw [ext_tail, show (Value.int .i64 X[i] :: ints (X.drop (i + 1))).toArray.getD 0 undef = .int .i64 X[i] by simp]
              have Gn := G.trans (grown_chan wr (w3.heap.size + 1) j (ints (X.drop (i + 1))).toArray true j (i + 1) false)
              have hcn := heap_setChan wr (w3.heap.size + 1) j (ints (X.drop (i + 1))).toArray true j (i + 1) false hcl
              have Fn := F.gr (grown_chan wr (w3.heap.size + 1) j (ints (X.drop (i + 1))).toArray true j (i + 1) false) (fun k e => by have := Option.some.inj e; omega)
              have ownn := own.gr (grown_chan wr (w3.heap.size + 1) j (ints (X.drop (i + 1))).toArray true j (i + 1) false) (ap_of fun k h1 h2 => by have := (own.lts k h1).1; have := Option.some.inj h2; omega)
              have HCO := Lib.hid hc
              generalize wr.setChan (w3.heap.size + 1) j (ints (X.drop (i + 1))).toArray true j (i + 1) false = wn at Gn hcn Fn ownn ⊢
              clear G F own
              obtain ⟨x0, x1⟩ := Fn.get2
              refine OpsAt.of ?_
              show Exit.then _ _ Exit.normal _ _
              simp only [Act.put]
              clear hc
              go_wp2_with (at_builtin; refine wpList_append_own _ rfl _ _ 23 rfl (wk.heap.size + 1) 3 i0 (.int .i64 0) 1 8 Try.underlying23 hi0 hz0 hz1 hz2 rfl (by decide) _ _ _ rfl (World.ownsRow.alloc ownn _) ⟨wn.heap.size, 0, none⟩ 1 1 [.int .i64 X[i]] rfl rfl (cell_one_new _ _ _) (oneCell_int _) ?c3 ?c4 ?c5 ?_)
              case c3 => unfold maxLen; omega
              case c4 => omega
              case c5 => have := Fn.lt; simp; omega
              intro v' w9 hown' hgr _
              have Gn2 := (gAlloc Gn (.cells #[.int .i64 X[i]] 3))
              have hnn : ∀ k, (Value.slice au xs.length qu).ownBlock = some k → wk.heap.size + 1 ≤ k := fun k hk => (ownn.lts k hk).1
              have G9 := gOwn Gn2 hgr (fun k hk => by have := hnn k hk; omega)
              have F9 := (Fn.al (.cells #[.int .i64 X[i]] 3)).gr hgr (fun k hk => by have := hnn k hk; omega)
              have hc9 : w9.heap[w3.heap.size + 1]? = some (.chan j (ints (X.drop (i + 1))).toArray true j (i + 1) false) := by
                rw [hgr.block (w3.heap.size + 1) (by simp; have := Fn.lt; omega) (fun e => by have := hnn _ e.symm; omega), Below.heap_alloc _ _ _ (by have := Fn.lt; omega)]; exact hcn
              have o9 : OwnInts w9 (wk.heap.size + 1) v' (X.take (i + 1)) := by
                have hl9 : (X.take (i + 1)).length = xs.length + 1 := by rw [HXS.out]; simp; omega
                unfold OwnInts; rw [hl9, ints_take_succ hiX, ← HXS.out]; exact hown'
              clear hown' hgr Gn Gn2 hcn Fn ownn x0 x1
              obtain ⟨x0, x1⟩ := F9.get2
              obtain ⟨f0, f1⟩ := F9.fr2
              obtain ⟨ys, hys⟩ : ∃ ys, ys = X.take (i + 1) := ⟨_, rfl⟩
              rw [← hys] at o9
              have HYS := Lib.hid hys; clear hys
              have hnv : ∀ k, v'.ownBlock = some k → wk.heap.size + 1 ≤ k := fun k hk => (o9.lts k hk).1
              obtain ⟨a9, q9, rfl, -, -, -⟩ := id o9.reads
              go_wp2
              clear x0 x1 f0 f1
              go_roundw
              case rel =>
                refine ⟨i + 1, .slice a9 ys.length q9, by omega, ?_, ?_, F9.set 1 (.slice a9 ys.length q9), gOwn G9 (grown_set w9 wk.heap.size 1 (.slice a9 ys.length q9)) (fun k e => by have := Option.some.inj e; omega)⟩
                · rw [(grown_set w9 wk.heap.size 1 (.slice a9 ys.length q9)).block (w3.heap.size + 1) (by have := F9.lt; omega) (fun e => by have := Option.some.inj e; omega)]; exact hc9
                · rw [← HYS.out]; exact o9.sc (by omega) 1 (.slice a9 ys.length q9)
              case measure =>
                rw [(grown_set w9 wk.heap.size 1 (.slice a9 ys.length q9)).block (w3.heap.size + 1) (by have := F9.lt; omega) (fun e => by have := Option.some.inj e; omega), hc9, HCO.out]
                simp
            · obtain rfl : i = j := by omega
              have hnil : X.drop i = [] := List.drop_of_length_le (by rw [HX.out]; omega)
              rw [hnil] at hc
              go_upto_region 16 with fail
              refine wp_region_at ?_
              refine OpsAt.shut (i := 0) (rest := [1]) (c := w3.heap.size + 1) (z := .int .i64 0) rfl rfl (by simp [execOp, rcase, Act.eval, Act.put, go_sem]) hc ?_
              refine OpsAt.value (i := 1) (rest := []) (v := .bool false) (w' := wr) rfl rfl (by simp [execOp, Act.eval, Act.put, go_sem]) ?_
              refine OpsAt.of ?_
              show Exit.then _ _ Exit.normal _ _
              simp only [Act.put]
              clear hc
              have hxi : xs = X := by rw [HXS.out]; exact List.take_of_length_le (by rw [HX.out]; omega)
              subst hxi
              have H0 := (E0.gr G (fun k e => by have := E0.lt; have := Option.some.inj e; omega))
              have H1 := (E1.gr G (fun k e => by have := Option.some.inj e; omega))
              have H2 := (E2.gr G (fun k e => by have := Option.some.inj e; omega))
              have H3 := (E3.gr G (fun k e => by have := Option.some.inj e; omega))
              have c7 := bGr c5 G (fun k e => by have := Option.some.inj e; omega)
              have o7 := o5.gr G (ap_of fun k h1 h2 => by have := (o3.lts k h1).2; have := Option.some.inj h2; omega)
              clear E0 E1 E2 E3 G c6 GA hcm F0 c5 o5 hcl
              obtain ⟨q0, q1, q2⟩ := H3.get3
              obtain ⟨qf0, qf1, qf2⟩ := H3.fr3
              have ew5 : IntKind.i64.wrap ((n : Int) + i) = (n : Int) + i := IntWalk.i64_in _ (by omega)
              go_upto_region 20 with fail
              clear q0 q1 q2 qf0 qf1 qf2
              have gs := grown_set wr w3.heap.size 1 (.int .i64 ((n : Int) + i))
              have J1 := H1.so w3.heap.size 1 (.int .i64 ((n : Int) + i)) (by omega)
              have J2 := H2.so w3.heap.size 1 (.int .i64 ((n : Int) + i)) (by omega)
              have J3 := H3.set 1 (.int .i64 ((n : Int) + i))
              have F3 := F.so w3.heap.size 1 (.int .i64 ((n : Int) + i)) (by omega)
              have o8 := o7.gr gs (ap_of fun k h1 h2 => by have := (o3.lts k h1).2; have := Option.some.inj h2; omega)
              have own8 := own.sc (g := w3.heap.size) (by omega) 1 (.int .i64 ((n : Int) + i))
              have c8 := bGr c7 gs (fun k e => by have := Option.some.inj e; omega)
              clear gs H0 H1 H2 H3 c7 o7 F own hlt ew5
              generalize wr.setCell ⟨w3.heap.size, 1, none⟩ (.int .i64 ((n : Int) + i)) = wz at J1 J2 J3 F3 o8 own8 c8 ⊢
              obtain ⟨q0, q1, q2⟩ := J3.get3
              obtain ⟨u0, u1, u2⟩ := J1.get3
              obtain ⟨v0, v1⟩ := J2.get2
              obtain ⟨y0, y1⟩ := F3.get2
              obtain ⟨qf0, qf1, qf2⟩ := J1.fr3
              obtain ⟨yf0, yf1⟩ := J2.fr2
              go_region
              all_goals go_wp2
              have K1 := (((J1.put3 (.slice a3 zs.length cap3) (.int .i64 ((n : Int) + i)) (.int .i64 k)).po2 (w.heap.size + 1 + 1) (.int .i64 n) (.slice au xs.length qu) (by omega)).d1).h
              have K2 := (((J2.po3 (w.heap.size + 1) (.slice a3 zs.length cap3) (.int .i64 ((n : Int) + i)) (.int .i64 k) (by omega)).put2 (.int .i64 n) (.slice au xs.length qu)).d1).h
              have L1 := (((o8.p3 (g := w.heap.size + 1) (by omega) (.slice a3 zs.length cap3) (.int .i64 ((n : Int) + i)) (.int .i64 k)).p2 (g := w.heap.size + 1 + 1) (by omega) (.int .i64 n) (.slice au xs.length qu)).d1).base (B' := w.heap.size) (by omega)
              have L2 := (((own8.p3 (g := w.heap.size + 1) (by omega) (.slice a3 zs.length cap3) (.int .i64 ((n : Int) + i)) (.int .i64 k)).p2 (g := w.heap.size + 1 + 1) (by omega) (.int .i64 n) (.slice au xs.length qu)).d1).base (B' := w.heap.size) (by omega)
              have L3 := bD1 (bP2 (bP3 c8 (g := w.heap.size + 1) (by omega) (.slice a3 zs.length cap3) (.int .i64 ((n : Int) + i)) (.int .i64 k)) (g := w.heap.size + 1 + 1) (by omega) (.int .i64 n) (.slice au xs.length qu))
              have hap : ∀ k, (Value.slice a3 zs.length cap3).ownBlock = some k → (Value.slice au xs.length qu).ownBlock = some k → False := fun k h1 h2 => by have e1 := (o3.lts k h1).2; have e2 := (own8.lts k h2).1; omega
              clear J1 J2 J3 F3 o8 own8 c8 q0 q1 q2 u0 u1 u2 v0 v1 y0 y1 qf0 qf1 qf2 yf0 yf1
              exact bodyPost_ret (results_cct rfl _ _ (w.heap.size + 1) (w.heap.size + 1 + 1) 33 25 #[.slice a3 zs.length cap3, .int .i64 ((n : Int) + i), .int .i64 k] #[.int .i64 n, .slice au xs.length qu] (0, 0) (0, 0) _ _ rfl K1 Try.underlying33 rfl infoTr rfl K2 Try.underlying25 rfl infoCh) rfl ⟨.slice a3 zs.length cap3, .slice au xs.length qu, rfl, L1, L2, L3, hap⟩

theorem implTransferSend_any (u : Value) (n k m : Int) (zs : List Int) (w : World) (hl : zs.length ≤ 4194304) (hr : RInts w u zs) :
    Calls Try.prog 26 #[trV u n k, .int .i64 m] w fun e w' => ∃ u' u'', e = .returned (.tuple #[trV u' (sendN n k m zs) (sendK n k m zs), chV (sendA n k m zs) u'', .bool (sendB n k m zs)]) ∧ OwnInts w' w.heap.size u' (sendL n k m zs) ∧ OwnInts w' w.heap.size u'' (sendC n k m zs) ∧ Below w.heap.size w w' :=
  (implTransferSend_ap u n k m zs w hl hr).mono fun e w' ⟨u1, u2, h1, h2, h3, h4, _⟩ => ⟨u1, u2, h1, h2, h3, h4⟩
end Go.Proofs.Ytlfmgagokaekjaa
