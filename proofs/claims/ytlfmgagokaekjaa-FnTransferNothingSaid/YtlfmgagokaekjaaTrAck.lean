/- TransferAck and TransferResume of the program and of the reference. -/
import Derived.Test.YtlfmgagokaekjaaTr2
import Derived.Test.YtlfmgagokaekjaaTrValid
import Derived.RegionTactic
import Derived.ChangeAlike
namespace Go.Proofs.Ytlfmgagokaekjaa
open Go.RowKit
set_option linter.unusedVariables false
set_option linter.unusedSimpArgs false

def ackG (n k m : Int) (zs : List Int) : Bool := validB n k zs && inB m 0 n
def ackL (n k m : Int) (zs : List Int) : List Int := if ackG n k m zs then zs else []
def ackN (n k m : Int) (zs : List Int) : Int := if ackG n k m zs then n else 0
def ackK (n k m : Int) (zs : List Int) : Int := if ackG n k m zs then max k m else 0
def ackT (n k m : Int) (zs : List Int) : Bool := ackG n k m zs && decide (k ≤ m)
def resL (n k : Int) (zs : List Int) : List Int := if validB n k zs then zs else []
def resN (n k : Int) (zs : List Int) : Int := if validB n k zs then k else 0
theorem ack_bad {n k m : Int} {zs : List Int} (h : ackG n k m zs = false) : ackL n k m zs = [] ∧ ackN n k m zs = 0 ∧ ackK n k m zs = 0 ∧ ackT n k m zs = false := by simp [ackL, ackN, ackK, ackT, h]
theorem ack_good {n k m : Int} {zs : List Int} (h : ackG n k m zs = true) : ackL n k m zs = zs ∧ ackN n k m zs = n ∧ ackK n k m zs = max k m ∧ ackT n k m zs = decide (k ≤ m) := by simp [ackL, ackN, ackK, ackT, h]
theorem res_bad {n k : Int} {zs : List Int} (h : validB n k zs = false) : resL n k zs = [] ∧ resN n k zs = 0 := by simp [resL, resN, h]
theorem ackL_len (n k m : Int) (zs : List Int) : (ackL n k m zs).length ≤ zs.length := by unfold ackL; split <;> simp
theorem resL_len (n k : Int) (zs : List Int) : (resL n k zs).length ≤ zs.length := by unfold resL; split <;> simp
theorem res_good {n k : Int} {zs : List Int} (h : validB n k zs = true) : resL n k zs = zs ∧ resN n k zs = k := by simp [resL, resN, h]

set_option maxHeartbeats 600000 in
theorem implTransferAck_any (u : Value) (n k m : Int) (zs : List Int) (w : World) (hl : zs.length ≤ 4194304) (hr : RInts w u zs) :
    Calls Try.prog 18 #[trV u n k, .int .i64 m] w fun e w' => ∃ u', e = .returned (.tuple #[trV u' (ackN n k m zs) (ackK n k m zs), .bool (ackT n k m zs)]) ∧ OwnInts w' w.heap.size u' (ackL n k m zs) ∧ Below w.heap.size w w' := by
  obtain ⟨a1, cap1, rfl, -, -, -⟩ := id hr
  have HR := Lib.hid hr; clear hr
  unfold trV
  cases hv : validB n k zs with
  | false =>
    obtain ⟨e1, e2, e3, e4⟩ := ack_bad (m := m) (show ackG n k m zs = false by rw [ackG, hv]; rfl)
    rw [e1, e2, e3, e4]; clear e1 e2 e3 e4
    have HV := Lib.hid hv; clear hv
    go_enter Try.func18, Try.ntmps18
    go_wp2_with fail
    refine (implTransferValid_any _ n k zs _ hl (HR.out.al _ |>.al _)).mono ?_
    rw [HV.out]
    rintro e w1 ⟨rfl, b1⟩
    have B0 := ((Blk.new w #[.slice a1 zs.length cap1, .int .i64 n, .int .i64 k] 33).al (.cells #[.slice none 0 0, .int .i64 0, .int .i64 0] 33)).bl b1
    have B1 := (Blk.new (w.alloc (.cells #[.slice a1 zs.length cap1, .int .i64 n, .int .i64 k] 33)) #[.slice none 0 0, .int .i64 0, .int .i64 0] 33).bl b1
    have hs := b1.size
    have c1 := bNext (bAl (below_alloc w _) _) b1
    simp only [World.size_alloc] at B0 B1 hs
    obtain ⟨x0, x1, x2⟩ := B0.get3; obtain ⟨y0, y1, y2⟩ := B1.get3
    obtain ⟨xf0, xf1, xf2⟩ := B0.fr3; obtain ⟨yf0, yf1, yf2⟩ := B1.fr3
    go_wp2
    refine bodyPost_ret (results_cellrow_tmp rfl _ _ (w.heap.size + 1) 33 #[.slice none 0 0, .int .i64 0, .int .i64 0] (0, 0) _ rfl (B1.put3 _ _ _).h Try.underlying33 rfl infoTr) rfl ⟨_, rfl, OwnInts.nil _ _, bP3 c1 (by omega) _ _ _⟩
  | true =>
    cases hi : inB m 0 n with
    | false =>
    obtain ⟨e1, e2, e3, e4⟩ := ack_bad (show ackG n k m zs = false by rw [ackG, hv, hi]; rfl)
    rw [e1, e2, e3, e4]; clear e1 e2 e3 e4
    have HV := Lib.hid hv; clear hv
    have HI := Lib.hid hi; clear hi
    go_enter Try.func18, Try.ntmps18
    go_wp2_with fail
    refine (implTransferValid_any _ n k zs _ hl (HR.out.al _ |>.al _)).mono ?_
    rw [HV.out]
    rintro e w1 ⟨rfl, b1⟩
    have B0 := ((Blk.new w #[.slice a1 zs.length cap1, .int .i64 n, .int .i64 k] 33).al (.cells #[.slice none 0 0, .int .i64 0, .int .i64 0] 33)).bl b1
    have B1 := (Blk.new (w.alloc (.cells #[.slice a1 zs.length cap1, .int .i64 n, .int .i64 k] 33)) #[.slice none 0 0, .int .i64 0, .int .i64 0] 33).bl b1
    have hs := b1.size
    have c1 := bNext (bAl (below_alloc w _) _) b1
    simp only [World.size_alloc] at B0 B1 hs
    obtain ⟨x0, x1, x2⟩ := B0.get3; obtain ⟨y0, y1, y2⟩ := B1.get3
    obtain ⟨xf0, xf1, xf2⟩ := B0.fr3; obtain ⟨yf0, yf1, yf2⟩ := B1.fr3
    go_wp2_with fail
    refine (inRange_any _ _ _ _).mono ?_
    rw [HI.out]
    rintro e w2 ⟨rfl, rfl⟩
    go_wp2
    refine bodyPost_ret (results_cellrow_tmp rfl _ _ (w.heap.size + 1) 33 #[.slice none 0 0, .int .i64 0, .int .i64 0] (0, 0) _ rfl (B1.put3 _ _ _).h Try.underlying33 rfl infoTr) rfl ⟨_, rfl, OwnInts.nil _ _, bP3 c1 (by omega) _ _ _⟩
    | true =>
    obtain ⟨e1, e2, e3, e4⟩ := ack_good (show ackG n k m zs = true by rw [ackG, hv, hi]; rfl)
    rw [e1, e2, e3, e4]; clear e1 e2 e3 e4
    have HV := Lib.hid hv; clear hv
    have HI := Lib.hid hi; clear hi
    rcases Int.lt_trichotomy k m with hkm | hkm | hkm
    · rw [show decide (k ≤ m) = true from decide_eq_true (by omega), show max k m = m by omega]
      have hd : decide (k ≤ m) = true := decide_eq_true (by omega)
      go_enter Try.func18, Try.ntmps18
      go_wp2_with fail
      refine (implTransferValid_any _ n k zs _ hl (HR.out.al _ |>.al _)).mono ?_
      rw [HV.out]
      rintro e w1 ⟨rfl, b1⟩
      have B0 := ((Blk.new w #[.slice a1 zs.length cap1, .int .i64 n, .int .i64 k] 33).al (.cells #[.slice none 0 0, .int .i64 0, .int .i64 0] 33)).bl b1
      have B1 := (Blk.new (w.alloc (.cells #[.slice a1 zs.length cap1, .int .i64 n, .int .i64 k] 33)) #[.slice none 0 0, .int .i64 0, .int .i64 0] 33).bl b1
      have hs := b1.size
      have c1 := bNext (bAl (below_alloc w _) _) b1
      simp only [World.size_alloc] at B0 B1 hs
      obtain ⟨x0, x1, x2⟩ := B0.get3; obtain ⟨y0, y1, y2⟩ := B1.get3
      obtain ⟨xf0, xf1, xf2⟩ := B0.fr3; obtain ⟨yf0, yf1, yf2⟩ := B1.fr3
      go_wp2_with fail
      refine (inRange_any _ _ _ _).mono ?_
      rw [HI.out]
      rintro e w2 ⟨rfl, rfl⟩
      go_wp2_with fail
      refine (copyTransfer_any _ _ _ zs _ hl (HR.out.bl c1)).mono ?_
      unfold trV
      rintro e w3 ⟨v3, rfl, o3, b3⟩
      clear x0 x1 x2 y0 y1 y2 xf0 xf1 xf2 yf0 yf1 yf2
      obtain ⟨a3, cap3, rfl, -, -, -⟩ := o3.reads
      have hal := below_alloc w3 (.cells #[.slice a3 zs.length cap3, .int .i64 n, .int .i64 k] 33)
      have C0 := (B0.bl b3).bl hal
      have C1 := (B1.bl b3).bl hal
      have C2 := Blk.new w3 #[.slice a3 zs.length cap3, .int .i64 n, .int .i64 k] 33
      have c3 := bNext (bNext c1 b3) hal
      have o3a := o3.bl hal
      have hs3 := b3.size
      clear hal
      obtain ⟨x0, x1, x2⟩ := C0.get3; obtain ⟨y0, y1, y2⟩ := C1.get3; obtain ⟨z0, z1, z2⟩ := C2.get3
      obtain ⟨yf0, yf1, yf2⟩ := C1.fr3; obtain ⟨zf0, zf1, zf2⟩ := C2.fr3
      go_wp2
      clear x0 x1 x2 y0 y1 y2 z0 z1 z2 yf0 yf1 yf2 zf0 zf1 zf2 C0 C1 C2 o3a c3
      have hal := below_alloc w3 (.cells #[.slice a3 zs.length cap3, .int .i64 n, .int .i64 m] 33)
      have C0 := (B0.bl b3).bl hal
      have C1 := (B1.bl b3).bl hal
      have C2 := Blk.new w3 #[.slice a3 zs.length cap3, .int .i64 n, .int .i64 m] 33
      have c3 := bNext (bNext c1 b3) hal
      have o3a := o3.bl hal
      clear hal
      obtain ⟨x0, x1, x2⟩ := C0.get3; obtain ⟨y0, y1, y2⟩ := C1.get3; obtain ⟨z0, z1, z2⟩ := C2.get3
      obtain ⟨yf0, yf1, yf2⟩ := C1.fr3
      go_region
      go_wp2
      exact bodyPost_ret (results_cellrow_tmp rfl _ _ (w.heap.size + 1) 33 #[.slice a3 zs.length cap3, .int .i64 n, .int .i64 m] (0, 0) _ rfl (C1.put3 (.slice a3 zs.length cap3) (.int .i64 n) (.int .i64 m)).h Try.underlying33 rfl infoTr) rfl ⟨_, rfl, (o3a.p3 (g := w.heap.size + 1) (by omega) (.slice a3 zs.length cap3) (.int .i64 n) (.int .i64 m)).base (by omega), Below.drew (bP3 c3 (g := w.heap.size + 1) (by omega) (.slice a3 zs.length cap3) (.int .i64 n) (.int .i64 m))⟩
    · subst hkm
      rw [show decide (k ≤ k) = true from decide_eq_true (by omega), show max k k = k by omega]
      go_enter Try.func18, Try.ntmps18
      go_wp2_with fail
      refine (implTransferValid_any _ n k zs _ hl (HR.out.al _ |>.al _)).mono ?_
      rw [HV.out]
      rintro e w1 ⟨rfl, b1⟩
      have B0 := ((Blk.new w #[.slice a1 zs.length cap1, .int .i64 n, .int .i64 k] 33).al (.cells #[.slice none 0 0, .int .i64 0, .int .i64 0] 33)).bl b1
      have B1 := (Blk.new (w.alloc (.cells #[.slice a1 zs.length cap1, .int .i64 n, .int .i64 k] 33)) #[.slice none 0 0, .int .i64 0, .int .i64 0] 33).bl b1
      have hs := b1.size
      have c1 := bNext (bAl (below_alloc w _) _) b1
      simp only [World.size_alloc] at B0 B1 hs
      obtain ⟨x0, x1, x2⟩ := B0.get3; obtain ⟨y0, y1, y2⟩ := B1.get3
      obtain ⟨xf0, xf1, xf2⟩ := B0.fr3; obtain ⟨yf0, yf1, yf2⟩ := B1.fr3
      go_wp2_with fail
      refine (inRange_any _ _ _ _).mono ?_
      rw [HI.out]
      rintro e w2 ⟨rfl, rfl⟩
      go_wp2_with fail
      refine (copyTransfer_any _ _ _ zs _ hl (HR.out.bl c1)).mono ?_
      unfold trV
      rintro e w3 ⟨v3, rfl, o3, b3⟩
      clear x0 x1 x2 y0 y1 y2 xf0 xf1 xf2 yf0 yf1 yf2
      obtain ⟨a3, cap3, rfl, -, -, -⟩ := o3.reads
      have hal := below_alloc w3 (.cells #[.slice a3 zs.length cap3, .int .i64 n, .int .i64 k] 33)
      have C0 := (B0.bl b3).bl hal
      have C1 := (B1.bl b3).bl hal
      have C2 := Blk.new w3 #[.slice a3 zs.length cap3, .int .i64 n, .int .i64 k] 33
      have c3 := bNext (bNext c1 b3) hal
      have o3a := o3.bl hal
      have hs3 := b3.size
      clear hal
      obtain ⟨x0, x1, x2⟩ := C0.get3; obtain ⟨y0, y1, y2⟩ := C1.get3; obtain ⟨z0, z1, z2⟩ := C2.get3
      obtain ⟨yf0, yf1, yf2⟩ := C1.fr3; obtain ⟨zf0, zf1, zf2⟩ := C2.fr3
      go_wp2
      clear x0 x1 x2 y0 y1 y2 z0 z1 z2 yf0 yf1 yf2 zf0 zf1 zf2 C0 C1 C2 o3a c3
      have hal := below_alloc w3 (.cells #[.slice a3 zs.length cap3, .int .i64 n, .int .i64 k] 33)
      have C0 := (B0.bl b3).bl hal
      have C1 := (B1.bl b3).bl hal
      have C2 := Blk.new w3 #[.slice a3 zs.length cap3, .int .i64 n, .int .i64 k] 33
      have c3 := bNext (bNext c1 b3) hal
      have o3a := o3.bl hal
      clear hal
      obtain ⟨x0, x1, x2⟩ := C0.get3; obtain ⟨y0, y1, y2⟩ := C1.get3; obtain ⟨z0, z1, z2⟩ := C2.get3
      obtain ⟨yf0, yf1, yf2⟩ := C1.fr3
      go_region
      go_wp2
      exact bodyPost_ret (results_cellrow_tmp rfl _ _ (w.heap.size + 1) 33 #[.slice a3 zs.length cap3, .int .i64 n, .int .i64 k] (0, 0) _ rfl (C1.put3 (.slice a3 zs.length cap3) (.int .i64 n) (.int .i64 k)).h Try.underlying33 rfl infoTr) rfl ⟨_, rfl, (o3a.p3 (g := w.heap.size + 1) (by omega) (.slice a3 zs.length cap3) (.int .i64 n) (.int .i64 k)).base (by omega), Below.drew (bP3 c3 (g := w.heap.size + 1) (by omega) (.slice a3 zs.length cap3) (.int .i64 n) (.int .i64 k))⟩
    · rw [show decide (k ≤ m) = false from decide_eq_false (by omega), show max k m = k by omega]
      have hd : decide (k ≤ m) = false := decide_eq_false (by omega)
      go_enter Try.func18, Try.ntmps18
      go_wp2_with fail
      refine (implTransferValid_any _ n k zs _ hl (HR.out.al _ |>.al _)).mono ?_
      rw [HV.out]
      rintro e w1 ⟨rfl, b1⟩
      have B0 := ((Blk.new w #[.slice a1 zs.length cap1, .int .i64 n, .int .i64 k] 33).al (.cells #[.slice none 0 0, .int .i64 0, .int .i64 0] 33)).bl b1
      have B1 := (Blk.new (w.alloc (.cells #[.slice a1 zs.length cap1, .int .i64 n, .int .i64 k] 33)) #[.slice none 0 0, .int .i64 0, .int .i64 0] 33).bl b1
      have hs := b1.size
      have c1 := bNext (bAl (below_alloc w _) _) b1
      simp only [World.size_alloc] at B0 B1 hs
      obtain ⟨x0, x1, x2⟩ := B0.get3; obtain ⟨y0, y1, y2⟩ := B1.get3
      obtain ⟨xf0, xf1, xf2⟩ := B0.fr3; obtain ⟨yf0, yf1, yf2⟩ := B1.fr3
      go_wp2_with fail
      refine (inRange_any _ _ _ _).mono ?_
      rw [HI.out]
      rintro e w2 ⟨rfl, rfl⟩
      go_wp2_with fail
      refine (copyTransfer_any _ _ _ zs _ hl (HR.out.bl c1)).mono ?_
      unfold trV
      rintro e w3 ⟨v3, rfl, o3, b3⟩
      clear x0 x1 x2 y0 y1 y2 xf0 xf1 xf2 yf0 yf1 yf2
      obtain ⟨a3, cap3, rfl, -, -, -⟩ := o3.reads
      have hal := below_alloc w3 (.cells #[.slice a3 zs.length cap3, .int .i64 n, .int .i64 k] 33)
      have C0 := (B0.bl b3).bl hal
      have C1 := (B1.bl b3).bl hal
      have C2 := Blk.new w3 #[.slice a3 zs.length cap3, .int .i64 n, .int .i64 k] 33
      have c3 := bNext (bNext c1 b3) hal
      have o3a := o3.bl hal
      have hs3 := b3.size
      clear hal
      obtain ⟨x0, x1, x2⟩ := C0.get3; obtain ⟨y0, y1, y2⟩ := C1.get3; obtain ⟨z0, z1, z2⟩ := C2.get3
      obtain ⟨yf0, yf1, yf2⟩ := C1.fr3; obtain ⟨zf0, zf1, zf2⟩ := C2.fr3
      go_wp2
      clear x0 x1 x2 y0 y1 y2 z0 z1 z2 yf0 yf1 yf2 zf0 zf1 zf2 C0 C1 C2 o3a c3
      have hal := below_alloc w3 (.cells #[.slice a3 zs.length cap3, .int .i64 n, .int .i64 k] 33)
      have C0 := (B0.bl b3).bl hal
      have C1 := (B1.bl b3).bl hal
      have C2 := Blk.new w3 #[.slice a3 zs.length cap3, .int .i64 n, .int .i64 k] 33
      have c3 := bNext (bNext c1 b3) hal
      have o3a := o3.bl hal
      clear hal
      obtain ⟨x0, x1, x2⟩ := C0.get3; obtain ⟨y0, y1, y2⟩ := C1.get3; obtain ⟨z0, z1, z2⟩ := C2.get3
      obtain ⟨yf0, yf1, yf2⟩ := C1.fr3
      go_region
      go_wp2
      exact bodyPost_ret (results_cellrow_tmp rfl _ _ (w.heap.size + 1) 33 #[.slice a3 zs.length cap3, .int .i64 n, .int .i64 k] (0, 0) _ rfl (C1.put3 (.slice a3 zs.length cap3) (.int .i64 n) (.int .i64 k)).h Try.underlying33 rfl infoTr) rfl ⟨_, rfl, (o3a.p3 (g := w.heap.size + 1) (by omega) (.slice a3 zs.length cap3) (.int .i64 n) (.int .i64 k)).base (by omega), Below.drew (bP3 c3 (g := w.heap.size + 1) (by omega) (.slice a3 zs.length cap3) (.int .i64 n) (.int .i64 k))⟩

set_option maxHeartbeats 600000 in
theorem specTransferAck_any (u : Value) (n k m : Int) (zs : List Int) (B : Nat) (w : World) (hl : zs.length ≤ 4194304) (ho : OwnInts w B u zs) :
    Calls Try.prog 19 #[trV u n k, .int .i64 m] w fun e w' => ∃ u', e = .returned (.tuple #[trV u' (ackN n k m zs) (ackK n k m zs), .bool (ackT n k m zs)]) ∧ OwnInts w' w.heap.size u' (ackL n k m zs) ∧ Below w.heap.size w w' := by
  obtain ⟨a1, cap1, rfl, -, -, -⟩ := id ho.reads
  have HR := Lib.hid ho; clear ho
  unfold trV
  cases hv : validB n k zs with
  | false =>
    obtain ⟨e1, e2, e3, e4⟩ := ack_bad (m := m) (show ackG n k m zs = false by rw [ackG, hv]; rfl)
    rw [e1, e2, e3, e4]; clear e1 e2 e3 e4
    have HV := Lib.hid hv; clear hv
    go_enter Try.func19, Try.ntmps19
    go_wp2_with fail
    refine (specTransferValid_any _ n k zs _ hl (HR.out.al _ |>.al _).reads).mono ?_
    rw [HV.out]
    rintro e w1 ⟨rfl, b1⟩
    have B0 := ((Blk.new w #[.slice a1 zs.length cap1, .int .i64 n, .int .i64 k] 33).al (.cells #[.slice none 0 0, .int .i64 0, .int .i64 0] 33)).bl b1
    have B1 := (Blk.new (w.alloc (.cells #[.slice a1 zs.length cap1, .int .i64 n, .int .i64 k] 33)) #[.slice none 0 0, .int .i64 0, .int .i64 0] 33).bl b1
    have hs := b1.size
    have c1 := bNext (bAl (below_alloc w _) _) b1
    simp only [World.size_alloc] at B0 B1 hs
    obtain ⟨x0, x1, x2⟩ := B0.get3; obtain ⟨y0, y1, y2⟩ := B1.get3
    obtain ⟨xf0, xf1, xf2⟩ := B0.fr3; obtain ⟨yf0, yf1, yf2⟩ := B1.fr3
    go_wp2
    refine bodyPost_ret (results_cellrow_tmp rfl _ _ (w.heap.size + 1) 33 #[.slice none 0 0, .int .i64 0, .int .i64 0] (0, 0) _ rfl (B1.put3 _ _ _).h Try.underlying33 rfl infoTr) rfl ⟨_, rfl, OwnInts.nil _ _, bP3 c1 (by omega) _ _ _⟩
  | true =>
    cases hi : inB m 0 n with
    | false =>
    obtain ⟨e1, e2, e3, e4⟩ := ack_bad (show ackG n k m zs = false by rw [ackG, hv, hi]; rfl)
    rw [e1, e2, e3, e4]; clear e1 e2 e3 e4
    have HV := Lib.hid hv; clear hv
    have HI := Lib.hid hi; clear hi
    go_enter Try.func19, Try.ntmps19
    go_wp2_with fail
    refine (specTransferValid_any _ n k zs _ hl (HR.out.al _ |>.al _).reads).mono ?_
    rw [HV.out]
    rintro e w1 ⟨rfl, b1⟩
    have B0 := ((Blk.new w #[.slice a1 zs.length cap1, .int .i64 n, .int .i64 k] 33).al (.cells #[.slice none 0 0, .int .i64 0, .int .i64 0] 33)).bl b1
    have B1 := (Blk.new (w.alloc (.cells #[.slice a1 zs.length cap1, .int .i64 n, .int .i64 k] 33)) #[.slice none 0 0, .int .i64 0, .int .i64 0] 33).bl b1
    have hs := b1.size
    have c1 := bNext (bAl (below_alloc w _) _) b1
    simp only [World.size_alloc] at B0 B1 hs
    obtain ⟨x0, x1, x2⟩ := B0.get3; obtain ⟨y0, y1, y2⟩ := B1.get3
    obtain ⟨xf0, xf1, xf2⟩ := B0.fr3; obtain ⟨yf0, yf1, yf2⟩ := B1.fr3
    go_wp2_with fail
    refine (l6In_any _ _ _ _).mono ?_
    rw [HI.out]
    rintro e w2 ⟨rfl, rfl⟩
    go_wp2
    refine bodyPost_ret (results_cellrow_tmp rfl _ _ (w.heap.size + 1) 33 #[.slice none 0 0, .int .i64 0, .int .i64 0] (0, 0) _ rfl (B1.put3 _ _ _).h Try.underlying33 rfl infoTr) rfl ⟨_, rfl, OwnInts.nil _ _, bP3 c1 (by omega) _ _ _⟩
    | true =>
    obtain ⟨e1, e2, e3, e4⟩ := ack_good (show ackG n k m zs = true by rw [ackG, hv, hi]; rfl)
    rw [e1, e2, e3, e4]; clear e1 e2 e3 e4
    have HV := Lib.hid hv; clear hv
    have HI := Lib.hid hi; clear hi
    rcases Int.lt_trichotomy k m with hkm | hkm | hkm
    · rw [show decide (k ≤ m) = true from decide_eq_true (by omega), show max k m = m by omega]
      have hd : decide (k ≤ m) = true := decide_eq_true (by omega)
      go_enter Try.func19, Try.ntmps19
      go_wp2_with fail
      refine (specTransferValid_any _ n k zs _ hl (HR.out.al _ |>.al _).reads).mono ?_
      rw [HV.out]
      rintro e w1 ⟨rfl, b1⟩
      have B0 := ((Blk.new w #[.slice a1 zs.length cap1, .int .i64 n, .int .i64 k] 33).al (.cells #[.slice none 0 0, .int .i64 0, .int .i64 0] 33)).bl b1
      have B1 := (Blk.new (w.alloc (.cells #[.slice a1 zs.length cap1, .int .i64 n, .int .i64 k] 33)) #[.slice none 0 0, .int .i64 0, .int .i64 0] 33).bl b1
      have hs := b1.size
      have c1 := bNext (bAl (below_alloc w _) _) b1
      simp only [World.size_alloc] at B0 B1 hs
      obtain ⟨x0, x1, x2⟩ := B0.get3; obtain ⟨y0, y1, y2⟩ := B1.get3
      obtain ⟨xf0, xf1, xf2⟩ := B0.fr3; obtain ⟨yf0, yf1, yf2⟩ := B1.fr3
      go_wp2_with fail
      refine (l6In_any _ _ _ _).mono ?_
      rw [HI.out]
      rintro e w2 ⟨rfl, rfl⟩
      go_wp2_with fail
      refine (l22Copy_any _ _ _ zs _ _ hl (HR.out.bl c1)).mono ?_
      unfold trV
      rintro e w3 ⟨v3, rfl, o3, b3⟩
      clear x0 x1 x2 y0 y1 y2 xf0 xf1 xf2 yf0 yf1 yf2
      obtain ⟨a3, cap3, rfl, -, -, -⟩ := o3.reads
      have hal := below_alloc w3 (.cells #[.slice a3 zs.length cap3, .int .i64 n, .int .i64 k] 33)
      have C0 := (B0.bl b3).bl hal
      have C1 := (B1.bl b3).bl hal
      have C2 := Blk.new w3 #[.slice a3 zs.length cap3, .int .i64 n, .int .i64 k] 33
      have c3 := bNext (bNext c1 b3) hal
      have o3a := o3.bl hal
      have hs3 := b3.size
      clear hal
      obtain ⟨x0, x1, x2⟩ := C0.get3; obtain ⟨y0, y1, y2⟩ := C1.get3; obtain ⟨z0, z1, z2⟩ := C2.get3
      obtain ⟨yf0, yf1, yf2⟩ := C1.fr3; obtain ⟨zf0, zf1, zf2⟩ := C2.fr3
      go_wp2
      clear x0 x1 x2 y0 y1 y2 z0 z1 z2 yf0 yf1 yf2 zf0 zf1 zf2 C0 C1 C2 o3a c3
      have hal := below_alloc w3 (.cells #[.slice a3 zs.length cap3, .int .i64 n, .int .i64 m] 33)
      have C0 := (B0.bl b3).bl hal
      have C1 := (B1.bl b3).bl hal
      have C2 := Blk.new w3 #[.slice a3 zs.length cap3, .int .i64 n, .int .i64 m] 33
      have c3 := bNext (bNext c1 b3) hal
      have o3a := o3.bl hal
      clear hal
      obtain ⟨x0, x1, x2⟩ := C0.get3; obtain ⟨y0, y1, y2⟩ := C1.get3; obtain ⟨z0, z1, z2⟩ := C2.get3
      obtain ⟨yf0, yf1, yf2⟩ := C1.fr3
      go_region
      go_wp2
      exact bodyPost_ret (results_cellrow_tmp rfl _ _ (w.heap.size + 1) 33 #[.slice a3 zs.length cap3, .int .i64 n, .int .i64 m] (0, 0) _ rfl (C1.put3 (.slice a3 zs.length cap3) (.int .i64 n) (.int .i64 m)).h Try.underlying33 rfl infoTr) rfl ⟨_, rfl, (o3a.p3 (g := w.heap.size + 1) (by omega) (.slice a3 zs.length cap3) (.int .i64 n) (.int .i64 m)).base (by omega), Below.drew (bP3 c3 (g := w.heap.size + 1) (by omega) (.slice a3 zs.length cap3) (.int .i64 n) (.int .i64 m))⟩
    · subst hkm
      rw [show decide (k ≤ k) = true from decide_eq_true (by omega), show max k k = k by omega]
      go_enter Try.func19, Try.ntmps19
      go_wp2_with fail
      refine (specTransferValid_any _ n k zs _ hl (HR.out.al _ |>.al _).reads).mono ?_
      rw [HV.out]
      rintro e w1 ⟨rfl, b1⟩
      have B0 := ((Blk.new w #[.slice a1 zs.length cap1, .int .i64 n, .int .i64 k] 33).al (.cells #[.slice none 0 0, .int .i64 0, .int .i64 0] 33)).bl b1
      have B1 := (Blk.new (w.alloc (.cells #[.slice a1 zs.length cap1, .int .i64 n, .int .i64 k] 33)) #[.slice none 0 0, .int .i64 0, .int .i64 0] 33).bl b1
      have hs := b1.size
      have c1 := bNext (bAl (below_alloc w _) _) b1
      simp only [World.size_alloc] at B0 B1 hs
      obtain ⟨x0, x1, x2⟩ := B0.get3; obtain ⟨y0, y1, y2⟩ := B1.get3
      obtain ⟨xf0, xf1, xf2⟩ := B0.fr3; obtain ⟨yf0, yf1, yf2⟩ := B1.fr3
      go_wp2_with fail
      refine (l6In_any _ _ _ _).mono ?_
      rw [HI.out]
      rintro e w2 ⟨rfl, rfl⟩
      go_wp2_with fail
      refine (l22Copy_any _ _ _ zs _ _ hl (HR.out.bl c1)).mono ?_
      unfold trV
      rintro e w3 ⟨v3, rfl, o3, b3⟩
      clear x0 x1 x2 y0 y1 y2 xf0 xf1 xf2 yf0 yf1 yf2
      obtain ⟨a3, cap3, rfl, -, -, -⟩ := o3.reads
      have hal := below_alloc w3 (.cells #[.slice a3 zs.length cap3, .int .i64 n, .int .i64 k] 33)
      have C0 := (B0.bl b3).bl hal
      have C1 := (B1.bl b3).bl hal
      have C2 := Blk.new w3 #[.slice a3 zs.length cap3, .int .i64 n, .int .i64 k] 33
      have c3 := bNext (bNext c1 b3) hal
      have o3a := o3.bl hal
      have hs3 := b3.size
      clear hal
      obtain ⟨x0, x1, x2⟩ := C0.get3; obtain ⟨y0, y1, y2⟩ := C1.get3; obtain ⟨z0, z1, z2⟩ := C2.get3
      obtain ⟨yf0, yf1, yf2⟩ := C1.fr3; obtain ⟨zf0, zf1, zf2⟩ := C2.fr3
      go_wp2
      clear x0 x1 x2 y0 y1 y2 z0 z1 z2 yf0 yf1 yf2 zf0 zf1 zf2 C0 C1 C2 o3a c3
      have hal := below_alloc w3 (.cells #[.slice a3 zs.length cap3, .int .i64 n, .int .i64 k] 33)
      have C0 := (B0.bl b3).bl hal
      have C1 := (B1.bl b3).bl hal
      have C2 := Blk.new w3 #[.slice a3 zs.length cap3, .int .i64 n, .int .i64 k] 33
      have c3 := bNext (bNext c1 b3) hal
      have o3a := o3.bl hal
      clear hal
      obtain ⟨x0, x1, x2⟩ := C0.get3; obtain ⟨y0, y1, y2⟩ := C1.get3; obtain ⟨z0, z1, z2⟩ := C2.get3
      obtain ⟨yf0, yf1, yf2⟩ := C1.fr3
      go_region
      go_wp2
      exact bodyPost_ret (results_cellrow_tmp rfl _ _ (w.heap.size + 1) 33 #[.slice a3 zs.length cap3, .int .i64 n, .int .i64 k] (0, 0) _ rfl (C1.put3 (.slice a3 zs.length cap3) (.int .i64 n) (.int .i64 k)).h Try.underlying33 rfl infoTr) rfl ⟨_, rfl, (o3a.p3 (g := w.heap.size + 1) (by omega) (.slice a3 zs.length cap3) (.int .i64 n) (.int .i64 k)).base (by omega), Below.drew (bP3 c3 (g := w.heap.size + 1) (by omega) (.slice a3 zs.length cap3) (.int .i64 n) (.int .i64 k))⟩
    · rw [show decide (k ≤ m) = false from decide_eq_false (by omega), show max k m = k by omega]
      have hd : decide (k ≤ m) = false := decide_eq_false (by omega)
      go_enter Try.func19, Try.ntmps19
      go_wp2_with fail
      refine (specTransferValid_any _ n k zs _ hl (HR.out.al _ |>.al _).reads).mono ?_
      rw [HV.out]
      rintro e w1 ⟨rfl, b1⟩
      have B0 := ((Blk.new w #[.slice a1 zs.length cap1, .int .i64 n, .int .i64 k] 33).al (.cells #[.slice none 0 0, .int .i64 0, .int .i64 0] 33)).bl b1
      have B1 := (Blk.new (w.alloc (.cells #[.slice a1 zs.length cap1, .int .i64 n, .int .i64 k] 33)) #[.slice none 0 0, .int .i64 0, .int .i64 0] 33).bl b1
      have hs := b1.size
      have c1 := bNext (bAl (below_alloc w _) _) b1
      simp only [World.size_alloc] at B0 B1 hs
      obtain ⟨x0, x1, x2⟩ := B0.get3; obtain ⟨y0, y1, y2⟩ := B1.get3
      obtain ⟨xf0, xf1, xf2⟩ := B0.fr3; obtain ⟨yf0, yf1, yf2⟩ := B1.fr3
      go_wp2_with fail
      refine (l6In_any _ _ _ _).mono ?_
      rw [HI.out]
      rintro e w2 ⟨rfl, rfl⟩
      go_wp2_with fail
      refine (l22Copy_any _ _ _ zs _ _ hl (HR.out.bl c1)).mono ?_
      unfold trV
      rintro e w3 ⟨v3, rfl, o3, b3⟩
      clear x0 x1 x2 y0 y1 y2 xf0 xf1 xf2 yf0 yf1 yf2
      obtain ⟨a3, cap3, rfl, -, -, -⟩ := o3.reads
      have hal := below_alloc w3 (.cells #[.slice a3 zs.length cap3, .int .i64 n, .int .i64 k] 33)
      have C0 := (B0.bl b3).bl hal
      have C1 := (B1.bl b3).bl hal
      have C2 := Blk.new w3 #[.slice a3 zs.length cap3, .int .i64 n, .int .i64 k] 33
      have c3 := bNext (bNext c1 b3) hal
      have o3a := o3.bl hal
      have hs3 := b3.size
      clear hal
      obtain ⟨x0, x1, x2⟩ := C0.get3; obtain ⟨y0, y1, y2⟩ := C1.get3; obtain ⟨z0, z1, z2⟩ := C2.get3
      obtain ⟨yf0, yf1, yf2⟩ := C1.fr3; obtain ⟨zf0, zf1, zf2⟩ := C2.fr3
      go_wp2
      clear x0 x1 x2 y0 y1 y2 z0 z1 z2 yf0 yf1 yf2 zf0 zf1 zf2 C0 C1 C2 o3a c3
      have hal := below_alloc w3 (.cells #[.slice a3 zs.length cap3, .int .i64 n, .int .i64 k] 33)
      have C0 := (B0.bl b3).bl hal
      have C1 := (B1.bl b3).bl hal
      have C2 := Blk.new w3 #[.slice a3 zs.length cap3, .int .i64 n, .int .i64 k] 33
      have c3 := bNext (bNext c1 b3) hal
      have o3a := o3.bl hal
      clear hal
      obtain ⟨x0, x1, x2⟩ := C0.get3; obtain ⟨y0, y1, y2⟩ := C1.get3; obtain ⟨z0, z1, z2⟩ := C2.get3
      obtain ⟨yf0, yf1, yf2⟩ := C1.fr3
      go_region
      go_wp2
      exact bodyPost_ret (results_cellrow_tmp rfl _ _ (w.heap.size + 1) 33 #[.slice a3 zs.length cap3, .int .i64 n, .int .i64 k] (0, 0) _ rfl (C1.put3 (.slice a3 zs.length cap3) (.int .i64 n) (.int .i64 k)).h Try.underlying33 rfl infoTr) rfl ⟨_, rfl, (o3a.p3 (g := w.heap.size + 1) (by omega) (.slice a3 zs.length cap3) (.int .i64 n) (.int .i64 k)).base (by omega), Below.drew (bP3 c3 (g := w.heap.size + 1) (by omega) (.slice a3 zs.length cap3) (.int .i64 n) (.int .i64 k))⟩

set_option maxHeartbeats 600000 in
theorem implTransferResume_any (u : Value) (n k : Int) (zs : List Int) (w : World) (hl : zs.length ≤ 4194304) (hr : RInts w u zs) :
    Calls Try.prog 27 #[trV u n k] w fun e w' => ∃ u', e = .returned (trV u' (resN n k zs) (resN n k zs)) ∧ OwnInts w' w.heap.size u' (resL n k zs) ∧ Below w.heap.size w w' := by
  obtain ⟨a1, cap1, rfl, -, -, -⟩ := id hr
  have HR := Lib.hid hr; clear hr
  unfold trV
  cases hv : validB n k zs with
  | false =>
    obtain ⟨e1, e2⟩ := res_bad hv
    rw [e1, e2]; clear e1 e2
    have HV := Lib.hid hv; clear hv
    go_enter Try.func27, Try.ntmps27
    go_wp2_with fail
    refine (implTransferValid_any _ n k zs _ hl (HR.out.al _ |>.al _)).mono ?_
    rw [HV.out]
    rintro e w1 ⟨rfl, b1⟩
    have B0 := ((Blk.new w #[.slice a1 zs.length cap1, .int .i64 n, .int .i64 k] 33).al (.cells #[.slice none 0 0, .int .i64 0, .int .i64 0] 33)).bl b1
    have B1 := (Blk.new (w.alloc (.cells #[.slice a1 zs.length cap1, .int .i64 n, .int .i64 k] 33)) #[.slice none 0 0, .int .i64 0, .int .i64 0] 33).bl b1
    have hs := b1.size
    have c1 := bNext (bAl (below_alloc w _) _) b1
    simp only [World.size_alloc] at B0 B1 hs
    obtain ⟨x0, x1, x2⟩ := B0.get3; obtain ⟨y0, y1, y2⟩ := B1.get3
    obtain ⟨xf0, xf1, xf2⟩ := B0.fr3; obtain ⟨yf0, yf1, yf2⟩ := B1.fr3
    go_wp2
    refine bodyPost_ret (results_cell_row rfl _ _ (w.heap.size + 1) 33 #[.slice none 0 0, .int .i64 0, .int .i64 0] (0, 0) _ rfl (B1.put3 _ _ _).h Try.underlying33 rfl infoTr) rfl ⟨_, rfl, OwnInts.nil _ _, bP3 c1 (by omega) _ _ _⟩
  | true =>
    obtain ⟨e1, e2⟩ := res_good hv
    rw [e1, e2]; clear e1 e2
    have HV := Lib.hid hv; clear hv
    go_enter Try.func27, Try.ntmps27
    go_wp2_with fail
    refine (implTransferValid_any _ n k zs _ hl (HR.out.al _ |>.al _)).mono ?_
    rw [HV.out]
    rintro e w1 ⟨rfl, b1⟩
    have B0 := ((Blk.new w #[.slice a1 zs.length cap1, .int .i64 n, .int .i64 k] 33).al (.cells #[.slice none 0 0, .int .i64 0, .int .i64 0] 33)).bl b1
    have B1 := (Blk.new (w.alloc (.cells #[.slice a1 zs.length cap1, .int .i64 n, .int .i64 k] 33)) #[.slice none 0 0, .int .i64 0, .int .i64 0] 33).bl b1
    have hs := b1.size
    have c1 := bNext (bAl (below_alloc w _) _) b1
    simp only [World.size_alloc] at B0 B1 hs
    obtain ⟨x0, x1, x2⟩ := B0.get3; obtain ⟨y0, y1, y2⟩ := B1.get3
    obtain ⟨xf0, xf1, xf2⟩ := B0.fr3; obtain ⟨yf0, yf1, yf2⟩ := B1.fr3
    go_wp2_with fail
    refine (copyTransfer_any _ _ _ zs _ hl (HR.out.bl c1)).mono ?_
    unfold trV
    rintro e w3 ⟨v3, rfl, o3, b3⟩
    clear x0 x1 x2 y0 y1 y2 xf0 xf1 xf2 yf0 yf1 yf2
    obtain ⟨a3, cap3, rfl, -, -, -⟩ := o3.reads
    have hs3 := b3.size
    have hal := below_alloc w3 (.cells #[.slice a3 zs.length cap3, .int .i64 n, .int .i64 k] 33)
    have C0 := (B0.bl b3).bl hal
    have C1 := (B1.bl b3).bl hal
    clear hal
    have hal := below_alloc w3 (.cells #[.slice a3 zs.length cap3, .int .i64 k, .int .i64 k] 33)
    have D1 := (B1.bl b3).bl hal
    have c3 := bNext (bNext c1 b3) hal
    have o3a := o3.bl hal
    clear hal
    obtain ⟨x0, x1, x2⟩ := C0.get3; obtain ⟨y0, y1, y2⟩ := C1.get3
    obtain ⟨yf0, yf1, yf2⟩ := C1.fr3
    obtain ⟨q0, q1, q2⟩ := D1.get3
    obtain ⟨qf0, qf1, qf2⟩ := D1.fr3
    go_wp2
    exact bodyPost_ret (results_cell_row rfl _ _ (w.heap.size + 1) 33 #[.slice a3 zs.length cap3, .int .i64 k, .int .i64 k] (0, 0) _ rfl (D1.put3 (.slice a3 zs.length cap3) (.int .i64 k) (.int .i64 k)).h Try.underlying33 rfl infoTr) rfl ⟨_, rfl, (o3a.p3 (g := w.heap.size + 1) (by omega) (.slice a3 zs.length cap3) (.int .i64 k) (.int .i64 k)).base (by omega), bP3 c3 (g := w.heap.size + 1) (by omega) (.slice a3 zs.length cap3) (.int .i64 k) (.int .i64 k)⟩

end Go.Proofs.Ytlfmgagokaekjaa
