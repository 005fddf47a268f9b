/- szTransfer and toTransfer of the laws. -/
import Derived.Test.YtlfmgagokaekjaaTrEq
import Derived.Test.YtlfmgagokaekjaaMem
namespace Go.Proofs.Ytlfmgagokaekjaa
open Go.RowKit
set_option linter.unusedVariables false
set_option linter.unusedSimpArgs false

theorem al3 (w : World) (a b c : Obj) : Below w.heap.size w (((w.alloc a).alloc b).alloc c) := bAl (bAl (below_alloc w a) b) c

set_option maxHeartbeats 400000 in
theorem toTransfer_any (u : Value) (n k : Int) (zs : List Int) (w : World) (hl : zs.length ≤ 4194304) (hr : RInts w u zs) :
    Calls Try.prog 32 #[trV u n k] w fun e w' => ∃ u', e = .returned (trV u' n k) ∧ OwnInts w' w.heap.size u' zs ∧ Below w.heap.size w w' := by
  obtain ⟨a1, cap1, rfl, -, -, -⟩ := id hr
  have HR := Lib.hid hr; clear hr
  unfold trV
  go_enter Try.func32, Try.ntmps32
  go_wp2_with fail
  refine (toIntS_any _ zs _ hl (HR.out.bl (al3 _ _ _ _))).mono ?_
  rintro e w3 ⟨v3, rfl, o3, b3⟩
  obtain ⟨a3, cap3, rfl, -, -, -⟩ := o3.reads
  have c3 := bNext (al3 w _ _ _) b3
  have B0 := (((Blk.new w #[.slice a1 zs.length cap1, .int .i64 n, .int .i64 k] 47).al (.cells #[.slice none 0 0, .int .i64 0, .int .i64 0] 33)).al (.cells #[.slice none 0 0, .int .i64 0, .int .i64 0] 33)).bl b3
  have hs := b3.size
  have B1 := ((Blk.new (w.alloc (.cells #[.slice a1 zs.length cap1, .int .i64 n, .int .i64 k] 47)) #[.slice none 0 0, .int .i64 0, .int .i64 0] 33).al (.cells #[.slice none 0 0, .int .i64 0, .int .i64 0] 33)).bl b3
  have B2 := (Blk.new ((w.alloc (.cells #[.slice a1 zs.length cap1, .int .i64 n, .int .i64 k] 47)).alloc (.cells #[.slice none 0 0, .int .i64 0, .int .i64 0] 33)) #[.slice none 0 0, .int .i64 0, .int .i64 0] 33).bl b3
  simp only [World.size_alloc] at B0 B1 B2 o3 hs
  obtain ⟨x0, x1, x2⟩ := B0.get3; obtain ⟨y0, y1, y2⟩ := B1.get3; obtain ⟨z0, z1, z2⟩ := B2.get3
  obtain ⟨yf0, yf1, yf2⟩ := B1.fr3; obtain ⟨zf0, zf1, zf2⟩ := B2.fr3
  go_wp2
  refine bodyPost_ret (results_cell_row rfl _ _ (w.heap.size + 1) 33 #[.slice a3 zs.length cap3, .int .i64 n, .int .i64 k] (0, 0) _ rfl ((B1.po3 (w.heap.size + 1 + 1) _ _ _ (by omega)).put3 _ _ _).h Try.underlying33 rfl infoTr) rfl ⟨_, rfl, ((o3.p3 (by omega) _ _ _).p3 (by omega) _ _ _).base (by omega), bP3 (bP3 c3 (by omega) _ _ _) (by omega) _ _ _⟩

set_option maxHeartbeats 400000 in
theorem szIntS_any (v : Value) (zs : List Int) (l : Int) (w : World) (h0 : 0 ≤ l) (h1 : l ≤ 4611686018427387904) (hr : RInts w v zs) :
    Calls Try.prog 52 #[v, .int .i64 l] w fun e w' => e = .returned (.int .i64 (if l < zs.length then -1 else l - zs.length)) ∧ w = w' := by
  obtain ⟨a, cap, rfl, hc, hm, -⟩ := hr
  have hml : maxLen ≤ 9223372036854775807 := by decide
  have hlen : (zs.length : Int) ≤ 9223372036854775807 := by omega
  by_cases h : l < zs.length
  · have hd : decide (l - (zs.length : Int) < 0) = true := decide_eq_true (by omega)
    rw [if_pos h]
    go_enter Try.func52, Try.ntmps52
    go_wp2
    go_ret
    exact ⟨rfl, rfl⟩
  · have hd : decide (l - (zs.length : Int) < 0) = false := decide_eq_false (by omega)
    rw [if_neg h]
    go_enter Try.func52, Try.ntmps52
    go_wp2
    go_ret
    exact ⟨rfl, rfl⟩

set_option maxHeartbeats 400000 in
theorem szTransfer_any (u : Value) (n k l : Int) (zs : List Int) (w : World) (h0 : 0 ≤ l) (h1 : l ≤ 4611686018427387904) (hr : RInts w u zs) :
    Calls Try.prog 31 #[trV u n k, .int .i64 l] w fun e w' => e = .returned (.int .i64 (if l < zs.length then -1 else l - zs.length)) ∧ Below w.heap.size w w' := by
  obtain ⟨a1, cap1, rfl, -, -, -⟩ := id hr
  have HR := Lib.hid hr; clear hr
  unfold trV
  by_cases h : l < zs.length
  · rw [if_pos h]
    go_enter Try.func31, Try.ntmps31
    go_wp2_with fail
    refine (szIntS_any _ zs _ _ h0 h1 (HR.out.al _)).mono ?_
    rw [if_pos h]
    rintro e w1 ⟨rfl, rfl⟩
    go_wp2
    go_ret
    exact ⟨rfl, below_alloc _ _⟩
  · rw [if_neg h]
    have hd : decide (l - (zs.length : Int) < 0) = false := decide_eq_false (by omega)
    have e1 : l - (zs.length : Int) ≤ 4611686018427387904 := by omega
    have e2 : 0 ≤ l - (zs.length : Int) := by omega
    go_enter Try.func31, Try.ntmps31
    go_wp2_with fail
    refine (szIntS_any _ zs _ _ h0 h1 (HR.out.al _)).mono ?_
    rw [if_neg (by omega)]
    rintro e w1 ⟨rfl, rfl⟩
    go_wp2
    go_ret
    exact ⟨rfl, below_alloc _ _⟩

set_option maxHeartbeats 400000 in
theorem copyTransfer_any (u : Value) (n k : Int) (zs : List Int) (w : World) (hl : zs.length ≤ 4194304) (hr : RInts w u zs) :
    Calls Try.prog 49 #[trV u n k] w fun e w' => ∃ u', e = .returned (trV u' n k) ∧ OwnInts w' w.heap.size u' zs ∧ Below w.heap.size w w' := by
  obtain ⟨a1, cap1, rfl, -, -, -⟩ := id hr
  have HR := Lib.hid hr; clear hr
  unfold trV
  go_enter Try.func49, Try.ntmps49
  go_wp2_with fail
  refine (clone_any _ zs _ hl ((HR.out.al _).al _)).mono ?_
  rintro e w3 ⟨v3, rfl, o3, b3⟩
  obtain ⟨a3, cap3, rfl, -, -, -⟩ := o3.reads
  have c3 := bNext (bAl (below_alloc w _) _) b3
  have B0 := ((Blk.new w #[.slice a1 zs.length cap1, .int .i64 n, .int .i64 k] 33).al (.cells #[.slice none 0 0, .int .i64 0, .int .i64 0] 33)).bl b3
  have B1 := (Blk.new (w.alloc (.cells #[.slice a1 zs.length cap1, .int .i64 n, .int .i64 k] 33)) #[.slice none 0 0, .int .i64 0, .int .i64 0] 33).bl b3
  have hs := b3.size
  simp only [World.size_alloc] at B0 B1 o3 hs
  obtain ⟨x0, x1, x2⟩ := B0.get3; obtain ⟨y0, y1, y2⟩ := B1.get3
  obtain ⟨xf0, xf1, xf2⟩ := B0.fr3; obtain ⟨yf0, yf1, yf2⟩ := B1.fr3
  go_wp2
  refine bodyPost_ret (results_cell_row rfl _ _ (w.heap.size + 1) 33 #[.slice a3 zs.length cap3, .int .i64 n, .int .i64 k] (0, 0) _ rfl ((B1.so w.heap.size 0 _ (by omega)).put3 _ _ _).h Try.underlying33 rfl infoTr) rfl ⟨_, rfl, ((o3.sc (by omega) _ _).p3 (by omega) _ _ _).base (by omega), bP3 (bSc c3 (by omega) _ _) (by omega) _ _ _⟩

set_option maxHeartbeats 400000 in
theorem l22Copy_any (u : Value) (n k : Int) (zs : List Int) (B : Nat) (w : World) (hl : zs.length ≤ 4194304) (ho : OwnInts w B u zs) :
    Calls Try.prog 51 #[trV u n k] w fun e w' => ∃ u', e = .returned (trV u' n k) ∧ OwnInts w' w.heap.size u' zs ∧ Below w.heap.size w w' := by
  obtain ⟨a1, cap1, rfl, -, -, -⟩ := id ho.reads
  have HO := Lib.hid ho; clear ho
  unfold trV
  go_enter Try.func51, Try.ntmps51
  go_wp2_with (at_builtin; refine wpList_copyOwn _ rfl _ _ rfl _ rfl (by simp) _ rfl B zs ((HO.out.al _).al _) hl ?_)
  intro v3 w3 o3 b3
  obtain ⟨a3, cap3, rfl, -, -, -⟩ := o3.reads
  have c3 := bNx (bAl (below_alloc w _) _) b3 (by omega)
  have B0 := ((Blk.new w #[.slice a1 zs.length cap1, .int .i64 n, .int .i64 k] 33).al (.cells #[.slice none 0 0, .int .i64 0, .int .i64 0] 33)).bs b3 (by first | omega | (simp; omega) | simp)
  have B1 := (Blk.new (w.alloc (.cells #[.slice a1 zs.length cap1, .int .i64 n, .int .i64 k] 33)) #[.slice none 0 0, .int .i64 0, .int .i64 0] 33).bs b3 (by first | omega | (simp; omega) | simp)
  have hs := b3.size
  simp only [World.size_alloc] at B0 B1 o3 hs
  obtain ⟨x0, x1, x2⟩ := B0.get3; obtain ⟨y0, y1, y2⟩ := B1.get3
  obtain ⟨xf0, xf1, xf2⟩ := B0.fr3; obtain ⟨yf0, yf1, yf2⟩ := B1.fr3
  go_wp2
  refine bodyPost_ret (results_cell_row rfl _ _ (w.heap.size + 1) 33 #[.slice a3 zs.length cap3, .int .i64 n, .int .i64 k] (0, 0) _ rfl ((B1.so w.heap.size 0 _ (by omega)).put3 _ _ _).h Try.underlying33 rfl infoTr) rfl ⟨_, rfl, ((o3.sc (by omega) _ _).p3 (by omega) _ _ _).base (by omega), bP3 (bSc c3 (by omega) _ _) (by omega) _ _ _⟩
end Go.Proofs.Ytlfmgagokaekjaa
