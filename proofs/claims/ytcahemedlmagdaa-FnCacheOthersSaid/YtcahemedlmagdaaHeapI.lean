/- heap.Init and heap.Pop on six entries; oldest. -/
import Derived.Test.YtcahemedlmagdaaHeapD
import Derived.Handy
namespace Go.Proofs.Ytcahemedlmagdaa
open Go.RowKit
set_option linter.unusedVariables false
set_option linter.unusedSimpArgs false

/-- The heap behind j calls of down. -/
def initTo (zs : List Ent) : Nat → List Ent
  | 0 => zs
  | j + 1 => downL 6 6 (2 - j) (initTo zs j)
theorem initTo_len (zs : List Ent) (j : Nat) : (initTo zs j).length = zs.length := by
  induction j with
  | zero => rfl
  | succ j ih => rw [initTo, downL_len, ih]

set_option maxHeartbeats 1000000 in
theorem heapInit_any (B p g cap : Nat) (zs : List Ent) (w : World) (hl : zs.length = 6) (hh : HeapAt w B p g cap zs) :
    Calls Try.prog 47 #[.iface 68 (.pointer (some ⟨p, 0, none⟩))] w fun e' w' => (∃ t, e' = .returned t) ∧ HeapAt w' B p g cap (initL zs) ∧ w.grownBy w' (some g) := by
  have HH := Lib.hid hh; clear hh
  have x0 := HH.out.1.get1
  have hm := methLen ⟨p, 0, none⟩ _ _ x0
  have HL6 := Lib.hid hl; clear hl
  go_enter Try.func47, Try.ntmps47
  go_wp2_with fail
  clear hm x0
  refine (heapLen_any _ zs _ HH.out.2.1.reads).mono ?_
  rintro e w1 ⟨rfl, rfl⟩
  rw [HL6.out]
  have hl := HL6.out
  go_wp2
  go_loopw [3] (fun i wr => ∃ j : Nat, j ≤ 3 ∧ i = .int .i64 (2 - (j : Int)) ∧ Hid (HeapAt wr B p g cap (initTo zs j)) ∧ Hid (w.grownBy wr (some g))) (fun i _ => (intOf i + 1).toNat)
  case atStart => exact ⟨0, by omega, by rfl, HH, Lib.hid (grown_draws w 0 _)⟩
  case round =>
    obtain ⟨j, hj, rfl, HX, HG⟩ := hrel
    by_cases hlt : j < 3
    · have q1 : decide ((0 : Int) ≤ 2 - (j : Int)) = true := decide_eq_true (by omega)
      obtain ⟨k, hk⟩ : ∃ k, k = 2 - j := ⟨_, rfl⟩
      have e1 : (2 - (j : Int)) = (k : Int) := by omega
      have HL : (initTo zs j).length = 6 := by rw [initTo_len, hl]
      have HK := Lib.hid hk
      have k6 : k < 6 := by omega
      rw [e1] at q1 ⊢
      clear hk e1
      have hd := fun wx => heapDown_any B p g cap (initTo zs j) k 6 wx (by omega) (by omega) (by omega)
      rw [show ((6 : Nat) : Int) = 6 from rfl] at hd
      go_wp2_with fail
      refine (hd _ HX.out).mono ?_
      clear hd
      rintro e w2 ⟨⟨t, rfl⟩, H2, G2⟩
      have HE : Hid (initTo zs (j + 1) = downL 6 6 k (initTo zs j)) := Lib.hid (by rw [HK.out]; rfl)
      rw [← HE.out] at H2
      have H2 := Lib.hid H2
      have G2 := Lib.hid (HG.out.trans G2)
      have m1 : IntKind.i64.wrap ((k : Int) - 1) = 2 - ((j + 1 : Nat) : Int) := by have := HK.out; rw [IntWalk.i64_in _ (by omega)]; omega
      go_wp2
      go_roundw
      case rel => exact ⟨j + 1, by omega, rfl, H2, G2⟩
      case measure => have := HK.out; simp [intOf]; omega
    · obtain rfl : j = 3 := by omega
      go_wp2
      go_end0
      exact ⟨⟨_, rfl⟩, HX.out, HG.out⟩

/-- What a slice's end leaves: the last entry told, the row cut. -/
def popL (zs : List Ent) : List Ent := zs.take (zs.length - 1)

set_option maxHeartbeats 1000000 in
theorem entryPop_any (B p g cap : Nat) (zs : List Ent) (w : World) (hl : zs.length = 6) (hh : HeapAt w B p g cap zs) :
    Calls Try.prog 76 #[.pointer (some ⟨p, 0, none⟩)] w fun e' w' => e' = .returned (.iface entT (enV (zE zs 5))) ∧ Below B w w' := by
  obtain ⟨hb, ho, hBp, hpg⟩ := hh
  have x0 := hb.get1
  rw [hl] at x0
  have e5 : zE zs 5 = zs[5] := zE_get (by omega)
  obtain ⟨x, hx⟩ : ∃ x, x = zs[5].1 := ⟨_, rfl⟩
  obtain ⟨y, hy⟩ : ∃ y, y = zs[5].2.1 := ⟨_, rfl⟩
  obtain ⟨z, hz⟩ : ∃ z, z = zs[5].2.2 := ⟨_, rfl⟩
  obtain ⟨h0, h1, h2⟩ := ho.ent 5 (by omega)
  rw [← hx] at h0; rw [← hy] at h1; rw [← hz] at h2
  have HE : Hid (enV (zE zs 5) = .agg #[.int .i64 x, .int .i64 y, .int .i64 z]) := Lib.hid (by rw [e5, hx, hy, hz]; rfl)
  clear hx hy hz e5
  have hg : g < w.heap.size := (ho.lts g rfl).2
  have hbp := hb.lt
  obtain ⟨O, hO⟩ : ∃ O : Obj, O = .cells #[.int .i64 0, .int .i64 0, .int .i64 0] entT := ⟨_, rfl⟩
  have y0 : (w.alloc O).cell? ⟨p, 0, none⟩ = some (.slice (some ⟨g, 0, none⟩) 6 cap) := by rw [(below_alloc w O).cell (p := ⟨p, 0, none⟩) hbp]; exact x0
  have k0 : (w.alloc O).cell? ⟨g, 5 * 3, none⟩ = some (.int .i64 x) := by rw [(below_alloc w O).cell (p := ⟨g, 5 * 3, none⟩) hg]; exact h0
  have k1 : (w.alloc O).cell? ⟨g, 5 * 3 + 1, none⟩ = some (.int .i64 y) := by rw [(below_alloc w O).cell (p := ⟨g, 5 * 3 + 1, none⟩) hg]; exact h1
  have k2 : (w.alloc O).cell? ⟨g, 5 * 3 + 2, none⟩ = some (.int .i64 z) := by rw [(below_alloc w O).cell (p := ⟨g, 5 * 3 + 2, none⟩) hg]; exact h2
  have n0 : (w.alloc O).cell? ⟨w.heap.size, 0, none⟩ = some (.int .i64 0) := by rw [hO, cell_of_row _ _ _ _ _ (0, 0) (heap_alloc_new _ _)]; rfl
  have n1 : (w.alloc O).cell? ⟨w.heap.size, 1, none⟩ = some (.int .i64 0) := by rw [hO, cell_of_row _ _ _ _ _ (0, 0) (heap_alloc_new _ _)]; rfl
  have n2 : (w.alloc O).cell? ⟨w.heap.size, 2, none⟩ = some (.int .i64 0) := by rw [hO, cell_of_row _ _ _ _ _ (0, 0) (heap_alloc_new _ _)]; rfl
  have m0 : (w.alloc O).frozen? ⟨w.heap.size, 0, none⟩ = false := by rw [hO]; exact frozen_of_row _ _ 0 _ _ (heap_alloc_new _ _)
  have m1 : (w.alloc O).frozen? ⟨w.heap.size, 1, none⟩ = false := by rw [hO]; exact frozen_of_row _ _ 1 _ _ (heap_alloc_new _ _)
  have m2 : (w.alloc O).frozen? ⟨w.heap.size, 2, none⟩ = false := by rw [hO]; exact frozen_of_row _ _ 2 _ _ (heap_alloc_new _ _)
  have w5 : IntKind.i64.wrap 5 = 5 := by rfl
  have c6 : (5 : Int) ≤ (cap : Int) := by obtain ⟨_, _, hv, hc, _, _⟩ := ho.reads; simp only [Value.slice.injEq] at hv; omega
  simp only [Nat.reduceMul, Nat.reduceAdd] at h0 h1 h2 k0 k1 k2
  subst hO
  have HB := Lib.hid hb; have HO := Lib.hid ho
  have hgB := (ho.lts g rfl).1
  clear hb ho
  go_enter Try.func76, Try.ntmps76
  go_wp2
  go_region
  have k2 : p ≠ w.heap.size := by omega
  have o2 : w.heap.size ≠ p := by omega
  obtain ⟨w1, hw1⟩ : ∃ w1, w1 = (w.alloc (Obj.cells #[Value.int IntKind.i64 x, Value.int IntKind.i64 y, Value.int IntKind.i64 z] entT)).drew := ⟨_, rfl⟩
  have B1 : Below w.heap.size w w1 := by rw [hw1]; exact (below_alloc w _).drew
  have b1 := HB.out.bl B1
  have y1 := b1.get1
  have f1 := b1.f 0
  have p0 : w1.cell? ⟨w.heap.size, 0, none⟩ = some (.int .i64 x) := by rw [hw1]; show (w.alloc _).cell? _ = _; rw [cell_of_row _ _ _ _ _ (0, 0) (heap_alloc_new _ _)]; rfl
  have p1 : w1.cell? ⟨w.heap.size, 1, none⟩ = some (.int .i64 y) := by rw [hw1]; show (w.alloc _).cell? _ = _; rw [cell_of_row _ _ _ _ _ (0, 0) (heap_alloc_new _ _)]; rfl
  have p2 : w1.cell? ⟨w.heap.size, 2, none⟩ = some (.int .i64 z) := by rw [hw1]; show (w.alloc _).cell? _ = _; rw [cell_of_row _ _ _ _ _ (0, 0) (heap_alloc_new _ _)]; rfl
  rw [hl] at y1
  rw [← hw1]
  clear hw1 x0 h0 h1 h2 y0 k0 k1 n0 n1 n2 m0 m1 m2
  go_wp2
  go_region
  go_wp2
  go_ret
  exact ⟨by rw [HE.out]; rfl, ((B1.mono (by omega)).setCell hBp _).drew⟩

set_option maxHeartbeats 2000000 in
theorem heapPop_any (B p g cap : Nat) (zs : List Ent) (w : World) (hl : zs.length = 6) (hh : HeapAt w B p g cap zs) :
    Calls Try.prog 48 #[.iface 68 (.pointer (some ⟨p, 0, none⟩))] w fun e' w' => e' = .returned (.iface entT (enV (zE zs 0))) ∧ Below B w w' := by
  have HH := Lib.hid hh; clear hh
  have x0 := HH.out.1.get1
  have hm := methLen ⟨p, 0, none⟩ _ _ x0
  have HL6 := Lib.hid hl; clear hl
  go_enter Try.func48, Try.ntmps48
  go_wp2_with fail
  clear hm x0
  refine (heapLen_any _ zs _ HH.out.2.1.reads).mono ?_
  rintro e w1 ⟨rfl, rfl⟩
  rw [HL6.out]
  have x1 := HH.out.1.get1
  have hm1 := methSwap ⟨p, 0, none⟩ _ _ x1
  have hs := fun wx => heapSwap_any g cap entT B zs 0 5 wx (by have := HL6.out; omega) (by have := HL6.out; omega) (by have := HL6.out; omega) (by omega)
  rw [show ((5 : Nat) : Int) = 5 from rfl, show ((0 : Nat) : Int) = 0 from rfl] at hs
  go_wp2_with fail
  clear hm1 x1
  refine (hs _ HH.out.2.1).mono ?_
  clear hs
  rintro e w3 ⟨rfl, o3, g3⟩
  have HX3 := Lib.hid (HH.out.sw (swapL_len zs 0 5) o3 g3)
  have HG3 := Lib.hid g3
  clear o3 g3
  have hd := fun wx => heapDown_any B p g cap (swapL zs 0 5) 0 5 wx (by omega) (by rw [swapL_len]; have := HL6.out; omega) (by rw [swapL_len]; have := HL6.out; omega)
  rw [show ((5 : Nat) : Int) = 5 from rfl, show ((0 : Nat) : Int) = 0 from rfl] at hd
  go_wp2_with fail
  refine (hd _ HX3.out).mono ?_
  clear hd
  rintro e w4 ⟨⟨t, rfl⟩, H4, G4⟩
  have HE : Hid (zE (downL 5 6 0 (swapL zs 0 5)) 5 = zE zs 0) := Lib.hid (by
    have := HL6.out
    rw [downL_stay 5 6 0 _ 5 (by rw [swapL_len]; omega) (by omega), swapL_at _ _ _ _ (by omega) (by omega) (by omega)]
    simp)
  have HL4 : Hid ((downL 5 6 0 (swapL zs 0 5)).length = 6) := Lib.hid (by rw [downL_len, swapL_len, HL6.out])
  generalize downL 5 6 0 (swapL zs 0 5) = ys at *
  have H4 := Lib.hid H4; have G4 := Lib.hid (HG3.out.trans G4)
  have hm4 := methPop ⟨p, 0, none⟩ w4
  go_wp2_with fail
  clear hm4
  refine (entryPop_any B p g cap ys _ HL4.out H4.out).mono ?_
  rw [HE.out]
  rintro e w5 ⟨rfl, b5⟩
  go_wp2
  go_ret
  have hgB := (HH.out.2.1.lts g rfl).1
  exact ⟨rfl, ((Below.refl B w).grown G4.out (by have := HH.out.1.lt; have := HH.out.2.2.1; omega) (fun k hk => by cases hk; exact hgB)).trans b5⟩

theorem assertE (V : Value) (w : World) : (Instr.typeAssert (Value.iface entT V) 20 entT false).run Try.prog w = .ok V w := by kernel_rfl

set_option maxHeartbeats 2000000 in
theorem oldest_any (v : Value) (zs : List Ent) (w : World) (hl : zs.length = 6) (hr : RRow EL w v zs) :
    Calls Try.prog 28 #[v] w fun e w' => e = .returned (enV (zE (initL zs) 0)) ∧ Below w.heap.size w w' := by
  have HR := Lib.hid hr; clear hr
  have HL6 := Lib.hid hl; clear hl
  obtain ⟨w0, hw0⟩ : ∃ w0, w0 = w.alloc (.cells #[.int .i64 0, .int .i64 0, .int .i64 0] entT) := ⟨_, rfl⟩
  have B0 : Below w.heap.size w w0 := by rw [hw0]; exact below_alloc w _
  go_enter Try.func28, Try.ntmps28
  go_wp2_with fail
  refine (cloneE_any _ zs _ (by have := HL6.out; omega) (HR.out.al _)).mono ?_
  rintro e w1 ⟨u, rfl, o1, b1⟩
  have R1 := Lib.hid (((Blk.new w #[.int .i64 0, .int .i64 0, .int .i64 0] entT).bl b1))
  have c1 := bNext (below_alloc w (.cells #[.int .i64 0, .int .i64 0, .int .i64 0] entT)) b1
  simp only [World.size_alloc] at o1
  rcases o1.shape with ⟨rfl, h0⟩ | ⟨g, cap, rfl, hBg, hgs, -, -⟩
  · have := HL6.out; rw [h0] at this; cases this
  have s1 := b1.size
  simp only [World.size_alloc] at s1
  have hpg : w1.heap.size ≠ g := by omega
  have HA : Hid (HeapAt (w1.alloc (.cells #[.slice (some ⟨g, 0, none⟩) zs.length cap] 66)) (w.heap.size + 1) w1.heap.size g cap zs) := Lib.hid ⟨Blk.new _ _ _, o1.al _, s1, hpg⟩
  have R2 := Lib.hid (R1.out.al (.cells #[.slice (some ⟨g, 0, none⟩) zs.length cap] 66))
  have c2 := Lib.hid (bAl c1 (.cells #[.slice (some ⟨g, 0, none⟩) zs.length cap] 66))
  clear o1 b1 c1 hgs R1 hpg
  go_wp2_with fail
  refine (heapInit_any _ _ g cap zs _ HL6.out HA.out).mono ?_
  rintro e w3 ⟨⟨t, rfl⟩, H3, G3⟩
  have R3 := Lib.hid (R2.out.gr G3 (fun k hk => by cases hk; omega))
  have c3 := Lib.hid (bGr c2.out G3 (fun k hk => by cases hk; omega))
  have H3 := Lib.hid H3
  clear G3
  go_wp2_with fail
  refine (heapPop_any _ _ g cap (initL zs) _ (by rw [initL_len]; exact HL6.out) H3.out).mono ?_
  have HZ : Hid (enV (zE (initL zs) 0) = .agg #[.int .i64 (zE (initL zs) 0).1, .int .i64 (zE (initL zs) 0).2.1, .int .i64 (zE (initL zs) 0).2.2]) := Lib.hid rfl
  rw [HZ.out]
  generalize (zE (initL zs) 0).1 = x at *
  generalize (zE (initL zs) 0).2.1 = y at *
  generalize (zE (initL zs) 0).2.2 = z at *
  rintro e w4 ⟨rfl, b4⟩
  have R4 := R3.out.bs b4 (by omega)
  have c4 := Lib.hid (c3.out.trans (b4.mono (by omega)))
  obtain ⟨r0, r1, r2⟩ := R4.get3
  obtain ⟨f0, f1, f2⟩ := R4.fr3
  clear b4
  have ta := assertE (.agg #[.int .i64 x, .int .i64 y, .int .i64 z]) w4
  have R5 := Lib.hid (R4.put3 (.int .i64 x) (.int .i64 y) (.int .i64 z))
  have c5 := Lib.hid (bP3 c4.out (Nat.le_refl _) (.int .i64 x) (.int .i64 y) (.int .i64 z))
  unfold put3 at R5 c5
  clear R4
  go_wp2
  refine bodyPost_ret (results_cell_row rfl _ _ w.heap.size entT #[.int .i64 x, .int .i64 y, .int .i64 z] (0, 0) _ rfl R5.out.h Try.underlying30 rfl infoEn) rfl ⟨by rw [HZ.out], c5.out⟩
end Go.Proofs.Ytcahemedlmagdaa
