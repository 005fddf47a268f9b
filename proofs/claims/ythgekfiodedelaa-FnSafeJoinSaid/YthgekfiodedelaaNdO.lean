/- spec.l4Drop, l4Follow. -/
import Derived.Test.YthgekfiodedelaaNdP
namespace Go.Proofs.Ythgekfiodedelaa
open Go.RowKit
set_option linter.unusedVariables false
set_option linter.unusedSimpArgs false

theorem fdI_lt {R : List Nd} {x : Int} : decide (fdI R x < 0) = !liveR R x := by
  unfold fdI
  cases h : liveR R x with
  | true => simp
  | false => simp

/-- The node's copy with a new list, both in blocks of the call's own. -/
theorem newNode {w W : World} {G : Nat} {x y : Int} {s : Value} {a b : Int} (hb : Below w.heap.size w W) (hG : w.heap.size ≤ G) (hGW : G < W.heap.size) (bk : Blk W G #[.int .i64 x, .int .i64 y, s] 37) :
    let X := (W.setCell ⟨G, 2, none⟩ (.slice (some ⟨W.heap.size, 0, none⟩) 2 2)).alloc (.cells #[.int .i64 a, .int .i64 b] 3)
    Below w.heap.size w X ∧ RInts X (.slice (some ⟨W.heap.size, 0, none⟩) 2 2) [a, b] ∧ Blk X G #[.int .i64 x, .int .i64 y, .slice (some ⟨W.heap.size, 0, none⟩) 2 2] 37 := by
  have hs : (W.setCell ⟨G, 2, none⟩ (.slice (some ⟨W.heap.size, 0, none⟩) 2 2)).heap.size = W.heap.size := by simp
  refine ⟨bAl (bSc hb hG 2 _) _, ?_, (bk.s32 _).al _⟩
  have h := World.ownsRow_lit (W.setCell ⟨G, 2, none⟩ (.slice (some ⟨W.heap.size, 0, none⟩) 2 2)) (e := 3) (size := 1) #[.int .i64 a, .int .i64 b] 2 (Nat.le_refl _) (by unfold maxLen; omega) rfl
  rw [hs] at h
  exact OwnInts.reads (B := W.heap.size) (zs := [a, b]) h

set_option maxRecDepth 100000 in
set_option maxHeartbeats 4000000 in
theorem l4Drop_any (v : Value) (R : List Nd) (k : Nat) (w : World) (hl : R.length ≤ 4096) (hk : k < R.length) (ha1 : 0 ≤ (nth R k).a1 ∧ (nth R k).a1 < 64) (hr : RR w v R) :
    Calls Try.prog 112 #[v, .int .i64 k] w fun e w' => ∃ x, e = .returned (.tuple #[x, .bool (!liveR R (nth R k).a0)]) ∧ OwnRingS w' w.heap.size x (dats (dropS R k)) ∧ Below w.heap.size w w' := by
  obtain ⟨a, cap, rfl, hc, hm⟩ := id hr.sl
  obtain ⟨b, off, bs, os, c, rfl, hb, hbs, x0, x1, x2, r3, v0, v1⟩ := hr.nd k hk
  have HD0 : Hid (dropS R k = if liveR R (nth R k).a0 then R else R.set k ⟨(nth R k).id, (nth R k).bf, (nth R k).a1, ((nth R k).a1 + 1) % 64⟩) := Lib.hid rfl
  generalize hn : nth R k = n at *
  have HN := Lib.hid hn; clear hn
  have HR0 := Lib.hid hr
  have HR := Lib.hid (hr.al (.cells #[.int .i64 n.id, .int .i64 n.bf, .slice (some ⟨bs, os, none⟩) 2 c] 37)); clear hr
  have BK := Lib.hid (Blk.new w #[.int .i64 n.id, .int .i64 n.bf, .slice (some ⟨bs, os, none⟩) 2 c] 37)
  have BA := Lib.hid (below_alloc w (.cells #[.int .i64 n.id, .int .i64 n.bf, .slice (some ⟨bs, os, none⟩) 2 c] 37))
  have v0' := (BA.out.cell hbs).trans v0
  have v1' := (BA.out.cell hbs).trans v1
  have HSD := HD0; clear HD0
  have e1 : IntKind.i64.wrap (n.a1 + 1) = n.a1 + 1 := IntWalk.i64_in _ (by omega)
  have e2 : Int.tmod (n.a1 + 1) 64 = (n.a1 + 1) % 64 := Int.tmod_eq_emod_of_nonneg (by omega)
  have e3 : (0 : Int) ≤ n.a1 + 1 := by omega
  clear r3 ha1
  go_enter Try.func112, Try.ntmps112
  go_wp2_with fail
  clear v0 v1
  obtain ⟨W, hW⟩ : ∃ W, W = w.alloc (.cells #[.int .i64 n.id, .int .i64 n.bf, .slice (some ⟨bs, os, none⟩) 2 c] 37) := ⟨_, rfl⟩
  obtain ⟨G, hG⟩ : ∃ G, G = w.heap.size := ⟨_, rfl⟩
  have hWs : W.heap.size = w.heap.size + 1 := by rw [hW]; simp
  have HG := Lib.hid hG
  rw [← hW, ← hG] at BK
  rw [← hW] at HR BA v0' v1'
  rw [← hW, ← hG]
  obtain ⟨y0, y1, y2⟩ := BK.out.get3
  obtain ⟨f0, f1, f2⟩ := BK.out.fr3
  have hGW : G < W.heap.size := by omega
  have hbW : bs < W.heap.size := by omega
  have HWs := Lib.hid hWs
  clear hW hG hWs
  refine (l3Find_any _ R n.a0 _ (by omega) HR.out).mono ?_
  rintro e w1 ⟨rfl, rfl⟩
  cases hlv : liveR R n.a0 with
  | true =>
    have d0 : decide (0 ≤ fdI R n.a0) = true := by rw [fdI_nonneg, hlv]
    have HS : Hid (dropS R k = R) := Lib.hid (by rw [HSD.out, hlv]; rfl)
    have HLV := Lib.hid hlv
    generalize fdI R n.a0 = z at *
    clear hlv
    go_wp2_with fail
    refine (l3Copy_any _ R _ (by omega) HR.out).mono ?_
    rintro e w2 ⟨u2, rfl, o2, b2⟩
    have c2 := bNext BA.out b2
    have o3 := o2.base (B' := w.heap.size) (by have := HWs.out; omega)
    go_wp2
    go_ret2
    exact ⟨_, by rw [HLV.out]; rfl, by rw [HS.out]; exact o3, c2⟩
  | false =>
    have d0 : decide (0 ≤ fdI R n.a0) = false := by rw [fdI_nonneg, hlv]
    have HS : Hid (dropS R k = R.set k ⟨n.id, n.bf, n.a1, (n.a1 + 1) % 64⟩) := Lib.hid (by rw [HSD.out, hlv]; rfl)
    have HLV := Lib.hid hlv
    generalize fdI R n.a0 = z at *
    clear hlv
    go_wp2
    go_region
    obtain ⟨q1, q2, q3⟩ := newNode (a := n.a1) (b := (n.a1 + 1) % 64) BA.out (by rw [HG.out]; exact Nat.le_refl _) hGW BK.out
    have C4 := Lib.hid (bD1 q1); have R4 := Lib.hid q2.d1; have HR4 := Lib.hid (HR0.out.bl (bD1 q1))
    clear y0 y1 y2
    obtain ⟨y0, y1, y2⟩ := q3.d1.get3
    clear q1 q2 q3
    go_wp2_with fail
    refine (l4Set_any _ R k ⟨n.id, n.bf, n.a1, (n.a1 + 1) % 64⟩ W.heap.size 0 2 _ (by omega) hk HR4.out R4.out).mono ?_
    rintro e w5 ⟨u5, rfl, o5, b5⟩
    have c5 := bNext C4.out b5
    have o6 := o5.base (B' := w.heap.size) C4.out.size
    go_wp2
    go_ret2
    exact ⟨_, by rw [HLV.out]; rfl, by rw [HS.out]; exact o6, c5⟩
set_option maxRecDepth 100000 in
set_option maxHeartbeats 4000000 in
theorem l4Follow_any (v : Value) (R : List Nd) (k s : Nat) (w : World) (hl : R.length ≤ 4096) (hk : k < R.length) (hs : s < R.length) (hr : RR w v R) :
    Calls Try.prog 121 #[v, .int .i64 k, .int .i64 s] w fun e w' => ∃ x, e = .returned x ∧ OwnRingS w' w.heap.size x (dats (followS R k s)) ∧ Below w.heap.size w w' := by
  obtain ⟨a, cap, rfl, hc, hm⟩ := id hr.sl
  obtain ⟨b, off, bs, os, c, rfl, hb, hbs, x0, x1, x2, r3, v0, v1⟩ := hr.nd k hk
  obtain ⟨b', off', bt, ot, ct, he, -, hbt, z0, -, z2, -, z3, -⟩ := hr.nd s hs
  simp only [Option.some.injEq, Addr.mk.injEq, and_true] at he
  obtain ⟨rfl, rfl⟩ := he
  have HSD : Hid (followS R k s = R.set k ⟨(nth R k).id, (nth R k).bf, (nth R s).id, (nth R s).a0⟩) := Lib.hid rfl
  generalize nth R k = n at *
  generalize nth R s = m at *
  have HR0 := Lib.hid hr; clear hr
  have BK := Lib.hid (Blk.new w #[.int .i64 n.id, .int .i64 n.bf, .slice (some ⟨bs, os, none⟩) 2 c] 37)
  have BA := Lib.hid (below_alloc w (.cells #[.int .i64 n.id, .int .i64 n.bf, .slice (some ⟨bs, os, none⟩) 2 c] 37))
  have z0' := (BA.out.cell hb).trans z0
  have z2' := (BA.out.cell hb).trans z2
  have z3' := (BA.out.cell hbt).trans z3
  clear r3 v0 v1 hbs
  go_enter Try.func121, Try.ntmps121
  go_wp2
  clear z0 z2 z3 x0 x1 x2
  obtain ⟨W, hW⟩ : ∃ W, W = w.alloc (.cells #[.int .i64 n.id, .int .i64 n.bf, .slice (some ⟨bs, os, none⟩) 2 c] 37) := ⟨_, rfl⟩
  obtain ⟨G, hG⟩ : ∃ G, G = w.heap.size := ⟨_, rfl⟩
  have hWs : W.heap.size = w.heap.size + 1 := by rw [hW]; simp
  have HG := Lib.hid hG
  rw [← hW, ← hG] at BK
  rw [← hW] at BA z0' z2' z3'
  rw [← hW, ← hG]
  obtain ⟨y0, y1, y2⟩ := BK.out.get3
  obtain ⟨f0, f1, f2⟩ := BK.out.fr3
  have hGW : G < W.heap.size := by omega
  have hbW : b < W.heap.size := by omega
  have hbtW : bt < W.heap.size := by omega
  have HWs := Lib.hid hWs
  clear hW hG hWs
  go_region
  obtain ⟨q1, q2, q3⟩ := newNode (a := m.id) (b := m.a0) BA.out (by rw [HG.out]; exact Nat.le_refl _) hGW BK.out
  have C4 := Lib.hid (bD1 q1); have R4 := Lib.hid q2.d1; have HR4 := Lib.hid (HR0.out.bl (bD1 q1))
  clear y0 y1 y2
  obtain ⟨y0, y1, y2⟩ := q3.d1.get3
  clear q1 q2 q3
  go_wp2_with fail
  refine (l4Set_any _ R k ⟨n.id, n.bf, m.id, m.a0⟩ W.heap.size 0 2 _ (by omega) hk HR4.out R4.out).mono ?_
  rintro e w5 ⟨u5, rfl, o5, b5⟩
  have c5 := bNext C4.out b5
  have o6 := o5.base (B' := w.heap.size) C4.out.size
  go_wp2
  go_ret
  exact ⟨_, rfl, by rw [HSD.out]; exact o6, c5⟩
end Go.Proofs.Ythgekfiodedelaa
