/- A step under way: the ring that ringStep points to. impl.take. -/
import Derived.Test.YthgekfiodedelaaImE
namespace Go.Proofs.Ythgekfiodedelaa
open Go.RowKit
set_option linter.unusedVariables false
set_option linter.unusedSimpArgs false

theorem ne_nd_rs : (37 : TypeId) ≠ 71 := by decide
theorem ne_int_rs : (3 : TypeId) ≠ 71 := by decide
/-- A row of the call's own does not lie in a block of another type. -/
theorem own_blk {w : World} {B k n g : Nat} {e t : TypeId} {v : Value} {xs : List Value} {cs : Array Value} (h : w.ownsRow B e k v n xs) (b : Blk w g cs t) (hne : e ≠ t) : v.ownBlock = none ∨ v.ownBlock ≠ some g := by
  rcases h.2 with ⟨rfl, -⟩ | ⟨g', cap, cur, rfl, -, hg, -⟩
  · exact .inl rfl
  · refine .inr fun e1 => ?_
    have e2 : g' = g := Option.some.inj e1
    subst e2
    rw [b.h] at hg
    simp only [Option.some.injEq, Obj.cells.injEq] at hg
    exact hne hg.2.1.symm
/-- A step under way from the world w0 on: the block gS holds the ring x, which is the call's own. -/
structure SS (w0 W : World) (gS : Nat) (x : Value) (R : List Nd) : Prop where
  bl : Below w0.heap.size w0 W
  ge : w0.heap.size ≤ gS
  bk : Blk W gS #[x] 71
  ow : OwnRingS W w0.heap.size x (dats R)
theorem SS.nx {w0 W W' : World} {gS : Nat} {x : Value} {R : List Nd} (h : SS w0 W gS x R) (hb : Below W.heap.size W W') : SS w0 W' gS x R := ⟨bNext h.bl hb, h.ge, h.bk.bl hb, h.ow.bl hb⟩
theorem SS.rr {w0 W : World} {gS : Nat} {x : Value} {R : List Nd} (h : SS w0 W gS x R) : RR W x R := h.ow.reads
theorem SS.c {w0 W : World} {gS : Nat} {x : Value} {R : List Nd} (h : SS w0 W gS x R) : W.cell? ⟨gS, 0, none⟩ = some x := h.bk.get1
theorem SS.fr {w0 W : World} {gS : Nat} {x : Value} {R : List Nd} (h : SS w0 W gS x R) : W.frozen? ⟨gS, 0, none⟩ = false := h.bk.f 0
theorem SS.lt {w0 W : World} {gS : Nat} {x : Value} {R : List Nd} (h : SS w0 W gS x R) : gS < W.heap.size := h.bk.lt
theorem SS.shape {w0 W : World} {gS : Nat} {x : Value} {R : List Nd} (h : SS w0 W gS x R) (h0 : 0 < R.length) : ∃ g cap, x = .slice (some ⟨g, 0, none⟩) R.length cap ∧ w0.heap.size ≤ g ∧ g < W.heap.size ∧ ¬ gS = g ∧ ¬ g = gS ∧ R.length ≤ cap ∧ cap ≤ maxLen := by
  obtain ⟨hs, hr⟩ := h.ow
  have hl := hr.len
  rw [dats_len] at hl
  rcases hr.row.shape with ⟨rfl, e⟩ | ⟨g, cap, rfl, hB, hg, hn, hm⟩
  · rw [e] at hl; simp at hl; omega
  · have hne : ¬ g = gS := fun e => by
      rcases own_blk hr.row h.bk ne_nd_rs with h1 | h1
      · exact absurd h1 (by simp [Value.ownBlock])
      · exact h1 (by rw [← e]; rfl)
    exact ⟨g, cap, by rw [hl], hB, hg, fun e => hne e.symm, hne, by omega, hm⟩
theorem SS.nd {w0 W : World} {gS g n cap : Nat} {R : List Nd} (h : SS w0 W gS (.slice (some ⟨g, 0, none⟩) n cap) R) {k : Nat} (hk : k < R.length) :
    ∃ bs os c, bs < W.heap.size ∧ W.cell? ⟨g, k * 3, none⟩ = some (.int .i64 (nth R k).id) ∧ W.cell? ⟨g, k * 3 + 1, none⟩ = some (.int .i64 (nth R k).bf) ∧
      W.cell? ⟨g, k * 3 + 2, none⟩ = some (.slice (some ⟨bs, os, none⟩) 2 c) ∧ RInts W (.slice (some ⟨bs, os, none⟩) 2 c) [(nth R k).a0, (nth R k).a1] ∧
      W.cell? ⟨bs, os, none⟩ = some (.int .i64 (nth R k).a0) ∧ W.cell? ⟨bs, os + 1, none⟩ = some (.int .i64 (nth R k).a1) := by
  have hr := h.rr
  obtain ⟨a, cp, e, -, -⟩ := hr.sl
  cases e
  obtain ⟨b, off, bs, os, c, he, hb, hbs, x0, x1, x2, r, y0, y1⟩ := RR.nd hr k hk
  simp only [Option.some.injEq, Addr.mk.injEq, and_true] at he
  obtain ⟨rfl, rfl⟩ := he
  rw [Nat.zero_add] at x0 x1 x2
  exact ⟨bs, os, c, hbs, x0, x1, x2, r, y0, y1⟩
theorem SS.frz {w0 W : World} {gS g n cap : Nat} {R : List Nd} (h : SS w0 W gS (.slice (some ⟨g, 0, none⟩) n cap) R) (j : Nat) : W.frozen? ⟨g, j, none⟩ = false := by
  obtain ⟨hs, hr⟩ := h.ow
  exact hr.row.frozenAt j
theorem dats_get {R : List Nd} {k : Nat} (h : k < (dats R).length) : (dats R)[k] = ((nth R k).id, (nth R k).bf, [(nth R k).a0, (nth R k).a1]) := dats_at R k h
theorem SS.b1 {w0 W W' : World} {gS : Nat} {x : Value} {R R' : List Nd} {row : Option Nat} (h : SS w0 W gS x R) (hg : W.grownBy W' row) (hx : x.ownBlock = row) (hn : row ≠ some gS) (ho : OwnRingS W' w0.heap.size x (dats R')) : SS w0 W' gS x R' := by
  obtain ⟨hs, hr⟩ := h.ow
  refine ⟨bGr h.bl hg fun k hk => ?_, h.ge, h.bk.gr hg (fun k hk e => hn (by rw [hk, e])), ho⟩
  subst hx
  exact (hr.row.lts k hk).1
/-- Another predecessor. -/
theorem SS.bf {w0 W : World} {gS g n cap : Nat} {R : List Nd} (h : SS w0 W gS (.slice (some ⟨g, 0, none⟩) n cap) R) {k : Nat} (hk : k < R.length) (y : Int) :
    SS w0 (W.setCell ⟨g, k * 3 + 1, none⟩ (.int .i64 y)) gS (.slice (some ⟨g, 0, none⟩) n cap) (R.set k ⟨(nth R k).id, y, (nth R k).a0, (nth R k).a1⟩) := by
  obtain ⟨hs, hr⟩ := h.ow
  have hne : (some g : Option Nat) ≠ some gS := fun e => by
    rcases own_blk hr.row h.bk ne_nd_rs with h1 | h1
    · exact absurd h1 (by simp [Value.ownBlock])
    · exact h1 e
  have hk1 : k < hs.length := by rw [hr.len, dats_len]; exact hk
  have hk2 : k < (dats R).length := by rw [dats_len]; exact hk
  have h1 := hr.st1 hk1 hk2 y
  rw [dats_get hk2] at h1
  exact h.b1 (grown_set W g (k * 3 + 1) _) rfl hne ⟨_, by rw [dats_set]; exact h1⟩
/-- Another list: the world as the walk spells it. -/
theorem SS.af {w0 W : World} {gS g n cap : Nat} {R : List Nd} (h : SS w0 W gS (.slice (some ⟨g, 0, none⟩) n cap) R) {k : Nat} (hk : k < R.length) (a b : Int) :
    SS w0 ((W.setCell ⟨g, k * 3 + 2, none⟩ (.slice (some ⟨W.heap.size, 0, none⟩) 2 2)).alloc (.cells #[.int .i64 a, .int .i64 b] 3)) gS (.slice (some ⟨g, 0, none⟩) n cap) (R.set k ⟨(nth R k).id, (nth R k).bf, a, b⟩) := by
  have hW := h.nx (below_alloc W (.cells #[.int .i64 a, .int .i64 b] 3))
  obtain ⟨hs0, hr0⟩ := h.ow
  have hgW : g < W.heap.size := (hr0.row.lts g rfl).2
  rw [← World.setCell_alloc_past _ _ _ _ hgW]
  obtain ⟨hs, hr⟩ := hW.ow
  have hne : (some g : Option Nat) ≠ some gS := fun e => by
    rcases own_blk hr.row hW.bk ne_nd_rs with h1 | h1
    · exact absurd h1 (by simp [Value.ownBlock])
    · exact h1 e
  have hk1 : k < hs0.length := by rw [hr0.len, dats_len]; exact hk
  have hk2 : k < (dats R).length := by rw [dats_len]; exact hk
  have ho : OwnInts (W.alloc (.cells #[.int .i64 a, .int .i64 b] 3)) W.heap.size (slV (some ⟨W.heap.size, 0, none⟩, 2, 2)) [a, b] :=
    World.ownsRow_lit W (e := 3) (size := 1) #[.int .i64 a, .int .i64 b] 2 (Nat.le_refl _) (by unfold maxLen; omega) rfl
  have h1 := (hr0.bl (below_alloc W (.cells #[.int .i64 a, .int .i64 b] 3))).st2 hk1 hk2 ho h.bl.size (fun i hi q hq => hr0.far i hi q hq)
  rw [dats_get hk2] at h1
  exact hW.b1 (grown_set _ g (k * 3 + 2) _) rfl hne ⟨_, by rw [dats_set]; exact h1⟩
theorem SS.d1 {w0 W : World} {gS : Nat} {x : Value} {R : List Nd} (h : SS w0 W gS x R) : SS w0 W.drew gS x R := h.nx (Below.refl _ _).drew
theorem SS.dr {w0 W : World} {gS : Nat} {x : Value} {R : List Nd} (h : SS w0 W gS x R) (n : Nat) : SS w0 (W.drewN n) gS x R := h.nx (below_draws' W n)

theorem ptrAt_own {g n cap : Nat} {R : List Nd} {x : Int} (h : liveR R x = true) : ptrAt (.slice (some ⟨g, 0, none⟩) n cap) R x = .pointer (some ⟨g, fnd R x * 3, none⟩) := by
  unfold ptrAt; rw [if_pos h]; simp
/-- A step's closure over the cells cps: what it makes of a ring R. -/
def StepF (w0 : World) (g : Nat) (cps : Array Value) (R R' : List Nd) (t : Bool) : Prop :=
  (∀ (args : Array Value) (w : World), (callFunc g args).run Try.prog w = .ok (.enter g args) w) ∧
  ∀ (W : World) (gS : Nat) (x : Value), SS w0 W gS x R → Calls Try.prog g (#[.pointer (some ⟨gS, 0, none⟩)] ++ cps) W fun e W' => e = .returned (.bool t) ∧ Below w0.heap.size w0 W' ∧ (t = true → ∃ x', SS w0 W' gS x' R')
def takeR (R R' : List Nd) (t : Bool) : List Nd := if t then R' else R

set_option maxRecDepth 100000 in
set_option maxHeartbeats 4000000 in
theorem take1_ok (g : Nat) (c0 v va : Value) (zs : List Int) (R R' : List Nd) (t : Bool) (w : World) (hv : ValidL R) (hs : safeL R = true) (hr : RR w v R) (hz : zs.length ≤ 4096) (hra : RInts w va zs) (hzs : zs.all ptB = true)
    (hf : StepF w g #[c0] R R' t) :
    Calls Try.prog 41 #[v, .func (.func g) #[] #[c0], va] w fun e w' => ∃ x, e = .returned (.tuple #[x, .bool t]) ∧ OwnRingS w' w.heap.size x (dats (takeR R R' t)) ∧ Below w.heap.size w w' := by
  have h10 := hv.len
  have HSF : Hid (sfD (dats R) = true) := Lib.hid (by rw [sfD_dats hv]; exact hs)
  have HR := Lib.hid hr; clear hr
  have HRA := Lib.hid hra; clear hra
  have HZ := Lib.hid hz; clear hz
  have HZS := Lib.hid hzs; clear hzs
  obtain ⟨eg, hf⟩ := hf
  have HF := Lib.hid hf; clear hf
  have HLS : Hid (∀ e ∈ dats R, e.2.2.length ≤ 4096) := Lib.hid (fun e he => by
    obtain ⟨n, -, rfl⟩ := List.mem_map.1 he; simp [dat])
  clear hv hs
  go_enter Try.func41, Try.ntmps41
  go_wp2_with fail
  refine (implRingSafe_any v (dats R) _ (by rw [dats_len]; omega) HR.out).mono ?_
  rw [HSF.out]
  rintro e w1 ⟨rfl, b1⟩
  have B1 := Lib.hid b1; clear b1
  go_wp2_with fail
  refine (positions_any va zs _ (by have := HZ.out; omega) (HRA.out.bl B1.out)).mono ?_
  rw [HZS.out]
  rintro e w2 ⟨rfl, rfl⟩
  go_wp2_with fail
  refine (copyRing_any v (dats R) _ (by rw [dats_len]; omega) HLS.out (HR.out.bl B1.out)).mono ?_
  rintro e w3 ⟨x3, rfl, o3, b3⟩
  obtain ⟨a3, q3, rfl, -, -⟩ := RRing.sl o3.reads
  generalize hx3 : Value.slice a3 (dats R).length q3 = x3 at *
  have S4 : Hid (SS w (w3.alloc (.cells #[x3] 71)) w3.heap.size x3 R) := Lib.hid ⟨bAl (bNext B1.out b3) _, (bNext B1.out b3).size, Blk.new _ _ _, (OwnRingS.base o3 B1.out.size).bl (below_alloc _ _)⟩
  have hszb := S4.out.bl.size
  clear o3 b3 B1
  have HC := Lib.hid (HF.out _ _ _ S4.out)
  subst hx3
  cases t with
  | true =>
    go_wp2_with fail
    refine HC.out.mono ?_
    rintro e w5 ⟨rfl, -, hx⟩
    obtain ⟨x5, s5⟩ := hx (by trivial)
    have hc5 := s5.c
    have S5 := Lib.hid s5; clear s5 hx
    go_wp2
    go_ret2
    exact ⟨_, rfl, S5.out.ow, S5.out.bl⟩
  | false =>
    go_wp2_with fail
    refine HC.out.mono ?_
    rintro e w5 ⟨rfl, b5, -⟩
    have B5 := Lib.hid b5; clear b5
    go_wp2_with fail
    refine (copyRing_any v (dats R) _ (by rw [dats_len]; omega) HLS.out (HR.out.bl B5.out)).mono ?_
    rintro e w6 ⟨x6, rfl, o6, b6⟩
    have c6 := Lib.hid (bNext B5.out b6)
    have O6 := Lib.hid (OwnRingS.base o6 B5.out.size)
    clear o6 b6
    go_wp2
    go_ret2
    exact ⟨_, rfl, O6.out, c6.out⟩
set_option maxRecDepth 100000 in
set_option maxHeartbeats 4000000 in
theorem take1_bad (g : Nat) (c0 v va : Value) (zs : List Int) (D : List Rn) (w : World) (hl : D.length ≤ 4096) (hr : RRing w v D) (hz : zs.length ≤ 4096) (hra : RInts w va zs) (hbad : (sfD D && zs.all ptB) = false) :
    Calls Try.prog 41 #[v, .func (.func g) #[] #[c0], va] w fun e w' => e = .returned (.tuple #[.slice none 0 0, .bool false]) ∧ Below w.heap.size w w' := by
  have HR := Lib.hid hr; clear hr
  have HRA := Lib.hid hra; clear hra
  have HZ := Lib.hid hz; clear hz
  cases q : sfD D with
  | false =>
    have Q := Lib.hid q; clear q hbad
    go_enter Try.func41, Try.ntmps41
    go_wp2_with fail
    refine (implRingSafe_any v D _ hl HR.out).mono ?_
    rw [Q.out]
    rintro e w1 ⟨rfl, b1⟩
    have B1 := Lib.hid b1; clear b1
    go_wp2
    go_ret2
    exact ⟨rfl, B1.out⟩
  | true =>
    rw [q, Bool.true_and] at hbad
    have HB := Lib.hid hbad
    have Q := Lib.hid q; clear q hbad
    go_enter Try.func41, Try.ntmps41
    go_wp2_with fail
    refine (implRingSafe_any v D _ hl HR.out).mono ?_
    rw [Q.out]
    rintro e w1 ⟨rfl, b1⟩
    have B1 := Lib.hid b1; clear b1
    go_wp2_with fail
    refine (positions_any va zs _ (by have := HZ.out; omega) (HRA.out.bl B1.out)).mono ?_
    rw [HB.out]
    rintro e w2 ⟨rfl, rfl⟩
    go_wp2
    go_ret2
    exact ⟨rfl, B1.out⟩
set_option maxRecDepth 100000 in
set_option maxHeartbeats 4000000 in
theorem take2_ok (g : Nat) (c0 c1 v va : Value) (zs : List Int) (R R' : List Nd) (t : Bool) (w : World) (hv : ValidL R) (hs : safeL R = true) (hr : RR w v R) (hz : zs.length ≤ 4096) (hra : RInts w va zs) (hzs : zs.all ptB = true)
    (hf : StepF w g #[c0, c1] R R' t) :
    Calls Try.prog 41 #[v, .func (.func g) #[] #[c0, c1], va] w fun e w' => ∃ x, e = .returned (.tuple #[x, .bool t]) ∧ OwnRingS w' w.heap.size x (dats (takeR R R' t)) ∧ Below w.heap.size w w' := by
  have h10 := hv.len
  have HSF : Hid (sfD (dats R) = true) := Lib.hid (by rw [sfD_dats hv]; exact hs)
  have HR := Lib.hid hr; clear hr
  have HRA := Lib.hid hra; clear hra
  have HZ := Lib.hid hz; clear hz
  have HZS := Lib.hid hzs; clear hzs
  obtain ⟨eg, hf⟩ := hf
  have HF := Lib.hid hf; clear hf
  have HLS : Hid (∀ e ∈ dats R, e.2.2.length ≤ 4096) := Lib.hid (fun e he => by
    obtain ⟨n, -, rfl⟩ := List.mem_map.1 he; simp [dat])
  clear hv hs
  go_enter Try.func41, Try.ntmps41
  go_wp2_with fail
  refine (implRingSafe_any v (dats R) _ (by rw [dats_len]; omega) HR.out).mono ?_
  rw [HSF.out]
  rintro e w1 ⟨rfl, b1⟩
  have B1 := Lib.hid b1; clear b1
  go_wp2_with fail
  refine (positions_any va zs _ (by have := HZ.out; omega) (HRA.out.bl B1.out)).mono ?_
  rw [HZS.out]
  rintro e w2 ⟨rfl, rfl⟩
  go_wp2_with fail
  refine (copyRing_any v (dats R) _ (by rw [dats_len]; omega) HLS.out (HR.out.bl B1.out)).mono ?_
  rintro e w3 ⟨x3, rfl, o3, b3⟩
  obtain ⟨a3, q3, rfl, -, -⟩ := RRing.sl o3.reads
  generalize hx3 : Value.slice a3 (dats R).length q3 = x3 at *
  have S4 : Hid (SS w (w3.alloc (.cells #[x3] 71)) w3.heap.size x3 R) := Lib.hid ⟨bAl (bNext B1.out b3) _, (bNext B1.out b3).size, Blk.new _ _ _, (OwnRingS.base o3 B1.out.size).bl (below_alloc _ _)⟩
  have hszb := S4.out.bl.size
  clear o3 b3 B1
  have HC := Lib.hid (HF.out _ _ _ S4.out)
  subst hx3
  cases t with
  | true =>
    go_wp2_with fail
    refine HC.out.mono ?_
    rintro e w5 ⟨rfl, -, hx⟩
    obtain ⟨x5, s5⟩ := hx (by trivial)
    have hc5 := s5.c
    have S5 := Lib.hid s5; clear s5 hx
    go_wp2
    go_ret2
    exact ⟨_, rfl, S5.out.ow, S5.out.bl⟩
  | false =>
    go_wp2_with fail
    refine HC.out.mono ?_
    rintro e w5 ⟨rfl, b5, -⟩
    have B5 := Lib.hid b5; clear b5
    go_wp2_with fail
    refine (copyRing_any v (dats R) _ (by rw [dats_len]; omega) HLS.out (HR.out.bl B5.out)).mono ?_
    rintro e w6 ⟨x6, rfl, o6, b6⟩
    have c6 := Lib.hid (bNext B5.out b6)
    have O6 := Lib.hid (OwnRingS.base o6 B5.out.size)
    clear o6 b6
    go_wp2
    go_ret2
    exact ⟨_, rfl, O6.out, c6.out⟩
set_option maxRecDepth 100000 in
set_option maxHeartbeats 4000000 in
theorem take2_bad (g : Nat) (c0 c1 v va : Value) (zs : List Int) (D : List Rn) (w : World) (hl : D.length ≤ 4096) (hr : RRing w v D) (hz : zs.length ≤ 4096) (hra : RInts w va zs) (hbad : (sfD D && zs.all ptB) = false) :
    Calls Try.prog 41 #[v, .func (.func g) #[] #[c0, c1], va] w fun e w' => e = .returned (.tuple #[.slice none 0 0, .bool false]) ∧ Below w.heap.size w w' := by
  have HR := Lib.hid hr; clear hr
  have HRA := Lib.hid hra; clear hra
  have HZ := Lib.hid hz; clear hz
  cases q : sfD D with
  | false =>
    have Q := Lib.hid q; clear q hbad
    go_enter Try.func41, Try.ntmps41
    go_wp2_with fail
    refine (implRingSafe_any v D _ hl HR.out).mono ?_
    rw [Q.out]
    rintro e w1 ⟨rfl, b1⟩
    have B1 := Lib.hid b1; clear b1
    go_wp2
    go_ret2
    exact ⟨rfl, B1.out⟩
  | true =>
    rw [q, Bool.true_and] at hbad
    have HB := Lib.hid hbad
    have Q := Lib.hid q; clear q hbad
    go_enter Try.func41, Try.ntmps41
    go_wp2_with fail
    refine (implRingSafe_any v D _ hl HR.out).mono ?_
    rw [Q.out]
    rintro e w1 ⟨rfl, b1⟩
    have B1 := Lib.hid b1; clear b1
    go_wp2_with fail
    refine (positions_any va zs _ (by have := HZ.out; omega) (HRA.out.bl B1.out)).mono ?_
    rw [HB.out]
    rintro e w2 ⟨rfl, rfl⟩
    go_wp2
    go_ret2
    exact ⟨rfl, B1.out⟩

end Go.Proofs.Ythgekfiodedelaa
