/- A node stored into a ring of the call's own; spec.l4Set. -/
import Derived.Test.YthgekfiodedelaaNdC
namespace Go.Proofs.Ythgekfiodedelaa
open Go.RowKit
set_option linter.unusedVariables false
set_option linter.unusedSimpArgs false

theorem HL_k : HL.k = 3 := rfl
theorem flat_setH (es : List Hd) (i : Nat) (hi : i < es.length) (x y : Int) (s : Sl) : (((flat HL es).set (i * 3) (.int .i64 x)).set (i * 3 + 1) (.int .i64 y)).set (i * 3 + 2) (slV s) = flat HL (es.set i (x, y, s)) := by
  induction es generalizing i with
  | nil => simp at hi
  | cons e es ih =>
    cases i with
    | zero => simp [flat, HL, hdC]
    | succ i =>
      have h := ih i (by simpa using hi)
      have e1 : (i + 1) * 3 = i * 3 + 3 := by omega
      rw [List.set_cons_succ, flat_cons, flat_cons, ← h, e1]
      simp [HL, hdC]
/-- The world after a node is stored, cell by cell. -/
def putNd (w : World) (g i : Nat) (x y : Int) (s : Sl) : World := ((w.setCell ⟨g, i * 3, none⟩ (.int .i64 x)).setCell ⟨g, i * 3 + 1, none⟩ (.int .i64 y)).setCell ⟨g, i * 3 + 2, none⟩ (slV s)
theorem grown_putNd (w : World) (g i : Nat) (x y : Int) (s : Sl) : w.grownBy (putNd w g i x y s) (some g) := ((grown_set w g (i * 3) _).trans (grown_set _ g (i * 3 + 1) _)).trans (grown_set _ g (i * 3 + 2) _)
theorem OwnRow.setH {e : TypeId} {w : World} {B g n cap : Nat} {es : List Hd} (h : OwnRow HL e w B (.slice (some ⟨g, 0, none⟩) n cap) es) (i : Nat) (hi : i < es.length) (x y : Int) (s : Sl) :
    OwnRow HL e (putNd w g i x y s) B (.slice (some ⟨g, 0, none⟩) n cap) (es.set i (x, y, s)) := by
  obtain rfl := h.len
  have h1 := (World.ownsRow.stored h (i * 3) (.int .i64 x)).1
  have h2 := (World.ownsRow.stored h1 (i * 3 + 1) (.int .i64 y)).1
  have h3 := (World.ownsRow.stored h2 (i * 3 + 2) (slV s)).1
  rw [flat_setH es i hi] at h3
  unfold OwnRow putNd
  rw [List.length_set]
  exact h3
theorem RS.put {w : World} {B S g n cap : Nat} {hs : List Hd} {D : List Rn} {x y : Int} {s : Sl} {zs : List Int} (h : RS w B (.slice (some ⟨g, 0, none⟩) n cap) hs D) {k : Nat} (hk : k < hs.length)
    (ho : OwnInts w S (slV s) zs) (hBS : B ≤ S) (hfar : ∀ i (hi : i < hs.length) q, (slV hs[i].2.2).ownBlock = some q → q < S) : RS (putNd w g k x y s) B (.slice (some ⟨g, 0, none⟩) n cap) (hs.set k (x, y, s)) (D.set k (x, y, zs)) := by
  have hne : (3 : TypeId) ≠ 37 := by decide
  have hl := h.len
  have hg : w.grownBy (putNd w g k x y s) (Value.slice (some ⟨g, 0, none⟩) n cap).ownBlock := grown_putNd w g k x y s
  have hnew : ∀ q, (slV s).ownBlock = some q → S ≤ q := fun q hq => (ho.lts q hq).1
  refine ⟨h.row.setH k hk x y s, by simp [hl], fun i h1 h2 => ?_, fun i j hi hj hij => ?_⟩
  · by_cases e : k = i
    · subst e
      rw [List.getElem_set_self, List.getElem_set_self]
      exact ⟨rfl, rfl, ownsRow_base (ho.gr hg (own_types ho h.row hne)) hBS⟩
    · rw [List.getElem_set_ne e, List.getElem_set_ne e]
      obtain ⟨a, b, c⟩ := h.nd i (by simpa using h1) (by simpa using h2)
      exact ⟨a, b, c.gr hg (own_types c h.row hne)⟩
  · have hi' : i < hs.length := by simpa using hi
    have hj' : j < hs.length := by simpa using hj
    by_cases e : k = i
    · subst e
      rw [List.getElem_set_self, List.getElem_set_ne (by omega)]
      show (slV s).ownBlock = none ∨ (slV s).ownBlock ≠ _
      cases hb : (slV s).ownBlock with
      | none => exact .inl rfl
      | some q => exact .inr fun e2 => by have h3 := hfar j hj' q e2.symm; have h4 := hnew q hb; omega
    · rw [List.getElem_set_ne e]
      by_cases e' : k = j
      · subst e'
        rw [List.getElem_set_self]
        show _ ∨ _ ≠ (slV s).ownBlock
        cases hb : (slV hs[i].2.2).ownBlock with
        | none => exact .inl rfl
        | some q => exact .inr fun e2 => by have h3 := hfar i hi' q hb; have h4 := hnew q e2.symm; omega
      · rw [List.getElem_set_ne e']
        exact h.ap i j hi' hj' hij
theorem RS.far {w : World} {B : Nat} {v : Value} {hs : List Hd} {D : List Rn} (h : RS w B v hs D) (i : Nat) (hi : i < hs.length) (q : Nat) (hq : (slV hs[i].2.2).ownBlock = some q) : q < w.heap.size := by
  obtain ⟨-, -, c⟩ := h.nd i hi (by have := h.len; omega)
  exact (c.lts q hq).2
theorem RS.sc {w : World} {B : Nat} {v : Value} {hs : List Hd} {D : List Rn} (h : RS w B v hs D) {g : Nat} (hg : g < B) (j : Nat) (x : Value) : RS (w.setCell ⟨g, j, none⟩ x) B v hs D := by
  refine ⟨h.row.gr (grown_set _ _ _ _) ?_, h.len, fun i h1 h2 => ?_, h.ap⟩
  · cases e : v.ownBlock with
    | none => exact .inl rfl
    | some q => exact .inr fun e2 => by have := (h.row.lts q e).1; have := Option.some.inj e2; omega
  · obtain ⟨p1, p2, p3⟩ := h.nd i h1 h2
    exact ⟨p1, p2, p3.sc hg j x⟩
theorem OwnRow.hd {e : TypeId} {w : World} {B g n cap : Nat} {es : List Hd} (h : OwnRow HL e w B (.slice (some ⟨g, 0, none⟩) n cap) es) (i : Nat) (hi : i < es.length) :
    w.cell? ⟨g, i * 3, none⟩ = some (.int .i64 es[i].1) ∧ w.cell? ⟨g, i * 3 + 1, none⟩ = some (.int .i64 es[i].2.1) ∧ w.cell? ⟨g, i * 3 + 2, none⟩ = some (slV es[i].2.2) := by
  obtain ⟨a', cap', hv, hn, hc, hcell⟩ := h.reads
  simp only [Value.slice.injEq] at hv
  obtain ⟨rfl, rfl, rfl⟩ := hv
  obtain ⟨b, off, ha, hb, hx⟩ := hcell i hi
  simp only [Option.some.injEq, Addr.mk.injEq, and_true] at ha
  obtain ⟨rfl, rfl⟩ := ha
  have h0 := hx 0 _ rfl
  have h1 := hx 1 _ rfl
  have h2 := hx 2 _ rfl
  rw [HL_k] at h0 h1 h2
  simpa using And.intro h0 (And.intro h1 h2)
theorem dats_set (R : List Nd) (k : Nat) (n : Nd) : dats (R.set k n) = (dats R).set k (n.id, n.bf, [n.a0, n.a1]) := by simp [dats, List.map_set, dat]

set_option maxRecDepth 100000 in
set_option maxHeartbeats 4000000 in
theorem l4Set_any (v : Value) (R : List Nd) (k : Nat) (n : Nd) (bs os c : Nat) (w : World) (hl : R.length ≤ 4096) (hk : k < R.length) (hr : RR w v R) (hr2 : RInts w (.slice (some ⟨bs, os, none⟩) 2 c) [n.a0, n.a1]) :
    Calls Try.prog 120 #[v, .int .i64 k, .agg #[.int .i64 n.id, .int .i64 n.bf, .slice (some ⟨bs, os, none⟩) 2 c]] w fun e w' => ∃ x, e = .returned x ∧ OwnRingS w' w.heap.size x (dats (R.set k n)) ∧ Below w.heap.size w w' := by
  obtain ⟨a, cap, rfl, hc, hm⟩ := id hr.sl
  have HR := Lib.hid (hr.al (.cells #[.int .i64 n.id, .int .i64 n.bf, .slice (some ⟨bs, os, none⟩) 2 c] 37)); clear hr
  have R3 := Lib.hid (hr2.al (.cells #[.int .i64 n.id, .int .i64 n.bf, .slice (some ⟨bs, os, none⟩) 2 c] 37))
  have BK := Lib.hid (Blk.new w #[.int .i64 n.id, .int .i64 n.bf, .slice (some ⟨bs, os, none⟩) 2 c] 37)
  have HD := Lib.hid (dats_set R k n)
  have BA := Lib.hid (below_alloc w (.cells #[.int .i64 n.id, .int .i64 n.bf, .slice (some ⟨bs, os, none⟩) 2 c] 37))
  obtain ⟨zs, hzs⟩ : ∃ zs, zs = [n.a0, n.a1] := ⟨_, rfl⟩
  have HZ : Hid (zs.length = 2) := Lib.hid (by rw [hzs]; rfl)
  rw [← hzs] at R3 HD
  clear hzs hr2
  generalize n.id = x at *
  generalize n.bf = y at *
  go_enter Try.func120, Try.ntmps120
  go_wp2_with fail
  refine (l3Copy_any _ R _ (by omega) HR.out).mono ?_
  rintro e w2 ⟨u2, rfl, ⟨hs, h2⟩, b2⟩
  have H2 := Lib.hid h2
  have hhl : hs.length = R.length := by have := h2.len; rw [this, dats_len]
  rcases h2.row.shape with ⟨rfl, h0⟩ | ⟨g, cap2, rfl, hB, hgl, hn, hcm⟩
  · exfalso; rw [h0] at hhl; simp at hhl; omega
  rw [hhl] at hn ⊢
  have BK2 := Lib.hid (BK.out.bl b2)
  have R32 := Lib.hid (R3.out.bl b2)
  have c2 := Lib.hid (bNext BA.out b2)
  have hs2 := b2.size
  simp only [World.size_alloc] at hB hs2
  clear h2 BK R3 BA HR b2
  obtain ⟨y0, y1, y2⟩ := (BK2.out.al (.cells #[] 3)).get3
  have hgw : w.heap.size < w2.heap.size := by omega
  go_wp2_with (at_builtin; refine wpList_copyRd _ rfl _ _ rfl _ rfl (by simp) _ rfl zs R32.out (by rw [HZ.out]; omega) (by rw [HZ.out]; omega) ?_)
  intro v7 w7 o7 b7
  obtain ⟨a7, q7, rfl, -, -, -⟩ := id o7.reads
  clear y0 y1 y2
  have BK7 := BK2.out.bl b7
  obtain ⟨y0, y1, y2⟩ := BK7.get3
  obtain ⟨f0, f1, f2⟩ := BK7.fr3
  have B8 := BK7.s32 (.slice a7 zs.length q7)
  obtain ⟨z0, z1, z2⟩ := B8.get3
  have o8 := o7.sc (g := w.heap.size) (by omega) 2 (.slice a7 zs.length q7)
  have far := fun i hi q hq => H2.out.far i hi q hq
  have H8 := (H2.out.bl b7).sc (g := w.heap.size) (by simp) 2 (.slice a7 zs.length q7)
  have hfz := H8.row.frozenAt
  have hkh : k < hs.length := by omega
  obtain ⟨e0, e1, e2⟩ := H8.row.hd k hkh
  have H9 := Lib.hid (H8.put hkh (s := (a7, zs.length, q7)) (x := x) (y := y) o8 (by simp; omega) far)
  have c8 := Lib.hid (bSc (bNext c2.out b7) (Nat.le_refl _) 2 (.slice a7 zs.length q7))
  have HF : Hid (OwnRingS (putNd (w7.setCell ⟨w.heap.size, 2, none⟩ (.slice a7 zs.length q7)) g k x y (a7, zs.length, q7)) w.heap.size (.slice (some ⟨g, 0, none⟩) R.length cap2) (dats (R.set k n))) := Lib.hid (by
    rw [HD.out, ← hhl]
    exact OwnRingS.base ⟨_, H9.out⟩ (by simp))
  have c9 : Hid (Below w.heap.size w (putNd (w7.setCell ⟨w.heap.size, 2, none⟩ (.slice a7 zs.length q7)) g k x y (a7, zs.length, q7))) := Lib.hid (bGr c8.out (grown_putNd _ g k x y _) (fun q hq => by have := Option.some.inj hq; omega))
  clear H8 o8 o7 b7 BK7 B8 H9
  go_wp2
  go_ret
  exact ⟨_, rfl, HF.out, c9.out⟩
end Go.Proofs.Ythgekfiodedelaa
