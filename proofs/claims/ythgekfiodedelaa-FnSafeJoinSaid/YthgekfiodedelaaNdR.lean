/- Valid rings in memory; spec.l3Find, spec.l1Between, spec.l3Skipped. -/
import Derived.Test.YthgekfiodedelaaNdV
namespace Go.Proofs.Ythgekfiodedelaa
open Go.RowKit
set_option linter.unusedVariables false
set_option linter.unusedSimpArgs false

def dat (n : Nd) : Rn := (n.id, n.bf, [n.a0, n.a1])
def dats (R : List Nd) : List Rn := R.map dat
theorem dats_len (R : List Nd) : (dats R).length = R.length := by simp [dats]
theorem dats_at (R : List Nd) (i : Nat) (hi : i < (dats R).length) : (dats R)[i] = dat (nth R i) := by
  have h : i < R.length := by simpa [dats] using hi
  simp [dats, nth, List.getD, h]
theorem nd_of {e : Rn} (h : ndOk e = true) : ∃ n, e = dat n ∧ NdV n := by
  obtain ⟨x, y, zs⟩ := e
  simp only [ndOk, Bool.and_eq_true, Bool.or_eq_true, decide_eq_true_eq, List.all_eq_true] at h
  obtain ⟨⟨⟨h1, h2⟩, h3⟩, h4⟩ := h
  match zs, h3, h4 with
  | [a, b], _, h4 =>
    have ha := ptB_true (h4 a (by simp))
    have hb := ptB_true (h4 b (by simp))
    have hx := ptB_true h1
    refine ⟨⟨x, y, a, b⟩, rfl, ⟨by dsimp only; omega, ?_, by dsimp only; omega, by dsimp only; omega⟩⟩
    rcases h2 with h2 | h2
    · exact .inl h2
    · have := ptB_true h2; exact .inr (by dsimp only; omega)
theorem ok_of {n : Nd} (h : NdV n) : ndOk (dat n) = true := by
  have h1 := h.i0; have h2 := h.r0; have h3 := h.r1
  have e0 : ptB n.id = true := ptB_of (by omega)
  have e1 : ptB n.a0 = true := ptB_of (by omega)
  have e2 : ptB n.a1 = true := ptB_of (by omega)
  have e3 : (decide (n.bf = -1) || ptB n.bf) = true := by
    rcases h.b0 with h | h
    · simp [h]
    · rw [ptB_of (by omega)]; simp
  simp only [ndOk, dat, e0, e3, List.all_cons, e1, e2, List.all_nil]
  rcases h.b0 with h | h
  · simp [h]
  · rw [ptB_of (n := n.bf) (by omega)]; simp
theorem vFrom_map : ∀ {D : List Rn} {q : Int}, vFrom q D = true → ∃ R, D = dats R ∧ (∀ n ∈ R, NdV n) ∧ (∀ x ∈ idsL R, q < x) ∧ (idsL R).Pairwise (· < ·)
  | [], _, _ => ⟨[], rfl, by simp, by simp [idsL], by simp [idsL]⟩
  | e :: D, q, h => by
    simp only [vFrom, Bool.and_eq_true, decide_eq_true_eq] at h
    obtain ⟨⟨h1, h2⟩, h3⟩ := h
    obtain ⟨n, rfl, hn⟩ := nd_of h1
    obtain ⟨R, rfl, a, b, c⟩ := vFrom_map h3
    have h2' : q < n.id := h2
    have b' : ∀ x ∈ idsL R, n.id < x := b
    refine ⟨n :: R, rfl, fun m hm => ?_, fun x hx => ?_, ?_⟩
    · rcases List.mem_cons.1 hm with rfl | hm
      · exact hn
      · exact a m hm
    · rcases List.mem_cons.1 (show x ∈ n.id :: idsL R from hx) with rfl | hx
      · exact h2'
      · have := b' x hx; omega
    · show (n.id :: idsL R).Pairwise (· < ·)
      exact List.pairwise_cons.2 ⟨b', c⟩
theorem vD_of {D : List Rn} (h : vD D = true) : ∃ R, D = dats R ∧ ValidL R := by
  simp only [vD, Bool.and_eq_true, decide_eq_true_eq] at h
  obtain ⟨R, rfl, a, b, c⟩ := vFrom_map h.1
  exact ⟨R, rfl, c, a, by simpa [dats] using h.2⟩
theorem vFrom_dats : ∀ {R : List Nd} {q : Int}, (∀ n ∈ R, NdV n) → (∀ x ∈ idsL R, q < x) → (idsL R).Pairwise (· < ·) → vFrom q (dats R) = true
  | [], _, _, _, _ => rfl
  | n :: R, q, a, b, c => by
    have c' : (n.id :: idsL R).Pairwise (· < ·) := c
    obtain ⟨c1, c2⟩ := List.pairwise_cons.1 c'
    show (ndOk (dat n) && decide (q < n.id) && vFrom n.id (dats R)) = true
    rw [ok_of (a n (by simp)), decide_eq_true (b n.id (by simp [idsL])), vFrom_dats (fun m hm => a m (by simp [hm])) c1 c2]; rfl
theorem vD_dats {R : List Nd} (h : ValidL R) : vD (dats R) = true := by
  have h10 := h.len
  rw [vD, vFrom_dats h.ok (fun x hx => by have := (h.ascI.2 x hx).1; omega) h.asc, dats_len, decide_eq_true h10]; rfl

/-- A ring of whole nodes. -/
def RR (w : World) (v : Value) (R : List Nd) : Prop := RRing w v (dats R)
theorem RR.bl {w w' : World} {v : Value} {R : List Nd} (h : RR w v R) (hb : Below w.heap.size w w') : RR w' v R := RRing.bl h hb
theorem RR.dr {w : World} {v : Value} {R : List Nd} (h : RR w v R) (n : Nat) : RR (w.drewN n) v R := h
theorem RR.d1 {w : World} {v : Value} {R : List Nd} (h : RR w v R) : RR w.drew v R := h
theorem RR.al {w : World} {v : Value} {R : List Nd} (h : RR w v R) (o : Obj) : RR (w.alloc o) v R := RRing.al h o
theorem RR.sl {w : World} {v : Value} {R : List Nd} (h : RR w v R) : ∃ a cap, v = .slice a R.length cap ∧ R.length ≤ cap ∧ cap ≤ maxLen := by
  have := RRing.sl h; rwa [dats_len] at this
theorem RR.nd {w : World} {a : Option Addr} {n cap : Nat} {R : List Nd} (h : RR w (.slice a n cap) R) (i : Nat) (hi : i < R.length) :
    ∃ b off bs os c, a = some ⟨b, off, none⟩ ∧ b < w.heap.size ∧ bs < w.heap.size ∧ w.cell? ⟨b, off + i * 3, none⟩ = some (.int .i64 (nth R i).id) ∧ w.cell? ⟨b, off + i * 3 + 1, none⟩ = some (.int .i64 (nth R i).bf) ∧
      w.cell? ⟨b, off + i * 3 + 2, none⟩ = some (.slice (some ⟨bs, os, none⟩) 2 c) ∧ RInts w (.slice (some ⟨bs, os, none⟩) 2 c) [(nth R i).a0, (nth R i).a1] ∧
      w.cell? ⟨bs, os, none⟩ = some (.int .i64 (nth R i).a0) ∧ w.cell? ⟨bs, os + 1, none⟩ = some (.int .i64 (nth R i).a1) := by
  have hi' : i < (dats R).length := by rw [dats_len]; exact hi
  obtain ⟨b, off, s, c, ha, hb, x0, x1, x2, r⟩ := RRing.nd h i hi'
  rw [dats_at] at x0 x1 x2 r
  obtain ⟨a', c', e, -, -, hc⟩ := id r
  cases e
  obtain ⟨bs, os, rfl, hbs, y0⟩ := hc 0 (by simp [dat])
  obtain ⟨bs', os', he, -, y1⟩ := hc 1 (by simp [dat])
  simp only [Option.some.injEq, Addr.mk.injEq, and_true] at he
  obtain ⟨rfl, rfl⟩ := he
  exact ⟨b, off, bs, os, c, ha, hb, hbs, x0, x1, x2, r, y0, y1⟩

/-- Where a position stands: -1 if it does not. -/
def fdI (R : List Nd) (x : Int) : Int := if liveR R x then (fnd R x : Int) else -1
theorem fd_at {R : List Nd} {x : Int} {j : Nat} (hj : j < R.length) (h : ∀ i, i < j → (nth R i).id ≠ x) (e : (nth R j).id = x) : fdI R x = j := by
  have hl : liveR R x = true := (live_iff R x).2 (by rw [← e]; exact nth_id hj)
  rw [fdI, if_pos hl]
  have h1 := fnd_lt ((live_iff R x).1 hl)
  have h2 := fnd_id ((live_iff R x).1 hl)
  have h3 : ¬ fnd R x < j := fun h4 => h _ h4 h2
  have h4 : ¬ j < fnd R x := fun h4 => by
    have h5 : (idsL R)[j]'(by simpa [idsL] using hj) = x := by rw [ids_get hj, e]
    have h6 := List.not_of_lt_findIdx (p := (· == x)) (xs := idsL R) (i := j) h4
    simp [h5] at h6
  omega
theorem fd_none {R : List Nd} {x : Int} (h : ∀ i, i < R.length → (nth R i).id ≠ x) : fdI R x = -1 := by
  rw [fdI, if_neg]
  intro hl
  have h1 := (live_iff R x).1 hl
  exact h _ (fnd_lt h1) (fnd_id h1)

set_option maxRecDepth 100000 in
set_option maxHeartbeats 4000000 in
theorem l3Find_any (v : Value) (R : List Nd) (x : Int) (w : World) (hl : R.length ≤ 4194304) (hr : RR w v R) :
    Calls Try.prog 45 #[v, .int .i64 x] w fun e w' => e = .returned (.int .i64 (fdI R x)) ∧ w = w' := by
  obtain ⟨a, cap, rfl, hc, hm⟩ := id hr.sl
  have HR := Lib.hid hr; clear hr
  go_enter Try.func45, Try.ntmps45
  go_wp2
  go_loop [5] (fun i => ∃ j : Nat, j ≤ R.length ∧ i = .int .i64 j ∧ Hid (∀ i, i < j → (nth R i).id ≠ x)) (fun i => R.length - (intOf i).toNat)
  case atStart => exact ⟨0, Nat.zero_le _, rfl, Lib.hid (fun i h => absurd h (by omega))⟩
  case round =>
    obtain ⟨j, hj, rfl, HJ⟩ := hrel
    by_cases hlt : j < R.length
    · obtain ⟨b, off, bs, os, c, rfl, hb, -, x0, -, -, -, -, -⟩ := HR.out.nd j hlt
      by_cases hk : (nth R j).id = x
      · have HE : Hid (fdI R x = j) := Lib.hid (fd_at hlt HJ.out hk)
        have dk : ((nth R j).id == x) = true := by simp [hk]
        clear hk
        generalize (nth R j).id = y at *
        go_wp2
        go_ret
        exact ⟨ret_int HE.out.symm, rfl⟩
      · have HN : Hid (∀ i, i < j + 1 → (nth R i).id ≠ x) := Lib.hid (fun i hi => by
          by_cases e : i = j
          · subst e; exact hk
          · exact HJ.out i (by omega))
        have dk : ((nth R j).id == x) = false := by simp [hk]
        clear hk
        generalize (nth R j).id = y at *
        go_wp2
        go_round
        case rel => exact ⟨j + 1, by omega, by go_num, HN⟩
        case measure => simp [intOf]; omega
    · obtain rfl : j = R.length := by omega
      have HE : Hid (fdI R x = -1) := Lib.hid (fd_none HJ.out)
      go_wp2
      go_ret
      exact ⟨ret_int HE.out.symm, rfl⟩

set_option maxRecDepth 100000 in
theorem l1Between_any (a x b : Int) (w : World) : Calls Try.prog 46 #[.int .i64 a, .int .i64 x, .int .i64 b] w fun e w' => e = .returned (.bool (btw a x b)) ∧ w = w' := by
  by_cases h : a < b
  · have d1 : decide (a < b) = true := decide_eq_true h
    have HB : Hid (btw a x b = (decide (a < x) && decide (x < b))) := Lib.hid (by simp [btw, h])
    clear h
    cases d2 : decide (a < x) with
    | true =>
      cases d3 : decide (x < b) with
      | true =>
        go_enter Try.func46, Try.ntmps46
        go_wp2
        go_ret
        exact ⟨ret_bool (by rw [HB.out, d2, d3]; rfl), rfl⟩
      | false =>
        go_enter Try.func46, Try.ntmps46
        go_wp2
        go_ret
        exact ⟨ret_bool (by rw [HB.out, d2, d3]; rfl), rfl⟩
    | false =>
      go_enter Try.func46, Try.ntmps46
      go_wp2
      go_ret
      exact ⟨ret_bool (by rw [HB.out, d2]; rfl), rfl⟩
  · have d1 : decide (a < b) = false := decide_eq_false h
    have HB : Hid (btw a x b = (decide (a < x) || decide (x < b))) := Lib.hid (by simp [btw, h])
    clear h
    cases d2 : decide (a < x) with
    | false =>
      cases d3 : decide (x < b) with
      | true =>
        go_enter Try.func46, Try.ntmps46
        go_wp2
        go_ret
        exact ⟨ret_bool (by rw [HB.out, d2, d3]; rfl), rfl⟩
      | false =>
        go_enter Try.func46, Try.ntmps46
        go_wp2
        go_ret
        exact ⟨ret_bool (by rw [HB.out, d2, d3]; rfl), rfl⟩
    | true =>
      go_enter Try.func46, Try.ntmps46
      go_wp2
      go_ret
      exact ⟨ret_bool (by rw [HB.out, d2]; rfl), rfl⟩
/-- The positions of a node, in their order. -/
def seqN (n : Nd) : Nat → Int
  | 0 => n.id
  | 1 => n.a0
  | _ => n.a1
theorem seq_cell {w : World} {bs os c : Nat} {n : Nd} (h : RInts w (.slice (some ⟨bs, os, none⟩) 2 c) [n.a0, n.a1]) {m : Nat} (hm : m < 2) : w.cell? ⟨bs, os + m, none⟩ = some (.int .i64 (seqN n (m + 1))) := by
  obtain ⟨_, _, e, -, -, hc⟩ := h
  cases e
  obtain ⟨b, off, he, -, h1⟩ := hc m (by simpa using hm)
  cases he
  rw [h1]
  match m, hm with
  | 0, _ => rfl
  | 1, _ => rfl
theorem skips_none {n : Nd} {x : Int} (h : ∀ i, i < 2 → btw (seqN n i) x (seqN n (i + 1)) = false) : skips n x = false := by
  have h0 := h 0 (by omega); have h1 := h 1 (by omega)
  simp only [seqN] at h0 h1
  rw [skips, h0, h1]; rfl
theorem skips_some {n : Nd} {x : Int} {i : Nat} (hi : i < 2) (h : btw (seqN n i) x (seqN n (i + 1)) = true) : skips n x = true := by
  match i, hi, h with
  | 0, _, h => simp only [seqN] at h; rw [skips, h]; rfl
  | 1, _, h => simp only [seqN] at h; rw [skips, h]; simp

set_option maxRecDepth 100000 in
set_option maxHeartbeats 4000000 in
theorem l3Skipped_any (n : Nd) (bs os c : Nat) (x : Int) (w : World) (hr : RInts w (.slice (some ⟨bs, os, none⟩) 2 c) [n.a0, n.a1]) :
    Calls Try.prog 90 #[.agg #[.int .i64 n.id, .int .i64 n.bf, .slice (some ⟨bs, os, none⟩) 2 c], .int .i64 x] w fun e w' => e = .returned (.bool (skips n x)) ∧ Below w.heap.size w w' := by
  obtain ⟨W, hW⟩ : ∃ W, W = w.alloc (.cells #[.int .i64 n.id, .int .i64 n.bf, .slice (some ⟨bs, os, none⟩) 2 c] 37) := ⟨_, rfl⟩
  obtain ⟨G, hG⟩ : ∃ G, G = w.heap.size := ⟨_, rfl⟩
  have C1 : Hid (Below w.heap.size w W) := Lib.hid (by rw [hW]; exact bAl (Below.refl _ _) _)
  have R3 : Hid (RInts W (.slice (some ⟨bs, os, none⟩) 2 c) [n.a0, n.a1]) := Lib.hid (by rw [hW]; exact hr.al _)
  have BK : Hid (Blk W G #[.int .i64 n.id, .int .i64 n.bf, .slice (some ⟨bs, os, none⟩) 2 c] 37) := Lib.hid (by rw [hW, hG]; exact Blk.new _ _ _)
  have hGW : G < W.heap.size := by rw [hW, hG]; simp
  clear hr
  go_enter Try.func90, Try.ntmps90
  go_wp2
  rw [← hW, ← hG]
  have e0 : n.id = seqN n 0 := rfl
  rw [e0]
  clear hW hG
  obtain ⟨y0, y1, y2⟩ := BK.out.get3
  clear BK
  rw [e0] at y0
  clear e0
  go_loopw [5, 6] (fun l k wr => ∃ m : Nat, m ≤ 2 ∧ k = .int .i64 m ∧ l = .int .i64 (seqN n m) ∧ Hid (∀ i, i < m → btw (seqN n i) x (seqN n (i + 1)) = false) ∧ wr = W) (fun _ k _ => 2 - (intOf k).toNat)
  case atStart => exact ⟨0, Nat.zero_le _, rfl, rfl, Lib.hid (fun i h => absurd h (by omega)), rfl⟩
  case round =>
    obtain ⟨m, hm, rfl, rfl, HJ, rfl⟩ := hrel
    by_cases hmt : m < 2
    · have z0 := seq_cell R3.out hmt
      cases hb : btw (seqN n m) x (seqN n (m + 1)) with
      | true =>
        have HE : Hid (skips n x = true) := Lib.hid (skips_some hmt hb)
        go_wp2_with fail
        refine (l1Between_any _ _ _ _).mono ?_
        rw [hb]
        rintro e w9 ⟨rfl, rfl⟩
        go_wp2
        go_ret
        exact ⟨ret_bool HE.out.symm, C1.out⟩
      | false =>
        have HN : Hid (∀ i, i < m + 1 → btw (seqN n i) x (seqN n (i + 1)) = false) := Lib.hid (fun i hi => by
          by_cases e : i = m
          · subst e; exact hb
          · exact HJ.out i (by omega))
        go_wp2_with fail
        refine (l1Between_any _ _ _ _).mono ?_
        rw [hb]
        rintro e w9 ⟨rfl, rfl⟩
        go_wp2
        go_roundw
        case rel => exact ⟨m + 1, by omega, by go_num, rfl, HN, trivial⟩
        case measure => simp [intOf]; omega
    · obtain rfl : m = 2 := by omega
      have HE : Hid (skips n x = false) := Lib.hid (skips_none HJ.out)
      go_wp2
      go_ret
      exact ⟨ret_bool HE.out.symm, C1.out⟩
end Go.Proofs.Ythgekfiodedelaa
