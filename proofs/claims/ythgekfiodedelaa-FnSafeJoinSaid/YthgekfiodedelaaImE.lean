/- Single cells stored into a ring of the call's own; slices.Clone at nodes; impl.copyRing. -/
import Derived.Test.YthgekfiodedelaaImD
import Derived.Test.YthgekfiodedelaaClone
namespace Go.Proofs.Ythgekfiodedelaa
open Go.RowKit
set_option linter.unusedVariables false
set_option linter.unusedSimpArgs false

theorem flat_st0 (es : List Hd) (i : Nat) (hi : i < es.length) (x : Int) : (flat HL es).set (i * 3) (.int .i64 x) = flat HL (es.set i (x, es[i].2.1, es[i].2.2)) := by
  induction es generalizing i with
  | nil => simp at hi
  | cons e es ih =>
    cases i with
    | zero => simp [flat, HL, hdC]
    | succ i =>
      have h := ih i (by simpa using hi)
      have e1 : (i + 1) * 3 = i * 3 + 3 := by omega
      rw [List.set_cons_succ, flat_cons, flat_cons, e1]
      simp only [List.getElem_cons_succ]
      rw [← h]
      simp [HL, hdC]
theorem flat_st1 (es : List Hd) (i : Nat) (hi : i < es.length) (y : Int) : (flat HL es).set (i * 3 + 1) (.int .i64 y) = flat HL (es.set i (es[i].1, y, es[i].2.2)) := by
  induction es generalizing i with
  | nil => simp at hi
  | cons e es ih =>
    cases i with
    | zero => simp [flat, HL, hdC]
    | succ i =>
      have h := ih i (by simpa using hi)
      have e1 : (i + 1) * 3 + 1 = i * 3 + 1 + 3 := by omega
      rw [List.set_cons_succ, flat_cons, flat_cons, e1]
      simp only [List.getElem_cons_succ]
      rw [← h]
      simp [HL, hdC]
theorem flat_st2 (es : List Hd) (i : Nat) (hi : i < es.length) (s : Sl) : (flat HL es).set (i * 3 + 2) (slV s) = flat HL (es.set i (es[i].1, es[i].2.1, s)) := by
  induction es generalizing i with
  | nil => simp at hi
  | cons e es ih =>
    cases i with
    | zero => simp [flat, HL, hdC]
    | succ i =>
      have h := ih i (by simpa using hi)
      have e1 : (i + 1) * 3 + 2 = i * 3 + 2 + 3 := by omega
      rw [List.set_cons_succ, flat_cons, flat_cons, e1]
      simp only [List.getElem_cons_succ]
      rw [← h]
      simp [HL, hdC]
theorem OwnRow.st0 {e : TypeId} {w : World} {B g n cap : Nat} {es : List Hd} (h : OwnRow HL e w B (.slice (some ⟨g, 0, none⟩) n cap) es) (i : Nat) (hi : i < es.length) (x : Int) : OwnRow HL e (w.setCell ⟨g, i * 3, none⟩ (.int .i64 x)) B (.slice (some ⟨g, 0, none⟩) n cap) (es.set i (x, es[i].2.1, es[i].2.2)) := by
  obtain rfl := h.len
  have h1 := (World.ownsRow.stored h (i * 3) (.int .i64 x)).1
  rw [flat_st0 es i hi] at h1
  unfold OwnRow; rw [List.length_set]; exact h1
theorem OwnRow.st1 {e : TypeId} {w : World} {B g n cap : Nat} {es : List Hd} (h : OwnRow HL e w B (.slice (some ⟨g, 0, none⟩) n cap) es) (i : Nat) (hi : i < es.length) (y : Int) : OwnRow HL e (w.setCell ⟨g, i * 3 + 1, none⟩ (.int .i64 y)) B (.slice (some ⟨g, 0, none⟩) n cap) (es.set i (es[i].1, y, es[i].2.2)) := by
  obtain rfl := h.len
  have h1 := (World.ownsRow.stored h (i * 3 + 1) (.int .i64 y)).1
  rw [flat_st1 es i hi] at h1
  unfold OwnRow; rw [List.length_set]; exact h1
theorem OwnRow.st2 {e : TypeId} {w : World} {B g n cap : Nat} {es : List Hd} (h : OwnRow HL e w B (.slice (some ⟨g, 0, none⟩) n cap) es) (i : Nat) (hi : i < es.length) (s : Sl) : OwnRow HL e (w.setCell ⟨g, i * 3 + 2, none⟩ (slV s)) B (.slice (some ⟨g, 0, none⟩) n cap) (es.set i (es[i].1, es[i].2.1, s)) := by
  obtain rfl := h.len
  have h1 := (World.ownsRow.stored h (i * 3 + 2) (slV s)).1
  rw [flat_st2 es i hi] at h1
  unfold OwnRow; rw [List.length_set]; exact h1
theorem ne_nd_int : (3 : TypeId) ≠ 37 := by decide

/-- A copy under way: the lists before place j are the call's own, the others lie where they lay. -/
structure CS (w wr : World) (B : Nat) (v : Value) (hs : List Hd) (D : List Rn) (j : Nat) : Prop where
  row : OwnRow HL 37 wr B v hs
  len : hs.length = D.length
  lo : ∀ i (h : i < hs.length) (h' : i < D.length), i < j → hs[i].1 = D[i].1 ∧ hs[i].2.1 = D[i].2.1 ∧ OwnInts wr B (slV hs[i].2.2) D[i].2.2
  hi : ∀ i (h : i < hs.length) (h' : i < D.length), j ≤ i → hs[i].1 = D[i].1 ∧ hs[i].2.1 = D[i].2.1 ∧ RInts w (slV hs[i].2.2) D[i].2.2
  ap : ∀ i k (hi : i < hs.length) (hk : k < hs.length), i < k → k < j → (slV hs[i].2.2).ownBlock = none ∨ (slV hs[i].2.2).ownBlock ≠ (slV hs[k].2.2).ownBlock
theorem CS.bl {w wr wr' : World} {B j : Nat} {v : Value} {hs : List Hd} {D : List Rn} (h : CS w wr B v hs D j) (hb : Below wr.heap.size wr wr') : CS w wr' B v hs D j :=
  ⟨h.row.bl hb, h.len, fun i h1 h2 h3 => by obtain ⟨a, b, c⟩ := h.lo i h1 h2 h3; exact ⟨a, b, c.bl hb⟩, h.hi, h.ap⟩
theorem CS.far {w wr : World} {B j : Nat} {v : Value} {hs : List Hd} {D : List Rn} (h : CS w wr B v hs D j) (i : Nat) (hi : i < hs.length) (hij : i < j) (q : Nat) (hq : (slV hs[i].2.2).ownBlock = some q) : q < wr.heap.size := by
  obtain ⟨-, -, c⟩ := h.lo i hi (by have := h.len; omega) hij
  exact (c.lts q hq).2
theorem CS.step {w wr : World} {B S g n cap j : Nat} {hs : List Hd} {D : List Rn} {s : Sl} (h : CS w wr B (.slice (some ⟨g, 0, none⟩) n cap) hs D j) (hj : j < hs.length) (hj' : j < D.length)
    (ho : OwnInts wr S (slV s) D[j].2.2) (hBS : B ≤ S) (hfar : ∀ i (hi : i < hs.length), i < j → ∀ q, (slV hs[i].2.2).ownBlock = some q → q < S) :
    CS w (wr.setCell ⟨g, j * 3 + 2, none⟩ (slV s)) B (.slice (some ⟨g, 0, none⟩) n cap) (hs.set j (hs[j].1, hs[j].2.1, s)) D (j + 1) := by
  have hg : wr.grownBy (wr.setCell ⟨g, j * 3 + 2, none⟩ (slV s)) (Value.slice (some ⟨g, 0, none⟩) n cap).ownBlock := grown_set wr g (j * 3 + 2) (slV s)
  refine ⟨h.row.st2 j hj s, by simp [h.len], fun i h1 h2 h3 => ?_, fun i h1 h2 h3 => ?_, fun i k hi hk hik hkj => ?_⟩
  · by_cases e : j = i
    · subst e
      rw [List.getElem_set_self]
      obtain ⟨a, b, -⟩ := h.hi j hj hj' (Nat.le_refl _)
      exact ⟨a, b, ownsRow_base (ho.gr hg (own_types ho h.row ne_nd_int)) hBS⟩
    · rw [List.getElem_set_ne e]
      obtain ⟨a, b, c⟩ := h.lo i (by simpa using h1) h2 (by omega)
      exact ⟨a, b, c.gr hg (own_types c h.row ne_nd_int)⟩
  · rw [List.getElem_set_ne (by omega)]
    exact h.hi i (by simpa using h1) h2 (by omega)
  · have hi' : i < hs.length := by simpa using hi
    have hk' : k < hs.length := by simpa using hk
    rw [List.getElem_set_ne (by omega)]
    by_cases e : j = k
    · subst e
      rw [List.getElem_set_self]
      show _ ∨ _ ≠ (slV s).ownBlock
      cases hb : (slV hs[i].2.2).ownBlock with
      | none => exact .inl rfl
      | some q => exact .inr fun e2 => by have h3 := hfar i hi' hik q hb; have h4 := (ho.lts q e2.symm).1; omega
    · rw [List.getElem_set_ne e]
      exact h.ap i k hi' hk' hik (by omega)
theorem CS.done {w wr : World} {B : Nat} {v : Value} {hs : List Hd} {D : List Rn} (h : CS w wr B v hs D D.length) : RS wr B v hs D :=
  ⟨h.row, h.len, fun i h1 h2 => h.lo i h1 h2 h2, fun i k hi hk hik => h.ap i k hi hk hik (by have := h.len; omega)⟩

/-- A ring of the call's own whose node k gets a new list. -/
theorem RS.st2 {w : World} {B S g n cap : Nat} {hs : List Hd} {D : List Rn} {s : Sl} {zs : List Int} (h : RS w B (.slice (some ⟨g, 0, none⟩) n cap) hs D) {k : Nat} (hk : k < hs.length) (hk' : k < D.length)
    (ho : OwnInts w S (slV s) zs) (hBS : B ≤ S) (hfar : ∀ i (hi : i < hs.length) q, (slV hs[i].2.2).ownBlock = some q → q < S) :
    RS (w.setCell ⟨g, k * 3 + 2, none⟩ (slV s)) B (.slice (some ⟨g, 0, none⟩) n cap) (hs.set k (hs[k].1, hs[k].2.1, s)) (D.set k (D[k].1, D[k].2.1, zs)) := by
  have hg : w.grownBy (w.setCell ⟨g, k * 3 + 2, none⟩ (slV s)) (Value.slice (some ⟨g, 0, none⟩) n cap).ownBlock := grown_set w g (k * 3 + 2) (slV s)
  have hnew : ∀ q, (slV s).ownBlock = some q → S ≤ q := fun q hq => (ho.lts q hq).1
  refine ⟨h.row.st2 k hk s, by simp [h.len], fun i h1 h2 => ?_, fun i j hi hj hij => ?_⟩
  · by_cases e : k = i
    · subst e
      rw [List.getElem_set_self, List.getElem_set_self]
      obtain ⟨a, b, -⟩ := h.nd k hk hk'
      exact ⟨a, b, ownsRow_base (ho.gr hg (own_types ho h.row ne_nd_int)) hBS⟩
    · rw [List.getElem_set_ne e, List.getElem_set_ne e]
      obtain ⟨a, b, c⟩ := h.nd i (by simpa using h1) (by simpa using h2)
      exact ⟨a, b, c.gr hg (own_types c h.row ne_nd_int)⟩
  · have hi' : i < hs.length := by simpa using hi
    have hj' : j < hs.length := by simpa using hj
    by_cases e : k = i
    · subst e
      rw [List.getElem_set_self, List.getElem_set_ne (by omega)]
      show (slV s).ownBlock = none ∨ (slV s).ownBlock ≠ _
      cases hb : (slV s).ownBlock with
      | none => exact .inl rfl
      | some q => exact .inr fun e2 => by have h3 := hfar j hj' q e2.symm; have h4 := hnew q hb; omega
    · rw [List.getElem_set_ne e]
      by_cases e' : k = j
      · subst e'
        rw [List.getElem_set_self]
        show _ ∨ _ ≠ (slV s).ownBlock
        cases hb : (slV hs[i].2.2).ownBlock with
        | none => exact .inl rfl
        | some q => exact .inr fun e2 => by have h3 := hfar i hi' q hb; have h4 := hnew q e2.symm; omega
      · rw [List.getElem_set_ne e']
        exact h.ap i j hi' hj' hij
/-- .. whose node k gets another predecessor. -/
theorem RS.st1 {w : World} {B g n cap : Nat} {hs : List Hd} {D : List Rn} (h : RS w B (.slice (some ⟨g, 0, none⟩) n cap) hs D) {k : Nat} (hk : k < hs.length) (hk' : k < D.length) (y : Int) :
    RS (w.setCell ⟨g, k * 3 + 1, none⟩ (.int .i64 y)) B (.slice (some ⟨g, 0, none⟩) n cap) (hs.set k (hs[k].1, y, hs[k].2.2)) (D.set k (D[k].1, y, D[k].2.2)) := by
  have hg : w.grownBy (w.setCell ⟨g, k * 3 + 1, none⟩ (.int .i64 y)) (Value.slice (some ⟨g, 0, none⟩) n cap).ownBlock := grown_set w g (k * 3 + 1) _
  have hsl : ∀ i (h1 : i < (hs.set k (hs[k].1, y, hs[k].2.2)).length), (hs.set k (hs[k].1, y, hs[k].2.2))[i].2.2 = (hs[i]'(by simpa using h1)).2.2 := fun i h1 => by
    by_cases e : k = i
    · subst e; rw [List.getElem_set_self]
    · rw [List.getElem_set_ne e]
  refine ⟨h.row.st1 k hk y, by simp [h.len], fun i h1 h2 => ?_, fun i j hi hj hij => ?_⟩
  · obtain ⟨a, b, c⟩ := h.nd i (by simpa using h1) (by simpa using h2)
    have c' := c.gr hg (own_types c h.row ne_nd_int)
    by_cases e : k = i
    · subst e
      rw [List.getElem_set_self, List.getElem_set_self]
      exact ⟨a, rfl, c'⟩
    · rw [List.getElem_set_ne e, List.getElem_set_ne e]
      exact ⟨a, b, c'⟩
  · rw [hsl i hi, hsl j hj]
    exact h.ap i j (by simpa using hi) (by simpa using hj) hij
/-- .. whose node k gets another position. -/
theorem RS.st0 {w : World} {B g n cap : Nat} {hs : List Hd} {D : List Rn} (h : RS w B (.slice (some ⟨g, 0, none⟩) n cap) hs D) {k : Nat} (hk : k < hs.length) (hk' : k < D.length) (x : Int) :
    RS (w.setCell ⟨g, k * 3, none⟩ (.int .i64 x)) B (.slice (some ⟨g, 0, none⟩) n cap) (hs.set k (x, hs[k].2.1, hs[k].2.2)) (D.set k (x, D[k].2.1, D[k].2.2)) := by
  have hg : w.grownBy (w.setCell ⟨g, k * 3, none⟩ (.int .i64 x)) (Value.slice (some ⟨g, 0, none⟩) n cap).ownBlock := grown_set w g (k * 3) _
  have hsl : ∀ i (h1 : i < (hs.set k (x, hs[k].2.1, hs[k].2.2)).length), (hs.set k (x, hs[k].2.1, hs[k].2.2))[i].2.2 = (hs[i]'(by simpa using h1)).2.2 := fun i h1 => by
    by_cases e : k = i
    · subst e; rw [List.getElem_set_self]
    · rw [List.getElem_set_ne e]
  refine ⟨h.row.st0 k hk x, by simp [h.len], fun i h1 h2 => ?_, fun i j hi hj hij => ?_⟩
  · obtain ⟨a, b, c⟩ := h.nd i (by simpa using h1) (by simpa using h2)
    have c' := c.gr hg (own_types c h.row ne_nd_int)
    by_cases e : k = i
    · subst e
      rw [List.getElem_set_self, List.getElem_set_self]
      exact ⟨rfl, b, c'⟩
    · rw [List.getElem_set_ne e, List.getElem_set_ne e]
      exact ⟨a, b, c'⟩
  · rw [hsl i hi, hsl j hj]
    exact h.ap i j (by simpa using hi) (by simpa using hj) hij

theorem RRow.adrH {w : World} {x : Addr} {n cap : Nat} {hs : List Hd} (h : RRow HL w (.slice (some x) n cap) hs) : ∀ j u, (flat HL hs)[j]? = some u → x.block < w.heap.size ∧ w.cell? (x.add j) = some u := fun j u hu => h.addr.2 j u hu

set_option maxHeartbeats 1000000 in
theorem cloneN_any (v : Value) (zs : List Hd) (w : World) (hl : zs.length ≤ 4194304) (hr : RRow HL w v zs) :
    Calls Try.prog 56 #[v] w fun e w' => ∃ u, e = .returned u ∧ OwnRow HL 37 w' w.heap.size u zs ∧ Below w.heap.size w w' := by
  obtain ⟨i0, hi, hz0, hz1, hz2⟩ := info_parts infoNd4
  obtain ⟨a, cap, rfl, hc, hm, _⟩ := id hr
  cases a with
  | none =>
    obtain ⟨rfl, _⟩ := hr.nil
    have hq := fun w => Lib.run_eql_slice_nil_nil (P := Try.prog) w 0 cap Try.underlying23
    go_enter Try.func56, Try.ntmps56
    go_wp2
    go_ret
    exact ⟨_, rfl, OwnRow.nil _ _ _ _, Below.refl _ _⟩
  | some x =>
    have hcell := hr.addr.2
    have hq := fun w => Lib.run_eql_slice_some_nil (P := Try.prog) w x zs.length cap Try.underlying23
    have hnews : ∀ o j u, (flat HL zs)[j]? = some u → (w.alloc o).cell? (x.add j) = some u := by
      intro o j u hj
      obtain ⟨h1, h2⟩ := hcell j u hj
      rw [(below_alloc w o).cell (p := x.add j) (by rw [add_block]; exact h1)]; exact h2
    clear hr hcell
    go_enter Try.func56, Try.ntmps56
    go_wp2_with (at_builtin; refine wpList_append_own _ rfl _ _ 23 rfl w.heap.size 37 i0 (.agg #[.int .i64 0, .int .i64 0, .slice none 0 0]) 3 40 Try.underlying23 hi hz0 hz1 hz2 rfl (by decide) _ 0 [] rfl (OwnRow.empty HL 37 w) x zs.length cap (flat HL zs) rfl (flat_len HL zs) (hnews _) (flat_one HL zs) ?c3 ?c4 ?c5 ?_)
    case c3 => simp; unfold maxLen; omega
    case c4 => simp; omega
    case c5 => simp
    intro v' w1 hown hg _
    have hown2 : OwnRow HL 37 w1 w.heap.size v' zs := hown
    have hb2 : Below w.heap.size w w1 := (below_alloc w _).grown hg (by simp) (fun j hj => by cases hj; exact Nat.le_refl _)
    clear hown hg hnews
    go_wp2
    go_ret
    exact ⟨_, rfl, hown2, hb2⟩

set_option maxRecDepth 100000 in
set_option maxHeartbeats 4000000 in
theorem copyRing_any (v : Value) (D : List Rn) (w : World) (hl : D.length ≤ 4096) (hls : ∀ e ∈ D, e.2.2.length ≤ 4096) (hr : RRing w v D) :
    Calls Try.prog 28 #[v] w fun e w' => ∃ x, e = .returned x ∧ OwnRingS w' w.heap.size x D ∧ Below w.heap.size w w' := by
  obtain ⟨hs0, hrow, hfit⟩ := hr
  have HLS := Lib.hid hls; clear hls
  have HHL := Lib.hid hfit.1
  have HROW := Lib.hid hrow
  obtain ⟨a, cap, rfl, -, -, -⟩ := id hrow
  clear hrow
  go_enter Try.func28, Try.ntmps28
  go_wp2_with fail
  refine (cloneN_any _ hs0 _ (by have := HHL.out; omega) HROW.out).mono ?_
  rintro e w1 ⟨u1, rfl, o1, b1⟩
  have H0 : Hid (CS w w1 w.heap.size u1 hs0 D 0) := Lib.hid ⟨o1, hfit.1, fun i h h' hh => absurd hh (by omega), fun i h h' _ => hfit.2 i h h', fun i k hi hk hik hkj => absurd hkj (by omega)⟩
  have B1 := Lib.hid b1
  have hsh := o1.shape
  clear hfit o1 b1 HROW
  rcases hsh with ⟨rfl, h0⟩ | ⟨g, cp, rfl, hB, hgl, hn, hcm⟩
  · have hD0 : Hid (D = []) := Lib.hid (List.eq_nil_of_length_eq_zero (by rw [← HHL.out, h0]; rfl))
    clear h0
    go_wp2
    go_loopw [4, 9] (fun _ i wr => i = .int .i64 0 ∧ wr = w1) (fun _ _ _ => 0)
    case atStart => exact ⟨rfl, rfl⟩
    case round =>
      obtain ⟨rfl, rfl⟩ := hrel
      go_wp2
      go_ret
      exact ⟨_, rfl, by rw [hD0.out]; exact OwnRingS.nil _ _, B1.out⟩
  · rw [HHL.out]
    clear hn
    go_wp2
    go_loopw [4, 9] (fun _ i wr => ∃ (j : Nat) (hs : List Hd), j ≤ D.length ∧ i = .int .i64 j ∧ Hid (CS w wr w.heap.size (.slice (some ⟨g, 0, none⟩) D.length cp) hs D j) ∧ Hid (Below w.heap.size w wr)) (fun _ i _ => D.length - (intOf i).toNat)
    case atStart => exact ⟨0, hs0, Nat.zero_le _, rfl, by rw [HHL.out] at H0; exact H0, B1⟩
    case round =>
      obtain ⟨j, hs, hj, rfl, HC, BJ⟩ := hrel
      have HLEN := Lib.hid HC.out.len
      by_cases hlt : j < D.length
      · have hjh : j < hs.length := by rw [HLEN.out]; exact hlt
        obtain ⟨x0, x1, x2⟩ := HC.out.row.hd j hjh
        obtain ⟨d0, d1, d2⟩ := HC.out.hi j hjh hlt (Nat.le_refl _)
        have HS : Hid (D[j].2.2.length ≤ 4096) := Lib.hid (HLS.out _ (List.getElem_mem hlt))
        obtain ⟨zs, hzs⟩ : ∃ zs, zs = D[j].2.2 := ⟨_, rfl⟩
        rw [← hzs] at d2 HS
        have HZ := Lib.hid hzs
        have HSZ : Hid (zs.length ≤ 4194304) := Lib.hid (by have := HS.out; omega)
        have R2 := Lib.hid (d2.bl BJ.out)
        have hgr : g < wr.heap.size := (HC.out.row.lts g rfl).2
        have hfr := HC.out.row.frozenAt (j * 3 + 2)
        clear d0 d1 d2 hzs HLEN
        clear x0 x1
        obtain ⟨sv, hsv⟩ : ∃ sv, sv = slV hs[j].2.2 := ⟨_, rfl⟩
        rw [← hsv] at x2 R2
        clear hsv
        go_wp2_with fail
        refine (clone_any _ zs _ HSZ.out R2.out).mono ?_
        rintro e w7 ⟨u7, rfl, o7, b7⟩
        obtain ⟨a7, q7, rfl, -, -, -⟩ := id o7.reads
        have o7' : OwnInts w7 wr.heap.size (slV (a7, zs.length, q7)) D[j].2.2 := by rw [← HZ.out]; exact o7
        have H8 := Lib.hid ((HC.out.bl b7).step hjh hlt o7' BJ.out.size (fun i hi hij q hq => HC.out.far i hi hij q hq))
        have c8 : Hid (Below w.heap.size w (w7.setCell ⟨g, j * 3 + 2, none⟩ (.slice a7 zs.length q7))) := Lib.hid (bSc (bNext BJ.out b7) hB (j * 3 + 2) _)
        have hx7 : w7.cell? ⟨g, j * 3 + 2, none⟩ = some sv := (b7.cell hgr).trans x2
        have hf7 := (HC.out.bl b7).row.frozenAt (j * 3 + 2)
        have HC8 : Hid (CS w (w7.setCell ⟨g, j * 3 + 2, none⟩ (.slice a7 zs.length q7)) w.heap.size (.slice (some ⟨g, 0, none⟩) D.length cp) (hs.set j (hs[j].1, hs[j].2.1, (a7, zs.length, q7))) D (j + 1)) := H8
        clear o7 o7' b7 x2 HC H8 hfr
        go_wp2
        go_roundw
        case rel => exact ⟨j + 1, _, by omega, by go_num, HC8, c8⟩
        case measure => simp [intOf]; omega
      · obtain rfl : j = D.length := by omega
        go_wp2
        go_ret
        exact ⟨_, rfl, ⟨hs, HC.out.done⟩, BJ.out⟩
end Go.Proofs.Ythgekfiodedelaa
