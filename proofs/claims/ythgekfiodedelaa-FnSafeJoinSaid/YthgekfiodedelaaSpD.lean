/- spec.l91Spoilt. -/
import Derived.Test.YthgekfiodedelaaSpS
import Derived.Deep.RegionLaw
namespace Go.Proofs.Ythgekfiodedelaa
open Go.RowKit
set_option linter.unusedVariables false
set_option linter.unusedSimpArgs false

structure QW (i1 i2 : Nat) (A B E : World → Prop) (L : Nat → Bool) (w : World) : Prop where
  a : L i1 = false → A w
  b : L i1 = true → L i2 = false → B w
  e : L i2 = true → E w
theorem QW.start {i1 i2 : Nat} {A B E : World → Prop} {w : World} (h : A w) : QW i1 i2 A B E (fun _ => false) w := ⟨fun _ => h, fun e => (by cases e), fun e => (by cases e)⟩
theorem QW.skip {i1 i2 i : Nat} {A B E : World → Prop} {L : Nat → Bool} {w : World} (h : QW i1 i2 A B E L w) (h1 : ¬ i1 = i) (h2 : ¬ i2 = i) : QW i1 i2 A B E (regL L i) w := by
  refine ⟨fun e => h.a ?_, fun e f => h.b ?_ ?_, fun e => h.e ?_⟩ <;> simp_all [regL]
theorem QW.to2 {i1 i2 : Nat} {A B E : World → Prop} {L : Nat → Bool} {w : World} (h2 : L i2 = false) (n2 : ¬ i2 = i1) (h : B w) : QW i1 i2 A B E (regL L i1) w := by
  refine ⟨fun e => ?_, fun e f => h, fun e => ?_⟩ <;> simp_all [regL]
theorem QW.to3 {i1 i2 : Nat} {A B E : World → Prop} {L : Nat → Bool} {w : World} (h1 : L i1 = true) (n1 : ¬ i1 = i2) (h : E w) : QW i1 i2 A B E (regL L i2) w := by
  refine ⟨fun e => ?_, fun e f => ?_, fun e => h⟩ <;> simp_all [regL]

theorem RInts.grx {w w' : World} {v : Value} {zs : List Int} {row : Option Nat} (h : RInts w v zs) (hg : w.grownBy w' row) (hne : v.ownBlock = none ∨ v.ownBlock ≠ row) : RInts w' v zs := by
  obtain ⟨a, cap, hv, hn, hc, hcell⟩ := h
  refine ⟨a, cap, hv, hn, hc, fun i hi => ?_⟩
  obtain ⟨b, off, ha, hlt, hx⟩ := hcell i hi
  refine ⟨b, off, ha, by have := hg.size; omega, hg.cell hx ?_⟩
  subst ha; subst hv
  rcases hne with h | h
  · cases h
  · exact h
/-- A ring none of whose parts lies in block b. -/
def RRingN (b : Nat) (w : World) (v : Value) (D : List Rn) : Prop := ∃ hs, RRow HL w v hs ∧ Fits w hs D ∧ v.ownBlock ≠ some b ∧ ∀ i (h : i < hs.length), (slV hs[i].2.2).ownBlock ≠ some b
theorem RRingN.reads {b : Nat} {w : World} {v : Value} {D : List Rn} (h : RRingN b w v D) : RRing w v D := by obtain ⟨hs, h1, h2, -⟩ := h; exact ⟨hs, h1, h2⟩
theorem RRingN.gr {b : Nat} {w w' : World} {v : Value} {D : List Rn} (h : RRingN b w v D) (hg : w.grownBy w' (some b)) : RRingN b w' v D := by
  obtain ⟨hs, h1, h2, h3, h4⟩ := h
  exact ⟨hs, h1.gr hg (.inr h3), ⟨h2.1, fun i a c => by obtain ⟨x, y, z⟩ := h2.2 i a c; exact ⟨x, y, z.grx hg (.inr (h4 i a))⟩⟩, h3, h4⟩
theorem ne_of_ap {u : Option Nat} {b : Nat} (h : u = none ∨ u ≠ some b) : u ≠ some b := by rcases h with h | h; · rw [h]; exact fun e => by cases e
                                                                                           · exact h
theorem RS.rn {w : World} {S b B : Nat} {p : Int} {v : Value} {hs : List Hd} {D : List Rn} (h : RS w B v hs D) (hr : IsRd w S b p) : RRingN b w v D := by
  obtain ⟨_, bk⟩ := hr.blk
  exact ⟨hs, h.row.reads, ⟨h.len, fun i a c => by obtain ⟨x, y, z⟩ := h.nd i a c; exact ⟨x, y, z.reads⟩⟩, ne_of_ap (own_blk h.row bk ne_nd_rd), fun i a => by
    obtain ⟨-, -, z⟩ := h.nd i a (by have := h.len; omega)
    exact ne_of_ap (own_blk z bk ne_int_rd)⟩
theorem OwnRingS.rn {w : World} {S b B : Nat} {p : Int} {v : Value} {D : List Rn} (h : OwnRingS w B v D) (hr : IsRd w S b p) : RRingN b w v D := by obtain ⟨hs, h⟩ := h; exact h.rn hr

/-- A ring as a draw leaves it. -/
def Mild (D : List Rn) : Prop := D.length ≤ 10 ∧ ∀ e ∈ D, (-1 ≤ e.1 ∧ e.1 ≤ 64) ∧ e.2.2.length ≤ 2
theorem Mild.small {D : List Rn} (h : Mild D) : ∀ e ∈ D, e.2.2.length ≤ 4096 := fun e he => by have := (h.2 e he).2; omega
theorem mild_dats {R : List Nd} (h : ValidL R) : Mild (dats R) := ⟨by rw [dats_len]; exact h.len, fun e he => by
  obtain ⟨n, hn, rfl⟩ := List.mem_map.1 he
  have := (h.ok n hn).i0
  exact ⟨by show -1 ≤ n.id ∧ n.id ≤ 64; omega, by simp [dat]⟩⟩
theorem Mild.set {D : List Rn} (h : Mild D) {k : Nat} {e : Rn} (h1 : -1 ≤ e.1 ∧ e.1 ≤ 64) (h2 : e.2.2.length ≤ 2) : Mild (D.set k e) := ⟨by rw [List.length_set]; exact h.1, fun x hx => by
  rcases List.mem_or_eq_of_mem_set hx with hx | rfl
  · exact h.2 x hx
  · exact ⟨h1, h2⟩⟩
theorem Mild.cut {D : List Rn} (h : Mild D) (k : Nat) : Mild (D.take k ++ D.drop (k + 1)) := ⟨by have := h.1; simp; omega, fun x hx => by
  rcases List.mem_append.1 hx with hx | hx
  · exact h.2 x (List.mem_of_mem_take hx)
  · exact h.2 x (List.mem_of_mem_drop hx)⟩
/-- A number stored into the list of node k. -/
theorem RS.lst {w : World} {B g n cap bl m c : Nat} {hs : List Hd} {D : List Rn} (h : RS w B (.slice (some ⟨g, 0, none⟩) n cap) hs D) {k : Nat} (hk : k < hs.length) (hk' : k < D.length) (hb : slV hs[k].2.2 = .slice (some ⟨bl, 0, none⟩) m c) (j : Nat) (x : Int) :
    RS (w.setCell ⟨bl, j, none⟩ (.int .i64 x)) B (.slice (some ⟨g, 0, none⟩) n cap) hs (D.set k (D[k].1, D[k].2.1, D[k].2.2.set j x)) := by
  have hg : w.grownBy (w.setCell ⟨bl, j, none⟩ (.int .i64 x)) (some bl) := grown_set w bl j _
  have hob : (slV hs[k].2.2).ownBlock = some bl := by rw [hb]; rfl
  obtain ⟨k1, k2, k3⟩ := h.nd k hk hk'
  have hrow : (Value.slice (some ⟨g, 0, none⟩) n cap).ownBlock = none ∨ (Value.slice (some ⟨g, 0, none⟩) n cap).ownBlock ≠ some bl := by
    rcases own_types k3 h.row ne_nd_int with h1 | h1
    · rw [hob] at h1; cases h1
    · rw [hob] at h1; exact .inr (fun e => h1 e.symm)
  refine ⟨h.row.gr hg hrow, by simp [h.len], fun i h1 h2 => ?_, h.ap⟩
  have h2' : i < D.length := by simpa using h2
  by_cases e : k = i
  · subst e
    rw [List.getElem_set_self]
    refine ⟨k1, k2, ?_⟩
    have hl : D[k].2.2.length = m := by
      obtain ⟨_, _, hv, -, -, -⟩ := k3.reads
      rw [hb] at hv; simp only [Value.slice.injEq] at hv; exact hv.2.1.symm
    have k3' : w.ownsRow B 3 1 (slV hs[k].2.2) D[k].2.2.length (ints D[k].2.2) := k3
    rw [hb] at k3'
    have h4 := (World.ownsRow.stored (hl ▸ k3') j (.int .i64 x)).1
    show OwnInts _ B (slV hs[k].2.2) (D[k].2.2.set j x)
    unfold OwnInts
    rw [hb, List.length_set]
    have : (ints D[k].2.2).set j (.int .i64 x) = ints (D[k].2.2.set j x) := by simp [ints, List.map_set]
    rw [this] at h4
    rw [hl]; exact h4
  · rw [List.getElem_set_ne e]
    obtain ⟨a, b, cc⟩ := h.nd i h1 h2'
    refine ⟨a, b, cc.gr hg ?_⟩
    rcases Nat.lt_or_ge i k with hik | hik
    · rcases h.ap i k h1 hk hik with h5 | h5
      · exact .inl h5
      · rw [hob] at h5; exact .inr h5
    · rcases h.ap k i hk h1 (by omega) with h5 | h5
      · rw [hob] at h5; cases h5
      · rw [hob] at h5
        cases hb5 : (slV hs[i].2.2).ownBlock with
        | none => exact .inl rfl
        | some q => exact .inr (fun e => h5 (by rw [hb5]; exact e.symm))
/-- The list of node k cut short. -/
theorem RS.short {w : World} {B g n cap bl c : Nat} {hs : List Hd} {D : List Rn} (h : RS w B (.slice (some ⟨g, 0, none⟩) n cap) hs D) {k : Nat} (hk : k < hs.length) (hk' : k < D.length) {m0 : Nat} (hb : slV hs[k].2.2 = .slice (some ⟨bl, 0, none⟩) m0 c) {m : Nat} (hm : m ≤ D[k].2.2.length) {S b : Nat} {p : Int} (hr : IsRd w S b p) :
    RRingN b (w.setCell ⟨g, k * 3 + 2, none⟩ (.slice (some ⟨bl, 0, none⟩) m c)) (.slice (some ⟨g, 0, none⟩) n cap) (D.set k (D[k].1, D[k].2.1, D[k].2.2.take m)) := by
  have hg : w.grownBy (w.setCell ⟨g, k * 3 + 2, none⟩ (.slice (some ⟨bl, 0, none⟩) m c)) (Value.slice (some ⟨g, 0, none⟩) n cap).ownBlock := grown_set w g (k * 3 + 2) _
  obtain ⟨k1, k2, k3⟩ := h.nd k hk hk'
  have ho : OwnInts w B (.slice (some ⟨bl, 0, none⟩) m c) (D[k].2.2.take m) := by
    have k3' := k3
    rw [hb] at k3'
    exact own_take k3' hm
  refine ⟨hs.set k (hs[k].1, hs[k].2.1, (some ⟨bl, 0, none⟩, m, c)), (h.row.st2 k hk (some ⟨bl, 0, none⟩, m, c)).reads, ⟨by simp [h.len], fun i h1 h2 => ?_⟩, ?_, fun i h1 => ?_⟩
  rotate_left
  · obtain ⟨_, bk⟩ := hr.blk
    exact ne_of_ap (own_blk h.row bk ne_nd_rd)
  · obtain ⟨_, bk⟩ := hr.blk
    by_cases e : k = i
    · subst e
      rw [List.getElem_set_self]
      exact ne_of_ap (own_blk ho bk ne_int_rd)
    · rw [List.getElem_set_ne e]
      obtain ⟨-, -, z⟩ := h.nd i (by simpa using h1) (by have := h.len; simp at h1; omega)
      exact ne_of_ap (own_blk z bk ne_int_rd)
  by_cases e : k = i
  · subst e
    rw [List.getElem_set_self, List.getElem_set_self]
    exact ⟨k1, k2, (ho.gr hg (own_types ho h.row ne_nd_int)).reads⟩
  · rw [List.getElem_set_ne e, List.getElem_set_ne e]
    obtain ⟨a, b, cc⟩ := h.nd i (by simpa using h1) (by simpa using h2)
    exact ⟨a, b, (cc.gr hg (own_types cc h.row ne_nd_int)).reads⟩
/-- Where the list of a node of the call's own ring lies. -/
theorem RS.lb {w : World} {B : Nat} {v : Value} {hs : List Hd} {R : List Nd} (h : RS w B v hs (dats R)) {k : Nat} (hk : k < hs.length) : ∃ bl c, slV hs[k].2.2 = .slice (some ⟨bl, 0, none⟩) 2 c ∧ B ≤ bl ∧ bl < w.heap.size := by
  have hl := h.len
  obtain ⟨-, -, k3⟩ := h.nd k hk (by omega)
  have hz : ((dats R)[k]'(by omega)).2.2.length = 2 := by rw [dats_at]; rfl
  rcases ownsRow_shape k3 with ⟨-, h0⟩ | ⟨g, cp, hv, hB, hg, -, -⟩
  · rw [hz] at h0; cases h0
  · exact ⟨g, cp, by rw [hv, hz], hB, hg⟩

set_option maxRecDepth 100000 in
set_option maxHeartbeats 8000000 in
theorem l91Spoilt_any (S b : Nat) (p : Int) (w : World) (hr : IsRd w S b p) (hp : p ≤ 600000) :
    Calls Try.prog 26 #[.pointer (some ⟨b, 0, none⟩)] w fun e w' => ∃ u D q, e = .returned u ∧ RRingN b w' u D ∧ Mild D ∧ q ≤ p + 220 ∧ IsRd w' S b q ∧ w.grownBy w' (some b) := by
  have hp0 := hr.2.1
  have hbl := hr.lt
  have RD0 := Lib.hid hr
  clear hr
  go_enter Try.func26, Try.ntmps26
  go_wp2_with fail
  refine (l91Ring_any S b p _ RD0.out (by omega)).mono ?_
  rintro e w1 ⟨u1, R, q1, rfl, o1, v1, hq1, r1, g1⟩
  have V1 := Lib.hid v1; have h10 := v1.1.len; have h3 := three_of v1.2
  have RD1 := Lib.hid r1; have G1 := Lib.hid g1; have O1 := Lib.hid o1
  have hq0 := r1.2.1
  clear o1 v1 r1 g1
  go_wp2_with fail
  refine (l3Copy_any u1 R _ (by omega) O1.out.reads).mono ?_
  rintro e w2 ⟨u2, rfl, o2, b2⟩
  have O2 := Lib.hid (OwnRingS.base (B' := w.heap.size) o2 G1.out.size)
  have RD2 := Lib.hid (RD1.out.belowAll b2); have G2 := Lib.hid (gBelow G1.out b2)
  clear o2 b2 O1 RD1 G1
  go_wp2_with fail
  refine (pick_any S b q1 3 _ RD2.out (by omega) (by omega) (by omega)).mono ?_
  rintro e w3 ⟨m3, rfl, ⟨hm3, hm3'⟩, r3, g3⟩
  have O3 := Lib.hid (O2.out.rdx RD2.out g3)
  have RD3 := Lib.hid r3; have G3 := Lib.hid (G2.out.trans g3)
  clear r3 g3 O2 RD2 G2
  have HM := Lib.hid (mild_dats V1.out.1)
  cases q3 : decide (0 < m3) with
  | true =>
    have d3 : decide (m3 > 0) = true := q3
    go_wp2
    go_ret
    exact ⟨_, _, _, rfl, O3.out.rn RD3.out, HM.out, by omega, RD3.out, G3.out⟩
  | false =>
    have d3 : decide (m3 > 0) = false := q3
    obtain ⟨a2, cap, hv2, -, -⟩ := RR.sl (R := R) O3.out.reads
    obtain ⟨hs0, hS0⟩ := O3.out
    obtain ⟨g, cp, hvg, hBg⟩ : ∃ g cp, u2 = .slice (some ⟨g, 0, none⟩) R.length cp ∧ w.heap.size ≤ g := by
      rcases hS0.row.shape with ⟨-, e⟩ | ⟨g, cp, hv, hB, -⟩
      · have := hS0.len; rw [e, dats_len] at this; simp at this; omega
      · exact ⟨g, cp, by rw [hv, hS0.len, dats_len], hB⟩
    clear hv2
    subst hvg
    have hhl : hs0.length = R.length := by rw [hS0.len, dats_len]
    have HHL := Lib.hid hhl
    clear hhl hS0 a2 cap q3
    go_wp2_with fail
    refine (pick_any S b (q1 + 1) R.length _ RD3.out (by omega) (by omega) (by omega)).mono ?_
    rintro e w4 ⟨k, rfl, ⟨hk0, hk0'⟩, r4, g4⟩
    obtain ⟨k, rfl⟩ := Int.eq_ofNat_of_zero_le hk0
    have hk : k < R.length := by omega
    have O4 := Lib.hid (O3.out.rdx RD3.out g4)
    have RD4 := Lib.hid r4; have G4 := Lib.hid (G3.out.trans g4)
    clear r4 g4 O3 RD3 G3 d3
    go_wp2_with fail
    refine (pick_any S b (q1 + 1 + 1) 7 _ RD4.out (by omega) (by omega) (by omega)).mono ?_
    rintro e w5 ⟨m5, rfl, ⟨hm5, hm5'⟩, r5, g5⟩
    have O5 := Lib.hid (O4.out.rdx RD4.out g5)
    have RD5 := Lib.hid r5; have G5 := Lib.hid (G4.out.trans g5)
    have KEEP : Hid (∀ w', w5.grownBy w' (some b) → OwnRingS w' w.heap.size (.slice (some ⟨g, 0, none⟩) R.length cp) (dats R)) := Lib.hid (fun w' h => O5.out.rdx RD5.out h)
    have hgb : ¬ b = g := by omega
    have hgb' : ¬ g = b := by omega
    have hkd : k < (dats R).length := by rw [dats_len]; exact hk
    have HKD : Hid ((dats R)[k] = ((nth R k).id, (nth R k).bf, [(nth R k).a0, (nth R k).a1])) := Lib.hid (dats_at R k hkd)
    have HIK := Lib.hid (V1.out.1.ok _ (nth_mem hk)).i0
    clear r5 g5 O4 RD4 G4 HHL
    have FIN1 : Hid (∀ w' y, w5.grownBy w' (some b) → IsRd w' S b (q1 + 1 + 1 + 1 + 1) → (RRingN b (w'.setCell ⟨g, k * 3 + 1, none⟩ (.int .i64 y)) (.slice (some ⟨g, 0, none⟩) R.length cp) ((dats R).set k ((nth R k).id, y, [(nth R k).a0, (nth R k).a1]))) ∧ Mild ((dats R).set k ((nth R k).id, y, [(nth R k).a0, (nth R k).a1])) ∧ IsRd (w'.setCell ⟨g, k * 3 + 1, none⟩ (.int .i64 y)) S b (q1 + 1 + 1 + 1 + 1) ∧ w.grownBy (w'.setCell ⟨g, k * 3 + 1, none⟩ (.int .i64 y)) (some b)) := Lib.hid (fun w' y hg hr => by
      obtain ⟨hs, hS⟩ := KEEP.out w' hg
      have h1 := hS.st1 (k := k) (by rw [hS.len]; exact hkd) hkd y
      rw [HKD.out] at h1
      have rd' := hr.grown (grown_set w' g (k * 3 + 1) (.int .i64 y)) (fun q hq => by cases hq; have := hr.1; omega) (fun e => hgb (Option.some.inj e))
      exact ⟨h1.rn rd', HM.out.set (by have := HIK.out; omega) (by simp), rd', gOwn (G5.out.trans hg) (grown_set w' g _ _) (fun q hq => by cases hq; exact hBg)⟩)
    have CELL : Hid (∀ w' i, w5.grownBy w' (some b) → i < R.length → g < w'.heap.size ∧ w'.frozen? ⟨g, k * 3 + 1, none⟩ = false ∧ w'.frozen? ⟨g, k * 3, none⟩ = false ∧ w'.frozen? ⟨g, k * 3 + 2, none⟩ = false ∧ w'.cell? ⟨g, i * 3, none⟩ = some (.int .i64 (nth R i).id) ∧ w'.cell? ⟨g, i * 3 + 1, none⟩ = some (.int .i64 (nth R i).bf) ∧ ∃ hd, w'.cell? ⟨g, i * 3 + 2, none⟩ = some hd) := Lib.hid (fun w' i hg hi => by
      obtain ⟨hs, hS⟩ := KEEP.out w' hg
      have hi' : i < hs.length := by rw [hS.len, dats_len]; exact hi
      obtain ⟨c0, c1, c2⟩ := hS.row.hd i hi'
      obtain ⟨d0, d1, -⟩ := hS.nd i hi' (by rw [dats_len]; exact hi)
      rw [dats_at] at d0 d1
      rw [d0] at c0; rw [d1] at c1
      exact ⟨(hS.row.lts g rfl).2, hS.row.frozenAt _, hS.row.frozenAt _, hS.row.frozenAt _, c0, c1, _, c2⟩)
    rcases (show m5 = 0 ∨ m5 = 1 ∨ m5 = 2 ∨ m5 = 3 ∨ m5 = 4 ∨ m5 = 5 ∨ m5 = 6 by omega) with rfl | rfl | rfl | rfl | rfl | rfl | rfl
    · go_wp2_with fail
      refine (pick_any S b (q1 + 1 + 1 + 1) 66 _ RD5.out (by omega) (by omega) (by omega)).mono ?_
      rintro e w6 ⟨m6, rfl, ⟨hm6, hm6'⟩, r6, g6⟩
      have e1 : IntKind.i64.wrap (m6 - 1) = m6 - 1 := IntWalk.i64_in _ (by omega)
      obtain ⟨hgl, hf1, -, -, -, hc1, -⟩ := CELL.out w6 k g6 hk
      have F := Lib.hid (FIN1.out w6 (m6 - 1) g6 r6)
      clear r6 g6
      go_wp2
      go_ret
      exact ⟨_, _, _, rfl, F.out.1, F.out.2.1, by omega, F.out.2.2.1, F.out.2.2.2⟩
    · obtain ⟨hs5, hS5⟩ := O5.out
      have hk5 : k < hs5.length := by rw [hS5.len]; exact hkd
      obtain ⟨bl, c, hlb, hBl, hbls⟩ := hS5.lb hk5
      have hblb : ¬ b = bl := by omega
      have hc2 : 2 ≤ c := by
        obtain ⟨-, -, k3⟩ := hS5.nd k hk5 hkd
        rw [hlb] at k3
        obtain ⟨_, _, hv, h1, -, -⟩ := k3.reads
        simp only [Value.slice.injEq] at hv
        have := hv.2.1; omega
      have HCL : Hid (∀ w', w5.grownBy w' (some b) → w'.cell? ⟨g, k * 3 + 2, none⟩ = some (.slice (some ⟨bl, 0, none⟩) 2 c)) := Lib.hid (fun w' h => by
        have := (hS5.row.hd k hk5).2.2
        rw [hlb] at this
        exact h.cell this (fun e => hgb (Option.some.inj e).symm))
      have LST : Hid (∀ w' q (j : Nat) (z : Int), j < 2 → w5.grownBy w' (some b) → IsRd w' S b q → q ≤ p + 220 → bl < w'.heap.size ∧ (∃ u, w'.cell? ⟨bl, j, none⟩ = some u) ∧ w'.frozen? ⟨bl, j, none⟩ = false ∧ ((fun w' => ∃ (D : List Rn) (q : Int), RRingN b w' (.slice (some ⟨g, 0, none⟩) R.length cp) D ∧ Mild D ∧ q ≤ p + 220 ∧ IsRd w' S b q ∧ w.grownBy w' (some b))) (w'.setCell ⟨bl, j, none⟩ (.int .i64 z))) := Lib.hid (fun w' q j z hj hg hr hq => by
        have hS := hS5.rdx RD5.out hg
        have h1 := hS.lst (k := k) hk5 hkd hlb j z
        rw [HKD.out] at h1
        obtain ⟨-, -, k3⟩ := hS.nd k hk5 hkd
        rw [hlb, HKD.out] at k3
        have k4 : w'.ownsRow w.heap.size 3 1 (.slice (some ⟨bl, 0, none⟩) 2 c) 2 (ints [(nth R k).a0, (nth R k).a1]) := k3
        have rd' := hr.grown (grown_set w' bl j (.int .i64 z)) (fun e he => by cases he; have := hr.1; omega) (fun e => hblb (Option.some.inj e))
        refine ⟨Nat.lt_of_lt_of_le hbls hg.size, ?_, World.ownsRow.frozenAt k4 j, _, q, h1.rn rd', HM.out.set (by have := HIK.out; omega) (by simp), hq, rd', gOwn (G5.out.trans hg) (grown_set w' bl _ _) (fun e he => by cases he; exact hBl)⟩
        obtain ⟨_, _, hv, -, -, hcell⟩ := k3.reads
        cases hv
        obtain ⟨b7, o7, he7, -, h7⟩ := hcell j (by simpa using hj)
        cases he7
        rw [Nat.zero_add] at h7
        exact ⟨_, h7⟩)
      clear hS5 hlb
      go_wp2
      refine wp_region_facts [[], [], [0, 1], [2, 0, 1], [3, 2, 0, 1], [], [5], [], [7, 6, 5], [4, 6, 3, 2, 0, 1, 5], [9, 8, 0, 1, 2, 3, 4, 5, 6, 7]] (PW 6 8 10 (fun w' => w' = w5.drew) (fun w' => IsRd w' S b (q1 + 1 + 1 + 1 + 1) ∧ w5.grownBy w' (some b)) (fun w' => IsRd w' S b (q1 + 1 + 1 + 1 + 1 + 2) ∧ w5.grownBy w' (some b)) (fun w' => ∃ (D : List Rn) (q : Int), RRingN b w' (.slice (some ⟨g, 0, none⟩) R.length cp) D ∧ Mild D ∧ q ≤ p + 220 ∧ IsRd w' S b q ∧ w.grownBy w' (some b))) (fun q0 v w => match q0 with | 0 => v = .slice (some ⟨g, 0, none⟩) R.length cp | 1 => v = .int .i64 k | 2 => v = .pointer (some ⟨g, k * 3, none⟩) | 3 => v = .pointer (some ⟨g, k * 3 + 2, none⟩) | 4 => v = .slice (some ⟨bl, 0, none⟩) 2 c | 5 => v = .pointer (some ⟨b, 0, none⟩) | 6 => ∃ m : Nat, v = .int .i64 m ∧ m < 2 | 7 => v = .pointer (some ⟨b, 0, none⟩) | 8 => ∃ m : Int, v = .int .i64 m | 9 => ∃ m : Nat, v = .pointer (some ⟨bl, m, none⟩) ∧ m < 2 | _ => True) (fun _ _ => True) (by kernel_rfl) (by kernel_rfl) (fun _ _ _ _ _ h => h) (PW.start rfl) ?_ ?_
      · refine ⟨?_, ?_, ?_, ?_, ?_, ?_, ?_, ?_, ?_, ?_, ?_, trivial⟩
        · intro a wq vs L hW hL hN hO hk hd K hK
          have p3 := hO 3 (by decide)
          clear hN hO hL hk hd
          go_simp
          exact hK _ _ (hW.skip (by decide) (by decide) (by decide)) trivial rfl
        · intro a wq vs L hW hL hN hO hk hd K hK
          have p4 := hO 4 (by decide)
          clear hN hO hL hk hd
          go_simp
          exact hK _ _ (hW.skip (by decide) (by decide) (by decide)) trivial rfl
        · intro a wq vs L hW hL hN hO hk hd K hK
          have d0 := hd 0 29 (by decide) rfl
          rw [show vs 0 = .slice (some ⟨g, 0, none⟩) R.length cp from (hk 0 (by decide)).2] at d0
          have d1 := hd 1 30 (by decide) rfl
          rw [show vs 1 = .int .i64 k from (hk 1 (by decide)).2] at d1
          clear hN hO hL hk hd
          go_simp
          exact hK _ _ (hW.skip (by decide) (by decide) (by decide)) trivial rfl
        · intro a wq vs L hW hL hN hO hk hd K hK
          have d2 := hd 2 31 (by decide) rfl
          rw [show vs 2 = .pointer (some ⟨g, k * 3, none⟩) from (hk 2 (by decide)).2] at d2
          clear hN hO hL hk hd
          go_simp
          exact hK _ _ (hW.skip (by decide) (by decide) (by decide)) trivial rfl
        · intro a wq vs L hW hL hN hO hk hd K hK
          have d3 := hd 3 32 (by decide) rfl
          rw [show vs 3 = .pointer (some ⟨g, k * 3 + 2, none⟩) from (hk 3 (by decide)).2] at d3
          have hgr : w5.grownBy wq (some b) := by
            cases h6 : L 6 with
            | false => rw [hW.a h6]; exact (⟨rfl, rfl, rfl, Nat.le_refl _, fun _ _ _ => rfl⟩ : w5.grownBy w5.drew (some b))
            | true =>
              cases h8 : L 8 with
              | false => exact (hW.b h6 h8).2
              | true => exact (hW.c h8 (hN 10 (by decide))).2
          have hx := HCL.out _ hgr
          clear hN hO hL hk hd
          go_simp
          exact hK _ _ (hW.skip (by decide) (by decide) (by decide)) trivial rfl
        · intro a wq vs L hW hL hN hO hk hd K hK
          have p0 := hO 0 (by decide)
          clear hN hO hL hk hd
          go_simp
          exact hK _ _ (hW.skip (by decide) (by decide) (by decide)) trivial rfl
        · intro a wq vs L hW hL hN hO hk hd K hK
          have d5 := hd 5 34 (by decide) rfl
          rw [show vs 5 = .pointer (some ⟨b, 0, none⟩) from (hk 5 (by decide)).2] at d5
          have ha := hW.a hL
          have h8 := hN 8 (by decide)
          have h10 := hN 10 (by decide)
          subst ha
          refine step_callG (by simp [Region.wanted, yielded]) (f := 39) (args := #[.pointer (some ⟨b, 0, none⟩), .int .i64 2]) (by simp [execOp, Act.eval, Act.put, go_sem, d5]) (pick_any S b (q1 + 1 + 1 + 1) 2 _ (show IsRd w5.drew S b _ from RD5.out) (by omega) (by omega) (by omega)) ?_
          rintro e w6 ⟨m, rfl, ⟨hm0, hm1⟩, r6, g6⟩
          obtain ⟨m, rfl⟩ := Int.eq_ofNat_of_zero_le hm0
          exact ⟨_, rfl, hK _ _ (PW.to2 h8 h10 (by decide) (by decide) ⟨r6, (⟨rfl, rfl, rfl, Nat.le_refl _, fun _ _ _ => rfl⟩ : w5.grownBy w5.drew (some b)).trans g6⟩) trivial ⟨m, rfl, by omega⟩⟩
        · intro a wq vs L hW hL hN hO hk hd K hK
          have p0 := hO 0 (by decide)
          clear hN hO hL hk hd
          go_simp
          exact hK _ _ (hW.skip (by decide) (by decide) (by decide)) trivial rfl
        · intro a wq vs L hW hL hN hO hk hd K hK
          have d7 := hd 7 36 (by decide) rfl
          rw [show vs 7 = .pointer (some ⟨b, 0, none⟩) from (hk 7 (by decide)).2] at d7
          have h6 := (hk 6 (by decide)).1
          have hb := hW.b h6 hL
          have h10 := hN 10 (by decide)
          refine step_callG (by simp [Region.wanted, yielded]) (f := 40) (args := #[.pointer (some ⟨b, 0, none⟩)]) (by simp [execOp, Act.eval, Act.put, go_sem, d7]) (l91Point_any S b (q1 + 1 + 1 + 1 + 1) _ hb.1 (by omega)) ?_
          rintro e w6 ⟨m, rfl, hm0, r6, g6⟩
          exact ⟨_, rfl, hK _ _ (PW.to3 h6 h10 (by decide) (by decide) ⟨r6, hb.2.trans g6⟩) trivial ⟨m, rfl⟩⟩
        · intro a wq vs L hW hL hN hO hk hd K hK
          have d4 := hd 4 33 (by decide) rfl
          rw [show vs 4 = .slice (some ⟨bl, 0, none⟩) 2 c from (hk 4 (by decide)).2] at d4
          have d6 := hd 6 35 (by decide) rfl
          obtain ⟨m, e6, hm⟩ : ∃ m : Nat, vs 6 = .int .i64 m ∧ m < 2 := (hk 6 (by decide)).2
          rw [e6] at d6
          have i0 : (0 : Int) ≤ (m : Int) := by omega
          have i1 : (m : Int) < 2 := by omega
          clear hN hO hL hk hd
          go_simp
          exact hK _ _ (hW.skip (by decide) (by decide) (by decide)) trivial ⟨m, by simp, hm⟩
        · intro a wq vs L hW hL hN hO hk hd K hK
          have d8 := hd 8 37 (by decide) rfl
          have d9 := hd 9 38 (by decide) rfl
          obtain ⟨m, e9, hm⟩ : ∃ m : Nat, vs 9 = .pointer (some ⟨bl, m, none⟩) ∧ m < 2 := (hk 9 (by decide)).2
          rw [e9] at d9
          obtain ⟨z, e8⟩ : ∃ z : Int, vs 8 = .int .i64 z := (hk 8 (by decide)).2
          rw [e8] at d8
          have h6 := (hk 6 (by decide)).1
          have h8 := (hk 8 (by decide)).1
          have hc := hW.c h8 hL
          obtain ⟨l1, ⟨u1, l2⟩, l3, l4⟩ := LST.out wq _ m z hm hc.2 hc.1 (by omega)
          have L4 := Lib.hid l4
          clear hN hO hL hk hd l4 hc
          go_simp
          exact hK undef _ (PW.to4 h6 h8 (by decide) (by decide) L4.out) trivial trivial
      · intro vs wq hW hG
        clear hG
        simp only [putAll, Act.put, Nat.zero_add, Nat.reduceAdd]
        generalize vs 0 = y0
        generalize vs 1 = y1
        generalize vs 2 = y2
        generalize vs 3 = y3
        generalize vs 4 = y4
        generalize vs 5 = y5
        generalize vs 6 = y6
        generalize vs 7 = y7
        generalize vs 8 = y8
        generalize vs 9 = y9
        simp only [List.setIfInBounds_toArray, List.set_cons_succ, List.set_cons_zero]
        obtain ⟨D9, q9, a9, b9, c9, d9, e9⟩ := hW.e (by decide)
        have A9 := Lib.hid a9; have B9 := Lib.hid b9; have D9 := Lib.hid d9; have E9 := Lib.hid e9
        clear a9 b9 d9 e9 hW
        go_wp2
        go_ret
        exact ⟨_, _, q9, rfl, A9.out, B9.out, by omega, D9.out, E9.out⟩
    · go_wp2_with fail
      refine (l91Point_any S b (q1 + 1 + 1 + 1) _ RD5.out (by omega)).mono ?_
      rintro e w6 ⟨m6, rfl, hm6, r6, g6⟩
      obtain ⟨hgl, -, hf1, -, hc1, -, -⟩ := CELL.out w6 k g6 hk
      have F : Hid (RRingN b (w6.setCell ⟨g, k * 3, none⟩ (.int .i64 m6)) (.slice (some ⟨g, 0, none⟩) R.length cp) ((dats R).set k (m6, (nth R k).bf, [(nth R k).a0, (nth R k).a1])) ∧ IsRd (w6.setCell ⟨g, k * 3, none⟩ (.int .i64 m6)) S b (q1 + 1 + 1 + 1 + 2) ∧ w.grownBy (w6.setCell ⟨g, k * 3, none⟩ (.int .i64 m6)) (some b)) := Lib.hid (by
        obtain ⟨hs, hS⟩ := KEEP.out w6 g6
        have h1 := hS.st0 (k := k) (by rw [hS.len]; exact hkd) hkd m6
        rw [HKD.out] at h1
        have rd' := r6.grown (grown_set w6 g (k * 3) (.int .i64 m6)) (fun q hq => by cases hq; have := r6.1; omega) (fun e => hgb (Option.some.inj e))
        exact ⟨h1.rn rd', rd', gOwn (G5.out.trans g6) (grown_set w6 g _ _) (fun q hq => by cases hq; exact hBg)⟩)
      have HM6 := Lib.hid (HM.out.set (k := k) (e := (m6, (nth R k).bf, [(nth R k).a0, (nth R k).a1])) hm6 (by simp))
      clear r6 g6
      go_wp2
      go_ret
      exact ⟨_, _, _, rfl, F.out.1, HM6.out, by omega, F.out.2.1, F.out.2.2⟩
    · obtain ⟨hs5, hS5⟩ := O5.out
      have hk5 : k < hs5.length := by rw [hS5.len]; exact hkd
      obtain ⟨bl, c, hlb, hBl, hbls⟩ := hS5.lb hk5
      have hblb : ¬ b = bl := by omega
      have hc2 : 2 ≤ c := by
        obtain ⟨-, -, k3⟩ := hS5.nd k hk5 hkd
        rw [hlb] at k3
        obtain ⟨_, _, hv, h1, -, -⟩ := k3.reads
        simp only [Value.slice.injEq] at hv
        have := hv.2.1; omega
      have HCL : Hid (∀ w', w5.grownBy w' (some b) → w'.cell? ⟨g, k * 3 + 2, none⟩ = some (.slice (some ⟨bl, 0, none⟩) 2 c)) := Lib.hid (fun w' h => by
        have := (hS5.row.hd k hk5).2.2
        rw [hlb] at this
        exact h.cell this (fun e => hgb (Option.some.inj e).symm))
      have SHT : Hid (∀ w' q (m : Nat), m < 2 → w5.grownBy w' (some b) → IsRd w' S b q → q ≤ p + 220 → ((fun w' => ∃ (D : List Rn) (q : Int), RRingN b w' (.slice (some ⟨g, 0, none⟩) R.length cp) D ∧ Mild D ∧ q ≤ p + 220 ∧ IsRd w' S b q ∧ w.grownBy w' (some b))) (w'.setCell ⟨g, k * 3 + 2, none⟩ (.slice (some ⟨bl, 0, none⟩) m c))) := Lib.hid (fun w' q m hm hg hr hq => by
        have hS := hS5.rdx RD5.out hg
        have h1 := hS.short (k := k) hk5 hkd hlb (m := m) (by rw [HKD.out]; show m ≤ 2; omega) hr
        rw [HKD.out] at h1
        exact ⟨_, q, h1, HM.out.set (by have := HIK.out; omega) (by rw [List.length_take]; omega), hq, hr.grown (grown_set w' g _ _) (fun e he => by cases he; have := hr.1; omega) (fun e => hgb (Option.some.inj e)), gOwn (G5.out.trans hg) (grown_set w' g _ _) (fun e he => by cases he; exact hBg)⟩)
      clear hS5 hlb
      have hk0r := hk
      go_wp2
      refine wp_region_facts [[], [], [], [], [2, 3], [4, 2, 3], [5, 4, 2, 3], [], [7], [6, 8, 5, 4, 2, 3, 7], [0, 1], [10, 0, 1], [11, 9, 0, 1, 2, 3, 4, 5, 6, 7, 8, 10]] (QW 8 12 (fun w' => w' = w5.drew) (fun w' => IsRd w' S b (q1 + 1 + 1 + 1 + 1) ∧ w5.grownBy w' (some b)) (fun w' => ∃ (D : List Rn) (q : Int), RRingN b w' (.slice (some ⟨g, 0, none⟩) R.length cp) D ∧ Mild D ∧ q ≤ p + 220 ∧ IsRd w' S b q ∧ w.grownBy w' (some b))) (fun q0 v w => match q0 with | 0 => v = .slice (some ⟨g, 0, none⟩) R.length cp | 1 => v = .int .i64 k | 2 => v = .slice (some ⟨g, 0, none⟩) R.length cp | 3 => v = .int .i64 k | 4 => v = .pointer (some ⟨g, k * 3, none⟩) | 5 => v = .pointer (some ⟨g, k * 3 + 2, none⟩) | 6 => v = .slice (some ⟨bl, 0, none⟩) 2 c | 7 => v = .pointer (some ⟨b, 0, none⟩) | 8 => ∃ m : Nat, v = .int .i64 m ∧ m < 2 | 9 => ∃ m : Nat, v = .slice (some ⟨bl, 0, none⟩) m c ∧ m < 2 | 10 => v = .pointer (some ⟨g, k * 3, none⟩) | 11 => v = .pointer (some ⟨g, k * 3 + 2, none⟩) | _ => True) (fun _ _ => True) (by kernel_rfl) (by kernel_rfl) (fun _ _ _ _ _ h => h) (QW.start rfl) ?_ ?_
      · refine ⟨?_, ?_, ?_, ?_, ?_, ?_, ?_, ?_, ?_, ?_, ?_, ?_, ?_, trivial⟩
        · intro a wq vs L hW hL hN hO hk hd K hK
          have p3 := hO 3 (by decide)
          clear hN hO hL hk hd
          go_simp
          exact hK _ _ (hW.skip (by decide) (by decide)) trivial rfl
        · intro a wq vs L hW hL hN hO hk hd K hK
          have p4 := hO 4 (by decide)
          clear hN hO hL hk hd
          go_simp
          exact hK _ _ (hW.skip (by decide) (by decide)) trivial rfl
        · intro a wq vs L hW hL hN hO hk hd K hK
          have p3 := hO 3 (by decide)
          clear hN hO hL hk hd
          go_simp
          exact hK _ _ (hW.skip (by decide) (by decide)) trivial rfl
        · intro a wq vs L hW hL hN hO hk hd K hK
          have p4 := hO 4 (by decide)
          clear hN hO hL hk hd
          go_simp
          exact hK _ _ (hW.skip (by decide) (by decide)) trivial rfl
        · intro a wq vs L hW hL hN hO hk hd K hK
          have d2 := hd 2 51 (by decide) rfl
          rw [show vs 2 = .slice (some ⟨g, 0, none⟩) R.length cp from (hk 2 (by decide)).2] at d2
          have d3 := hd 3 52 (by decide) rfl
          rw [show vs 3 = .int .i64 k from (hk 3 (by decide)).2] at d3
          clear hN hO hL hk hd
          go_simp
          exact hK _ _ (hW.skip (by decide) (by decide)) trivial rfl
        · intro a wq vs L hW hL hN hO hk hd K hK
          have d4 := hd 4 53 (by decide) rfl
          rw [show vs 4 = .pointer (some ⟨g, k * 3, none⟩) from (hk 4 (by decide)).2] at d4
          clear hN hO hL hk hd
          go_simp
          exact hK _ _ (hW.skip (by decide) (by decide)) trivial rfl
        · intro a wq vs L hW hL hN hO hk hd K hK
          have d5 := hd 5 54 (by decide) rfl
          rw [show vs 5 = .pointer (some ⟨g, k * 3 + 2, none⟩) from (hk 5 (by decide)).2] at d5
          have hgr : w5.grownBy wq (some b) := by
            cases h6 : L 8 with
            | false => rw [hW.a h6]; exact (⟨rfl, rfl, rfl, Nat.le_refl _, fun _ _ _ => rfl⟩ : w5.grownBy w5.drew (some b))
            | true => exact (hW.b h6 (hN 12 (by decide))).2
          have hx := HCL.out _ hgr
          clear hN hO hL hk hd
          go_simp
          exact hK _ _ (hW.skip (by decide) (by decide)) trivial rfl
        · intro a wq vs L hW hL hN hO hk hd K hK
          have p0 := hO 0 (by decide)
          clear hN hO hL hk hd
          go_simp
          exact hK _ _ (hW.skip (by decide) (by decide)) trivial rfl
        · intro a wq vs L hW hL hN hO hk hd K hK
          have d7 := hd 7 56 (by decide) rfl
          rw [show vs 7 = .pointer (some ⟨b, 0, none⟩) from (hk 7 (by decide)).2] at d7
          have ha := hW.a hL
          have h12 := hN 12 (by decide)
          subst ha
          refine step_callG (by simp [Region.wanted, yielded]) (f := 39) (args := #[.pointer (some ⟨b, 0, none⟩), .int .i64 2]) (by simp [execOp, Act.eval, Act.put, go_sem, d7]) (pick_any S b (q1 + 1 + 1 + 1) 2 _ (show IsRd w5.drew S b _ from RD5.out) (by omega) (by omega) (by omega)) ?_
          rintro e w6 ⟨m, rfl, ⟨hm0, hm1⟩, r6, g6⟩
          obtain ⟨m, rfl⟩ := Int.eq_ofNat_of_zero_le hm0
          exact ⟨_, rfl, hK _ _ (QW.to2 h12 (by decide) ⟨r6, (⟨rfl, rfl, rfl, Nat.le_refl _, fun _ _ _ => rfl⟩ : w5.grownBy w5.drew (some b)).trans g6⟩) trivial ⟨m, rfl, by omega⟩⟩
        · intro a wq vs L hW hL hN hO hk hd K hK
          have d6 := hd 6 55 (by decide) rfl
          rw [show vs 6 = .slice (some ⟨bl, 0, none⟩) 2 c from (hk 6 (by decide)).2] at d6
          have d8 := hd 8 57 (by decide) rfl
          obtain ⟨m, e8, hm⟩ : ∃ m : Nat, vs 8 = .int .i64 m ∧ m < 2 := (hk 8 (by decide)).2
          rw [e8] at d8
          have i0 : (0 : Int) ≤ (m : Int) := by omega
          have i1 : (m : Int) ≤ (c : Int) := by omega
          have i2 : m ≤ c := by omega
          clear hN hO hL hk hd
          go_simp
          exact hK _ _ (hW.skip (by decide) (by decide)) trivial ⟨m, by simp, hm⟩
        · intro a wq vs L hW hL hN hO hk hd K hK
          have d0 := hd 0 49 (by decide) rfl
          rw [show vs 0 = .slice (some ⟨g, 0, none⟩) R.length cp from (hk 0 (by decide)).2] at d0
          have d1 := hd 1 50 (by decide) rfl
          rw [show vs 1 = .int .i64 k from (hk 1 (by decide)).2] at d1
          clear hN hO hL hk hd
          go_simp
          exact hK _ _ (hW.skip (by decide) (by decide)) trivial rfl
        · intro a wq vs L hW hL hN hO hk hd K hK
          have d10 := hd 10 59 (by decide) rfl
          rw [show vs 10 = .pointer (some ⟨g, k * 3, none⟩) from (hk 10 (by decide)).2] at d10
          clear hN hO hL hk hd
          go_simp
          exact hK _ _ (hW.skip (by decide) (by decide)) trivial rfl
        · intro a wq vs L hW hL hN hO hk hd K hK
          have d9 := hd 9 58 (by decide) rfl
          have d11 := hd 11 60 (by decide) rfl
          rw [show vs 11 = .pointer (some ⟨g, k * 3 + 2, none⟩) from (hk 11 (by decide)).2] at d11
          obtain ⟨m, e9, hm⟩ : ∃ m : Nat, vs 9 = .slice (some ⟨bl, 0, none⟩) m c ∧ m < 2 := (hk 9 (by decide)).2
          rw [e9] at d9
          have h8 := (hk 8 (by decide)).1
          have hc := hW.b h8 hL
          have hx := HCL.out _ hc.2
          obtain ⟨-, -, -, hf, -, -, -⟩ := CELL.out wq k hc.2 hk0r
          have L4 := Lib.hid (SHT.out wq _ m hm hc.2 hc.1 (by omega))
          clear hN hO hL hk hd hc
          go_simp
          exact hK undef _ (QW.to3 h8 (by decide) L4.out) trivial trivial
      · intro vs wq hW hG
        clear hG
        simp only [putAll, Act.put, Nat.zero_add, Nat.reduceAdd]
        generalize vs 0 = y0
        generalize vs 1 = y1
        generalize vs 2 = y2
        generalize vs 3 = y3
        generalize vs 4 = y4
        generalize vs 5 = y5
        generalize vs 6 = y6
        generalize vs 7 = y7
        generalize vs 8 = y8
        generalize vs 9 = y9
        generalize vs 10 = y10
        generalize vs 11 = y11
        simp only [List.setIfInBounds_toArray, List.set_cons_succ, List.set_cons_zero]
        obtain ⟨D9, q9, a9, b9, c9, d9, e9⟩ := hW.e (by decide)
        have A9 := Lib.hid a9; have B9 := Lib.hid b9; have D9 := Lib.hid d9; have E9 := Lib.hid e9
        clear a9 b9 d9 e9 hW
        go_wp2
        go_ret
        exact ⟨_, _, q9, rfl, A9.out, B9.out, by omega, D9.out, E9.out⟩
    · obtain ⟨hs5, hS5⟩ := O5.out
      have hhl : hs5.length = R.length := by rw [hS5.len, dats_len]
      have hrow : RRow HL w5 (.slice (some ⟨g, 0, none⟩) R.length cp) hs5 := hS5.row.reads
      have hfit : Fits w5 hs5 (dats R) := ⟨hS5.len, fun i h1 h2 => by obtain ⟨x1, x2, x3⟩ := hS5.nd i h1 h2; exact ⟨x1, x2, x3.reads⟩⟩
      obtain ⟨_, _, hv5, hc1, -, -⟩ := id hrow
      simp only [Value.slice.injEq, true_and] at hv5
      obtain ⟨-, -, rfl⟩ := hv5
      obtain ⟨A, hA⟩ : ∃ A : Addr, (if cp = k + 1 then some (⟨g, 0, none⟩ : Addr) else some ⟨g, (k + 1) * 3, none⟩) = some A := by split <;> exact ⟨_, rfl⟩
      have rt := takeH hrow (j := k) (by omega)
      have rd := dropH hrow (j := k + 1) (by omega) (by simpa using hA)
      rw [hhl] at rd
      rw [hhl] at hc1
      have e1 : IntKind.i64.wrap ((k : Int) + 1) = (k : Int) + 1 := IntWalk.i64_in _ (by omega)
      have e2 : (0 : Int) ≤ (k : Int) + 1 := by omega
      have e3 : (k : Int) + 1 ≤ (R.length : Int) := by omega
      have e4 : ((k : Int) + 1).toNat = k + 1 := by omega
      have e5 : k ≤ cp := by omega
      obtain ⟨A1, hA1⟩ : ∃ A1, A1 = w5.drew.alloc (.cells #[] 37) := ⟨_, rfl⟩
      have ob : Below w5.heap.size w5 A1 := by rw [hA1]; exact bAl (Below.refl _ _).drew _
      have o1 : OwnRow HL 37 A1 w5.heap.size (.slice (some ⟨w5.heap.size, 0, none⟩) 0 0) [] := by rw [hA1]; exact OwnRow.empty HL _ w5.drew
      obtain ⟨v2, A2, run2, o2, g2⟩ := run_appH A1 w5.heap.size _ [] o1 ⟨g, 0, none⟩ k cp _ (rt.bl ob) (by simp; omega) ob.size
      have b2 : Below w5.heap.size w5 A2 := bGr ob g2 (fun q hq => (o1.lts q hq).1)
      obtain ⟨v3, A3, run3, o3, g3⟩ := run_appH A2 w5.heap.size v2 _ o2 A (R.length - (k + 1)) (cp - (k + 1)) _ (rd.bl b2) (by simp; omega) b2.size
      have b3 : Below w5.heap.size w5 A3 := bGr b2 g3 (fun q hq => (o2.lts q hq).1)
      obtain ⟨a2, q2, rfl, -, -, -⟩ := id o2.reads
      have R3 := Lib.hid (show RRingN b A3 v3 ((dats R).take k ++ (dats R).drop (k + 1)) from by
        have hf := hfit.cut k
        have o3' : OwnRow HL 37 A3 w5.heap.size v3 (hs5.take k ++ hs5.drop (k + 1)) := by simpa using o3
        obtain ⟨_, bk⟩ := RD5.out.blk
        refine ⟨_, o3'.reads, hf.bl b3, fun e => by have := (o3'.lts b e).1; have := RD5.out.lt; omega, fun i hi => ?_⟩
        have hmem : (hs5.take k ++ hs5.drop (k + 1))[i] ∈ hs5 := by
          have := List.getElem_mem hi
          rcases List.mem_append.1 this with h | h
          · exact List.mem_of_mem_take h
          · exact List.mem_of_mem_drop h
        obtain ⟨j, hj, hje⟩ := List.getElem_of_mem hmem
        rw [← hje]
        obtain ⟨-, -, z⟩ := hS5.nd j hj (by have := hS5.len; omega)
        exact ne_of_ap (own_blk z bk ne_int_rd))
      obtain ⟨a3, q3, rfl, -, -, -⟩ := id o3.reads
      have M3 := Lib.hid (HM.out.cut k)
      have RD3 := Lib.hid (RD5.out.belowAll b3); have G3 := Lib.hid (gBelow G5.out b3)
      rw [hA1] at run2; have RUN2 := Lib.hid run2; have RUN3 := Lib.hid run3
      generalize hn2 : ([] ++ hs5.take k).length = n2 at *
      generalize hn3 : ([] ++ hs5.take k ++ hs5.drop (k + 1)).length = n3 at *
      clear hA1 run2 run3 o1 o2 o3 g2 g3 ob b2 b3 rt rd hrow hfit hn2 hn3 hS5 hhl
      go_wp2
      go_region_law (first | (refine step_append_run rfl (.tmp 63) (.tmp 66) 23 rfl (.slice (some ⟨w5.heap.size, 0, none⟩) 0 0) (.slice (some ⟨g, 0, none⟩) k cp) (by simp [Act.eval, Act.put]) (by simp [Act.eval, Act.put]) _ _ RUN2.out ?_) | (refine step_append_run rfl (.tmp 67) (.tmp 71) 23 rfl (.slice a2 n2 q2) (.slice (some A) (R.length - (k + 1)) (cp - (k + 1))) (by simp [Act.eval, Act.put]) (by simp [Act.eval, Act.put]) _ _ RUN3.out ?_))
      all_goals
        go_wp2
        go_ret
        exact ⟨_, _, _, rfl, R3.out, M3.out, by omega, RD3.out, G3.out⟩
    · obtain ⟨hs5, hS5⟩ := O5.out
      have hk5 : k < hs5.length := by rw [hS5.len]; exact hkd
      obtain ⟨bl, c, hlb, hBl, hbls⟩ := hS5.lb hk5
      have hblb : ¬ b = bl := by omega
      have hc2 : 2 ≤ c := by
        obtain ⟨-, -, k3⟩ := hS5.nd k hk5 hkd
        rw [hlb] at k3
        obtain ⟨_, _, hv, h1, -, -⟩ := k3.reads
        simp only [Value.slice.injEq] at hv
        have := hv.2.1; omega
      have HCL : Hid (∀ w', w5.grownBy w' (some b) → w'.cell? ⟨g, k * 3 + 2, none⟩ = some (.slice (some ⟨bl, 0, none⟩) 2 c)) := Lib.hid (fun w' h => by
        have := (hS5.row.hd k hk5).2.2
        rw [hlb] at this
        exact h.cell this (fun e => hgb (Option.some.inj e).symm))
      have LST : Hid (∀ w' q (j : Nat) (z : Int), j < 2 → w5.grownBy w' (some b) → IsRd w' S b q → q ≤ p + 220 → bl < w'.heap.size ∧ (∃ u, w'.cell? ⟨bl, j, none⟩ = some u) ∧ w'.frozen? ⟨bl, j, none⟩ = false ∧ ((fun w' => ∃ (D : List Rn) (q : Int), RRingN b w' (.slice (some ⟨g, 0, none⟩) R.length cp) D ∧ Mild D ∧ q ≤ p + 220 ∧ IsRd w' S b q ∧ w.grownBy w' (some b))) (w'.setCell ⟨bl, j, none⟩ (.int .i64 z))) := Lib.hid (fun w' q j z hj hg hr hq => by
        have hS := hS5.rdx RD5.out hg
        have h1 := hS.lst (k := k) hk5 hkd hlb j z
        rw [HKD.out] at h1
        obtain ⟨-, -, k3⟩ := hS.nd k hk5 hkd
        rw [hlb, HKD.out] at k3
        have k4 : w'.ownsRow w.heap.size 3 1 (.slice (some ⟨bl, 0, none⟩) 2 c) 2 (ints [(nth R k).a0, (nth R k).a1]) := k3
        have rd' := hr.grown (grown_set w' bl j (.int .i64 z)) (fun e he => by cases he; have := hr.1; omega) (fun e => hblb (Option.some.inj e))
        refine ⟨Nat.lt_of_lt_of_le hbls hg.size, ?_, World.ownsRow.frozenAt k4 j, _, q, h1.rn rd', HM.out.set (by have := HIK.out; omega) (by simp), hq, rd', gOwn (G5.out.trans hg) (grown_set w' bl _ _) (fun e he => by cases he; exact hBl)⟩
        obtain ⟨_, _, hv, -, -, hcell⟩ := k3.reads
        cases hv
        obtain ⟨b7, o7, he7, -, h7⟩ := hcell j (by simpa using hj)
        cases he7
        rw [Nat.zero_add] at h7
        exact ⟨_, h7⟩)
      clear hS5 hlb
      go_wp2
      refine wp_region_facts [[], [], [0, 1], [2, 0, 1], [3, 2, 0, 1], [], [], [], [7], [6, 8, 7], [5, 9, 6, 8, 7], [10, 5, 9, 6, 8, 7], [11, 9, 10, 5, 6, 8, 7], [4, 3, 2, 0, 1], [13, 12, 0, 1, 2, 3, 4, 5, 6, 7, 8, 9, 10, 11]] (QW 9 14 (fun w' => w' = w5.drew) (fun w' => IsRd w' S b (q1 + 1 + 1 + 1 + 1) ∧ w5.grownBy w' (some b)) (fun w' => ∃ (D : List Rn) (q : Int), RRingN b w' (.slice (some ⟨g, 0, none⟩) R.length cp) D ∧ Mild D ∧ q ≤ p + 220 ∧ IsRd w' S b q ∧ w.grownBy w' (some b))) (fun q0 v w => match q0 with | 0 => v = .slice (some ⟨g, 0, none⟩) R.length cp | 1 => v = .int .i64 k | 2 => v = .pointer (some ⟨g, k * 3, none⟩) | 3 => v = .pointer (some ⟨g, k * 3 + 2, none⟩) | 4 => v = .slice (some ⟨bl, 0, none⟩) 2 c | 5 => v = .slice (some ⟨g, 0, none⟩) R.length cp | 6 => v = .pointer (some ⟨b, 0, none⟩) | 7 => v = .slice (some ⟨g, 0, none⟩) R.length cp | 8 => v = .int .i64 R.length | 9 => ∃ m : Nat, v = .int .i64 m ∧ m < R.length | 10 => ∃ m : Nat, v = .pointer (some ⟨g, m * 3, none⟩) ∧ m < R.length | 11 => ∃ m : Nat, v = .pointer (some ⟨g, m * 3, none⟩) ∧ m < R.length | 12 => ∃ z : Int, v = .int .i64 z | 13 => v = .pointer (some ⟨bl, 0, none⟩) | _ => True) (fun _ _ => True) (by kernel_rfl) (by kernel_rfl) (fun _ _ _ _ _ h => h) (QW.start rfl) ?_ ?_
      · refine ⟨?_, ?_, ?_, ?_, ?_, ?_, ?_, ?_, ?_, ?_, ?_, ?_, ?_, ?_, ?_, trivial⟩
        · intro a wq vs L hW hL hN hO hk hd K hK
          have p3 := hO 3 (by decide)
          clear hN hO hL hk hd
          go_simp
          exact hK _ _ (hW.skip (by decide) (by decide)) trivial rfl
        · intro a wq vs L hW hL hN hO hk hd K hK
          have p4 := hO 4 (by decide)
          clear hN hO hL hk hd
          go_simp
          exact hK _ _ (hW.skip (by decide) (by decide)) trivial rfl
        · intro a wq vs L hW hL hN hO hk hd K hK
          have d0 := hd 0 75 (by decide) rfl
          rw [show vs 0 = .slice (some ⟨g, 0, none⟩) R.length cp from (hk 0 (by decide)).2] at d0
          have d1 := hd 1 76 (by decide) rfl
          rw [show vs 1 = .int .i64 k from (hk 1 (by decide)).2] at d1
          clear hN hO hL hk hd
          go_simp
          exact hK _ _ (hW.skip (by decide) (by decide)) trivial rfl
        · intro a wq vs L hW hL hN hO hk hd K hK
          have d2 := hd 2 77 (by decide) rfl
          rw [show vs 2 = .pointer (some ⟨g, k * 3, none⟩) from (hk 2 (by decide)).2] at d2
          clear hN hO hL hk hd
          go_simp
          exact hK _ _ (hW.skip (by decide) (by decide)) trivial rfl
        · intro a wq vs L hW hL hN hO hk hd K hK
          have d3 := hd 3 78 (by decide) rfl
          rw [show vs 3 = .pointer (some ⟨g, k * 3 + 2, none⟩) from (hk 3 (by decide)).2] at d3
          have hgr : w5.grownBy wq (some b) := by
            cases h6 : L 9 with
            | false => rw [hW.a h6]; exact (⟨rfl, rfl, rfl, Nat.le_refl _, fun _ _ _ => rfl⟩ : w5.grownBy w5.drew (some b))
            | true => exact (hW.b h6 (hN 14 (by decide))).2
          have hx := HCL.out _ hgr
          clear hN hO hL hk hd
          go_simp
          exact hK _ _ (hW.skip (by decide) (by decide)) trivial rfl
        · intro a wq vs L hW hL hN hO hk hd K hK
          have p3 := hO 3 (by decide)
          clear hN hO hL hk hd
          go_simp
          exact hK _ _ (hW.skip (by decide) (by decide)) trivial rfl
        · intro a wq vs L hW hL hN hO hk hd K hK
          have p0 := hO 0 (by decide)
          clear hN hO hL hk hd
          go_simp
          exact hK _ _ (hW.skip (by decide) (by decide)) trivial rfl
        · intro a wq vs L hW hL hN hO hk hd K hK
          have p3 := hO 3 (by decide)
          clear hN hO hL hk hd
          go_simp
          exact hK _ _ (hW.skip (by decide) (by decide)) trivial rfl
        · intro a wq vs L hW hL hN hO hk hd K hK
          have d7 := hd 7 82 (by decide) rfl
          rw [show vs 7 = .slice (some ⟨g, 0, none⟩) R.length cp from (hk 7 (by decide)).2] at d7
          clear hN hO hL hk hd
          go_simp
          exact hK _ _ (hW.skip (by decide) (by decide)) trivial rfl
        · intro a wq vs L hW hL hN hO hk hd K hK
          have d6 := hd 6 81 (by decide) rfl
          rw [show vs 6 = .pointer (some ⟨b, 0, none⟩) from (hk 6 (by decide)).2] at d6
          have d8 := hd 8 83 (by decide) rfl
          rw [show vs 8 = .int .i64 R.length from (hk 8 (by decide)).2] at d8
          have ha := hW.a hL
          have h14 := hN 14 (by decide)
          subst ha
          refine step_callG (by simp [Region.wanted, yielded]) (f := 39) (args := #[.pointer (some ⟨b, 0, none⟩), .int .i64 R.length]) (by simp [execOp, Act.eval, Act.put, go_sem, d6, d8]) (pick_any S b (q1 + 1 + 1 + 1) R.length _ (show IsRd w5.drew S b _ from RD5.out) (by omega) (by omega) (by omega)) ?_
          rintro e w6 ⟨m, rfl, ⟨hm0, hm1⟩, r6, g6⟩
          obtain ⟨m, rfl⟩ := Int.eq_ofNat_of_zero_le hm0
          exact ⟨_, rfl, hK _ _ (QW.to2 h14 (by decide) ⟨r6, (⟨rfl, rfl, rfl, Nat.le_refl _, fun _ _ _ => rfl⟩ : w5.grownBy w5.drew (some b)).trans g6⟩) trivial ⟨m, rfl, by omega⟩⟩
        · intro a wq vs L hW hL hN hO hk hd K hK
          have d5 := hd 5 80 (by decide) rfl
          rw [show vs 5 = .slice (some ⟨g, 0, none⟩) R.length cp from (hk 5 (by decide)).2] at d5
          have d9 := hd 9 84 (by decide) rfl
          obtain ⟨m, e9, hm⟩ : ∃ m : Nat, vs 9 = .int .i64 m ∧ m < R.length := (hk 9 (by decide)).2
          rw [e9] at d9
          have i0 : (0 : Int) ≤ (m : Int) := by omega
          have i1 : (m : Int) < (R.length : Int) := by omega
          clear hN hO hL hk hd
          go_simp
          exact hK _ _ (hW.skip (by decide) (by decide)) trivial ⟨m, by simp, hm⟩
        · intro a wq vs L hW hL hN hO hk hd K hK
          have d10 := hd 10 85 (by decide) rfl
          obtain ⟨m, e10, hm⟩ : ∃ m : Nat, vs 10 = .pointer (some ⟨g, m * 3, none⟩) ∧ m < R.length := (hk 10 (by decide)).2
          rw [e10] at d10
          clear hN hO hL hk hd
          go_simp
          exact hK _ _ (hW.skip (by decide) (by decide)) trivial ⟨m, rfl, hm⟩
        · intro a wq vs L hW hL hN hO hk hd K hK
          have d11 := hd 11 86 (by decide) rfl
          obtain ⟨m, e11, hm⟩ : ∃ m : Nat, vs 11 = .pointer (some ⟨g, m * 3, none⟩) ∧ m < R.length := (hk 11 (by decide)).2
          rw [e11] at d11
          have h9 := (hk 9 (by decide)).1
          have hc := hW.b h9 (hN 14 (by decide))
          obtain ⟨-, -, -, -, hx, -, -⟩ := CELL.out wq m hc.2 hm
          clear hN hO hL hk hd hc
          go_simp
          exact hK _ _ (hW.skip (by decide) (by decide)) trivial ⟨_, rfl⟩
        · intro a wq vs L hW hL hN hO hk hd K hK
          have d4 := hd 4 79 (by decide) rfl
          rw [show vs 4 = .slice (some ⟨bl, 0, none⟩) 2 c from (hk 4 (by decide)).2] at d4
          clear hN hO hL hk hd
          go_simp
          exact hK _ _ (hW.skip (by decide) (by decide)) trivial rfl
        · intro a wq vs L hW hL hN hO hk hd K hK
          have d12 := hd 12 87 (by decide) rfl
          have d13 := hd 13 88 (by decide) rfl
          rw [show vs 13 = .pointer (some ⟨bl, 0, none⟩) from (hk 13 (by decide)).2] at d13
          obtain ⟨z, e12⟩ : ∃ z : Int, vs 12 = .int .i64 z := (hk 12 (by decide)).2
          rw [e12] at d12
          have h9 := (hk 9 (by decide)).1
          have hc := hW.b h9 hL
          obtain ⟨l1, ⟨u1, l2⟩, l3, l4⟩ := LST.out wq _ 0 z (by omega) hc.2 hc.1 (by omega)
          have L4 := Lib.hid l4
          clear hN hO hL hk hd l4 hc
          go_simp
          exact hK undef _ (QW.to3 h9 (by decide) L4.out) trivial trivial
      · intro vs wq hW hG
        clear hG
        simp only [putAll, Act.put, Nat.zero_add, Nat.reduceAdd]
        generalize vs 0 = y0
        generalize vs 1 = y1
        generalize vs 2 = y2
        generalize vs 3 = y3
        generalize vs 4 = y4
        generalize vs 5 = y5
        generalize vs 6 = y6
        generalize vs 7 = y7
        generalize vs 8 = y8
        generalize vs 9 = y9
        generalize vs 10 = y10
        generalize vs 11 = y11
        generalize vs 12 = y12
        generalize vs 13 = y13
        simp only [List.setIfInBounds_toArray, List.set_cons_succ, List.set_cons_zero]
        obtain ⟨D9, q9, a9, b9, c9, d9, e9⟩ := hW.e (by decide)
        have A9 := Lib.hid a9; have B9 := Lib.hid b9; have D9 := Lib.hid d9; have E9 := Lib.hid e9
        clear a9 b9 d9 e9 hW
        go_wp2
        go_ret
        exact ⟨_, _, q9, rfl, A9.out, B9.out, by omega, D9.out, E9.out⟩
    · go_wp2_with fail
      refine (pick_any S b (q1 + 1 + 1 + 1) R.length _ RD5.out (by omega) (by omega) (by omega)).mono ?_
      rintro e w6 ⟨m6, rfl, ⟨hm6, hm6'⟩, r6, g6⟩
      obtain ⟨m6, rfl⟩ := Int.eq_ofNat_of_zero_le hm6
      have hk6 : m6 < R.length := by omega
      obtain ⟨hgl, hf1, -, -, -, hc1, -⟩ := CELL.out w6 k g6 hk
      obtain ⟨-, -, -, -, hc2, -, -⟩ := CELL.out w6 m6 g6 hk6
      have F := Lib.hid (FIN1.out w6 (nth R m6).id g6 r6)
      clear r6 g6
      generalize (nth R m6).id = z6 at *
      go_wp2
      go_ret
      exact ⟨_, _, _, rfl, F.out.1, F.out.2.1, by omega, F.out.2.2.1, F.out.2.2.2⟩
end Go.Proofs.Ythgekfiodedelaa
