/- spec.l91Step, l91Ring; spec.RingJoin where it refuses. -/
import Derived.Test.YthgekfiodedelaaSpK
import Derived.Test.YthgekfiodedelaaGood
namespace Go.Proofs.Ythgekfiodedelaa
open Go.RowKit
set_option linter.unusedVariables false
set_option linter.unusedSimpArgs false

theorem ne_nd_rd : (37 : TypeId) ≠ 62 := by decide
theorem ne_int_rd : (3 : TypeId) ≠ 62 := by decide
theorem IsRd.blk {w : World} {S b : Nat} {p : Int} (h : IsRd w S b p) : ∃ v, Blk w b #[v, .int .i64 p] 62 := by
  obtain ⟨_, _, v, zs, hb, _⟩ := h; exact ⟨v, ⟨hb⟩⟩
theorem RS.rdx {w w' : World} {S b B : Nat} {p : Int} {v : Value} {hs : List Hd} {D : List Rn} (h : RS w B v hs D) (hr : IsRd w S b p) (hg : w.grownBy w' (some b)) : RS w' B v hs D := by
  obtain ⟨_, bk⟩ := hr.blk
  exact ⟨h.row.gr hg (own_blk h.row bk ne_nd_rd), h.len, fun i a b => by
    obtain ⟨p1, p2, p3⟩ := h.nd i a b
    exact ⟨p1, p2, p3.gr hg (own_blk p3 bk ne_int_rd)⟩, h.ap⟩
theorem OwnRingS.rdx {w w' : World} {S b B : Nat} {p : Int} {v : Value} {D : List Rn} (h : OwnRingS w B v D) (hr : IsRd w S b p) (hg : w.grownBy w' (some b)) : OwnRingS w' B v D := by
  obtain ⟨hs, h⟩ := h; exact ⟨hs, h.rdx hr hg⟩

/-- What a step leaves valid and safe. -/
def VS (R : List Nd) : Prop := ValidL R ∧ safeL R = true
theorem vs_of {I : List Int} {p q r : Int} {R : List Nd} (h : Good I p q r R) (hl : R.length ≤ 10) : VS R := ⟨h.valid hl, h.safe⟩
theorem vs_drop {R : List Nd} (h : VS R) {x : Int} (hx : liveR R x = true) : VS (dropS R (fnd R x)) := by
  obtain ⟨p, q, r, hG⟩ := good_of h.1 h.2
  exact vs_of (hG.drop (fdI_live hx).2) (by rw [drop_len]; exact h.1.len)
theorem vs_adopt {R : List Nd} (h : VS R) {x : Int} (hx : liveR R x = true) : VS (adoptS R (fnd R x)) := by
  obtain ⟨p, q, r, hG⟩ := good_of h.1 h.2
  exact vs_of (hG.adopt (fdI_live hx).2) (by rw [adopt_len]; exact h.1.len)
theorem vs_closer {R : List Nd} (h : VS R) {x : Int} (hx : liveR R x = true) (o : Int) : VS (closerS R (fnd R x) o) := by
  obtain ⟨p, q, r, hG⟩ := good_of h.1 h.2
  exact vs_of (hG.closer (fdI_live hx).2 o) (by rw [closer_len]; exact h.1.len)
theorem vs_notify {R : List Nd} (h : VS R) {x : Int} (hx : liveR R x = true) (o : Int) : VS (notifyS R (fnd R x) o) := by
  obtain ⟨p, q, r, hG⟩ := good_of h.1 h.2
  exact vs_of (hG.notify (fdI_live hx).2 o) (by rw [notify_len]; exact h.1.len)
theorem vs_stab {R : List Nd} (h : VS R) {x : Int} (hx : liveR R x = true) : VS (stabS R (fnd R x)) := by
  obtain ⟨p, q, r, hG⟩ := good_of h.1 h.2
  exact vs_of (hG.stab (fdI_live hx).2) (by rw [stab_len]; exact h.1.len)
theorem vs_join {R : List Nd} (h : VS R) {x y : Int} (hx : 0 ≤ x ∧ x < 64) (hy : 0 ≤ y ∧ y < 64) : VS (joinS R x y) := ⟨join_valid h.1 hx hy, join_safe h.1 h.2⟩
theorem vs_fail {R : List Nd} (h : VS R) (x : Int) : VS (failS R x) := ⟨fail_valid h.1 x, fail_safe h.2 x⟩

set_option maxRecDepth 100000 in
set_option maxHeartbeats 8000000 in
theorem l91Step_any (S b B : Nat) (p : Int) (v : Value) (R : List Nd) (w : World) (hr : IsRd w S b p) (hp : p ≤ 800000) (hB : B ≤ w.heap.size) (ho : OwnRingS w B v (dats R)) (hv : VS R) :
    Calls Try.prog 87 #[.pointer (some ⟨b, 0, none⟩), v] w fun e w' => ∃ u R' q, e = .returned u ∧ OwnRingS w' B u (dats R') ∧ VS R' ∧ q ≤ p + 4 ∧ IsRd w' S b q ∧ w.grownBy w' (some b) := by
  have h10 := hv.1.len
  have h3 := three_of hv.2
  have hp0 := hr.2.1
  have HV := Lib.hid hv
  have O0 := Lib.hid ho; have RD0 := Lib.hid hr
  obtain ⟨a, cap, rfl, -, -⟩ := RR.sl (R := R) ho.reads
  obtain ⟨bb, off, _, _, _, rfl, -⟩ := RR.nd (R := R) ho.reads 0 (by omega)
  have ez : ((R.length : Int) == 0) = false := by simpa using (show R.length ≠ 0 by omega)
  have ez' : ¬ ((R.length : Int) = 0) := by omega
  clear ho hr hv
  go_enter Try.func87, Try.ntmps87
  go_wp2_with fail
  refine (pick_any S b p R.length _ RD0.out (by omega) (by omega) (by omega)).mono ?_
  rintro e w1 ⟨m1, rfl, ⟨hm1, hm1'⟩, r1, g1⟩
  obtain ⟨m1, rfl⟩ := Int.eq_ofNat_of_zero_le hm1
  have hk1 : m1 < R.length := by omega
  have O1 := Lib.hid (O0.out.rdx RD0.out g1)
  have RD1 := Lib.hid r1; have G1 := Lib.hid g1
  obtain ⟨bb1, off1, _, _, _, he1, -, -, x1, -, -, -, -, -⟩ := RR.nd (R := R) O1.out.reads m1 hk1
  simp only [Option.some.injEq, Addr.mk.injEq, and_true] at he1
  obtain ⟨rfl, rfl⟩ := he1
  have HL1 : Hid (liveR R (nth R m1).id = true) := Lib.hid ((live_iff _ _).2 (nth_id hk1))
  have HI1 := Lib.hid (HV.out.1.ascI.2 _ (nth_id hk1))
  clear r1 g1 O0 RD0
  generalize (nth R m1).id = id at *
  go_wp2_with fail
  refine (pick_any S b (p + 1) R.length _ RD1.out (by omega) (by omega) (by omega)).mono ?_
  rintro e w2 ⟨m2, rfl, ⟨hm2, hm2'⟩, r2, g2⟩
  obtain ⟨m2, rfl⟩ := Int.eq_ofNat_of_zero_le hm2
  have hk2 : m2 < R.length := by omega
  have O2 := Lib.hid (O1.out.rdx RD1.out g2)
  have RD2 := Lib.hid r2; have G2 := Lib.hid (G1.out.trans g2)
  obtain ⟨bb2, off2, _, _, _, he2, -, -, x2, -, -, -, -, -⟩ := RR.nd (R := R) O2.out.reads m2 hk2
  simp only [Option.some.injEq, Addr.mk.injEq, and_true] at he2
  obtain ⟨rfl, rfl⟩ := he2
  have HL2 : Hid (liveR R (nth R m2).id = true) := Lib.hid ((live_iff _ _).2 (nth_id hk2))
  have HI2 := Lib.hid (HV.out.1.ascI.2 _ (nth_id hk2))
  clear r2 g2 x1 O1 RD1 G1
  generalize (nth R m2).id = ot at *
  go_wp2_with fail
  refine (pick_any S b (p + 1 + 1) 10 _ RD2.out (by omega) (by omega) (by omega)).mono ?_
  rintro e w3 ⟨m3, rfl, ⟨hm3, hm3'⟩, r3, g3⟩
  have O3 := Lib.hid (O2.out.rdx RD2.out g3)
  have RD3 := Lib.hid r3; have G3 := Lib.hid (G2.out.trans g3)
  have hB3 : Hid (B ≤ w3.heap.size) := Lib.hid (Nat.le_trans hB G3.out.size)
  clear r3 g3 x2 O2 RD2 G2 ez ez'
  have hpi := HV.out.1.pt HL1.out
  have hpo := HV.out.1.pt HL2.out
  have HPI := Lib.hid hpi; have HPO := Lib.hid hpo
  clear hpi hpo
  rcases (show m3 = 0 ∨ m3 = 1 ∨ m3 = 2 ∨ m3 = 3 ∨ m3 = 4 ∨ m3 = 5 ∨ m3 = 6 ∨ m3 = 7 ∨ m3 = 8 ∨ m3 = 9 by omega) with rfl | rfl | rfl | rfl | rfl | rfl | rfl | rfl | rfl | rfl
  · have e1 : IntKind.i64.wrap (id + 1) = id + 1 := IntWalk.i64_in _ (by have := HI1.out; omega)
    go_wp2_with fail
    refine (pick_any S b (p + 1 + 1 + 1) 12 _ RD3.out (by omega) (by omega) (by omega)).mono ?_
    rintro e w4 ⟨m4, rfl, ⟨hm4, hm4'⟩, r4, g4⟩
    have O4 := Lib.hid (O3.out.rdx RD3.out g4)
    have RD4 := Lib.hid r4; have G4 := Lib.hid (G3.out.trans g4)
    have hB4 : Hid (B ≤ w4.heap.size) := Lib.hid (Nat.le_trans hB G4.out.size)
    have e2 : IntKind.i64.wrap (id + 1 + m4) = id + 1 + m4 := IntWalk.i64_in _ (by have := HI1.out; omega)
    have e3 : Int.tmod (id + 1 + m4) 64 = (id + 1 + m4) % 64 := Int.tmod_eq_emod_of_nonneg (by have := HI1.out; omega)
    have e4 : 0 ≤ id + 1 + m4 := by have := HI1.out; omega
    have hx := Int.emod_nonneg (id + 1 + m4) (show (64 : Int) ≠ 0 by decide)
    have hx2 := Int.emod_lt_of_pos (id + 1 + m4) (show (0 : Int) < 64 by decide)
    have HXB := Lib.hid (And.intro hx hx2)
    have HPX : Hid (ptB ((id + 1 + m4) % 64) = true) := Lib.hid (ptB_of (by omega))
    clear r4 g4 hx hx2
    go_wp2_with fail
    refine (specRingJoin_ok _ R ((id + 1 + m4) % 64) id _ HV.out.1 HV.out.2 HPX.out HPI.out O4.out.reads).mono ?_
    rintro e w5 ⟨u5, rfl, o5, b5⟩
    have V5 := Lib.hid (vs_join HV.out HXB.out HI1.out)
    have O5 := Lib.hid (OwnRingS.base o5 hB4.out)
    have RD5 := Lib.hid (RD4.out.belowAll b5)
    have G5 := Lib.hid (gBelow G4.out b5)
    clear o5 b5
    go_wp2
    go_ret
    exact ⟨_, _, _, rfl, O5.out, V5.out, by omega, RD5.out, G5.out⟩
  · have e1 : IntKind.i64.wrap (id + 1) = id + 1 := IntWalk.i64_in _ (by have := HI1.out; omega)
    go_wp2_with fail
    refine (pick_any S b (p + 1 + 1 + 1) 12 _ RD3.out (by omega) (by omega) (by omega)).mono ?_
    rintro e w4 ⟨m4, rfl, ⟨hm4, hm4'⟩, r4, g4⟩
    have O4 := Lib.hid (O3.out.rdx RD3.out g4)
    have RD4 := Lib.hid r4; have G4 := Lib.hid (G3.out.trans g4)
    have hB4 : Hid (B ≤ w4.heap.size) := Lib.hid (Nat.le_trans hB G4.out.size)
    have e2 : IntKind.i64.wrap (id + 1 + m4) = id + 1 + m4 := IntWalk.i64_in _ (by have := HI1.out; omega)
    have e3 : Int.tmod (id + 1 + m4) 64 = (id + 1 + m4) % 64 := Int.tmod_eq_emod_of_nonneg (by have := HI1.out; omega)
    have e4 : 0 ≤ id + 1 + m4 := by have := HI1.out; omega
    have hx := Int.emod_nonneg (id + 1 + m4) (show (64 : Int) ≠ 0 by decide)
    have hx2 := Int.emod_lt_of_pos (id + 1 + m4) (show (0 : Int) < 64 by decide)
    have HXB := Lib.hid (And.intro hx hx2)
    have HPX : Hid (ptB ((id + 1 + m4) % 64) = true) := Lib.hid (ptB_of (by omega))
    clear r4 g4 hx hx2
    go_wp2_with fail
    refine (specRingJoin_ok _ R ((id + 1 + m4) % 64) id _ HV.out.1 HV.out.2 HPX.out HPI.out O4.out.reads).mono ?_
    rintro e w5 ⟨u5, rfl, o5, b5⟩
    have V5 := Lib.hid (vs_join HV.out HXB.out HI1.out)
    have O5 := Lib.hid (OwnRingS.base o5 hB4.out)
    have RD5 := Lib.hid (RD4.out.belowAll b5)
    have G5 := Lib.hid (gBelow G4.out b5)
    clear o5 b5
    go_wp2
    go_ret
    exact ⟨_, _, _, rfl, O5.out, V5.out, by omega, RD5.out, G5.out⟩
  · go_wp2_with fail
    refine (specRingFail_ok _ R id _ HV.out.1 HV.out.2 HPI.out O3.out.reads).mono ?_
    rintro e w5 ⟨u5, rfl, o5, b5⟩
    have V5 := Lib.hid (vs_fail HV.out id)
    have O5 := Lib.hid (OwnRingS.base o5 hB3.out)
    have RD5 := Lib.hid (RD3.out.belowAll b5)
    have G5 := Lib.hid (gBelow G3.out b5)
    clear o5 b5
    go_wp2
    go_ret
    exact ⟨_, _, _, rfl, O5.out, V5.out, by omega, RD5.out, G5.out⟩
  · go_wp2_with fail
    refine (specRingFail_ok _ R id _ HV.out.1 HV.out.2 HPI.out O3.out.reads).mono ?_
    rintro e w5 ⟨u5, rfl, o5, b5⟩
    have V5 := Lib.hid (vs_fail HV.out id)
    have O5 := Lib.hid (OwnRingS.base o5 hB3.out)
    have RD5 := Lib.hid (RD3.out.belowAll b5)
    have G5 := Lib.hid (gBelow G3.out b5)
    clear o5 b5
    go_wp2
    go_ret
    exact ⟨_, _, _, rfl, O5.out, V5.out, by omega, RD5.out, G5.out⟩
  · go_wp2_with fail
    refine (specRingFail_ok _ R id _ HV.out.1 HV.out.2 HPI.out O3.out.reads).mono ?_
    rintro e w5 ⟨u5, rfl, o5, b5⟩
    have V5 := Lib.hid (vs_fail HV.out id)
    have O5 := Lib.hid (OwnRingS.base o5 hB3.out)
    have RD5 := Lib.hid (RD3.out.belowAll b5)
    have G5 := Lib.hid (gBelow G3.out b5)
    clear o5 b5
    go_wp2
    go_ret
    exact ⟨_, _, _, rfl, O5.out, V5.out, by omega, RD5.out, G5.out⟩
  · go_wp2_with fail
    refine (specRingDrop_ok _ R id _ HV.out.1 HV.out.2 HL1.out O3.out.reads).mono ?_
    rintro e w5 ⟨u5, t5, rfl, o5, b5⟩
    have V5 := Lib.hid (vs_drop HV.out HL1.out)
    have O5 := Lib.hid (OwnRingS.base o5 hB3.out)
    have RD5 := Lib.hid (RD3.out.belowAll b5)
    have G5 := Lib.hid (gBelow G3.out b5)
    clear o5 b5
    go_wp2
    go_ret
    exact ⟨_, _, _, rfl, O5.out, V5.out, by omega, RD5.out, G5.out⟩
  · go_wp2_with fail
    refine (specRingAdopt_ok _ R id _ HV.out.1 HV.out.2 HL1.out O3.out.reads).mono ?_
    rintro e w5 ⟨u5, t5, rfl, o5, b5⟩
    have V5 := Lib.hid (vs_adopt HV.out HL1.out)
    have O5 := Lib.hid (OwnRingS.base o5 hB3.out)
    have RD5 := Lib.hid (RD3.out.belowAll b5)
    have G5 := Lib.hid (gBelow G3.out b5)
    clear o5 b5
    go_wp2
    go_ret
    exact ⟨_, _, _, rfl, O5.out, V5.out, by omega, RD5.out, G5.out⟩
  · go_wp2_with fail
    refine (specRingCloser_ok _ R id ot _ HV.out.1 HV.out.2 HL1.out HPO.out O3.out.reads).mono ?_
    rintro e w5 ⟨u5, t5, rfl, o5, b5⟩
    have V5 := Lib.hid (vs_closer HV.out HL1.out ot)
    have O5 := Lib.hid (OwnRingS.base o5 hB3.out)
    have RD5 := Lib.hid (RD3.out.belowAll b5)
    have G5 := Lib.hid (gBelow G3.out b5)
    clear o5 b5
    go_wp2
    go_ret
    exact ⟨_, _, _, rfl, O5.out, V5.out, by omega, RD5.out, G5.out⟩
  · go_wp2_with fail
    refine (specRingNotify_ok _ R id ot _ HV.out.1 HV.out.2 HL1.out HPO.out O3.out.reads).mono ?_
    rintro e w5 ⟨u5, t5, rfl, o5, b5⟩
    have V5 := Lib.hid (vs_notify HV.out HL1.out ot)
    have O5 := Lib.hid (OwnRingS.base o5 hB3.out)
    have RD5 := Lib.hid (RD3.out.belowAll b5)
    have G5 := Lib.hid (gBelow G3.out b5)
    clear o5 b5
    go_wp2
    go_ret
    exact ⟨_, _, _, rfl, O5.out, V5.out, by omega, RD5.out, G5.out⟩
  · go_wp2_with fail
    refine (specRingStabilize_ok _ R id _ HV.out.1 HV.out.2 HL1.out O3.out.reads).mono ?_
    rintro e w5 ⟨u5, t5, rfl, o5, b5⟩
    have V5 := Lib.hid (vs_stab HV.out HL1.out)
    have O5 := Lib.hid (OwnRingS.base o5 hB3.out)
    have RD5 := Lib.hid (RD3.out.belowAll b5)
    have G5 := Lib.hid (gBelow G3.out b5)
    clear o5 b5
    go_wp2
    go_ret
    exact ⟨_, _, _, rfl, O5.out, V5.out, by omega, RD5.out, G5.out⟩

theorem asc_of {xs : List Int} (h : AscI xs) : Asc xs := ⟨h.1, fun x hx => by have := h.2 x hx; omega⟩
theorem vs_ideal {I : List Int} (hI : Asc I) (h3 : 3 ≤ I.length) (h10 : I.length ≤ 10) : VS (idealS I) := by
  have hl := ideal_len I
  have hids := ideal_ids I
  have hp := List.pairwise_iff_getElem.1 hI.1
  have hin : ∀ m, I.getD (m % I.length) 0 ∈ I := fun m => by
    have hm : m % I.length < I.length := Nat.mod_lt _ (by omega)
    rw [List.getD_eq_getElem?_getD, List.getElem?_eq_getElem hm]; exact List.getElem_mem hm
  have hnd : ∀ i, i < I.length → ∀ x, x ∈ I → skips (nth (idealS I) i) x = false := fun i hi x hx => by
    rw [nth_ideal I i hi, skips_iff]
    obtain ⟨j, hj, rfl⟩ := List.getElem_of_mem hx
    have key : ∀ a, a < I.length → ∀ c, c < I.length → (c = a + 1 ∨ (a + 1 = I.length ∧ c = 0)) → btw (I.getD a 0) I[j] (I.getD c 0) = false := fun a ha c hc hac => by
      rw [List.getD_eq_getElem?_getD, List.getElem?_eq_getElem ha, List.getD_eq_getElem?_getD, List.getElem?_eq_getElem hc]
      simp only [Option.getD_some]
      rw [btw_not]
      have h1 : ∀ s (hs : s < I.length), ∀ t (ht : t < I.length), s < t → I[s] < I[t] := fun s hs t ht h => hp s t hs ht h
      rcases hac with rfl | ⟨h2, rfl⟩
      · have hac := h1 a ha (a + 1) hc (by omega)
        rcases Nat.lt_trichotomy j a with h | h | h
        · have := h1 j hj a ha h; omega
        · subst h; omega
        · rcases Nat.lt_trichotomy j (a + 1) with h' | h' | h'
          · omega
          · subst h'; omega
          · have := h1 (a + 1) hc j hj h'; omega
      · have hac := h1 0 hc a ha (by omega)
        have e1 : I[j] ≤ I[a] := by
          by_cases h : j = a
          · subst h; omega
          · have := h1 j hj a ha (by omega); omega
        have e2 : I[0] ≤ I[j] := by
          by_cases h : 0 = j
          · subst h; omega
          · have := h1 0 hc j hj (by omega); omega
        omega
    have hm1 : (i + 1) % I.length < I.length := Nat.mod_lt _ (by omega)
    have hm2 : (i + 2) % I.length < I.length := Nat.mod_lt _ (by omega)
    have c1 : (i + 1) % I.length = i + 1 ∨ (i + 1 = I.length ∧ (i + 1) % I.length = 0) := by
      by_cases h : i + 1 = I.length
      · right; exact ⟨h, by rw [h]; exact Nat.mod_self _⟩
      · left; exact Nat.mod_eq_of_lt (by omega)
    have c2 : (i + 2) % I.length = (i + 1) % I.length + 1 ∨ ((i + 1) % I.length + 1 = I.length ∧ (i + 2) % I.length = 0) := by
      by_cases h : i + 1 = I.length
      · left
        rw [show i + 2 = I.length + 1 by omega, h, Nat.mod_self, Nat.add_mod_left]
        exact Nat.mod_eq_of_lt (by omega)
      · by_cases h' : i + 2 = I.length
        · right; rw [Nat.mod_eq_of_lt (show i + 1 < I.length by omega)]; exact ⟨by omega, by rw [h']; exact Nat.mod_self _⟩
        · left; rw [Nat.mod_eq_of_lt (show i + 1 < I.length by omega), Nat.mod_eq_of_lt (show i + 2 < I.length by omega)]
    exact ⟨key i hi _ hm1 c1, key _ hm1 _ hm2 c2⟩
  have hva : ∀ n ∈ idealS I, NdV n := fun n hn => by
    obtain ⟨k, hk, rfl⟩ := mem_nth hn
    rw [hl] at hk
    rw [nth_ideal I k hk]
    have h1 := hI.2 _ (hin (k + 1)); have h2 := hI.2 _ (hin (k + 2)); have h4 := hI.2 _ (hin (k + I.length - 1))
    have h5 := hin k
    rw [Nat.mod_eq_of_lt hk] at h5
    exact ⟨hI.2 _ h5, .inr h4, h1, h2⟩
  refine ⟨⟨by rw [hids]; exact hI.1, hva, by rw [hl]; exact h10⟩, ?_⟩
  simp only [safeL, Bool.and_eq_true, decide_eq_true_eq, List.all_eq_true, Bool.or_eq_true, live_iff]
  refine ⟨fun n hn => ?_, ?_⟩
  · obtain ⟨k, hk, rfl⟩ := mem_nth hn
    rw [hl] at hk
    rw [nth_ideal I k hk, hids]
    exact .inl (hin (k + 1))
  · have hpr : princ (idealS I) = I := by
      unfold princ
      rw [hids, List.filter_eq_self]
      intro x hx
      simp only [prcB, Bool.not_eq_true', List.any_eq_false]
      intro n hn
      obtain ⟨k, hk, rfl⟩ := mem_nth hn
      rw [hl] at hk
      rw [hnd k hk x hx]; simp
    rw [hpr]; exact h3

set_option maxRecDepth 100000 in
set_option maxHeartbeats 4000000 in
theorem l91Ring_any (S b : Nat) (p : Int) (w : World) (hr : IsRd w S b p) (hp : p ≤ 700000) :
    Calls Try.prog 55 #[.pointer (some ⟨b, 0, none⟩)] w fun e w' => ∃ u R q, e = .returned u ∧ OwnRingS w' w.heap.size u (dats R) ∧ VS R ∧ q ≤ p + 200 ∧ IsRd w' S b q ∧ w.grownBy w' (some b) := by
  have hp0 := hr.2.1
  have hbl := hr.lt
  have RD0 := Lib.hid hr
  clear hr
  go_enter Try.func55, Try.ntmps55
  go_wp2_with fail
  refine (l91Good_any S b 3 p _ RD0.out (by omega) (by omega) (by omega)).mono ?_
  rintro e w1 ⟨u1, xs, rfl, o1, ⟨hl3, hl10⟩, hasc, -, ⟨q1, hq1, r1⟩, g1⟩
  have RD1 := Lib.hid r1; have G1 := Lib.hid g1; have I1 := Lib.hid o1.reads
  have HAS : Hid (Asc xs) := Lib.hid (asc_of hasc)
  have HNB : Hid (nodesB xs = true) := Lib.hid (by
    rw [nodesB, inB_of (by omega), asc_from_of (fun x hx => by have := (HAS.out.2 x hx).1; omega) HAS.out.1 HAS.out.2]; rfl)
  obtain ⟨a1, c1, rfl, -, -, -⟩ := id o1.reads
  clear r1 g1 o1 hasc RD0
  go_wp2_with fail
  refine (specRingNew_ok _ xs _ HNB.out hl3 I1.out).mono ?_
  rintro e w2 ⟨u2, rfl, o2, b2⟩
  have O2 := Lib.hid (OwnRingS.base (B' := w.heap.size) o2 G1.out.size)
  have RD2 := Lib.hid (RD1.out.belowAll b2); have G2 := Lib.hid (gBelow G1.out b2)
  have V2 := Lib.hid (vs_ideal HAS.out hl3 hl10)
  clear o2 b2 RD1 G1 I1
  go_wp2
  go_loopw [3, 5] (fun o i wr => ∃ (j : Nat) (R : List Nd) (q : Int), j ≤ 24 ∧ i = .int .i64 j ∧ q ≤ p + 12 + 5 * j ∧ Hid (OwnRingS wr w.heap.size o (dats R)) ∧ Hid (VS R) ∧ Hid (IsRd wr S b q) ∧ Hid (w.grownBy wr (some b))) (fun _ i _ => 24 - (intOf i).toNat)
  case atStart => exact ⟨0, _, q1, by omega, rfl, by omega, O2, V2, RD2, G2⟩
  case round =>
    obtain ⟨j, R, q, hj, rfl, hq, OJ, VJ, RJ, GJ⟩ := hrel
    obtain ⟨o, rfl⟩ : ∃ z, z = u3 := ⟨_, rfl⟩
    clear O2 V2 RD2 G2
    have hq0 := RJ.out.2.1
    go_wp2_with fail
    refine (pick_any S b q 24 _ RJ.out (by omega) (by omega) (by omega)).mono ?_
    rintro e w5 ⟨m5, rfl, ⟨hm5, hm5'⟩, r5, g5⟩
    have O5 := Lib.hid (OJ.out.rdx RJ.out g5)
    have RD5 := Lib.hid r5; have G5 := Lib.hid (GJ.out.trans g5)
    have hB5 : Hid (w.heap.size ≤ w5.heap.size) := Lib.hid G5.out.size
    clear r5 g5 OJ RJ GJ
    by_cases hlt : (j : Int) < m5
    · have d1 : decide ((j : Int) < m5) = true := decide_eq_true hlt
      go_wp2_with fail
      refine (l91Step_any S b w.heap.size (q + 1) o R _ RD5.out (by omega) hB5.out O5.out VJ.out).mono ?_
      rintro e w6 ⟨u6, R6, q6, rfl, o6, v6, hq6, r6, g6⟩
      have O6 := Lib.hid o6; have V6 := Lib.hid v6; have RD6 := Lib.hid r6; have G6 := Lib.hid (G5.out.trans g6)
      clear o6 v6 r6 g6
      go_wp2
      go_roundw
      case rel => exact ⟨j + 1, R6, q6, by omega, by go_num, by omega, O6, V6, RD6, G6⟩
      case measure => simp [intOf]; omega
    · have d1 : decide ((j : Int) < m5) = false := decide_eq_false hlt
      go_wp2
      go_ret
      exact ⟨_, R, _, rfl, O5.out, VJ.out, by omega, RD5.out, G5.out⟩

set_option maxRecDepth 100000 in
set_option maxHeartbeats 2000000 in
theorem specRingJoin_bad (v : Value) (D : List Rn) (x y : Int) (w : World) (hl : D.length ≤ 4096) (hbad : (sfD D && ptB x && ptB y) = false) (hr : RRing w v D) :
    Calls Try.prog 19 #[v, .int .i64 x, .int .i64 y] w fun e w' => ∃ u, e = .returned (.tuple #[u, .bool false]) ∧ RRing w' u [] ∧ Below w.heap.size w w' := by
  have HR := Lib.hid hr; clear hr
  cases q : sfD D with
  | false =>
    have Q := Lib.hid q; clear q hbad
    go_enter Try.func19, Try.ntmps19
    go_wp2_with fail
    refine (specRingSafe_any v D _ hl HR.out).mono ?_
    rw [Q.out]
    rintro e w1 ⟨rfl, b1⟩
    have B1 := Lib.hid b1; clear b1
    go_wp2
    go_ret2
    exact ⟨_, rfl, (OwnRingS.empty w1).reads, bAl B1.out _⟩
  | true =>
    rw [q, Bool.true_and] at hbad
    have Q := Lib.hid q
    cases q2 : ptB x with
    | false =>
      have Q2 := Lib.hid q2; clear q q2 hbad
      go_enter Try.func19, Try.ntmps19
      go_wp2_with fail
      refine (specRingSafe_any v D _ hl HR.out).mono ?_
      rw [Q.out]
      rintro e w1 ⟨rfl, b1⟩
      have B1 := Lib.hid b1; clear b1
      go_wp2_with fail
      refine (l1Point_any x _).mono ?_
      rw [Q2.out]
      rintro e w2 ⟨rfl, rfl⟩
      go_wp2
      go_ret2
      exact ⟨_, rfl, (OwnRingS.empty w1).reads, bAl B1.out _⟩
    | true =>
      rw [q2, Bool.true_and] at hbad
      have HB := Lib.hid hbad
      have Q2 := Lib.hid q2; clear q q2 hbad
      go_enter Try.func19, Try.ntmps19
      go_wp2_with fail
      refine (specRingSafe_any v D _ hl HR.out).mono ?_
      rw [Q.out]
      rintro e w1 ⟨rfl, b1⟩
      have B1 := Lib.hid b1; clear b1
      go_wp2_with fail
      refine (l1Point_any x _).mono ?_
      rw [Q2.out]
      rintro e w2 ⟨rfl, rfl⟩
      go_wp2_with fail
      refine (l1Point_any y _).mono ?_
      rw [HB.out]
      rintro e w2 ⟨rfl, rfl⟩
      go_wp2
      go_ret2
      exact ⟨_, rfl, (OwnRingS.empty w1).reads, bAl B1.out _⟩
end Go.Proofs.Ythgekfiodedelaa
