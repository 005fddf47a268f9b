/- laws.nodeAt; slices.DeleteFunc at nodes; ringStep's fail; impl.RingFail. -/
import Derived.Test.YthgekfiodedelaaImI
import Derived.Test.YthgekfiodedelaaSet
import Derived.Test.YthgekfiodedelaaSpK
namespace Go.Proofs.Ythgekfiodedelaa
open Go.RowKit
set_option linter.unusedVariables false
set_option linter.unusedSimpArgs false

theorem zeroNd : ∀ w, (zeroValue 37).run Try.prog w = .ok (.agg #[.int .i64 0, .int .i64 0, .slice none 0 0]) w := fun _ => by kernel_rfl

set_option maxHeartbeats 1000000 in
theorem failF1_any (x y z : Int) (s : Value) (g : Nat) (w : World) (hg : g < w.heap.size) (hc : w.cell? ⟨g, 0, none⟩ = some (.int .i64 z)) :
    Calls Try.prog 84 #[.agg #[.int .i64 x, .int .i64 y, s], .pointer (some ⟨g, 0, none⟩)] w fun e w' => e = .returned (.bool (x == z)) ∧ Below w.heap.size w w' := by
  have BK := Blk.new w #[.int .i64 x, .int .i64 y, s] 37
  obtain ⟨y0, y1, y2⟩ := BK.get3
  have B1 := Lib.hid (below_alloc w (.cells #[.int .i64 x, .int .i64 y, s] 37))
  have hc1 := (B1.out.cell (p := ⟨g, 0, none⟩) hg).trans hc
  clear BK hc
  go_enter Try.func84, Try.ntmps84
  go_wp2
  go_ret
  exact ⟨rfl, B1.out⟩
theorem enters84 : ∀ (args : Array Value) (w : World), (callFunc 84 args).run Try.prog w = .ok (.enter 84 args) w := enters_of Try.func84 (by kernel_rfl) rfl

theorem at_dropH {es zs : List Hd} {j : Nat} (h : es.drop j = zs.drop j) (hj : j < zs.length) (hl : es.length = zs.length) : es[j]'(by omega) = zs[j] := by
  rw [List.drop_eq_getElem_cons hj, List.drop_eq_getElem_cons (by omega)] at h
  exact (List.cons.inj h).1
theorem drop_nextH {es zs : List Hd} {j : Nat} (h : es.drop j = zs.drop j) : es.drop (j + 1) = zs.drop (j + 1) := by
  rw [← List.drop_drop, ← List.drop_drop, h]
theorem grownB {w w' : World} (h : Below w.heap.size w w') (row : Option Nat) : w.grownBy w' row := ⟨h.os, h.tape, h.output, h.size, fun k hk _ => h.block k hk⟩
theorem RS.id0 {w : World} {B : Nat} {v : Value} {hs : List Hd} {R : List Nd} (h : RS w B v hs (dats R)) {i : Nat} (hi : i < hs.length) : hs[i].1 = (nth R i).id := by
  have hl := h.len
  obtain ⟨a, -, -⟩ := h.nd i hi (by omega)
  rw [a, dats_get]
theorem ids_ne {R : List Nd} (hv : ValidL R) {x : Int} (hx : liveR R x = true) {i : Nat} (hi : i < R.length) (hne : i ≠ fnd R x) : ((nth R i).id == x) = false := by
  rw [beq_eq_false_iff_ne]
  intro e
  have hp := List.pairwise_iff_getElem.1 hv.asc
  have hm := (live_iff R x).1 hx
  have hk := fnd_lt hm
  have e2 := fnd_id hm
  have g1 := ids_get hi
  have g2 := ids_get hk
  rcases Nat.lt_or_gt_of_ne hne with h | h
  · have := hp i (fnd R x) (by simpa [idsL] using hi) (by simpa [idsL] using hk) h; omega
  · have := hp (fnd R x) i (by simpa [idsL] using hk) (by simpa [idsL] using hi) h; omega

set_option maxRecDepth 1000000 in
set_option maxHeartbeats 4000000 in
theorem deleteFuncN_any (g cap g2 B : Nat) (R : List Nd) (x : Int) (hs : List Hd) (w : World) (hv : ValidL R) (hlv : liveR R x = true) (h : RS w B (.slice (some ⟨g, 0, none⟩) R.length cap) hs (dats R)) (hc : w.cell? ⟨g2, 0, none⟩ = some (.int .i64 x)) (hg2 : ¬ g2 = g) :
    Calls Try.prog 83 #[.slice (some ⟨g, 0, none⟩) R.length cap, .func (.func 84) #[] #[.pointer (some ⟨g2, 0, none⟩)]] w
      fun e w' => ∃ u, e = .returned u ∧ u.ownBlock = some g ∧ OwnRow HL 37 w' B u (hs.take (fnd R x) ++ hs.drop (fnd R x + 1)) ∧ w.grownBy w' (some g) := by
  have eg := enters84
  have h10 := hv.len
  have hg2w := cell_lt hc
  obtain ⟨h1, hk⟩ := fdI_live hlv
  have HF : Hid (fstI (fun n => n.id == x) 0 R = (fnd R x : Int)) := Lib.hid (by rw [fstI_id, h1])
  have HS : Hid (SaysN w 84 (.pointer (some ⟨g2, 0, none⟩)) R (fun n => n.id == x)) := Lib.hid ⟨enters84, fun i w' bs os c hi hb hr => by
    refine failF1_any _ _ x _ _ w' (by have := hb.size; simp at hg2w; omega) ?_
    rw [hb.cell (p := ⟨g2, 0, none⟩) hg2w]; exact hc⟩
  have HR := Lib.hid (show RR w _ R from h.reads)
  have hlen : hs.length = R.length := by rw [h.len, dats_len]
  have HNE : Hid (∀ b (hb : b < hs.length), fnd R x < b → (hs[b].1 == x) = false) := Lib.hid (fun b hb hlt => by rw [h.id0 hb]; exact ids_ne hv hlv (by omega) (by omega))
  have HO := Lib.hid h.row
  obtain ⟨hcap, hmax⟩ : R.length ≤ cap ∧ cap ≤ maxLen := by obtain ⟨_, _, hv, h1, h2, _⟩ := h.row.reads; simp only [Value.slice.injEq] at hv; omega
  unfold maxLen at hmax
  have HL0 := Lib.hid hlen
  clear h hv hlv h1 hlen
  generalize fnd R x = k at *
  have hpn : ((k : Int) == -1) = false := by rw [beq_eq_false_iff_ne]; omega
  go_enter Try.func83, Try.ntmps83
  go_wp2_with fail
  refine (indexFuncN_any _ _ _ _ R _ (by omega) HR.out HS.out).mono ?_
  rw [HF.out]
  rintro e w2 ⟨rfl, b2⟩
  have HO2 := Lib.hid (HO.out.bl b2)
  have G2 := Lib.hid (grownB b2 (some g))
  clear b2
  go_wp2
  go_loopw [5, 6] (fun i j wr => ∃ (a : Nat) (es : List Hd), k ≤ a ∧ a + 1 ≤ R.length ∧ i = .int .i64 a ∧ j = .int .i64 (a + 1 : Nat) ∧ Hid (es.length = hs.length) ∧ Hid (es.take a = hs.take k ++ (hs.take (a + 1)).drop (k + 1)) ∧ Hid (es.drop (a + 1) = hs.drop (a + 1)) ∧ Hid (OwnRow HL 37 wr B (.slice (some ⟨g, 0, none⟩) R.length cap) es) ∧ Hid (w.grownBy wr (some g))) (fun _ j _ => R.length - (intOf j).toNat)
  case atStart => exact ⟨k, hs, by omega, by omega, rfl, by go_num, Lib.hid rfl, Lib.hid (by rw [List.drop_of_length_le (by simp; omega)]; simp), Lib.hid rfl, HO2, G2⟩
  case round =>
    obtain ⟨a, es, hab, hb, rfl, rfl, HLn, HT, HD, HR2, HG⟩ := hrel
    by_cases hlt : a + 1 < R.length
    · have hlh : a + 1 < hs.length := by rw [HL0.out]; exact hlt
      have hes := at_dropH HD.out hlh HLn.out
      have hle : a + 1 < es.length := by rw [HLn.out]; exact hlh
      have hla : a < es.length := by omega
      obtain ⟨-, r0, r1, r2⟩ := HR2.out.reads.hdc (a + 1) hle
      rw [Nat.zero_add] at r0 r1 r2
      have HC : Hid (wr.cell? ⟨g2, 0, none⟩ = some (.int .i64 x)) := Lib.hid (HG.out.cell hc (by simp; exact hg2))
      have HN := Lib.hid (HNE.out (a + 1) hlh (by omega))
      have HS1 : Hid ((hs.take (a + 2)).drop (k + 1) = (hs.take (a + 1)).drop (k + 1) ++ [hs[a + 1]]) := Lib.hid (by
        rw [List.take_succ_eq_append_getElem hlh, List.drop_append_of_le_length (by simp; omega)])
      rw [hes] at r0 r1 r2
      have HX : Hid (hs[a + 1] = (hs[a + 1].1, hs[a + 1].2.1, hs[a + 1].2.2)) := Lib.hid rfl
      have HA := Lib.hid hla; have HE := Lib.hid hle
      clear hes hla hle
      generalize hs[a + 1].1 = x1 at *
      generalize hs[a + 1].2.1 = y1 at *
      generalize hs[a + 1].2.2 = s1 at *
      obtain ⟨sa, sn, sc⟩ := s1
      have r2' : wr.cell? ⟨g, (a + 1) * 3 + 2, none⟩ = some (.slice sa sn sc) := r2
      clear r2
      have B1 := Blk.new wr #[.int .i64 x1, .int .i64 y1, .slice sa sn sc] 37
      have O1 := Lib.hid (HR2.out.al (.cells #[.int .i64 x1, .int .i64 y1, .slice sa sn sc] 37))
      have G1 := Lib.hid (HG.out.trans (grownB (below_alloc wr (.cells #[.int .i64 x1, .int .i64 y1, .slice sa sn sc] 37)) (some g)))
      have C1 : Hid ((wr.alloc (.cells #[.int .i64 x1, .int .i64 y1, .slice sa sn sc] 37)).cell? ⟨g2, 0, none⟩ = some (.int .i64 x)) := Lib.hid (G1.out.cell hc (by simp; exact hg2))
      go_wp2_with fail
      refine (failF1_any x1 y1 x _ g2 _ (cell_lt C1.out) C1.out).mono ?_
      rw [HN.out]
      rintro e w3 ⟨rfl, b3⟩
      have O3 := Lib.hid (O1.out.bl b3)
      have G3 := Lib.hid (G1.out.trans (grownB b3 (some g)))
      have B3 := B1.bl b3
      clear r0 r1 r2' B1
      obtain ⟨x0, x1', x2⟩ := B3.get3
      obtain ⟨-, k0, k1, k2⟩ := O3.out.reads.hdc a HA.out
      rw [Nat.zero_add] at k0 k1 k2
      obtain ⟨u0, k0⟩ : ∃ u, w3.cell? ⟨g, a * 3, none⟩ = some u := ⟨_, k0⟩
      obtain ⟨u1, k1⟩ : ∃ u, w3.cell? ⟨g, a * 3 + 1, none⟩ = some u := ⟨_, k1⟩
      obtain ⟨u2, k2⟩ : ∃ u, w3.cell? ⟨g, a * 3 + 2, none⟩ = some u := ⟨_, k2⟩
      have f0 := O3.out.frozenAt (a * 3); have f1 := O3.out.frozenAt (a * 3 + 1); have f2 := O3.out.frozenAt (a * 3 + 2)
      have O4 := Lib.hid (O3.out.setH a HA.out x1 y1 (sa, sn, sc))
      have G4 := Lib.hid (G3.out.trans (grown_putNd w3 g a x1 y1 (sa, sn, sc)))
      clear b3
      go_wp2
      go_roundw
      case rel => exact ⟨a + 1, es.set a (x1, y1, (sa, sn, sc)), by omega, by omega, by go_num, by go_num, Lib.hid (by rw [List.length_set]; exact HLn.out), Lib.hid (by
          show _ = hs.take k ++ (hs.take (a + 2)).drop (k + 1)
          rw [HS1.out, ← List.append_assoc, ← HT.out, HX.out, List.take_succ_eq_append_getElem (by rw [List.length_set]; exact HA.out), List.take_set_of_le (Nat.le_refl a)]; simp), Lib.hid (by
          rw [List.drop_set, if_pos (by omega)]; exact drop_nextH HD.out), O4, G4⟩
      case measure => simp [intOf]; omega
    · obtain rfl : a = R.length - 1 := by omega
      have hla : R.length - 1 + 1 = R.length := by omega
      have hEs : Hid (es.take (R.length - 1) = hs.take k ++ hs.drop (k + 1)) := Lib.hid (by rw [HT.out, hla, ← HL0.out, List.take_length])
      have hlen2 : Hid (es.length = R.length) := Lib.hid (HLn.out.trans HL0.out)
      generalize ha : R.length - 1 = a at *
      have hR : R.length - a = 1 := by omega
      have hcl : ∀ ty, (Builtin.clear_ #[23] ty #[.slice (some ⟨g, a * 3, none⟩) (R.length - a) (cap - a)]).run Try.prog wr = .ok (.tuple #[]) (wr.setCells g (a * 3) (flat HL (List.replicate (R.length - a) (0, 0, (none, 0, 0))))) := by
        refine fun ty => run_clear_rows HL wr _ _ ty _ (0, 0, (none, 0, 0)) Try.underlying23 zeroNd rfl g _ _ _ (by omega) (fun t ht => ?_) (fun t ht => HR2.out.frozenAt _)
        have hjl : a * 3 + t < (flat HL es).length := by
          rw [flat_len, hlen2.out]; show _ < R.length * 3
          have : t < (R.length - a) * 3 := ht
          omega
        have := (HR2.out.reads.addr.2 _ _ (List.getElem?_eq_getElem hjl)).2
        rw [Addr.add_mid, Nat.zero_add] at this
        rw [this]; rfl
      have o2 := OwnRow.setRun (L := HL) HR2.out a (List.replicate (R.length - a) (0, 0, (none, 0, 0))) (by rw [hlen2.out]; simp; omega)
      have e1 : HL.k = 3 := rfl
      rw [e1] at o2
      obtain ⟨o2, g2'⟩ := o2
      have o3 := o2.take (k := a) (by simp; have := hlen2.out; omega)
      have hfin : (es.take a ++ List.replicate (R.length - a) ((0, 0, (none, 0, 0)) : Hd) ++ es.drop (a + (List.replicate (R.length - a) ((0, 0, (none, 0, 0)) : Hd)).length)).take a = hs.take k ++ hs.drop (k + 1) := by
        have hc : (es.take a).length = a := by simp; have := hlen2.out; omega
        rw [List.append_assoc]
        conv => lhs; arg 1; rw [← hc]
        rw [List.take_left, hEs.out]
      rw [hfin] at o3
      have O3 := Lib.hid o3
      have G3 := Lib.hid (HG.out.trans g2')
      have hac : a ≤ cap := by omega
      have hal : a ≤ R.length := by omega
      have hb4 : ¬ (cap = a) := by omega
      clear o2 g2' o3 hfin hR ha hla hb hab
      go_wp2
      go_ret
      exact ⟨_, rfl, rfl, O3.out, G3.out⟩

theorem erase_get {α : Type} (xs : List α) (k i : Nat) (h : i < (xs.take k ++ xs.drop (k + 1)).length) (hk : k < xs.length) : ∃ h' : (if i < k then i else i + 1) < xs.length, (xs.take k ++ xs.drop (k + 1))[i] = xs[if i < k then i else i + 1] := by
  have hl : (xs.take k).length = k := by simp; omega
  simp at h
  by_cases hi : i < k
  · refine ⟨by rw [if_pos hi]; omega, ?_⟩
    simp only [if_pos hi]
    rw [List.getElem_append_left (by omega), List.getElem_take]
  · refine ⟨by rw [if_neg hi]; omega, ?_⟩
    simp only [if_neg hi]
    rw [List.getElem_append_right (by omega), List.getElem_drop]
    congr 1; omega
/-- A ring of the call's own without its node k. -/
theorem RS.cut {w w' : World} {B : Nat} {v u : Value} {hs : List Hd} {D : List Rn} (h : RS w B v hs D) {k : Nat} (hk : k < hs.length) (ho : OwnRow HL 37 w' B u (hs.take k ++ hs.drop (k + 1))) (hg : w.grownBy w' v.ownBlock) :
    RS w' B u (hs.take k ++ hs.drop (k + 1)) (D.take k ++ D.drop (k + 1)) := by
  have hl := h.len
  refine ⟨ho, by simp [hl], fun i h1 h2 => ?_, fun i j hi hj hij => ?_⟩
  · obtain ⟨p1, e1⟩ := erase_get hs k i h1 hk
    obtain ⟨p2, e2⟩ := erase_get D k i h2 (by omega)
    rw [e1, e2]
    obtain ⟨a, b, c⟩ := h.nd _ p1 p2
    exact ⟨a, b, c.gr hg (own_types c h.row ne_nd_int)⟩
  · obtain ⟨p1, e1⟩ := erase_get hs k i hi hk
    obtain ⟨p2, e2⟩ := erase_get hs k j hj hk
    rw [e1, e2]
    exact h.ap _ _ p1 p2 (by split <;> split <;> omega)

set_option maxRecDepth 100000 in
set_option maxHeartbeats 8000000 in
theorem failM_any (w0 W : World) (gS : Nat) (x : Value) (R : List Nd) (x0 o : Int) (hv : ValidL R) (h3 : 0 < R.length) (hS : SS w0 W gS x R) :
    Calls Try.prog 54 #[.pointer (some ⟨gS, 0, none⟩), .int .i64 x0, .int .i64 o] W fun e W' => e = .returned (.bool (failG R x0)) ∧ Below w0.heap.size w0 W' ∧ (failG R x0 = true → ∃ x', SS w0 W' gS x' (cutS R (fnd R x0))) := by
  have h10 := hv.len
  obtain ⟨g, cap, rfl, hg0, hgW, hne1, hne2, hc1, hc2⟩ := hS.shape h3
  have S1 := Lib.hid (hS.nx (below_alloc W (.cells #[.int .i64 x0] 3)))
  have B1 := Lib.hid (Blk.new W #[.int .i64 x0] 3)
  have HG0 : Hid (failG R x0 = (liveR R x0 && safeL (cutS R (fnd R x0)))) := Lib.hid rfl
  have kk0 := And.intro (show (W.alloc (.cells #[.int .i64 x0] 3)).drew.cell? _ = _ from S1.out.c) (show (W.alloc (.cells #[.int .i64 x0] 3)).drew.cell? _ = _ from B1.out.get1)
  have RA := S1.out.rr.d1
  have lS := S1.out.lt
  have lW : W.heap.size < (W.alloc (.cells #[.int .i64 x0] 3)).drew.heap.size := B1.out.lt
  have HV := Lib.hid hv
  clear hS hv
  go_enter Try.func54, Try.ntmps54
  go_wp2
  cases q : liveR R x0 with
  | false =>
    have hp := ptrAt_dead (v := .slice (some ⟨g, 0, none⟩) R.length cap) q
    have HP := Lib.hid hp; clear hp
    have HG : Hid (failG R x0 = false) := Lib.hid (by rw [HG0.out, q]; rfl)
    clear q
    go_region_held3 (fun w' => w'.cell? ⟨gS, 0, none⟩ = some (.slice (some ⟨g, 0, none⟩) R.length cap) ∧ w'.cell? ⟨W.heap.size, 0, none⟩ = some (.int .i64 x0)) (first | with_reducible exact kk0 | with_reducible exact kk5) ((go_at_call 49; refine (nodeAt_any _ R x0 _ (by omega) RA).mono ?_; rw [HP.out]; rintro e w5 ⟨rfl, b5⟩; have kk5 := And.intro ((b5.cell lS).trans kk0.1) ((b5.cell lW).trans kk0.2); have S5 := Lib.hid (S1.out.d1.nx b5)))
    all_goals
      go_wp2
      go_ret
      exact ⟨ret_bool (by rw [HG.out]), S5.out.bl, fun h => by rw [HG.out] at h; cases h⟩
  | true =>
    have HP := Lib.hid (ptrAt_own (g := g) (n := R.length) (cap := cap) q)
    have hk := (fdI_live q).2
    have HG : Hid (failG R x0 = safeL (cutS R (fnd R x0))) := Lib.hid (by rw [HG0.out, q]; rfl)
    have Q := Lib.hid q
    clear q HG0
    go_region_held3 (fun w' => w'.cell? ⟨gS, 0, none⟩ = some (.slice (some ⟨g, 0, none⟩) R.length cap) ∧ w'.cell? ⟨W.heap.size, 0, none⟩ = some (.int .i64 x0)) (first | with_reducible exact kk0 | with_reducible exact kk5) ((go_at_call 49; refine (nodeAt_any _ R x0 _ (by omega) RA).mono ?_; rw [HP.out]; rintro e w5 ⟨rfl, b5⟩; have kk5 := And.intro ((b5.cell lS).trans kk0.1) ((b5.cell lW).trans kk0.2); have S5 := Lib.hid (S1.out.d1.nx b5); have B5 := Lib.hid ((B1.out.d1).bl b5)))
    all_goals
      obtain ⟨hs, hr⟩ := id S5.out.ow
      have hkl : fnd R x0 < hs.length := by rw [hr.len, dats_len]; exact hk
      have HRS := Lib.hid hr; clear hr
      have HC := Lib.hid (fun V (b : Below w5.heap.size w5 V) => deleteFuncN_any g cap W.heap.size w0.heap.size R x0 hs V HV.out Q.out (HRS.out.bl b) ((b.cell B5.out.lt).trans B5.out.get1) (by have : g < W.heap.size := hgW; omega))
      have HD := Lib.hid (dats_cut R (fnd R x0))
      have HSF : Hid (sfD (dats (cutS R (fnd R x0))) = safeL (cutS R (fnd R x0))) := Lib.hid (sfD_dats (cut_valid HV.out _))
      have HLC : Hid ((dats (cutS R (fnd R x0))).length ≤ 4096) := Lib.hid (by rw [dats_len, cut_len hk]; omega)
      have HKL := Lib.hid hkl
      generalize hkq : fnd R x0 = k at *
      have HKQ := Lib.hid hkq
      clear hkq HV Q hkl
      go_wp2_with fail
      refine (HC.out _ (Below.refl _ _)).mono ?_
      rintro e w6 ⟨u, rfl, hu, ho, hg⟩
      have r6 := HRS.out.cut HKL.out ho hg
      obtain ⟨u, rfl⟩ : ∃ z, z = u := ⟨_, rfl⟩
      obtain ⟨a6, n6, q6, rfl⟩ : ∃ a n q, u = .slice a n q := by obtain ⟨a, q, e, -⟩ := ho.reads; exact ⟨_, _, _, e⟩
      have bk6 := S5.out.bk.gr hg (fun k e => by cases e; exact hne2)
      have hlt6 := bk6.lt
      have f6 := bk6.f 0
      have R7 : Hid (RS (w6.setCell ⟨gS, 0, none⟩ (.slice a6 n6 q6)) w0.heap.size (.slice a6 n6 q6) _ (dats (cutS R k))) := Lib.hid (by rw [HD.out]; exact r6.scT bk6 ne_nd_rs ne_int_rs 0 _)
      have S7 : Hid (SS w0 (w6.setCell ⟨gS, 0, none⟩ (.slice a6 n6 q6)) gS (.slice a6 n6 q6) (cutS R k)) := Lib.hid ⟨bGr (bGr S5.out.bl hg (fun k hk => by cases hk; exact hg0)) (grown_set w6 gS 0 _) (fun k hk => by cases hk; exact S5.out.ge), S5.out.ge, bk6.set 0 _, _, R7.out⟩
      have c6 := bk6.get1
      clear r6 ho hg hu R7
      go_wp2_with fail
      refine (implRingSafe_any _ (dats (cutS R k)) _ HLC.out S7.out.rr).mono ?_
      rw [HSF.out, ← HG.out]
      rintro e w8 ⟨rfl, b8⟩
      have S8 := Lib.hid (S7.out.nx b8)
      clear b8
      go_wp2
      go_ret
      exact ⟨rfl, S8.out.bl, fun _ => ⟨.slice a6 n6 q6, by rw [HKQ.out]; exact S8.out⟩⟩

theorem enters_ringFail : ∀ (args : Array Value) (w : World), (callFunc 53 args).run Try.prog w = .ok (.enter 53 args) w := enters_of Try.func53 (by kernel_rfl) rfl
set_option maxRecDepth 100000 in
set_option maxHeartbeats 2000000 in
theorem ringFail_F (w0 : World) (R : List Nd) (x0 : Int) (c : Nat) (hv : ValidL R) (h3 : 0 < R.length) (hc : c < w0.heap.size) (hcell : w0.cell? ⟨c, 0, none⟩ = some (.int .i64 x0)) : StepF w0 53 #[.pointer (some ⟨c, 0, none⟩)] R (cutS R (fnd R x0)) (failG R x0) := by
  refine ⟨enters_ringFail, fun W gS x hS => ?_⟩
  have HC := Lib.hid (failM_any w0 W gS x R x0 0 hv h3 hS)
  have y0 := (hS.bl.cell (p := ⟨c, 0, none⟩) hc).trans hcell
  show Calls Try.prog 53 #[.pointer (some ⟨gS, 0, none⟩), .pointer (some ⟨c, 0, none⟩)] W _
  clear hcell
  generalize cutS R (fnd R x0) = R' at *
  generalize failG R x0 = t at *
  go_enter Try.func53, Try.ntmps53
  go_wp2_with fail
  refine HC.out.mono ?_
  rintro e W' ⟨rfl, b, h⟩
  have B := Lib.hid b; have H := Lib.hid h; clear b h
  go_wp2
  go_ret
  exact ⟨rfl, B.out, H.out⟩
theorem take_ringFail (R : List Nd) (x0 : Int) : takeR R (cutS R (fnd R x0)) (failG R x0) = failS R x0 := by
  unfold takeR failS
  cases failG R x0 <;> rfl
set_option maxRecDepth 100000 in
set_option maxHeartbeats 2000000 in
theorem implRingFail_ok (v : Value) (R : List Nd) (x0 : Int) (w : World) (hv : ValidL R) (hs : safeL R = true) (hx : ptB x0 = true) (hr : RR w v R) :
    Calls Try.prog 24 #[v, .int .i64 x0] w fun e w' => ∃ x, e = .returned (.tuple #[x, .bool (failG R x0)]) ∧ OwnRingS w' w.heap.size x (dats (failS R x0)) ∧ Below w.heap.size w w' := by
  have h3 := three_of hs
  have B2 : Hid (Below w.heap.size w ((w.alloc (.cells #[.int .i64 x0] 3)).alloc (.cells #[.int .i64 x0] 3))) := Lib.hid (bAl (bAl (Below.refl _ _) _) _)
  have y0 : ((w.alloc (.cells #[.int .i64 x0] 3)).alloc (.cells #[.int .i64 x0] 3)).cell? ⟨w.heap.size, 0, none⟩ = some (.int .i64 x0) := (((Blk.new w #[.int .i64 x0] 3).al _)).get1
  have HA : Hid (RInts ((w.alloc (.cells #[.int .i64 x0] 3)).alloc (.cells #[.int .i64 x0] 3)) (.slice (some ⟨w.heap.size + 1, 0, none⟩) 1 1) [x0]) := Lib.hid (by have h := lit_reads (w.alloc (.cells #[.int .i64 x0] 3)) [x0] (by unfold maxLen; simp); rw [World.size_alloc] at h; exact h)
  have HP : Hid ([x0].all ptB = true) := Lib.hid (by simp [hx])
  have HL : Hid ([x0].length ≤ 4096) := Lib.hid (by simp)
  have HF := Lib.hid (ringFail_F ((w.alloc (.cells #[.int .i64 x0] 3)).alloc (.cells #[.int .i64 x0] 3)) R x0 w.heap.size hv (by omega) (by simp; omega) y0)
  have HR := Lib.hid (hr.bl B2.out)
  have HT := Lib.hid (take_ringFail R x0)
  have HCT := Lib.hid (take1_ok 53 _ v _ [x0] R _ _ ((w.alloc (.cells #[.int .i64 x0] 3)).alloc (.cells #[.int .i64 x0] 3)) hv hs HR.out HL.out HA.out HP.out HF.out)
  rw [HT.out] at HCT
  clear y0 hs hv hx hr
  generalize failG R x0 = t at *
  go_enter Try.func24, Try.ntmps24
  go_wp2_with fail
  refine HCT.out.mono ?_
  rintro e w5 ⟨x5, rfl, o5, b5⟩
  have c5 := Lib.hid (bNext B2.out b5)
  have O5 := Lib.hid (OwnRingS.base o5 B2.out.size)
  clear o5 b5
  go_wp2
  go_ret2
  exact ⟨_, rfl, O5.out, c5.out⟩
set_option maxRecDepth 100000 in
set_option maxHeartbeats 2000000 in
theorem implRingFail_bad (v : Value) (D : List Rn) (x0 : Int) (w : World) (hl : D.length ≤ 4096) (hbad : (sfD D && ptB x0) = false) (hr : RRing w v D) :
    Calls Try.prog 24 #[v, .int .i64 x0] w fun e w' => e = .returned (.tuple #[.slice none 0 0, .bool false]) ∧ Below w.heap.size w w' := by
  have B2 : Hid (Below w.heap.size w ((w.alloc (.cells #[.int .i64 x0] 3)).alloc (.cells #[.int .i64 x0] 3))) := Lib.hid (bAl (bAl (Below.refl _ _) _) _)
  have HA : Hid (RInts ((w.alloc (.cells #[.int .i64 x0] 3)).alloc (.cells #[.int .i64 x0] 3)) (.slice (some ⟨w.heap.size + 1, 0, none⟩) 1 1) [x0]) := Lib.hid (by have h := lit_reads (w.alloc (.cells #[.int .i64 x0] 3)) [x0] (by unfold maxLen; simp); rw [World.size_alloc] at h; exact h)
  have HCT := Lib.hid (take1_bad 53 (.pointer (some ⟨w.heap.size, 0, none⟩)) v _ [x0] D ((w.alloc (.cells #[.int .i64 x0] 3)).alloc (.cells #[.int .i64 x0] 3)) hl (hr.bl B2.out) (by simp) HA.out (by simpa using hbad))
  have y0 : ((w.alloc (.cells #[.int .i64 x0] 3)).alloc (.cells #[.int .i64 x0] 3)).cell? ⟨w.heap.size, 0, none⟩ = some (.int .i64 x0) := (((Blk.new w #[.int .i64 x0] 3).al _)).get1
  clear y0 hbad hr HA
  go_enter Try.func24, Try.ntmps24
  go_wp2_with fail
  refine HCT.out.mono ?_
  rintro e w5 ⟨rfl, b5⟩
  have c5 := Lib.hid (bNext B2.out b5)
  clear b5
  go_wp2
  go_ret2
  exact ⟨rfl, c5.out⟩
theorem live_at {R : List Nd} {j : Nat} (h : j < R.length) {x : Int} (e : (nth R j).id = x) : liveR R x = true := (live_iff R x).2 (by rw [← e]; exact List.mem_map_of_mem (nth_mem h))
theorem live_not {R : List Nd} {x : Int} (h : ∀ i, i < R.length → (nth R i).id ≠ x) : liveR R x = false := by
  cases q : liveR R x with
  | false => rfl
  | true =>
    obtain ⟨h1, h2⟩ := fdI_live q
    exact absurd (fnd_id ((live_iff R x).1 q)) (h _ h2)

/-- The position that laws.nodeAt answers with. -/
def atI (R : List Nd) (x : Int) : Int := if liveR R x then x else -1
theorem infoNdL : (Try.prog.info? 37).map (·.size) = some 3 := by kernel_rfl
set_option maxRecDepth 100000 in
set_option maxHeartbeats 4000000 in
theorem lawNodeAt_any (v : Value) (R : List Nd) (x : Int) (w : World) (hl : R.length ≤ 4096) (hr : RR w v R) :
    Calls Try.prog 20 #[v, .int .i64 x] w fun e w' => ∃ (y : Int) (s : Option Addr) (n c : Nat), e = .returned (.agg #[.int .i64 (atI R x), .int .i64 y, .slice s n c]) ∧ Below w.heap.size w w' := by
  obtain ⟨a, cap, rfl, hc, hm⟩ := id hr.sl
  have B1 := Lib.hid (below_alloc w (.cells #[.int .i64 0, .int .i64 0, .slice none 0 0] 37))
  have HR := Lib.hid (hr.bl B1.out)
  have K1 := Blk.new w #[.int .i64 0, .int .i64 0, .slice none 0 0] 37
  obtain ⟨W0, hW0⟩ : ∃ W0, W0 = w.alloc (.cells #[.int .i64 0, .int .i64 0, .slice none 0 0] 37) := ⟨_, rfl⟩
  have HW := Lib.hid hW0
  rw [← hW0] at B1 HR K1
  obtain ⟨k0, k1, k2⟩ := K1.get3
  obtain ⟨f0, f1, f2⟩ := K1.fr3
  have KK := Lib.hid K1
  clear hr hW0 K1
  go_enter Try.func20, Try.ntmps20
  go_wp2
  go_loopw [5] (fun i wr => ∃ j : Nat, j ≤ R.length ∧ i = .int .i64 j ∧ Hid (∀ i, i < j → (nth R i).id ≠ x) ∧ Hid (wr = W0)) (fun i _ => R.length - (intOf i).toNat)
  case atStart => exact ⟨0, Nat.zero_le _, rfl, Lib.hid (fun i h => absurd h (by omega)), Lib.hid HW.out.symm⟩
  case round =>
    obtain ⟨j, hj, rfl, hH, hw⟩ := hrel
    obtain rfl := hw.out
    clear hw
    by_cases hlt : j < R.length
    · obtain ⟨b, off, bs, os, c, rfl, hb, hbs, x0, x1, x2, r3, -, -⟩ := HR.out.nd j hlt
      by_cases he : (nth R j).id = x
      · have HQ : Hid (atI R x = x) := Lib.hid (by rw [atI, live_at hlt he]; rfl)
        have q : ((nth R j).id == x) = true := by rw [he]; simp
        have G0 := Lib.hid (bGr B1.out (grown_put3 wr w.heap.size (.int .i64 (nth R j).id) (.int .i64 (nth R j).bf) (.slice (some ⟨bs, os, none⟩) 2 c)) (fun k hk => by cases hk; exact Nat.le_refl _))
        have HE := Lib.hid he
        clear r3 he
        generalize nth R j = n at *
        go_wp2
        refine bodyPost_ret (results_cell_row rfl _ _ w.heap.size 37 #[.int .i64 n.id, .int .i64 n.bf, .slice (some ⟨bs, os, none⟩) 2 c] (0, 0) _ rfl (KK.out.put3 _ _ _).h Try.underlying37 rfl infoNdL) rfl ⟨_, _, _, _, by rw [HQ.out, ← HE.out], G0.out⟩
      · have q : ((nth R j).id == x) = false := by rw [beq_eq_false_iff_ne]; exact he
        have HE := Lib.hid he
        clear r3 he
        generalize hn : nth R j = n at *
        have HN := Lib.hid hn
        clear hn
        go_wp2
        go_roundw
        case rel => exact ⟨j + 1, by omega, by go_num, Lib.hid (fun i h => by
          by_cases e : i = j
          · subst e; rw [HN.out]; exact HE.out
          · exact hH.out i (by omega)), trivial⟩
        case measure => simp [intOf]; omega
    · have HQ : Hid (atI R x = -1) := Lib.hid (by rw [atI, live_not (fun i hi => hH.out i (by omega))]; rfl)
      have hlt0 := KK.out.lt
      have G0 := Lib.hid (bAl (bGr B1.out (grown_put3 wr w.heap.size (.int .i64 (-1)) (.int .i64 0) (.slice (some ⟨wr.heap.size, 0, none⟩) 2 2)) (fun k hk => by cases hk; exact Nat.le_refl _)) (.cells #[.int .i64 (-1), .int .i64 (-1)] 3))
      go_wp2
      refine bodyPost_ret (results_cell_row rfl _ _ w.heap.size 37 #[.int .i64 (-1), .int .i64 0, .slice (some ⟨wr.heap.size, 0, none⟩) 2 2] (0, 0) _ rfl ((KK.out.put3 _ _ _).al _).h Try.underlying37 rfl infoNdL) rfl ⟨_, _, _, _, by rw [HQ.out], G0.out⟩
theorem run_field_nd (x y : Int) (s : Option Addr) (n c : Nat) (w : World) : (Instr.field 37 (.agg #[.int .i64 x, .int .i64 y, .slice s n c]) 0).run Try.prog w = .ok (.int .i64 x) w := by kernel_rfl
end Go.Proofs.Ythgekfiodedelaa
