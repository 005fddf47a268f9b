/- CacheSweep of the program: slices.DeleteFunc. -/
import Derived.Test.YtldlaklddcekiaaDel
namespace Go.Proofs.Ytldlaklddcekiaa
open Go.RowKit
set_option linter.unusedVariables false
set_option linter.unusedSimpArgs false

set_option maxHeartbeats 400000 in
theorem sweep1_any (x y z now : Int) (g : Nat) (w : World) (hz : 0 ≤ z ∧ z ≤ 999) (hn : 0 ≤ now ∧ now ≤ 999) (hc : w.cell? ⟨g, 0, none⟩ = some (.int .i64 now)) :
    Calls Try.prog 41 #[.agg #[.int .i64 x, .int .i64 y, .int .i64 z], .pointer (some ⟨g, 0, none⟩)] w fun e w' => e = .returned (.bool (!freshB (x, y, z) now)) ∧ Below w.heap.size w w' := by
  have hg := cell_lt hc
  have hc' : (w.alloc (.cells #[.int .i64 x, .int .i64 y, .int .i64 z] 41)).cell? ⟨g, 0, none⟩ = some (.int .i64 now) := by rw [(below_alloc w _).cell (p := ⟨g, 0, none⟩) hg]; exact hc
  have hne : ¬ w.heap.size = g := by have : g < w.heap.size := hg; omega
  go_enter Try.func41, Try.ntmps41
  go_wp2_with fail
  refine (usedAt_any x y z now _ hz hn).mono ?_
  rintro e w2 ⟨rfl, b2⟩
  go_wp2
  go_ret
  exact ⟨rfl, bNext (below_alloc _ _) b2⟩
theorem entersSw : ∀ (args : Array Value) (w : World), (callFunc 41 args).run Try.prog w = .ok (.enter 41 args) w := enters_of Try.func41 (by kernel_rfl) rfl

/-- The first place from i on that is not fresh, or -1. -/
def staleAt (now : Int) : Nat → List Ent → Int
  | _, [] => -1
  | i, e :: es => if freshB e now then staleAt now (i + 1) es else (i : Int)

set_option maxHeartbeats 1000000 in
theorem indexStale_any (v : Value) (zs : List Ent) (now : Int) (g : Nat) (w : World) (hl : zs.length ≤ 4194304) (hz : ∀ e ∈ zs, 0 ≤ e.2.2 ∧ e.2.2 ≤ 999) (hn : 0 ≤ now ∧ now ≤ 999) (hc : w.cell? ⟨g, 0, none⟩ = some (.int .i64 now)) (hr : RRow EL w v zs) :
    Calls Try.prog 51 #[v, .func (.func 41) #[] #[.pointer (some ⟨g, 0, none⟩)]] w fun e w' => e = .returned (.int .i64 (staleAt now 0 zs)) ∧ Below w.heap.size w w' := by
  obtain ⟨a, cap, rfl, hcp, hm, -⟩ := id hr
  have hcell := hr.ent
  clear hr
  have hg := cell_lt hc
  have eg := entersSw
  go_enter Try.func51, Try.ntmps51
  go_wp2
  go_loopw [8] (fun i wr => ∃ j : Nat, j ≤ zs.length ∧ i = .int .i64 j ∧ Hid (staleAt now 0 zs = staleAt now j (zs.drop j)) ∧ Below w.heap.size w wr) (fun i _ => zs.length - (intOf i).toNat)
  case atStart => exact ⟨0, Nat.zero_le _, rfl, by simp [Hid], Below.refl _ _⟩
  case round =>
    obtain ⟨j, hj, rfl, hH, hB⟩ := hrel
    by_cases hlt : j < zs.length
    · obtain ⟨b, off, rfl, hbl, h0, h1, h2⟩ := hcell j hlt
      have hD : Hid (zs.drop j = zs[j] :: zs.drop (j + 1)) := Lib.hid (List.drop_eq_getElem_cons hlt)
      have hzz := hz zs[j] (List.getElem_mem hlt)
      have r0 := (hB.cell (p := ⟨b, off + j * 3, none⟩) hbl).trans h0
      have r1 := (hB.cell (p := ⟨b, off + j * 3 + 1, none⟩) hbl).trans h1
      have r2 := (hB.cell (p := ⟨b, off + j * 3 + 2, none⟩) hbl).trans h2
      have hcr := (hB.cell (p := ⟨g, 0, none⟩) hg).trans hc
      clear h0 h1 h2 hcell hz hc
      have HX : Hid (zs[j] = (zs[j].1, zs[j].2.1, zs[j].2.2)) := Lib.hid rfl
      generalize zs[j].1 = x at *
      generalize zs[j].2.1 = y at *
      generalize zs[j].2.2 = z at *
      have HC := Lib.hid hcr; clear hcr
      cases hf : freshB (x, y, z) now with
      | true =>
        have HF := Lib.hid hf; clear hf
        go_wp2_with fail
        refine (sweep1_any x y z now g _ hzz hn HC.out).mono ?_
        rw [HF.out]
        rintro e w2 ⟨rfl, b2⟩
        have c2 := bNext hB b2
        go_wp2
        go_roundw
        case rel => exact ⟨j + 1, by omega, by go_num, Lib.hid (by rw [hH.out, hD.out, staleAt, HX.out, if_pos HF.out]), c2⟩
        case measure => simp [intOf]; omega
      | false =>
        have HF := Lib.hid hf; clear hf
        go_wp2_with fail
        refine (sweep1_any x y z now g _ hzz hn HC.out).mono ?_
        rw [HF.out]
        rintro e w2 ⟨rfl, b2⟩
        have c2 := bNext hB b2
        go_wp2
        go_ret
        exact ⟨ret_int (by rw [hH.out, hD.out, staleAt, HX.out, if_neg (by rw [HF.out]; simp)]), c2⟩
    · go_wp2
      go_ret
      exact ⟨ret_int (by rw [hH.out, List.drop_of_length_le (by omega)]; rfl), hB⟩

theorem staleAt_parts (now : Int) (zs : List Ent) (i : Nat) : (staleAt now i zs = -1 ∧ zs.filter (fun e => freshB e now) = zs) ∨
    ∃ p, ∃ hp : p < zs.length, staleAt now i zs = (i + p : Nat) ∧ (zs.take p).filter (fun e => freshB e now) = zs.take p ∧ freshB zs[p] now = false := by
  induction zs generalizing i with
  | nil => exact .inl ⟨rfl, rfl⟩
  | cons e es ih =>
    by_cases he : freshB e now = true
    · rcases ih (i + 1) with ⟨h1, h2⟩ | ⟨p, hp, h1, h2, h3⟩
      · exact .inl ⟨by rw [staleAt, if_pos he, h1], by rw [List.filter_cons, if_pos he, h2]⟩
      · refine .inr ⟨p + 1, by simp; omega, ?_, ?_, by simpa using h3⟩
        · rw [staleAt, if_pos he, h1]; congr 1; omega
        · rw [List.take_succ_cons, List.filter_cons, if_pos he, h2]
    · exact .inr ⟨0, by simp, by rw [staleAt, if_neg he]; rfl, rfl, by simpa using he⟩
theorem grown_of_below {w w' : World} (h : Below w.heap.size w w') (row : Option Nat) : w.grownBy w' row := ⟨h.os, h.tape, h.output, h.size, fun k hk _ => h.block k hk⟩
theorem at_drop {es zs : List Ent} {j : Nat} (h : es.drop j = zs.drop j) (hj : j < zs.length) (hl : es.length = zs.length) : es[j]'(by omega) = zs[j] := by
  rw [List.drop_eq_getElem_cons hj, List.drop_eq_getElem_cons (by omega)] at h
  exact (List.cons.inj h).1
theorem drop_next {es zs : List Ent} {j : Nat} (h : es.drop j = zs.drop j) : es.drop (j + 1) = zs.drop (j + 1) := by
  rw [← List.drop_drop, ← List.drop_drop, h]

set_option maxRecDepth 1000000 in
set_option maxHeartbeats 4000000 in
theorem deleteFuncE_any (v : Value) (zs : List Ent) (now : Int) (g2 B : Nat) (w : World) (hl : zs.length ≤ 4194304) (hz : ∀ e ∈ zs, 0 ≤ e.2.2 ∧ e.2.2 ≤ 999) (hn : 0 ≤ now ∧ now ≤ 999) (hc : w.cell? ⟨g2, 0, none⟩ = some (.int .i64 now)) (hgB : g2 < B) (ho : OwnRow EL entT w B v zs) :
    Calls Try.prog 39 #[v, .func (.func 41) #[] #[.pointer (some ⟨g2, 0, none⟩)]] w
      fun e w' => ∃ u, e = .returned u ∧ OwnRow EL entT w' B u (zs.filter (fun e => freshB e now)) ∧ w.grownBy w' v.ownBlock := by
  have eg := entersSw
  have HO := Lib.hid ho; clear ho
  rcases staleAt_parts now zs 0 with ⟨h1, h2⟩ | ⟨p, hp, h1, h2, h3⟩
  · obtain ⟨a, cap, rfl, -, -, -⟩ := HO.out.reads
    rw [h2]
    have H1 := Lib.hid h1; clear h1 h2
    go_enter Try.func39, Try.ntmps39
    go_wp2_with fail
    refine (indexStale_any _ zs now g2 _ hl hz hn hc HO.out.reads).mono ?_
    rw [H1.out]
    rintro e w2 ⟨rfl, b2⟩
    go_wp2
    go_ret
    exact ⟨_, rfl, HO.out.bl b2, grown_of_below b2 _⟩
  · rcases HO.out.shape with ⟨_, hnil⟩ | ⟨g, cap, rfl, hBg, hgl, hncap, hcm⟩
    · subst hnil; simp at hp
    unfold maxLen at hcm
    have hpi : staleAt now 0 zs = (p : Int) := by rw [h1]; simp
    have hpn : ((p : Int) == -1) = false := by rw [beq_eq_false_iff_ne]; omega
    have H1 := Lib.hid hpi
    have HF0 : Hid (zs.take p = (zs.take (p + 1)).filter (fun e => freshB e now)) := Lib.hid (by rw [take_filter hp, h2, h3]; simp)
    clear h1 h2 h3 hpi
    have hg2 : ¬ g2 = g := by omega
    go_enter Try.func39, Try.ntmps39
    go_wp2_with fail
    refine (indexStale_any _ zs now g2 _ hl hz hn hc HO.out.reads).mono ?_
    rw [H1.out]
    rintro e w2 ⟨rfl, b2⟩
    have HO2 := Lib.hid (HO.out.bl b2)
    have G2 := Lib.hid (grown_of_below b2 (some g))
    go_wp2
    go_loopw [5, 6] (fun i j wr => ∃ (a b : Nat) (es : List Ent), a < b ∧ b ≤ zs.length ∧ i = .int .i64 a ∧ j = .int .i64 b ∧ Hid (es.length = zs.length) ∧ Hid (es.take a = (zs.take b).filter (fun e => freshB e now)) ∧ Hid (es.drop b = zs.drop b) ∧ Hid (OwnRow EL entT wr B (.slice (some ⟨g, 0, none⟩) zs.length cap) es) ∧ Hid (w.grownBy wr (some g))) (fun _ j _ => zs.length - (intOf j).toNat)
    case atStart => exact ⟨p, p + 1, zs, by omega, by omega, rfl, by go_num, Lib.hid rfl, HF0, Lib.hid rfl, HO2, G2⟩
    case round =>
      obtain ⟨a, b, es, hab, hb, rfl, rfl, HL, HT, HD, HR, HG⟩ := hrel
      by_cases hlt : b < zs.length
      · have hes := at_drop HD.out hlt HL.out
        have hle : b < es.length := by rw [HL.out]; exact hlt
        have hla : a < es.length := by rw [HL.out]; omega
        have hzz := hz zs[b] (List.getElem_mem hlt)
        obtain ⟨r0, r1, r2⟩ := HR.out.ent b hle
        have HC : Hid (wr.cell? ⟨g2, 0, none⟩ = some (.int .i64 now)) := Lib.hid (HG.out.cell hc (by simp; exact hg2))
        have HS := Lib.hid (take_filter (f := fun e => freshB e now) hlt)
        rw [hes] at r0 r1 r2
        have HX : Hid (zs[b] = (zs[b].1, zs[b].2.1, zs[b].2.2)) := Lib.hid rfl
        have HA := Lib.hid hla; have HE := Lib.hid hle
        clear hes hla hle
        generalize zs[b].1 = x at *
        generalize zs[b].2.1 = y at *
        generalize zs[b].2.2 = z at *
        have B1 := Blk.new wr #[.int .i64 x, .int .i64 y, .int .i64 z] 41
        have O1 := Lib.hid (HR.out.al (.cells #[.int .i64 x, .int .i64 y, .int .i64 z] 41))
        have G1 := Lib.hid (HG.out.trans (grown_of_below (below_alloc wr (.cells #[.int .i64 x, .int .i64 y, .int .i64 z] 41)) (some g)))
        have C1 : Hid ((wr.alloc (.cells #[.int .i64 x, .int .i64 y, .int .i64 z] 41)).cell? ⟨g2, 0, none⟩ = some (.int .i64 now)) := Lib.hid (G1.out.cell hc (by simp; exact hg2))
        cases hf : freshB (x, y, z) now with
        | false =>
          have HF := Lib.hid hf; clear hf
          go_wp2_with fail
          refine (sweep1_any x y z now g2 _ hzz hn C1.out).mono ?_
          rw [HF.out]
          rintro e w3 ⟨rfl, b3⟩
          have O3 := Lib.hid (O1.out.bl b3)
          have G3 := Lib.hid (G1.out.trans (grown_of_below b3 (some g)))
          clear r0 r1 r2 B1
          go_wp2
          go_roundw
          case rel => exact ⟨a, b + 1, es, by omega, by omega, rfl, by go_num, HL, Lib.hid (by rw [HS.out, ← HT.out, HX.out, HF.out]; simp), Lib.hid (drop_next HD.out), O3, G3⟩
          case measure => simp [intOf]; omega
        | true =>
          have HF := Lib.hid hf; clear hf
          go_wp2_with fail
          refine (sweep1_any x y z now g2 _ hzz hn C1.out).mono ?_
          rw [HF.out]
          rintro e w3 ⟨rfl, b3⟩
          have O3 := Lib.hid (O1.out.bl b3)
          have G3 := Lib.hid (G1.out.trans (grown_of_below b3 (some g)))
          have B3 := B1.bl b3
          clear r0 r1 r2 B1
          obtain ⟨x0, x1, x2⟩ := B3.get3
          obtain ⟨k0, k1, k2⟩ := O3.out.ent a HA.out
          obtain ⟨u0, k0⟩ : ∃ u, w3.cell? ⟨g, a * 3, none⟩ = some u := ⟨_, k0⟩
          obtain ⟨u1, k1⟩ : ∃ u, w3.cell? ⟨g, a * 3 + 1, none⟩ = some u := ⟨_, k1⟩
          obtain ⟨u2, k2⟩ : ∃ u, w3.cell? ⟨g, a * 3 + 2, none⟩ = some u := ⟨_, k2⟩
          have f0 := O3.out.frozenAt (a * 3); have f1 := O3.out.frozenAt (a * 3 + 1); have f2 := O3.out.frozenAt (a * 3 + 2)
          have O4 := Lib.hid (O3.out.set3 a HA.out x y z)
          have G4 := Lib.hid (G3.out.trans (((grown_set w3 g (a * 3) (.int .i64 x)).trans (grown_set _ g (a * 3 + 1) (.int .i64 y))).trans (grown_set _ g (a * 3 + 2) (.int .i64 z))))
          go_wp2
          go_roundw
          case rel => exact ⟨a + 1, b + 1, es.set a (x, y, z), by omega, by omega, by go_num, by go_num, Lib.hid (by rw [List.length_set]; exact HL.out), Lib.hid (by
              rw [HS.out, ← HT.out, HX.out, HF.out, List.take_succ_eq_append_getElem (by rw [List.length_set]; exact HA.out), List.take_set_of_le (Nat.le_refl a)]; simp), Lib.hid (by
              rw [List.drop_set, if_pos (by omega)]; exact drop_next HD.out), O4, G4⟩
          case measure => simp [intOf]; omega
      · obtain rfl : b = zs.length := by omega
        have hEs : Hid (es.take a = zs.filter (fun e => freshB e now)) := Lib.hid (by rw [HT.out, List.take_length])
        have hcl : ∀ ty, (Builtin.clear_ #[25] ty #[.slice (some ⟨g, a * 3, none⟩) (zs.length - a) (cap - a)]).run Try.prog wr = .ok (.tuple #[]) (wr.setCells g (a * 3) (flat EL (List.replicate (zs.length - a) (0, 0, 0)))) := by
          refine fun ty => run_clear_rows EL wr _ _ ty _ (0, 0, 0) Try.underlying25 zeroEnt rfl g _ _ _ (by omega) (fun t ht => ?_) (fun t ht => HR.out.frozenAt _)
          have hjl : a * 3 + t < (flat EL es).length := by
            rw [flat_len, HL.out]; show _ < zs.length * 3
            have : t < (zs.length - a) * 3 := ht
            omega
          have := (HR.out.reads.addr.2 _ _ (List.getElem?_eq_getElem hjl)).2
          rw [Addr.add_mid, Nat.zero_add] at this
          rw [this]; rfl
        have o2 := OwnRow.setRun (L := EL) HR.out a (List.replicate (zs.length - a) (0, 0, 0)) (by rw [HL.out]; simp; omega)
        have e1 : EL.k = 3 := rfl
        rw [e1] at o2
        obtain ⟨o2, g2'⟩ := o2
        have o3 := o2.take (k := a) (by simp; have := HL.out; omega)
        have hfin : (es.take a ++ List.replicate (zs.length - a) ((0, 0, 0) : Ent) ++ es.drop (a + (List.replicate (zs.length - a) ((0, 0, 0) : Ent)).length)).take a = zs.filter (fun e => freshB e now) := by
          have hc : (es.take a).length = a := by simp; have := HL.out; omega
          rw [List.append_assoc]
          conv => lhs; arg 1; rw [← hc]
          rw [List.take_left, hEs.out]
        rw [hfin] at o3
        have O3 := Lib.hid o3
        have G3 := Lib.hid (HG.out.trans g2')
        have hac : a ≤ cap := by omega
        clear o2 g2' o3 hfin
        go_wp2
        go_ret
        exact ⟨_, rfl, O3.out, G3.out⟩

set_option maxHeartbeats 2000000 in
theorem implCacheSweep_any (v : Value) (zs : List Ent) (now : Int) (w : World) (hl : zs.length ≤ 4194304) (hr : RRow EL w v zs) :
    Calls Try.prog 19 #[v, .int .i64 now] w fun e w' => ∃ u, e = .returned u ∧ OwnRow EL entT w' w.heap.size u (sweepL zs now) ∧ Below w.heap.size w w' := by
  obtain ⟨a, cap, rfl, hc, hm, -⟩ := id hr
  have HR := Lib.hid hr; clear hr
  have e0 := below_alloc w (.cells #[.int .i64 now] 3)
  have B0 := Blk.new w #[.int .i64 now] 3
  cases hv : cvB zs with
  | false =>
    rw [sweep_bad (zs := zs) (now := now) (by simp [sweepG, hv])]
    have HV := Lib.hid hv; clear hv
    go_enter Try.func19, Try.ntmps19
    go_wp2_with fail
    refine (implCacheValid_any _ zs _ hl (HR.out.bl e0)).mono ?_
    rw [HV.out]
    rintro e w1 ⟨rfl, b1⟩
    have c1 := bNext e0 b1
    go_wp2
    go_ret
    exact ⟨_, rfl, OwnRow.nil _ _ _ _, c1⟩
  | true =>
    cases hk : inB now 0 999 with
    | false =>
      rw [sweep_bad (zs := zs) (now := now) (by simp [sweepG, hv, hk])]
      have HV := Lib.hid hv; clear hv
      go_enter Try.func19, Try.ntmps19
      go_wp2_with fail
      refine (implCacheValid_any _ zs _ hl (HR.out.bl e0)).mono ?_
      rw [HV.out]
      rintro e w1 ⟨rfl, b1⟩
      have c1 := bNext e0 b1
      have x0 := (B0.bl b1).get1
      go_wp2_with fail
      refine (times_any _ now _ ?_).mono ?_
      · exact reads_one _ now rfl
      rintro e w' ⟨rfl, rfl⟩
      go_wp2
      go_ret
      exact ⟨_, rfl, OwnRow.nil _ _ _ _, bAl c1 _⟩
    | true =>
      have hnn := inB_true hk
      have hz : ∀ e ∈ zs, 0 ≤ e.2.2 ∧ e.2.2 ≤ 999 := by
        intro e he
        obtain ⟨j, hj, rfl⟩ := List.getElem_of_mem he
        exact (enB_parts (cv_all (cvB_from hv).1 j hj).1).2.2
      rw [sweep_good (zs := zs) (now := now) (by simp [sweepG, hv, hk])]
      have HV := Lib.hid hv; have HZ := Lib.hid hz; clear hv hz
      go_enter Try.func19, Try.ntmps19
      go_wp2_with fail
      refine (implCacheValid_any _ zs _ hl (HR.out.bl e0)).mono ?_
      rw [HV.out]
      rintro e w1 ⟨rfl, b1⟩
      have c1 := bNext e0 b1
      have B1 := B0.bl b1
      have x0 := B1.get1
      go_wp2_with fail
      refine (times_any _ now _ ?_).mono ?_
      · exact reads_one _ now rfl
      rintro e w' ⟨rfl, rfl⟩
      clear x0
      have c2 := bAl c1 (.cells #[.int .i64 now] 3)
      have B2 := B1.al (.cells #[.int .i64 now] 3)
      go_wp2_with fail
      refine (cloneE_any _ zs _ hl (HR.out.bl c2)).mono ?_
      rintro e w3 ⟨u, rfl, o3, b3⟩
      have c3 := bNext c2 b3
      have B3 := B2.bl b3
      have hs := B2.lt
      have hs2 := c2.size
      have O3 := Lib.hid o3; clear o3
      go_wp2_with fail
      refine (deleteFuncE_any _ zs now w.heap.size _ _ hl HZ.out hnn B3.get1 hs O3.out).mono ?_
      rintro e w4 ⟨u4, rfl, o4, g4⟩
      have O4 := Lib.hid (o4.base hs2)
      have C4 := Lib.hid (bGr c3 g4 (fun k hk' => by have := (O3.out.lts k hk').1; omega))
      clear o4 g4
      go_wp2
      go_ret
      exact ⟨_, rfl, O4.out, C4.out⟩
end Go.Proofs.Ytldlaklddcekiaa
