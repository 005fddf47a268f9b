/- What DrawChunkPut draws. -/
import Derived.Test.YtlfmgagokaekjaaAppI
import Derived.Test.YtlfmgagokaekjaaDrawTr
import Derived.Test.YtlfmgagokaekjaaDrawAck
import Derived.Deep.DeepCutAuto
import Derived.Deep.RegionHeld3
namespace Go.Proofs.Ytlfmgagokaekjaa
open Go.RowKit
set_option linter.unusedVariables false
set_option linter.unusedSimpArgs false

theorem own_blk_ne {w : World} {B g : Nat} {v : Value} {xs : List Int} {cs : Array Value} {t : TypeId} (h : OwnInts w B v xs) (hb : Blk w g cs t) (ht : t ≠ 3) : ∀ k, v.ownBlock = some k → k ≠ g := by
  rintro k hk rfl
  rcases h.2 with ⟨rfl, -⟩ | ⟨g', cap, cur, rfl, -, hg, -⟩
  · cases hk
  · have : g' = k := Option.some.inj hk
    subst this
    have := hb.h
    rw [hg] at this
    simp only [Option.some.injEq, Obj.cells.injEq] at this
    exact ht this.2.1.symm

set_option maxRecDepth 100000 in
set_option maxHeartbeats 4000000 in
theorem drawChunkPut_any (v : Value) (zs : List Int) (w : World) (hr : RBytes w v zs) (hl : zs.length ≤ 1048576) :
    Calls Try.prog 13 #[v] w fun e w' => ∃ v1 got n u cs, e = .returned (.tuple #[v1, chV n u]) ∧ OwnInts w' w.heap.size v1 got ∧ OwnInts w' w.heap.size u cs ∧ got.length ≤ 21 ∧ cs.length ≤ 8 ∧ (-1 ≤ n ∧ n ≤ 22) ∧ Below w.heap.size w w' := by
  obtain ⟨⟨a, cap, rfl, g1, g2, -⟩, -⟩ := id hr
  have HR := Lib.hid hr; clear hr
  have a0 := below_alloc w (.cells #[.int .i64 0, .slice none 0 0] 25)
  have B0 := Blk.new w #[.int .i64 0, .slice none 0 0] 25
  go_enter Try.func13, Try.ntmps13
  go_wp2_with fail
  refine (l6Open_any _ zs _ (HR.out.below a0) hl).mono ?_
  rintro e w1 ⟨b, rfl, hb, r1, b1⟩
  have B1 := B0.bl b1
  have c1 := bNext a0 b1
  simp only [World.size_alloc] at hb
  have hlt := r1.lt
  go_wp2_with fail
  refine (l92Items_any _ b 0 _ r1 (by omega)).mono ?_
  rintro e w2 ⟨u0, xs, rfl, o2, hxl, ⟨q, hq, r2⟩, g2⟩
  obtain ⟨a2, q2, rfl, hq2, -, -⟩ := id o2.reads
  have B2 := (B1.gr g2 (fun j hj => by cases hj; omega)).al (.cells #[] 3)
  have c2 := bAl (bGr c1 g2 (fun j hj => by cases hj; omega)) (.cells #[] 3)
  have h1 := c1.size
  have h2 := g2.size
  have hB := B1.lt
  have r3 := r2.alloc (.cells #[] 3)
  have o3 := o2.al (.cells #[] 3)
  have e3 := own_empty w2
  have HXL := Lib.hid hxl; clear hxl
  have hxl : xs.length ≤ 21 := HXL.out
  have hsz2 := sAl w2 (.cells #[] 3)
  go_wp2_with fail
  refine (pick_any _ b q _ _ r3 (by omega) (by omega) (by omega)).mono ?_
  rintro e w3 ⟨m, rfl, ⟨hm, hm'⟩, r4, g3⟩
  obtain ⟨m, rfl⟩ := Int.eq_ofNat_of_zero_le hm
  have B3 := B2.gr g3 (fun j hj => by cases hj; omega)
  have c3 := bGr c2 g3 (fun j hj => by cases hj; omega)
  have o4 := o3.gr g3 (ap_ne fun x hx => by have := (o3.lts x hx).1; omega)
  have e4 := e3.gr g3 (ap_ne fun x hx => by have := (e3.lts x hx).1; omega)
  have h3 := g3.size
  have o5 : OwnInts w3 w1.heap.size (.slice a2 m q2) (xs.take m) := by
    rcases ownsRow_shape o4 with ⟨hsh, h0⟩ | ⟨gz, capz, hsh, -, -, -, -⟩
    · simp only [Value.slice.injEq] at hsh
      obtain ⟨rfl, h0', rfl⟩ := hsh
      obtain rfl : m = 0 := by omega
      simpa using OwnInts.nil w3 w1.heap.size
    · simp only [Value.slice.injEq] at hsh
      obtain ⟨rfl, -, rfl⟩ := hsh
      exact own_take o4 (by omega)
  have f1 : (m : Int) ≤ (q2 : Int) := by omega
  have htl : (xs.take m).length = m := by simp; omega
  have HTL := Lib.hid htl; clear htl
  go_wp2_with (at_builtin; refine wpList_appI _ rfl _ _ rfl _ (.slice (some ⟨w2.heap.size, 0, none⟩) 0 0) _ rfl e4 _ _ _ rfl o5 (by simp; omega) (by omega) (by simp) ?_)
  intro vg w4 og gg ng

  change w3.grownBy w4 (some w2.heap.size) at gg
  have B4 := B3.gr gg (fun j hj => by have := Option.some.inj hj; omega)
  have c4 := bGr c3 gg (fun j hj => by have := Option.some.inj hj; omega)
  have r5 := r4.grown gg (fun k hk => by have := Option.some.inj hk; have := r2.1; omega) (fun e => by have := Option.some.inj e; have := r2.lt; omega)
  have o6 := o4.gr gg (ap_ne (g := w2.heap.size) fun x hx => by have := (o2.lts x hx).2; omega)
  have hgl : (xs.take m).length ≤ 21 := by rw [HTL.out]; omega
  have h4 := gg.size
  obtain ⟨got, hgot⟩ : ∃ got, got = xs.take m := ⟨_, rfl⟩
  rw [← hgot] at og hgl
  obtain ⟨ag, qg, rfl, -, -, -⟩ := id og.reads
  have hog := og.lts
  have hbS : b < w1.heap.size := hlt
  clear hgot HTL o5 e4 e3 o3 o2 r3 r2 r1 r4 o4 c1 c2 c3 B1 B2 B3 f1 B0 a0
  go_wp2_with fail
  refine (pick_any _ b _ 4 _ r5 (by omega) (by omega) (by omega)).mono ?_
  rintro e w5 ⟨p4, rfl, ⟨hp4, hp4'⟩, r6, g5⟩
  obtain ⟨E, hE, hE1, hE2⟩ : ∃ E, max ((got.length : Int) - p4) 0 = E ∧ 0 ≤ E ∧ E ≤ 21 := ⟨_, rfl, by omega, by omega⟩
  have hmx := fun w ts t => run_max2 (P := Try.prog) w ts t ((got.length : Int) - p4) 0 E hE
  have ew1 : IntKind.i64.wrap ((got.length : Int) - p4) = (got.length : Int) - p4 := IntWalk.i64_in _ (by omega)
  clear hE
  go_wp2_with fail
  refine (pick_any _ b _ 8 _ r6 (by omega) (by omega) (by omega)).mono ?_
  rintro e w6 ⟨p8, rfl, ⟨hp8, hp8'⟩, r7, g6⟩
  have hp87 : 0 ≤ p8 / 7 ∧ p8 / 7 ≤ 1 := by omega
  obtain ⟨hp87a, hp87b⟩ := hp87
  have ew2 : IntKind.i64.wrap (E + p8 / 7) = E + p8 / 7 := IntWalk.i64_in _ (by omega)
  have B6 := (B4.gr g5 (fun j hj => by cases hj; omega)).gr g6 (fun j hj => by cases hj; omega)
  have c6 := bGr (bGr c4 g5 (fun j hj => by cases hj; omega)) g6 (fun j hj => by cases hj; omega)
  have og6 := (og.gr g5 (ap_ne fun x hx => by have := (og.lts x hx).1; omega)).gr g6 (ap_ne fun x hx => by have := (og.lts x hx).1; omega)
  have o7 := (o6.gr g5 (ap_ne fun x hx => by have := (o6.lts x hx).1; omega)).gr g6 (ap_ne fun x hx => by have := (o6.lts x hx).1; omega)
  have h5 := g5.size
  have h6 := g6.size
  clear B4 c4 og o6 r6 r5
  obtain ⟨P, hP, hP0⟩ : ∃ P, P = q + 1 + 1 + 1 ∧ 0 ≤ P ∧ P ≤ 33 := ⟨_, rfl, by have := r7.2.1; omega, by omega⟩
  rw [← hP] at r7
  obtain ⟨hP0, hP33⟩ := hP0
  have a6 := (r7.alloc (.cells #[] 3)).alloc (.cells #[.int .i64 (E + p8 / 7), .slice (some ⟨w6.heap.size, 0, none⟩) 0 0] 25)
  have e6 := (own_empty w6).al (.cells #[.int .i64 (E + p8 / 7), .slice (some ⟨w6.heap.size, 0, none⟩) 0 0] 25)
  have F6 := Blk.new (w6.alloc (.cells #[] 3)) #[.int .i64 (E + p8 / 7), .slice (some ⟨w6.heap.size, 0, none⟩) 0 0] 25
  have G6 := gAlloc (gAlloc (grown_refl w6 (some b)) (.cells #[] 3)) (.cells #[.int .i64 (E + p8 / 7), .slice (some ⟨w6.heap.size, 0, none⟩) 0 0] 25)
  simp only [World.size_alloc] at F6
  go_upto_region 6 with fail
  clear hP hmx ew1 ew2
  obtain ⟨A, hA, hA0, hA1⟩ : ∃ A, A = E + p8 / 7 ∧ 0 ≤ A ∧ A ≤ 22 := ⟨_, rfl, by omega, by omega⟩
  rw [← hA] at a6 e6 F6 G6 ⊢
  obtain ⟨A, rfl⟩ := Int.eq_ofNat_of_zero_le hA0
  clear hA hp87a hp87b hp8 hp8' hp4 hp4' hE1 hE2
  go_wp2
  go_loopw [9] (fun i wr => ∃ (j : Nat) (Q : Int) (u : Value) (cs : List Int), j ≤ 4 ∧ i = .int .i64 j ∧ Q ≤ P + 2 * j ∧ IsRd wr (w.alloc (.cells #[.int .i64 0, .slice none 0 0] 25)).heap.size b Q ∧ OwnInts wr w6.heap.size u cs ∧ Hid (cs.length = j) ∧ u ≠ .slice none 0 0 ∧ Blk wr (w6.heap.size + 1) #[.int .i64 A, u] 25 ∧ w6.grownBy wr (some b)) (fun i _ => 5 - (intOf i).toNat)
  case atStart => exact ⟨0, P, _, [], by omega, rfl, by omega, a6, e6, rfl, by simp, F6, G6⟩
  case round =>
    clear a6 e6 F6 G6
    obtain ⟨j, Q, u, cs, hj, rfl, hQ, rd, own, HC, hu, F, G⟩ := hrel
    have hQ0 := rd.2.1
    obtain ⟨au, qu, rfl, -, -, -⟩ := id own.reads
    have hcl : cs.length ≤ 4 := by rw [HC.out]; exact hj
    go_wp2_with fail
    refine (pick_any _ b _ 4 _ rd (by omega) (by omega) (by omega)).mono ?_
    rintro e wa ⟨m, rfl, ⟨hm, hm'⟩, ra, ga⟩
    have ew1 : IntKind.i64.wrap (1 + m) = 1 + m := IntWalk.i64_in _ (by omega)
    have owna := own.gr ga (ap_ne fun x hx => by have := (own.lts x hx).1; omega)
    have Fa := F.gr ga (fun x hx => by cases hx; omega)
    have Ga := G.trans ga
    have hFl := Fa.lt
    have hSb := ra.1
    have o8 := o7.gr Ga (ap_ne fun x hx => by have := (o7.lts x hx).1; omega)
    clear rd own F G ga
    by_cases hlt : (j : Int) < 1 + m
    · have hd : decide ((j : Int) < 1 + m) = true := decide_eq_true hlt
      have hj3 : j ≤ 3 := by omega
      have ew2 : IntKind.i64.wrap ((A : Int) + j) = (A : Int) + j := IntWalk.i64_in _ (by omega)
      by_cases hin : A + j < xs.length
      · have hd2 : decide ((A : Int) + j < xs.length) = true := decide_eq_true (by omega)
        have ha1 : 0 ≤ (A : Int) + (j : Int) := by omega
        have ha2 : (A : Int) + (j : Int) < (xs.length : Int) := by omega
        have ha3 : ((A : Int) + (j : Int)).toNat = A + j := by omega
        rcases ownsRow_shape o8 with ⟨hsh, h0⟩ | ⟨gz, capz, hsh, hgz1, hgz2, -, -⟩
        · omega
        simp only [Value.slice.injEq] at hsh
        obtain ⟨rfl, -, rfl⟩ := hsh
        have xc := o8.cellAt (j := A + j) hin
        obtain ⟨z, hz⟩ : ∃ z, z = xs[A + j] := ⟨_, rfl⟩
        rw [← hz] at xc; clear hz
        have hnz : ¬ wa.heap.size = gz := by omega
        have hnc : ¬ wa.heap.size = w6.heap.size + 1 := by omega
        have hnu := own_blk_ne owna Fa (by decide)
        obtain ⟨x0, x1⟩ := Fa.get2
        go_wp2_with fail
        go_region_law (first | (refine step_appI rfl (.tmp 50) (.tmp 57) rfl w6.heap.size (.slice au cs.length qu) cs ?_ (by repeat' (first | with_reducible assumption | with_reducible refine OwnInts.al ?_ _ | with_reducible refine OwnInts.d1 ?_)) ⟨wa.heap.size, 0, none⟩ 1 1 [z] (by simp [Act.eval, Act.put]) (RInts.one _ _ (by simp) rfl) (by simp; omega) (by simp; omega) hu ?_; (· (simp [Act.eval, Act.put])); intro v9 w9 o9 g9 n9; have F9 : Blk w9 (w6.heap.size + 1) #[.int .i64 A, .slice au cs.length qu] 25 := Blk.gr (by repeat' (first | with_reducible assumption | with_reducible refine Blk.al ?_ _ | with_reducible refine Blk.d1 ?_)) g9 (fun k hk => hnu k hk); have G9 : w6.grownBy w9 (some b) := gOwn (wi := _) (by repeat' (first | with_reducible assumption | with_reducible refine gAlloc ?_ _ | with_reducible refine gD1 ?_)) g9 (fun k hk => (owna.lts k hk).1); have rd9 : IsRd w9 (w.alloc (.cells #[.int .i64 0, .slice none 0 0] 25)).heap.size b (Q + 1) := IsRd.grown (by repeat' (first | with_reducible assumption | with_reducible refine IsRd.alloc ?_ _ | with_reducible refine IsRd.drew ?_)) g9 (fun k hk => by have := (owna.lts k hk).1; omega) (fun e => by have := (owna.lts b e.symm).1; omega); obtain ⟨ds, hds⟩ : ∃ ds, ds = cs ++ [z] := ⟨_, rfl⟩; rw [← hds] at o9; have HD : Hid (ds.length = j + 1) := Lib.hid (by rw [hds]; have := HC.out; simp; omega); clear hds; obtain ⟨a9, q9, rfl, -, -, -⟩ := id o9.reads; have hdl : ds.length ≤ 5 := (by have := HD.out; omega); obtain ⟨x9, y9⟩ := F9.get2; obtain ⟨xf9, yf9⟩ := F9.fr2; have hn9 := own_blk_ne o9 F9 (by decide)))
        all_goals go_wp2
        all_goals (clear x9 y9 xf9 yf9)
        all_goals go_roundw
        all_goals (first | (refine ⟨j + 1, Q + 1, .slice a9 ds.length q9, ds, by omega, by go_num, by omega, rd9.grown (grown_set w9 (w6.heap.size + 1) 1 (.slice a9 ds.length q9)) (fun k e => by have : w6.heap.size + 1 = k := Option.some.inj e; omega) (fun e => by have : b = w6.heap.size + 1 := Option.some.inj e; omega), o9.gr (grown_set w9 (w6.heap.size + 1) 1 (.slice a9 ds.length q9)) (ap_ne fun x hx => hn9 x hx), Lib.hid HD.out, n9, F9.set 1 (.slice a9 ds.length q9), gOwn G9 (grown_set w9 (w6.heap.size + 1) 1 (.slice a9 ds.length q9)) (fun k e => by have : w6.heap.size + 1 = k := Option.some.inj e; omega)⟩) | (simp [intOf]; omega) | trace_state)
      · have hd2 : decide ((A : Int) + j < xs.length) = false := decide_eq_false (by omega)
        have hnu := own_blk_ne owna Fa (by decide)
        have hnc : ¬ wa.heap.size = w6.heap.size + 1 := by omega
        have hra0 := ra.2.1
        obtain ⟨x0, x1⟩ := Fa.get2
        go_wp2_with fail
        go_region_law (first | (apply step_call rfl (f := 41) (args := #[.pointer (some ⟨b, 0, none⟩), .int .i64 250]); (· simp [execOp, Act.eval, Act.put, go_sem]); (· exact pick_any _ b (Q + 1) 250 _ ra.drew (by omega) (by omega) (by omega)); rintro e wc ⟨z2, rfl, hz2, rc, gc⟩; refine ⟨_, rfl, ?_⟩; have Fc : Blk wc (w6.heap.size + 1) #[.int .i64 A, .slice au cs.length qu] 25 := Blk.gr (by repeat' (first | with_reducible assumption | with_reducible refine Blk.al ?_ _ | with_reducible refine Blk.d1 ?_)) gc (fun x hx => by cases hx; omega); have ownc : OwnInts wc w6.heap.size (.slice au cs.length qu) cs := OwnInts.gr (by repeat' (first | with_reducible assumption | with_reducible refine OwnInts.al ?_ _ | with_reducible refine OwnInts.d1 ?_)) gc (ap_ne fun x hx => by have := (owna.lts x hx).1; omega); have Gc : w6.grownBy wc (some b) := World.grownBy.trans (by repeat' (first | with_reducible assumption | with_reducible refine gAlloc ?_ _ | with_reducible refine gD1 ?_)) gc; have hnu2 := own_blk_ne ownc Fc (by decide); have hFc := Fc.lt; have hnc2 : ¬ wc.heap.size = w6.heap.size + 1 := (by omega); obtain ⟨xc0, xc1⟩ := Fc.get2) | (refine step_appI rfl (.tmp 61) (.tmp 64) rfl w6.heap.size (.slice au cs.length qu) cs ?_ (by repeat' (first | with_reducible assumption | with_reducible refine OwnInts.al ?_ _ | with_reducible refine OwnInts.d1 ?_)) ⟨wc.heap.size, 0, none⟩ 1 1 [z2] (by simp [Act.eval, Act.put]) (RInts.one _ _ (by simp) rfl) (by simp; omega) (by simp; omega) hu ?_; (· (simp [Act.eval, Act.put])); intro v9 w9 o9 g9 n9; have F9 : Blk w9 (w6.heap.size + 1) #[.int .i64 A, .slice au cs.length qu] 25 := Blk.gr (by repeat' (first | with_reducible assumption | with_reducible refine Blk.al ?_ _ | with_reducible refine Blk.d1 ?_)) g9 (fun k hk => hnu2 k hk); have G9 : w6.grownBy w9 (some b) := gOwn (wi := _) (by repeat' (first | with_reducible assumption | with_reducible refine gAlloc ?_ _ | with_reducible refine gD1 ?_)) g9 (fun k hk => (ownc.lts k hk).1); have rd9 : IsRd w9 (w.alloc (.cells #[.int .i64 0, .slice none 0 0] 25)).heap.size b (Q + 1 + 1) := IsRd.grown (by repeat' (first | with_reducible assumption | with_reducible refine IsRd.alloc ?_ _ | with_reducible refine IsRd.drew ?_)) g9 (fun k hk => by have := (ownc.lts k hk).1; omega) (fun e => by have := (ownc.lts b e.symm).1; omega); obtain ⟨ds, hds⟩ : ∃ ds, ds = cs ++ [z2] := ⟨_, rfl⟩; rw [← hds] at o9; have HD : Hid (ds.length = j + 1) := Lib.hid (by rw [hds]; have := HC.out; simp; omega); clear hds; obtain ⟨a9, q9, rfl, -, -, -⟩ := id o9.reads; have hdl : ds.length ≤ 5 := (by have := HD.out; omega); obtain ⟨x9, y9⟩ := F9.get2; obtain ⟨xf9, yf9⟩ := F9.fr2; have hn9 := own_blk_ne o9 F9 (by decide)))
        all_goals go_wp2
        all_goals (clear x9 y9 xf9 yf9)
        all_goals go_roundw
        all_goals (first | (refine ⟨j + 1, Q + 1 + 1, .slice a9 ds.length q9, ds, by omega, by go_num, by omega, rd9.grown (grown_set w9 (w6.heap.size + 1) 1 (.slice a9 ds.length q9)) (fun k e => by have : w6.heap.size + 1 = k := Option.some.inj e; omega) (fun e => by have : b = w6.heap.size + 1 := Option.some.inj e; omega), o9.gr (grown_set w9 (w6.heap.size + 1) 1 (.slice a9 ds.length q9)) (ap_ne fun x hx => hn9 x hx), Lib.hid HD.out, n9, F9.set 1 (.slice a9 ds.length q9), gOwn G9 (grown_set w9 (w6.heap.size + 1) 1 (.slice a9 ds.length q9)) (fun k e => by have : w6.heap.size + 1 = k := Option.some.inj e; omega)⟩) | (simp [intOf]; omega) | trace_state)
    · have hd : decide ((j : Int) < 1 + m) = false := decide_eq_false hlt
      have hra0 := ra.2.1
      go_wp2_with fail
      refine (pick_any _ b _ 12 _ ra (by omega) (by omega) (by omega)).mono ?_
      rintro e wb ⟨s, rfl, ⟨hs, hs'⟩, rb, gb⟩
      have ownb := owna.gr gb (ap_ne fun x hx => by have := (owna.lts x hx).1; omega)
      have Fb := Fa.gr gb (fun x hx => by cases hx; omega)
      have Gb := Ga.trans gb
      have hFb := Fb.lt
      have hrb0 := rb.2.1
      have hcs0 : 0 < cs.length := by rw [HC.out]; omega
      have hcs0' : (0 : Int) < (cs.length : Int) := by omega
      rcases ownsRow_shape ownb with ⟨hsh, h0⟩ | ⟨gu, capu, hsh, hgu1, hgu2, -, -⟩
      · exact absurd hsh hu
      simp only [Value.slice.injEq] at hsh
      obtain ⟨rfl, -, rfl⟩ := hsh
      have hngu := own_blk_ne ownb Fb (by decide) gu rfl
      clear owna Fa Ga ra gb o8 o7
      obtain ⟨y0, y1⟩ := Fb.get2
      obtain ⟨yf0, yf1⟩ := Fb.fr2
      by_cases h0 : s = 0
      · have hq0 : (s == 0) = true := by simp [h0]
        clear h0
        go_wp2_with fail
        go_region_law (first | (apply step_call rfl (f := 41) (args := #[.pointer (some ⟨b, 0, none⟩), .int .i64 250]); (· simp [execOp, Act.eval, Act.put, go_sem]); (· exact pick_any _ b (Q + 1 + 1) 250 _ rb.drew (by omega) (by omega) (by omega)); rintro e wc ⟨z, rfl, hz, rc, gc⟩; refine ⟨_, rfl, ?_⟩; have ownc := OwnInts.gr ownb.d1 gc (ap_ne fun x hx => by have := (ownb.lts x hx).1; omega); have Fc := Blk.gr Fb.d1 gc (fun x hx => by cases hx; omega); have Gc := World.grownBy.trans (gD1 Gb) gc; obtain ⟨p0, p1⟩ := Fc.get2; have q0 := ownc.cellAt (j := 0) hcs0; have qf0 := ownc.frozenAt 0))
        all_goals (clear y0 y1 yf0 yf1)
        all_goals (clear p0 p1 q0 qf0)
        all_goals (go_upto_region 21 with fail)
        all_goals (have os := own_set ownc 0 z; have Fs := Fc.so gu 0 (.int .i64 z) hngu; have Gs := gOwn Gc (grown_set wc gu 0 (.int .i64 z)) (fun k e => by have : gu = k := Option.some.inj e; omega))
        all_goals
          have Bz := B6.gr Gs (fun j hj => by cases hj; omega)
          have ogz := og6.gr Gs (ap_ne fun x hx => by have := (og6.lts x hx).1; omega)
          have cz := bGr c6 Gs (fun j hj => by cases hj; omega)
          have Fz := Fs
          have oz := os
          have hnp := (show -1 ≤ (A : Int) ∧ (A : Int) ≤ 22 by omega)
          have hlz : (cs.set 0 z).length ≤ 8 := by simp; omega
          obtain ⟨k0, k1⟩ := Fz.get2
          obtain ⟨l0, l1⟩ := Bz.get2
          obtain ⟨lf0, lf1⟩ := Bz.fr2
          go_region
          all_goals go_wp2
          all_goals refine bodyPost_ret (results_tmp_cellrow rfl _ _ w.heap.size 25 #[.int .i64 (A), .slice (some ⟨gu, 0, none⟩) cs.length qu] (0, 0) _ rfl ((Bz.put2 (.int .i64 (A)) (.slice (some ⟨gu, 0, none⟩) cs.length qu)).d1).h Try.underlying25 rfl infoCh) rfl ⟨.slice ag got.length qg, got, _, _, cs.set 0 z, rfl, ((ogz.p2 (g := w.heap.size) (by omega) (.int .i64 (A)) (.slice (some ⟨gu, 0, none⟩) cs.length qu)).d1).base (by omega), ((oz.p2 (g := w.heap.size) (by omega) (.int .i64 (A)) (.slice (some ⟨gu, 0, none⟩) cs.length qu)).d1).base (by omega), hgl, hlz, hnp, bD1 (bP2 cz (Nat.le_refl _) (.int .i64 (A)) (.slice (some ⟨gu, 0, none⟩) cs.length qu))⟩
      · have hq0 : (s == 0) = false := by simp [h0]
        by_cases h1 : s = 1
        · have hq1 : (s == 1) = true := by simp [h1]
          clear h0 h1
          go_wp2_with fail
          clear y0 y1 yf0 yf1
          refine (pick_any _ b _ 23 _ rb (by omega) (by omega) (by omega)).mono ?_
          rintro e wc ⟨z, rfl, ⟨hz, hz'⟩, rc, gc⟩
          have ew3 : IntKind.i64.wrap (z - 1) = z - 1 := IntWalk.i64_in _ (by omega)
          have ownc := ownb.gr gc (ap_ne fun x hx => by have := (ownb.lts x hx).1; omega)
          have Fc := Fb.gr gc (fun x hx => by cases hx; omega)
          have Gc := Gb.trans gc
          obtain ⟨p0, p1⟩ := Fc.get2
          obtain ⟨pf0, pf1⟩ := Fc.fr2
          go_upto_region 21 with fail
          clear p0 p1 pf0 pf1
          have Gs := gOwn Gc (grown_set wc (w6.heap.size + 1) 0 (.int .i64 (z - 1))) (fun k e => by have : w6.heap.size + 1 = k := Option.some.inj e; omega)
          have os := ownc.gr (grown_set wc (w6.heap.size + 1) 0 (.int .i64 (z - 1))) (ap_ne fun x hx => by have : gu = x := Option.some.inj hx; omega)
          have Bz := B6.gr Gs (fun j hj => by cases hj; omega)
          have ogz := og6.gr Gs (ap_ne fun x hx => by have := (og6.lts x hx).1; omega)
          have cz := bGr c6 Gs (fun j hj => by cases hj; omega)
          have Fz := Fc.set 0 (.int .i64 (z - 1))
          have oz := os
          have hnp := (show -1 ≤ z - 1 ∧ z - 1 ≤ 22 by omega)
          have hlz : (cs).length ≤ 8 := by omega
          obtain ⟨k0, k1⟩ := Fz.get2
          obtain ⟨l0, l1⟩ := Bz.get2
          obtain ⟨lf0, lf1⟩ := Bz.fr2
          go_region
          all_goals go_wp2
          all_goals refine bodyPost_ret (results_tmp_cellrow rfl _ _ w.heap.size 25 #[.int .i64 (z - 1), .slice (some ⟨gu, 0, none⟩) cs.length qu] (0, 0) _ rfl ((Bz.put2 (.int .i64 (z - 1)) (.slice (some ⟨gu, 0, none⟩) cs.length qu)).d1).h Try.underlying25 rfl infoCh) rfl ⟨.slice ag got.length qg, got, _, _, cs, rfl, ((ogz.p2 (g := w.heap.size) (by omega) (.int .i64 (z - 1)) (.slice (some ⟨gu, 0, none⟩) cs.length qu)).d1).base (by omega), ((oz.p2 (g := w.heap.size) (by omega) (.int .i64 (z - 1)) (.slice (some ⟨gu, 0, none⟩) cs.length qu)).d1).base (by omega), hgl, hlz, hnp, bD1 (bP2 cz (Nat.le_refl _) (.int .i64 (z - 1)) (.slice (some ⟨gu, 0, none⟩) cs.length qu))⟩
        · have hq1 : (s == 1) = false := by simp [h1]
          by_cases h2 : s = 2
          · have hq2 : (s == 2) = true := by simp [h2]
            clear h0 h1 h2
            go_wp2_with (at_builtin; refine wpList_appI _ rfl _ _ rfl w6.heap.size (.slice (some ⟨gu, 0, none⟩) cs.length qu) cs rfl ownb _ _ _ rfl ownb (by omega) (by omega) (by simp) ?_)
            intro v9 w9 o9 g9 n9
            change wb.grownBy w9 (some gu) at g9
            have F9 := Fb.gr g9 (fun k hk => by have := Option.some.inj hk; omega)
            have G9 := gOwn Gb g9 (fun k hk => by have := Option.some.inj hk; omega)
            obtain ⟨ds, hds⟩ : ∃ ds, ds = cs ++ cs := ⟨_, rfl⟩
            rw [← hds] at o9
            have hdl : ds.length ≤ 8 := by rw [hds]; simp; omega
            clear hds
            obtain ⟨a9, q9, rfl, -, -, -⟩ := id o9.reads
            have hn9 := own_blk_ne o9 F9 (by decide)
            clear y0 y1 yf0 yf1
            obtain ⟨p0, p1⟩ := F9.get2
            obtain ⟨pf0, pf1⟩ := F9.fr2
            go_upto_region 21 with fail
            clear p0 p1 pf0 pf1
            have Gs := gOwn G9 (grown_set w9 (w6.heap.size + 1) 1 (.slice a9 ds.length q9)) (fun k e => by have : w6.heap.size + 1 = k := Option.some.inj e; omega)
            have os := o9.gr (grown_set w9 (w6.heap.size + 1) 1 (.slice a9 ds.length q9)) (ap_ne fun x hx => hn9 x hx)
            have Bz := B6.gr Gs (fun j hj => by cases hj; omega)
            have ogz := og6.gr Gs (ap_ne fun x hx => by have := (og6.lts x hx).1; omega)
            have cz := bGr c6 Gs (fun j hj => by cases hj; omega)
            have Fz := F9.set 1 (.slice a9 ds.length q9)
            have oz := os
            have hnp := (show -1 ≤ (A : Int) ∧ (A : Int) ≤ 22 by omega)
            have hlz : (ds).length ≤ 8 := hdl
            obtain ⟨k0, k1⟩ := Fz.get2
            obtain ⟨l0, l1⟩ := Bz.get2
            obtain ⟨lf0, lf1⟩ := Bz.fr2
            go_region
            all_goals go_wp2
            all_goals refine bodyPost_ret (results_tmp_cellrow rfl _ _ w.heap.size 25 #[.int .i64 (A), .slice a9 ds.length q9] (0, 0) _ rfl ((Bz.put2 (.int .i64 (A)) (.slice a9 ds.length q9)).d1).h Try.underlying25 rfl infoCh) rfl ⟨.slice ag got.length qg, got, _, _, ds, rfl, ((ogz.p2 (g := w.heap.size) (by omega) (.int .i64 (A)) (.slice a9 ds.length q9)).d1).base (by omega), ((oz.p2 (g := w.heap.size) (by omega) (.int .i64 (A)) (.slice a9 ds.length q9)).d1).base (by omega), hgl, hlz, hnp, bD1 (bP2 cz (Nat.le_refl _) (.int .i64 (A)) (.slice a9 ds.length q9))⟩
          · have hq2 : (s == 2) = false := by simp [h2]
            by_cases h3 : s = 3
            · have hq3 : (s == 3) = true := by simp [h3]
              clear h0 h1 h2 h3
              go_upto_region 21 with fail
              clear y0 y1 yf0 yf1
              have Gs := gOwn Gb (grown_set wb (w6.heap.size + 1) 1 (.slice (some ⟨gu, 0, none⟩) 0 qu)) (fun k e => by have : w6.heap.size + 1 = k := Option.some.inj e; omega)
              have os := (own_take ownb (Nat.zero_le _)).gr (grown_set wb (w6.heap.size + 1) 1 (.slice (some ⟨gu, 0, none⟩) 0 qu)) (ap_ne fun x hx => by have : gu = x := Option.some.inj hx; omega)
              have Bz := B6.gr Gs (fun j hj => by cases hj; omega)
              have ogz := og6.gr Gs (ap_ne fun x hx => by have := (og6.lts x hx).1; omega)
              have cz := bGr c6 Gs (fun j hj => by cases hj; omega)
              have Fz := Fb.set 1 (.slice (some ⟨gu, 0, none⟩) 0 qu)
              have oz := os
              have hnp := (show -1 ≤ (A : Int) ∧ (A : Int) ≤ 22 by omega)
              have hlz : (cs.take 0).length ≤ 8 := by simp
              obtain ⟨k0, k1⟩ := Fz.get2
              obtain ⟨l0, l1⟩ := Bz.get2
              obtain ⟨lf0, lf1⟩ := Bz.fr2
              go_region
              all_goals go_wp2
              all_goals refine bodyPost_ret (results_tmp_cellrow rfl _ _ w.heap.size 25 #[.int .i64 (A), .slice (some ⟨gu, 0, none⟩) 0 qu] (0, 0) _ rfl ((Bz.put2 (.int .i64 (A)) (.slice (some ⟨gu, 0, none⟩) 0 qu)).d1).h Try.underlying25 rfl infoCh) rfl ⟨.slice ag got.length qg, got, _, _, cs.take 0, rfl, ((ogz.p2 (g := w.heap.size) (by omega) (.int .i64 (A)) (.slice (some ⟨gu, 0, none⟩) 0 qu)).d1).base (by omega), ((oz.p2 (g := w.heap.size) (by omega) (.int .i64 (A)) (.slice (some ⟨gu, 0, none⟩) 0 qu)).d1).base (by omega), hgl, hlz, hnp, bD1 (bP2 cz (Nat.le_refl _) (.int .i64 (A)) (.slice (some ⟨gu, 0, none⟩) 0 qu))⟩
            · have hq3 : (s == 3) = false := by simp [h3]
              clear h0 h1 h2 h3
              go_upto_region 21 with fail
              clear y0 y1 yf0 yf1
              have Bz := B6.gr Gb (fun j hj => by cases hj; omega)
              have ogz := og6.gr Gb (ap_ne fun x hx => by have := (og6.lts x hx).1; omega)
              have cz := bGr c6 Gb (fun j hj => by cases hj; omega)
              have Fz := Fb
              have oz := ownb
              have hnp := (show -1 ≤ (A : Int) ∧ (A : Int) ≤ 22 by omega)
              have hlz : (cs).length ≤ 8 := by omega
              obtain ⟨k0, k1⟩ := Fz.get2
              obtain ⟨l0, l1⟩ := Bz.get2
              obtain ⟨lf0, lf1⟩ := Bz.fr2
              go_region
              all_goals go_wp2
              all_goals refine bodyPost_ret (results_tmp_cellrow rfl _ _ w.heap.size 25 #[.int .i64 (A), .slice (some ⟨gu, 0, none⟩) cs.length qu] (0, 0) _ rfl ((Bz.put2 (.int .i64 (A)) (.slice (some ⟨gu, 0, none⟩) cs.length qu)).d1).h Try.underlying25 rfl infoCh) rfl ⟨.slice ag got.length qg, got, _, _, cs, rfl, ((ogz.p2 (g := w.heap.size) (by omega) (.int .i64 (A)) (.slice (some ⟨gu, 0, none⟩) cs.length qu)).d1).base (by omega), ((oz.p2 (g := w.heap.size) (by omega) (.int .i64 (A)) (.slice (some ⟨gu, 0, none⟩) cs.length qu)).d1).base (by omega), hgl, hlz, hnp, bD1 (bP2 cz (Nat.le_refl _) (.int .i64 (A)) (.slice (some ⟨gu, 0, none⟩) cs.length qu))⟩
end Go.Proofs.Ytlfmgagokaekjaa
