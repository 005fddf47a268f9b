/- What is drawn for transfers: l92Transfer. -/
import Derived.Test.YtlfmgagokaekjaaSendS
import Derived.Test.YtlfmgagokaekjaaDrawItems
import Derived.Deep.DeepCutAuto
import Derived.Handy
import Derived.IntWalk
import Derived.Deep.RegionWith
import Derived.BigRegion
namespace Go.Proofs.Ytlfmgagokaekjaa
open Go.RowKit
set_option linter.unusedVariables false
set_option linter.unusedSimpArgs false

theorem IsRd.drew {w : World} {S b : Nat} {p : Int} (h : IsRd w S b p) : IsRd w.drew S b p := h
theorem gD1 {w wi : World} {b : Nat} (h : w.grownBy wi (some b)) : w.grownBy wi.drew (some b) := ⟨h.os, h.tape, h.output, h.size, h.block⟩
theorem OwnInts.ne {w : World} {B : Nat} {v : Value} {zs : List Int} (h : OwnInts w B v zs) {g : Nat} (hg : g < B ∨ w.heap.size ≤ g) : ∀ k, v.ownBlock = some k → k ≠ g := fun k hk => by have := h.lts k hk; omega
theorem gcell {w w' : World} {b : Nat} (h : w.grownBy w' (some b)) : (∀ c o, c < w.heap.size → c ≠ b → w'.cell? ⟨c, o, none⟩ = w.cell? ⟨c, o, none⟩) ∧ (∀ c o, c < w.heap.size → c ≠ b → w'.frozen? ⟨c, o, none⟩ = w.frozen? ⟨c, o, none⟩) :=
  ⟨fun c o hc hne => World.cell?_of_block (h.block c hc (fun e => hne (Option.some.inj e))), fun c o hc hne => World.frozen?_of_block (h.block c hc (fun e => hne (Option.some.inj e)))⟩
theorem bcell {w w1 : World} (hb : Below w.heap.size w w1) : (∀ b o, b < w.heap.size → w1.cell? ⟨b, o, none⟩ = w.cell? ⟨b, o, none⟩) ∧ (∀ b o, b < w.heap.size → w1.frozen? ⟨b, o, none⟩ = w.frozen? ⟨b, o, none⟩) :=
  ⟨fun b o h => hb.cell (p := ⟨b, o, none⟩) h, fun b o h => hb.frozen (p := ⟨b, o, none⟩) h⟩

theorem sendB_bounds {n k m : Int} {zs : List Int} (h : sendB n k m zs = true) : (sendL n k m zs).length ≤ 21 ∧ (0 ≤ sendN n k m zs ∧ sendN n k m zs ≤ 30) ∧ (0 ≤ sendK n k m zs ∧ sendK n k m zs ≤ 30) := by
  have hg : sendG n k m zs = true := by simp only [sendB, Bool.and_eq_true] at h; exact h.1
  have hE : n < sendE n k m zs := by simp only [sendB, Bool.and_eq_true, decide_eq_true_eq] at h; exact h.2
  obtain ⟨_, _, h1, h2, h3, h4, h5, h6⟩ := sendG_parts hg
  obtain ⟨e1, e2, e3, _⟩ := send_some hg hE
  have : sendE n k m zs ≤ zs.length := by unfold sendE; omega
  rw [e1, e2, e3]
  omega
theorem ackT_bounds {n k m : Int} {zs : List Int} (h : ackT n k m zs = true) : (ackL n k m zs).length ≤ 21 ∧ (0 ≤ ackN n k m zs ∧ ackN n k m zs ≤ 30) ∧ (0 ≤ ackK n k m zs ∧ ackK n k m zs ≤ 30) := by
  have hg : ackG n k m zs = true := by simp only [ackT, Bool.and_eq_true] at h; exact h.1
  obtain ⟨e1, e2, e3, _⟩ := ack_good hg
  rw [e1, e2, e3]
  simp only [ackG, validB, Bool.and_eq_true] at hg
  obtain ⟨⟨⟨h1, h2⟩, h3⟩, h4⟩ := hg
  have := itemsB_len h1
  have a := inB_true h2
  have b := inB_true h3
  have c := inB_true h4
  omega
theorem set_get {w : World} {g j : Nat} {v : Value} (h : (w.cell? ⟨g, j, none⟩).isSome = true) : (w.setCell ⟨g, j, none⟩ v).cell? ⟨g, j, none⟩ = some v := by
  cases hb : w.heap[g]? with
  | none => simp [World.cell?, hb] at h
  | some o =>
    cases o with
    | cells cs t fr =>
      simp [World.cell?, hb] at h
      simp [World.cell?, World.setCell, Array.getElem?_modify, hb, h]
    | _ => simp [World.cell?, hb] at h
theorem OwnInts.so {w : World} {B : Nat} {v : Value} {zs : List Int} (h : OwnInts w B v zs) (g j : Nat) (x : Value) (hne : ∀ k, v.ownBlock = some k → k ≠ g) : OwnInts (w.setCell ⟨g, j, none⟩ x) B v zs := h.gr (grown_set w g j x) (ap_ne hne)
theorem IsRd.so {w : World} {S b : Nat} {p : Int} (h : IsRd w S b p) (g j : Nat) (x : Value) (hS : S ≤ g) (hb : g ≠ b) : IsRd (w.setCell ⟨g, j, none⟩ x) S b p := h.grown (grown_set w g j x) (fun k e => by cases e; exact hS) (fun e => hb (by cases e; rfl))
theorem gSo {w wi : World} {b : Nat} (h : w.grownBy wi (some b)) (g j : Nat) (x : Value) (hg : w.heap.size ≤ g) : w.grownBy (wi.setCell ⟨g, j, none⟩ x) (some b) := gOwn h (grown_set wi g j x) (fun k e => by cases e; exact hg)

set_option maxRecDepth 100000 in
set_option maxHeartbeats 4000000 in
theorem l92Transfer_any (S b : Nat) (p : Int) (w : World) (hr : IsRd w S b p) (hp : p ≤ 900000) :
    Calls Try.prog 47 #[.pointer (some ⟨b, 0, none⟩)] w fun e w' => ∃ u zs n k, e = .returned (trV u n k) ∧ OwnInts w' w.heap.size u zs ∧ zs.length ≤ 21 ∧ (-9 ≤ n ∧ n ≤ 99) ∧ (-9 ≤ k ∧ k ≤ 99) ∧ (∃ q, q ≤ p + 100 ∧ IsRd w' S b q) ∧ w.grownBy w' (some b) := by
  have hbl := hr.lt
  have hp0 := hr.2.1
  have G0 := gAlloc (grown_refl w (some b)) (.cells #[.slice none 0 0, .int .i64 0, .int .i64 0] 33)
  go_enter Try.func47, Try.ntmps47
  go_wp2_with fail
  refine (l92Items_any S b _ _ (hr.alloc _) hp).mono ?_
  rintro e w1 ⟨v1, zs1, rfl, o1, hl1, ⟨P1, hP1, r1⟩, g1⟩
  obtain ⟨a1, cap1, rfl, -, -, -⟩ := o1.reads
  have G1 := G0.trans g1
  have B0 := (Blk.new w #[.slice none 0 0, .int .i64 0, .int .i64 0] 33).gr g1 (fun k hk => by cases hk; omega)
  have hs1 := g1.size
  simp only [World.size_alloc] at hs1 o1
  have r1' := r1.alloc (.cells #[.slice a1 zs1.length cap1, .int .i64 0, .int .i64 0] 33)
  have o1' := o1.al (.cells #[.slice a1 zs1.length cap1, .int .i64 0, .int .i64 0] 33)
  have B0' := B0.al (.cells #[.slice a1 zs1.length cap1, .int .i64 0, .int .i64 0] 33)
  have B1' := Blk.new w1 #[.slice a1 zs1.length cap1, .int .i64 0, .int .i64 0] 33
  have G1' := gAlloc G1 (.cells #[.slice a1 zs1.length cap1, .int .i64 0, .int .i64 0] 33)
  have hne := o1.ne (g := w1.heap.size) (.inr (Nat.le_refl _))
  have hb1 : b ≠ w1.heap.size := by omega
  go_wp2
  go_loopw [4] (fun i wr => ∃ (j : Nat) (P : Int) (u : Value) (zs : List Int) (n k : Int), j ≤ 7 ∧ i = .int .i64 j ∧ P ≤ p + 30 + 4 * j ∧ IsRd wr S b P ∧ OwnInts wr (w.heap.size + 1) u zs ∧ zs.length ≤ 21 ∧ (0 ≤ n ∧ n ≤ 30) ∧ (0 ≤ k ∧ k ≤ 30) ∧ Hid (∀ x, u.ownBlock = some x → x ≠ w1.heap.size) ∧ Blk wr w.heap.size #[.slice none 0 0, .int .i64 0, .int .i64 0] 33 ∧ Blk wr w1.heap.size #[u, .int .i64 n, .int .i64 k] 33 ∧ w.grownBy wr (some b)) (fun i _ => 7 - (intOf i).toNat)
  case atStart => exact ⟨0, P1, _, zs1, 0, 0, by omega, rfl, by omega, r1', o1', hl1, ⟨by omega, by omega⟩, ⟨by omega, by omega⟩, Lib.hid hne, B0', B1', G1'⟩
  case round =>
    clear r1 r1' o1 o1' B0 B0' B1' G1' G1 g1 hne hl1 hP1
    obtain ⟨j, P, u, zs, n, k, hj, rfl, hP, rd, own, hl, ⟨hn0, hn1⟩, ⟨hk0, hk1⟩, HN, B0, B, G⟩ := hrel
    obtain ⟨au, capu, rfl, -, -, -⟩ := own.reads
    have hP0 := rd.2.1
    go_wp2_with fail
    refine (pick_any S b _ _ _ rd (by omega) (by omega) (by omega)).mono ?_
    rintro e wa ⟨m, rfl, ⟨hm, hm'⟩, ra, ga⟩
    have owna := own.gr ga (ap_ne fun x hx => by have := (own.lts x hx).1; omega)
    have B0a := B0.gr ga (fun x hx => by cases hx; omega)
    have Ba := B.gr ga (fun x hx => by cases hx; exact hb1)
    have Ga := G.trans ga
    have hlB := Ba.lt
    have hsa : w.heap.size < wa.heap.size := by have := B0a.lt; omega
    have LU := Lib.hid owna.lts
    have hSb := ra.1
    clear rd own B0 B G ga
    by_cases hlt : (j : Int) < m
    · have hd : decide ((j : Int) < m) = true := decide_eq_true hlt
      have nb0 : ¬ wa.heap.size = b := by omega
      have nb1 : ¬ wa.heap.size + 1 = b := by omega
      go_upto_region 5 with fail
      go_cut [5, 6, 7] (fun s5 s6 s7 wx => ∃ (g5 : Nat) (u3 : Value) (m2 : Int), s5 = .pointer (some ⟨g5, 0, none⟩) ∧ s7 = .bool (sendB n k m2 zs) ∧ (wx.cell? ⟨g5, 0, none⟩ = some u3 ∧ wx.cell? ⟨g5, 1, none⟩ = some (.int .i64 (sendN n k m2 zs)) ∧ wx.cell? ⟨g5, 2, none⟩ = some (.int .i64 (sendK n k m2 zs))) ∧ IsRd wx S b (P + 1 + 1) ∧ OwnInts wx (w.heap.size + 1) (.slice au zs.length capu) zs ∧ OwnInts wx (w1.heap.size + 1) u3 (sendL n k m2 zs) ∧ Blk wx w.heap.size #[.slice none 0 0, .int .i64 0, .int .i64 0] 33 ∧ Blk wx w1.heap.size #[.slice au zs.length capu, .int .i64 n, .int .i64 k] 33 ∧ w.grownBy wx (some b))
      case first =>
        go_region_held3 (fun w' => w'.cell? ⟨w1.heap.size, 0, none⟩ = some (.slice au zs.length capu) ∧ w'.cell? ⟨w1.heap.size, 1, none⟩ = some (.int .i64 n) ∧ w'.cell? ⟨w1.heap.size, 2, none⟩ = some (.int .i64 k)) (exact Blk.get3 (t := 33) (by repeat' (first | with_reducible assumption | with_reducible refine Blk.so ?_ _ _ _ (by omega) | with_reducible refine Blk.al ?_ _ | with_reducible refine Blk.d1 ?_))) (first | (go_at_call 41; refine (pick_any S b (P + 1) _ _ (by repeat' (first | with_reducible assumption | with_reducible refine IsRd.so ?_ _ _ _ (by omega) (by omega) | with_reducible refine IsRd.alloc ?_ _ | with_reducible refine IsRd.drew ?_)) (by omega) (by omega) (by omega)).mono ?_; rintro e wb ⟨m2, rfl, ⟨hm2, hm2'⟩, rb, gb⟩; have ew : IntKind.i64.wrap (3 + m2) = 3 + m2 := IntWalk.i64_in _ (by omega); have Bb : Blk wb w1.heap.size #[.slice au zs.length capu, .int .i64 n, .int .i64 k] 33 := Blk.gr (by repeat' (first | with_reducible assumption | with_reducible refine Blk.so ?_ _ _ _ (by omega) | with_reducible refine Blk.al ?_ _ | with_reducible refine Blk.d1 ?_)) gb (fun x hx => by cases hx; exact hb1); have B0b : Blk wb w.heap.size #[.slice none 0 0, .int .i64 0, .int .i64 0] 33 := Blk.gr (by repeat' (first | with_reducible assumption | with_reducible refine Blk.so ?_ _ _ _ (by omega) | with_reducible refine Blk.al ?_ _ | with_reducible refine Blk.d1 ?_)) gb (fun x hx => by cases hx; omega); have ownb : OwnInts wb (w.heap.size + 1) (.slice au zs.length capu) zs := OwnInts.gr (by repeat' (first | with_reducible assumption | with_reducible refine OwnInts.so ?_ _ _ _ (fun k hk => by have e := LU.out k hk; omega) | with_reducible refine OwnInts.al ?_ _ | with_reducible refine OwnInts.d1 ?_)) gb (ap_ne fun x hx => by have := (owna.lts x hx).1; omega); have Gb : w.grownBy wb (some b) := World.grownBy.trans (by repeat' (first | with_reducible assumption | with_reducible refine gSo ?_ _ _ _ (by omega) | with_reducible refine gAlloc ?_ _ | with_reducible refine gD1 ?_)) gb; have hsb := gb.size; (first | simp only [World.size_alloc, World.size_drew] at hsb | skip); (first | (have z1 : wa.heap.size + 1 < wb.heap.size := (by omega); have z2 : wa.heap.size < wb.heap.size := (by omega)) | (have z2 : wa.heap.size < wb.heap.size := (by omega)) | skip); obtain ⟨hcb, hfb⟩ := gcell gb; (first | simp only [World.size_alloc, World.size_drew] at hcb hfb | skip); clear gb) | (go_at_call 29; refine (specTransferSend_any _ n k _ zs (w.heap.size + 1) _ (by omega) (by repeat' (first | with_reducible assumption | with_reducible refine OwnInts.so ?_ _ _ _ (fun k hk => by have e := LU.out k hk; omega) | with_reducible refine OwnInts.al ?_ _ | with_reducible refine OwnInts.d1 ?_))).mono ?_; unfold trV chV; rintro e wc ⟨u3, u4, rfl, o3, o4, bc⟩; obtain ⟨a3, q3, rfl, -, -, -⟩ := o3.reads; obtain ⟨a4, q4, rfl, -, -, -⟩ := o4.reads; have Bc : Blk wc w1.heap.size #[.slice au zs.length capu, .int .i64 n, .int .i64 k] 33 := Blk.bl (by repeat' (first | with_reducible assumption | with_reducible refine Blk.so ?_ _ _ _ (by omega) | with_reducible refine Blk.al ?_ _ | with_reducible refine Blk.d1 ?_)) bc; have B0c : Blk wc w.heap.size #[.slice none 0 0, .int .i64 0, .int .i64 0] 33 := Blk.bl (by repeat' (first | with_reducible assumption | with_reducible refine Blk.so ?_ _ _ _ (by omega) | with_reducible refine Blk.al ?_ _ | with_reducible refine Blk.d1 ?_)) bc; have ownc : OwnInts wc (w.heap.size + 1) (.slice au zs.length capu) zs := OwnInts.bl (by repeat' (first | with_reducible assumption | with_reducible refine OwnInts.so ?_ _ _ _ (fun k hk => by have e := LU.out k hk; omega) | with_reducible refine OwnInts.al ?_ _ | with_reducible refine OwnInts.d1 ?_)) bc; have Gc : w.grownBy wc (some b) := gBelow (by repeat' (first | with_reducible assumption | with_reducible refine gSo ?_ _ _ _ (by omega) | with_reducible refine gAlloc ?_ _ | with_reducible refine gD1 ?_)) bc; have rc : IsRd wc S b (P + 1 + 1) := IsRd.belowAll (by repeat' (first | with_reducible assumption | with_reducible refine IsRd.so ?_ _ _ _ (by omega) (by omega) | with_reducible refine IsRd.alloc ?_ _ | with_reducible refine IsRd.drew ?_)) bc; have hsc := bc.size; have L3 := Lib.hid o3.lts; (first | simp only [World.size_alloc, World.size_drew] at L3 | skip); have o3' : OwnInts wc (w1.heap.size + 1) (.slice a3 (sendL n k (3 + m2) zs).length q3) (sendL n k (3 + m2) zs) := o3.base (by (first | simp only [World.size_alloc, World.size_drew] | skip); omega); (first | simp only [World.size_alloc, World.size_drew] at hsc | skip); (first | (have y1 : wb.heap.size + 1 < wc.heap.size := (by omega); have y2 : wb.heap.size < wc.heap.size := (by omega)) | (have y2 : wb.heap.size < wc.heap.size := (by omega)) | skip); (first | (have y3 : wa.heap.size + 1 < wc.heap.size := (by omega); have y4 : wa.heap.size < wc.heap.size := (by omega)) | (have y4 : wa.heap.size < wc.heap.size := (by omega)) | skip); (first | (have e_wawb : ¬ wa.heap.size = wb.heap.size := (by omega); have e_wbwa : ¬ wb.heap.size = wa.heap.size := (by omega)) | skip); (first | (have e_wawc : ¬ wa.heap.size = wc.heap.size := (by omega); have e_wcwa : ¬ wc.heap.size = wa.heap.size := (by omega)) | skip); (first | (have e_wbwc : ¬ wb.heap.size = wc.heap.size := (by omega); have e_wcwb : ¬ wc.heap.size = wb.heap.size := (by omega)) | skip); obtain ⟨hcc, hfc⟩ := bcell bc; (first | simp only [World.size_alloc, World.size_drew] at hcc hfc | skip); clear bc o4 o3))
        all_goals (go_wp2_with fail; go_meet)
        all_goals (refine ⟨_, .slice a3 (sendL n k (3 + m2) zs).length q3, 3 + m2, rfl, rfl, ⟨?_, ?_, ?_⟩, (by repeat' (first | with_reducible assumption | with_reducible refine IsRd.so ?_ _ _ _ (by omega) (by omega) | with_reducible refine IsRd.alloc ?_ _ | with_reducible refine IsRd.drew ?_)), (by repeat' (first | with_reducible assumption | with_reducible refine OwnInts.so ?_ _ _ _ (fun k hk => by have e := LU.out k hk; omega) | with_reducible refine OwnInts.al ?_ _ | with_reducible refine OwnInts.d1 ?_)), (by repeat' (first | with_reducible assumption | with_reducible refine OwnInts.so ?_ _ _ _ (fun k hk => by have e := L3.out k hk; omega) | with_reducible refine OwnInts.al ?_ _ | with_reducible refine OwnInts.d1 ?_)), (by repeat' (first | with_reducible assumption | with_reducible refine Blk.so ?_ _ _ _ (by omega) | with_reducible refine Blk.al ?_ _ | with_reducible refine Blk.d1 ?_)), (by repeat' (first | with_reducible assumption | with_reducible refine Blk.so ?_ _ _ _ (by omega) | with_reducible refine Blk.al ?_ _ | with_reducible refine Blk.d1 ?_)), (by repeat' (first | with_reducible assumption | with_reducible refine gSo ?_ _ _ _ (by omega) | with_reducible refine gAlloc ?_ _ | with_reducible refine gD1 ?_))⟩)
        all_goals (go_simp; try (refine set_get ?_; go_simp))
      case rest =>
        obtain ⟨g5, u3, m2, rfl, rfl, ⟨x0, x1, x2⟩, rc, ownc, o3, B0c, Bc, Gc⟩ := hcut
        clear nb0 nb1 hd owna B0a Ba LU ra Ga
        obtain ⟨a3, q3, rfl, -, -, -⟩ := o3.reads
        go_upto_if 28 with fail
        go_cut [7] (fun s7 wx => ∃ (u : Value) (zs : List Int) (n k : Int) (ok : Bool), s7 = .bool ok ∧ IsRd wx S b (P + 1 + 1) ∧ OwnInts wx (w.heap.size + 1) u zs ∧ zs.length ≤ 21 ∧ (0 ≤ n ∧ n ≤ 30) ∧ (0 ≤ k ∧ k ≤ 30) ∧ Hid (∀ x, u.ownBlock = some x → x ≠ w1.heap.size) ∧ Blk wx w.heap.size #[.slice none 0 0, .int .i64 0, .int .i64 0] 33 ∧ Blk wx w1.heap.size #[u, .int .i64 n, .int .i64 k] 33 ∧ w.grownBy wx (some b))
        case first =>
          cases hb : sendB n k m2 zs with
          | false =>
            have HB := Lib.hid hb; clear hb
            go_wp2_with fail
            go_meet
            exact ⟨_, zs, n, k, _, rfl, rc, ownc, hl, ⟨hn0, hn1⟩, ⟨hk0, hk1⟩, HN, B0c, Bc, Gc⟩
          | true =>
            obtain ⟨e1, e2, e3⟩ := sendB_bounds hb
            have HB := Lib.hid hb; clear hb
            obtain ⟨y0, y1, y2⟩ := Bc.get3
            obtain ⟨f0, f1, f2⟩ := Bc.fr3
            go_wp2_with fail
            go_meet
            exact ⟨.slice a3 (sendL n k m2 zs).length q3, sendL n k m2 zs, _, _, _, rfl, (by repeat' (first | with_reducible assumption | with_reducible refine IsRd.so ?_ _ _ _ (by omega) (by omega) | with_reducible refine IsRd.alloc ?_ _ | with_reducible refine IsRd.drew ?_)), ((o3.p3 (g := w1.heap.size) (by omega) (.slice a3 (sendL n k m2 zs).length q3) (.int .i64 (sendN n k m2 zs)) (.int .i64 (sendK n k m2 zs))).base (by omega)), e1, e2, e3, Lib.hid (o3.ne (.inl (by omega))), (by repeat' (first | with_reducible assumption | with_reducible refine Blk.so ?_ _ _ _ (by omega) | with_reducible refine Blk.al ?_ _ | with_reducible refine Blk.d1 ?_)), Bc.put3 _ _ _, (by repeat' (first | with_reducible assumption | with_reducible refine gSo ?_ _ _ _ (by omega) | with_reducible refine gAlloc ?_ _ | with_reducible refine gD1 ?_))⟩
        case rest =>
          clear x0 x1 x2 rc ownc o3 B0c Bc Gc hl hn0 hn1 hk0 hk1 HN
          obtain ⟨u, zs, n, k, ok, rfl, rd, own, hl, ⟨hn0, hn1⟩, ⟨hk0, hk1⟩, HN, B0, B, G⟩ := hcut
          obtain ⟨au, capu, rfl, -, -, -⟩ := own.reads
          go_wp2_with fail
          refine (pick_any S b _ _ _ rd (by omega) (by omega) (by omega)).mono ?_
          rintro e wa ⟨m3, rfl, ⟨hm3, hm3'⟩, ra, ga⟩
          have owna := own.gr ga (ap_ne fun x hx => by have := (own.lts x hx).1; omega)
          have B0a := B0.gr ga (fun x hx => by cases hx; omega)
          have Ba := B.gr ga (fun x hx => by cases hx; exact hb1)
          have Ga := G.trans ga
          have hlB := Ba.lt
          have hsa : w.heap.size < wa.heap.size := by have := B0a.lt; omega
          have LU := Lib.hid owna.lts
          clear rd own B0 B G ga
          by_cases hm0 : m3 = 0
          · have hq : (m3 == 0) = true := by simp [hm0]
            have HM := Lib.hid hm0; clear hm0
            have nb0 : ¬ wa.heap.size = b := by omega
            have nb1 : ¬ wa.heap.size + 1 = b := by omega
            go_upto_region 9 with fail
            go_cut [8, 9] (fun s8 s9 wx => ∃ (g8 : Nat) (u3 : Value) (m2 : Int), s8 = .pointer (some ⟨g8, 0, none⟩) ∧ s9 = .bool (ackT n k m2 zs) ∧ (wx.cell? ⟨g8, 0, none⟩ = some u3 ∧ wx.cell? ⟨g8, 1, none⟩ = some (.int .i64 (ackN n k m2 zs)) ∧ wx.cell? ⟨g8, 2, none⟩ = some (.int .i64 (ackK n k m2 zs))) ∧ IsRd wx S b (P + 1 + 1 + 1 + 1) ∧ OwnInts wx (w.heap.size + 1) (.slice au zs.length capu) zs ∧ OwnInts wx (w1.heap.size + 1) u3 (ackL n k m2 zs) ∧ Blk wx w.heap.size #[.slice none 0 0, .int .i64 0, .int .i64 0] 33 ∧ Blk wx w1.heap.size #[.slice au zs.length capu, .int .i64 n, .int .i64 k] 33 ∧ w.grownBy wx (some b))
            case first =>
              have ew : IntKind.i64.wrap (n + 1) = n + 1 := IntWalk.i64_in _ (by omega)
              go_region_held3 (fun w' => w'.cell? ⟨w1.heap.size, 0, none⟩ = some (.slice au zs.length capu) ∧ w'.cell? ⟨w1.heap.size, 1, none⟩ = some (.int .i64 n) ∧ w'.cell? ⟨w1.heap.size, 2, none⟩ = some (.int .i64 k)) (exact Blk.get3 (t := 33) (by repeat' (first | with_reducible assumption | with_reducible refine Blk.so ?_ _ _ _ (by omega) | with_reducible refine Blk.al ?_ _ | with_reducible refine Blk.d1 ?_))) (first | (go_at_call 41; refine (pick_any S b (P + 1 + 1 + 1) _ _ (by repeat' (first | with_reducible assumption | with_reducible refine IsRd.so ?_ _ _ _ (by omega) (by omega) | with_reducible refine IsRd.alloc ?_ _ | with_reducible refine IsRd.drew ?_)) (by omega) (by omega) (by omega)).mono ?_; rintro e wb ⟨m2, rfl, ⟨hm2, hm2'⟩, rb, gb⟩; have Bb : Blk wb w1.heap.size #[.slice au zs.length capu, .int .i64 n, .int .i64 k] 33 := Blk.gr (by repeat' (first | with_reducible assumption | with_reducible refine Blk.so ?_ _ _ _ (by omega) | with_reducible refine Blk.al ?_ _ | with_reducible refine Blk.d1 ?_)) gb (fun x hx => by cases hx; exact hb1); have B0b : Blk wb w.heap.size #[.slice none 0 0, .int .i64 0, .int .i64 0] 33 := Blk.gr (by repeat' (first | with_reducible assumption | with_reducible refine Blk.so ?_ _ _ _ (by omega) | with_reducible refine Blk.al ?_ _ | with_reducible refine Blk.d1 ?_)) gb (fun x hx => by cases hx; omega); have ownb : OwnInts wb (w.heap.size + 1) (.slice au zs.length capu) zs := OwnInts.gr (by repeat' (first | with_reducible assumption | with_reducible refine OwnInts.so ?_ _ _ _ (fun k hk => by have e := LU.out k hk; omega) | with_reducible refine OwnInts.al ?_ _ | with_reducible refine OwnInts.d1 ?_)) gb (ap_ne fun x hx => by have := (owna.lts x hx).1; omega); have Gb : w.grownBy wb (some b) := World.grownBy.trans (by repeat' (first | with_reducible assumption | with_reducible refine gSo ?_ _ _ _ (by omega) | with_reducible refine gAlloc ?_ _ | with_reducible refine gD1 ?_)) gb; have hsb := gb.size; (first | simp only [World.size_alloc, World.size_drew] at hsb | skip); (first | (have z1 : wa.heap.size + 1 < wb.heap.size := (by omega); have z2 : wa.heap.size < wb.heap.size := (by omega)) | (have z2 : wa.heap.size < wb.heap.size := (by omega)) | skip); obtain ⟨hcb, hfb⟩ := gcell gb; (first | simp only [World.size_alloc, World.size_drew] at hcb hfb | skip); clear gb) | (go_at_call 19; refine (specTransferAck_any _ n k _ zs (w.heap.size + 1) _ (by omega) (by repeat' (first | with_reducible assumption | with_reducible refine OwnInts.so ?_ _ _ _ (fun k hk => by have e := LU.out k hk; omega) | with_reducible refine OwnInts.al ?_ _ | with_reducible refine OwnInts.d1 ?_))).mono ?_; unfold trV; rintro e wc ⟨u3, rfl, o3, bc⟩; obtain ⟨a3, q3, rfl, -, -, -⟩ := o3.reads; have Bc : Blk wc w1.heap.size #[.slice au zs.length capu, .int .i64 n, .int .i64 k] 33 := Blk.bl (by repeat' (first | with_reducible assumption | with_reducible refine Blk.so ?_ _ _ _ (by omega) | with_reducible refine Blk.al ?_ _ | with_reducible refine Blk.d1 ?_)) bc; have B0c : Blk wc w.heap.size #[.slice none 0 0, .int .i64 0, .int .i64 0] 33 := Blk.bl (by repeat' (first | with_reducible assumption | with_reducible refine Blk.so ?_ _ _ _ (by omega) | with_reducible refine Blk.al ?_ _ | with_reducible refine Blk.d1 ?_)) bc; have ownc : OwnInts wc (w.heap.size + 1) (.slice au zs.length capu) zs := OwnInts.bl (by repeat' (first | with_reducible assumption | with_reducible refine OwnInts.so ?_ _ _ _ (fun k hk => by have e := LU.out k hk; omega) | with_reducible refine OwnInts.al ?_ _ | with_reducible refine OwnInts.d1 ?_)) bc; have Gc : w.grownBy wc (some b) := gBelow (by repeat' (first | with_reducible assumption | with_reducible refine gSo ?_ _ _ _ (by omega) | with_reducible refine gAlloc ?_ _ | with_reducible refine gD1 ?_)) bc; have rc : IsRd wc S b (P + 1 + 1 + 1 + 1) := IsRd.belowAll (by repeat' (first | with_reducible assumption | with_reducible refine IsRd.so ?_ _ _ _ (by omega) (by omega) | with_reducible refine IsRd.alloc ?_ _ | with_reducible refine IsRd.drew ?_)) bc; have hsc := bc.size; have L3 := Lib.hid o3.lts; (first | simp only [World.size_alloc, World.size_drew] at L3 | skip); have o3' : OwnInts wc (w1.heap.size + 1) (.slice a3 (ackL n k m2 zs).length q3) (ackL n k m2 zs) := o3.base (by (first | simp only [World.size_alloc, World.size_drew] | skip); omega); (first | simp only [World.size_alloc, World.size_drew] at hsc | skip); (first | (have y1 : wb.heap.size + 1 < wc.heap.size := (by omega); have y2 : wb.heap.size < wc.heap.size := (by omega)) | (have y2 : wb.heap.size < wc.heap.size := (by omega)) | skip); (first | (have y3 : wa.heap.size + 1 < wc.heap.size := (by omega); have y4 : wa.heap.size < wc.heap.size := (by omega)) | (have y4 : wa.heap.size < wc.heap.size := (by omega)) | skip); (first | (have e_wawb : ¬ wa.heap.size = wb.heap.size := (by omega); have e_wbwa : ¬ wb.heap.size = wa.heap.size := (by omega)) | skip); (first | (have e_wawc : ¬ wa.heap.size = wc.heap.size := (by omega); have e_wcwa : ¬ wc.heap.size = wa.heap.size := (by omega)) | skip); (first | (have e_wbwc : ¬ wb.heap.size = wc.heap.size := (by omega); have e_wcwb : ¬ wc.heap.size = wb.heap.size := (by omega)) | skip); obtain ⟨hcc, hfc⟩ := bcell bc; (first | simp only [World.size_alloc, World.size_drew] at hcc hfc | skip); clear bc o3))
              all_goals (go_wp2_with fail; go_meet)
              all_goals (refine ⟨_, .slice a3 (ackL n k m2 zs).length q3, m2, rfl, rfl, ⟨?_, ?_, ?_⟩, (by repeat' (first | with_reducible assumption | with_reducible refine IsRd.so ?_ _ _ _ (by omega) (by omega) | with_reducible refine IsRd.alloc ?_ _ | with_reducible refine IsRd.drew ?_)), (by repeat' (first | with_reducible assumption | with_reducible refine OwnInts.so ?_ _ _ _ (fun k hk => by have e := LU.out k hk; omega) | with_reducible refine OwnInts.al ?_ _ | with_reducible refine OwnInts.d1 ?_)), (by repeat' (first | with_reducible assumption | with_reducible refine OwnInts.so ?_ _ _ _ (fun k hk => by have e := L3.out k hk; omega) | with_reducible refine OwnInts.al ?_ _ | with_reducible refine OwnInts.d1 ?_)), (by repeat' (first | with_reducible assumption | with_reducible refine Blk.so ?_ _ _ _ (by omega) | with_reducible refine Blk.al ?_ _ | with_reducible refine Blk.d1 ?_)), (by repeat' (first | with_reducible assumption | with_reducible refine Blk.so ?_ _ _ _ (by omega) | with_reducible refine Blk.al ?_ _ | with_reducible refine Blk.d1 ?_)), (by repeat' (first | with_reducible assumption | with_reducible refine gSo ?_ _ _ _ (by omega) | with_reducible refine gAlloc ?_ _ | with_reducible refine gD1 ?_))⟩)
              all_goals (go_simp; try (refine set_get ?_; go_simp))
            case rest =>
              obtain ⟨g8, u3, m2, rfl, rfl, ⟨x0, x1, x2⟩, rc, ownc, o3, B0c, Bc, Gc⟩ := hcut
              clear nb0 nb1 owna B0a Ba LU ra Ga hq
              obtain ⟨a3, q3, rfl, -, -, -⟩ := o3.reads
              cases hb : ackT n k m2 zs with
              | false =>
                have HB := Lib.hid hb; clear hb
                go_wp2
                go_roundw
                case rel => first | exact ⟨j + 1, _, _, zs, n, k, by omega, by go_num, by omega, rc, ownc, hl, ⟨hn0, hn1⟩, ⟨hk0, hk1⟩, HN, B0c, Bc, Gc⟩ | ((repeat apply Exists.intro); exact ⟨⟨j + 1, _, _, zs, n, k, by omega, by go_num, by omega, rc, ownc, hl, ⟨hn0, hn1⟩, ⟨hk0, hk1⟩, HN, B0c, Bc, Gc⟩, rfl⟩)
                case measure => simp [intOf]; omega
              | true =>
                obtain ⟨e1, e2, e3⟩ := ackT_bounds hb
                have HB := Lib.hid hb; clear hb
                obtain ⟨y0, y1, y2⟩ := Bc.get3
                obtain ⟨f0, f1, f2⟩ := Bc.fr3
                go_wp2
                go_roundw
                case rel =>
                  refine ⟨j + 1, P + 1 + 1 + 1 + 1, .slice a3 (ackL n k m2 zs).length q3, ackL n k m2 zs, ackN n k m2 zs, ackK n k m2 zs, by omega, by go_num, by omega, (by repeat' (first | with_reducible assumption | with_reducible refine IsRd.so ?_ _ _ _ (by omega) (by omega) | with_reducible refine IsRd.alloc ?_ _ | with_reducible refine IsRd.drew ?_)), ((o3.p3 (g := w1.heap.size) (by omega) (.slice a3 (ackL n k m2 zs).length q3) (.int .i64 (ackN n k m2 zs)) (.int .i64 (ackK n k m2 zs))).base (by omega)), e1, e2, e3, Lib.hid (o3.ne (.inl (by omega))), (by repeat' (first | with_reducible assumption | with_reducible refine Blk.so ?_ _ _ _ (by omega) | with_reducible refine Blk.al ?_ _ | with_reducible refine Blk.d1 ?_)), Bc.put3 _ _ _, (by repeat' (first | with_reducible assumption | with_reducible refine gSo ?_ _ _ _ (by omega) | with_reducible refine gAlloc ?_ _ | with_reducible refine gD1 ?_))⟩
                case measure => simp [intOf]; omega
          · have hq : (m3 == 0) = false := by simp [hm0]
            clear hm0
            go_wp2
            go_roundw
            case rel => first | exact ⟨j + 1, _, _, zs, n, k, by omega, by go_num, by omega, ra, owna, hl, ⟨hn0, hn1⟩, ⟨hk0, hk1⟩, HN, B0a, Ba, Ga⟩ | ((repeat apply Exists.intro); exact ⟨⟨j + 1, _, _, zs, n, k, by omega, by go_num, by omega, ra, owna, hl, ⟨hn0, hn1⟩, ⟨hk0, hk1⟩, HN, B0a, Ba, Ga⟩, rfl⟩)
            case measure => simp [intOf]; omega
    · have hd : decide ((j : Int) < m) = false := decide_eq_false hlt
      clear hlt
      obtain ⟨f0, f1, f2⟩ := B0a.fr3
      go_wp2_with fail
      refine (pick_any S b _ _ _ ra (by omega) (by omega) (by omega)).mono ?_
      rintro e wb ⟨m3, rfl, ⟨hm3, hm3'⟩, rb, gb⟩
      clear f0 f1 f2
      have ownb := owna.gr gb (ap_ne fun x hx => by have := (owna.lts x hx).1; omega)
      have B0b := B0a.gr gb (fun x hx => by cases hx; omega)
      have Bb := Ba.gr gb (fun x hx => by cases hx; exact hb1)
      have Gb := Ga.trans gb
      have LU2 := Lib.hid ownb.lts
      clear owna B0a Ba LU ra Ga gb
      obtain ⟨x0, x1, x2⟩ := Bb.get3
      obtain ⟨xf0, xf1, xf2⟩ := Bb.fr3
      obtain ⟨y0, y1, y2⟩ := B0b.get3
      obtain ⟨yf0, yf1, yf2⟩ := B0b.fr3
      by_cases h0 : m3 = 0
      · have hq : (m3 == 0) = true := by simp [h0]
        clear h0
        clear xf0 xf1 xf2 yf0 yf1 yf2 y0 y1 y2
        go_wp2_with fail
        go_region_with ((go_at_call 41; refine (pick_any S b (P + 1 + 1) _ _ (by repeat' (first | with_reducible assumption | with_reducible refine IsRd.so ?_ _ _ _ (by omega) (by omega) | with_reducible refine IsRd.alloc ?_ _ | with_reducible refine IsRd.drew ?_)) (by omega) (by omega) (by omega)).mono ?_; rintro e wc ⟨m4, rfl, ⟨hm4, hm4'⟩, rc, gc⟩; have Bc : Blk wc w1.heap.size #[.slice au zs.length capu, .int .i64 n, .int .i64 k] 33 := Blk.gr (by repeat' (first | with_reducible assumption | with_reducible refine Blk.so ?_ _ _ _ (by omega) | with_reducible refine Blk.al ?_ _ | with_reducible refine Blk.d1 ?_)) gc (fun x hx => by cases hx; exact hb1); have B0c : Blk wc w.heap.size #[.slice none 0 0, .int .i64 0, .int .i64 0] 33 := Blk.gr (by repeat' (first | with_reducible assumption | with_reducible refine Blk.so ?_ _ _ _ (by omega) | with_reducible refine Blk.al ?_ _ | with_reducible refine Blk.d1 ?_)) gc (fun x hx => by cases hx; omega); have ownc : OwnInts wc (w.heap.size + 1) (.slice au zs.length capu) zs := OwnInts.gr (by repeat' (first | with_reducible assumption | with_reducible refine OwnInts.so ?_ _ _ _ (fun k hk => by have e := LU.out k hk; omega) | with_reducible refine OwnInts.al ?_ _ | with_reducible refine OwnInts.d1 ?_)) gc (ap_ne fun x hx => by have := (ownb.lts x hx).1; omega); have Gc : w.grownBy wc (some b) := World.grownBy.trans (by repeat' (first | with_reducible assumption | with_reducible refine gSo ?_ _ _ _ (by omega) | with_reducible refine gAlloc ?_ _ | with_reducible refine gD1 ?_)) gc; obtain ⟨y0, y1, y2⟩ := Bc.get3; obtain ⟨yf0, yf1, yf2⟩ := Bc.fr3; have ew : IntKind.i64.wrap (n + m4) = n + m4 := IntWalk.i64_in _ (by omega); have ew2 : IntKind.i64.wrap (n + m4 - 2) = n + m4 - 2 := IntWalk.i64_in _ (by omega)))
        all_goals (have BN := Bc.set 1 (.int .i64 (n + m4 - 2)))
        all_goals (have B0N := B0c.so w1.heap.size 1 (.int .i64 (n + m4 - 2)) (by omega))
        all_goals (clear x0 x1 x2; obtain ⟨x0, x1, x2⟩ := BN.get3; obtain ⟨xf0, xf1, xf2⟩ := BN.fr3; obtain ⟨z0, z1, z2⟩ := B0N.get3; obtain ⟨zf0, zf1, zf2⟩ := B0N.fr3; clear y0 y1 y2 yf0 yf1 yf2)
        all_goals (go_wp2_with fail)
        all_goals (refine bodyPost_ret (results_cell_row rfl _ _ w.heap.size 33 #[.slice au zs.length capu, .int .i64 (n + m4 - 2), .int .i64 (k)] (0, 0) _ rfl (B0N.put3 _ _ _).h Try.underlying33 rfl infoTr) rfl ⟨_, zs, n + m4 - 2, k, rfl, (((ownc.so w1.heap.size 1 (.int .i64 (n + m4 - 2)) HN.out).p3 (by omega) _ _ _).base (by omega)), hl, ⟨by omega, by omega⟩, ⟨by omega, by omega⟩, ⟨P + 1 + 1 + 1, by omega, (by repeat' (first | with_reducible assumption | with_reducible refine IsRd.so ?_ _ _ _ (by omega) (by omega) | with_reducible refine IsRd.alloc ?_ _ | with_reducible refine IsRd.drew ?_))⟩, (by repeat' (first | with_reducible assumption | with_reducible refine gSo ?_ _ _ _ (by omega) | with_reducible refine gAlloc ?_ _ | with_reducible refine gD1 ?_))⟩)
      · have hq : (m3 == 0) = false := by simp [h0]
        by_cases h1 : m3 = 1
        · have hq1 : (m3 == 1) = true := by simp [h1]
          clear h0 h1
          clear xf0 xf1 xf2 yf0 yf1 yf2 y0 y1 y2
          go_wp2_with fail
          go_region_with ((go_at_call 41; refine (pick_any S b (P + 1 + 1) _ _ (by repeat' (first | with_reducible assumption | with_reducible refine IsRd.so ?_ _ _ _ (by omega) (by omega) | with_reducible refine IsRd.alloc ?_ _ | with_reducible refine IsRd.drew ?_)) (by omega) (by omega) (by omega)).mono ?_; rintro e wc ⟨m4, rfl, ⟨hm4, hm4'⟩, rc, gc⟩; have Bc : Blk wc w1.heap.size #[.slice au zs.length capu, .int .i64 n, .int .i64 k] 33 := Blk.gr (by repeat' (first | with_reducible assumption | with_reducible refine Blk.so ?_ _ _ _ (by omega) | with_reducible refine Blk.al ?_ _ | with_reducible refine Blk.d1 ?_)) gc (fun x hx => by cases hx; exact hb1); have B0c : Blk wc w.heap.size #[.slice none 0 0, .int .i64 0, .int .i64 0] 33 := Blk.gr (by repeat' (first | with_reducible assumption | with_reducible refine Blk.so ?_ _ _ _ (by omega) | with_reducible refine Blk.al ?_ _ | with_reducible refine Blk.d1 ?_)) gc (fun x hx => by cases hx; omega); have ownc : OwnInts wc (w.heap.size + 1) (.slice au zs.length capu) zs := OwnInts.gr (by repeat' (first | with_reducible assumption | with_reducible refine OwnInts.so ?_ _ _ _ (fun k hk => by have e := LU.out k hk; omega) | with_reducible refine OwnInts.al ?_ _ | with_reducible refine OwnInts.d1 ?_)) gc (ap_ne fun x hx => by have := (ownb.lts x hx).1; omega); have Gc : w.grownBy wc (some b) := World.grownBy.trans (by repeat' (first | with_reducible assumption | with_reducible refine gSo ?_ _ _ _ (by omega) | with_reducible refine gAlloc ?_ _ | with_reducible refine gD1 ?_)) gc; obtain ⟨y0, y1, y2⟩ := Bc.get3; obtain ⟨yf0, yf1, yf2⟩ := Bc.fr3; have ew : IntKind.i64.wrap (k + m4) = k + m4 := IntWalk.i64_in _ (by omega); have ew2 : IntKind.i64.wrap (k + m4 - 2) = k + m4 - 2 := IntWalk.i64_in _ (by omega)))
          all_goals (have BN := Bc.set 2 (.int .i64 (k + m4 - 2)))
          all_goals (have B0N := B0c.so w1.heap.size 2 (.int .i64 (k + m4 - 2)) (by omega))
          all_goals (clear x0 x1 x2; obtain ⟨x0, x1, x2⟩ := BN.get3; obtain ⟨xf0, xf1, xf2⟩ := BN.fr3; obtain ⟨z0, z1, z2⟩ := B0N.get3; obtain ⟨zf0, zf1, zf2⟩ := B0N.fr3; clear y0 y1 y2 yf0 yf1 yf2)
          all_goals (go_wp2_with fail)
          all_goals (refine bodyPost_ret (results_cell_row rfl _ _ w.heap.size 33 #[.slice au zs.length capu, .int .i64 (n), .int .i64 (k + m4 - 2)] (0, 0) _ rfl (B0N.put3 _ _ _).h Try.underlying33 rfl infoTr) rfl ⟨_, zs, n, k + m4 - 2, rfl, (((ownc.so w1.heap.size 2 (.int .i64 (k + m4 - 2)) HN.out).p3 (by omega) _ _ _).base (by omega)), hl, ⟨by omega, by omega⟩, ⟨by omega, by omega⟩, ⟨P + 1 + 1 + 1, by omega, (by repeat' (first | with_reducible assumption | with_reducible refine IsRd.so ?_ _ _ _ (by omega) (by omega) | with_reducible refine IsRd.alloc ?_ _ | with_reducible refine IsRd.drew ?_))⟩, (by repeat' (first | with_reducible assumption | with_reducible refine gSo ?_ _ _ _ (by omega) | with_reducible refine gAlloc ?_ _ | with_reducible refine gD1 ?_))⟩)
        · have hq1 : (m3 == 1) = false := by simp [h1]
          clear h0 h1
          go_wp2
          refine bodyPost_ret (results_cell_row rfl _ _ w.heap.size 33 #[.slice au zs.length capu, .int .i64 n, .int .i64 k] (0, 0) _ rfl (B0b.put3 _ _ _).h Try.underlying33 rfl infoTr) rfl ⟨_, zs, n, k, rfl, ((ownb.p3 (by omega) _ _ _).base (by omega)), hl, ⟨by omega, by omega⟩, ⟨by omega, by omega⟩, ⟨P + 1 + 1, by omega, (by repeat' (first | with_reducible assumption | with_reducible refine IsRd.so ?_ _ _ _ (by omega) (by omega) | with_reducible refine IsRd.alloc ?_ _ | with_reducible refine IsRd.drew ?_))⟩, (by repeat' (first | with_reducible assumption | with_reducible refine gSo ?_ _ _ _ (by omega) | with_reducible refine gAlloc ?_ _ | with_reducible refine gD1 ?_))⟩
end Go.Proofs.Ytlfmgagokaekjaa
