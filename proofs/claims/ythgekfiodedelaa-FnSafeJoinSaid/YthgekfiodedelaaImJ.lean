/- impl.RingStabilize at a safe ring's member. -/
import Derived.Test.YthgekfiodedelaaImI
import Derived.Test.YthgekfiodedelaaNdW
import Derived.Deep.LoopGhost
namespace Go.Proofs.Ythgekfiodedelaa
open Go.RowKit
set_option linter.unusedVariables false
set_option linter.unusedSimpArgs false

theorem RS.scT {w : World} {B : Nat} {v : Value} {hs : List Hd} {D : List Rn} (h : RS w B v hs D) {g : Nat} {cs : Array Value} {t : TypeId} (bk : Blk w g cs t) (h1 : (37 : TypeId) ≠ t) (h2 : (3 : TypeId) ≠ t) (j : Nat) (x : Value) : RS (w.setCell ⟨g, j, none⟩ x) B v hs D :=
  ⟨h.row.gr (grown_set _ _ _ _) (own_blk h.row bk h1), h.len, fun i a b => by
    obtain ⟨p1, p2, p3⟩ := h.nd i a b
    exact ⟨p1, p2, p3.gr (grown_set _ _ _ _) (own_blk p3 bk h2)⟩, h.ap⟩
theorem OwnRingS.scT {w : World} {B : Nat} {v : Value} {D : List Rn} (h : OwnRingS w B v D) {g : Nat} {cs : Array Value} {t : TypeId} (bk : Blk w g cs t) (h1 : (37 : TypeId) ≠ t) (h2 : (3 : TypeId) ≠ t) (j : Nat) (x : Value) : OwnRingS (w.setCell ⟨g, j, none⟩ x) B v D := by
  obtain ⟨hs, h⟩ := h; exact ⟨hs, h.scT bk h1 h2 j x⟩
theorem ne_nd_sl : (37 : TypeId) ≠ 23 := by decide
theorem ne_int_sl : (3 : TypeId) ≠ 23 := by decide
/-- The variable 'out' in block gO holds a ring of the call's own. -/
structure OS (w0 W : World) (gO : Nat) (x : Value) (R : List Nd) : Prop where
  bl : Below w0.heap.size w0 W
  ge : w0.heap.size ≤ gO
  bk : Blk W gO #[x] 23
  ow : OwnRingS W w0.heap.size x (dats R)
theorem OS.nx {w0 W W' : World} {gO : Nat} {x : Value} {R : List Nd} (h : OS w0 W gO x R) (hb : Below W.heap.size W W') : OS w0 W' gO x R := ⟨bNext h.bl hb, h.ge, h.bk.bl hb, h.ow.bl hb⟩
theorem OS.rr {w0 W : World} {gO : Nat} {x : Value} {R : List Nd} (h : OS w0 W gO x R) : RR W x R := h.ow.reads
theorem OS.c {w0 W : World} {gO : Nat} {x : Value} {R : List Nd} (h : OS w0 W gO x R) : W.cell? ⟨gO, 0, none⟩ = some x := h.bk.get1
theorem OS.lt {w0 W : World} {gO : Nat} {x : Value} {R : List Nd} (h : OS w0 W gO x R) : gO < W.heap.size := h.bk.lt
theorem OS.d1 {w0 W : World} {gO : Nat} {x : Value} {R : List Nd} (h : OS w0 W gO x R) : OS w0 W.drew gO x R := h.nx (Below.refl _ _).drew
theorem OS.shape {w0 W : World} {gO : Nat} {x : Value} {R : List Nd} (h : OS w0 W gO x R) (h0 : 0 < R.length) : ∃ g cap, x = .slice (some ⟨g, 0, none⟩) R.length cap ∧ g < W.heap.size := by
  obtain ⟨hs, hr⟩ := h.ow
  have hl := hr.len
  rw [dats_len] at hl
  rcases hr.row.shape with ⟨rfl, e⟩ | ⟨g, cap, rfl, hB, hg, hn, hm⟩
  · rw [e] at hl; simp at hl; omega
  · exact ⟨g, cap, by rw [hl], hg⟩
theorem OS.nd {w0 W : World} {gO g n cap : Nat} {R : List Nd} (h : OS w0 W gO (.slice (some ⟨g, 0, none⟩) n cap) R) {k : Nat} (hk : k < R.length) :
    ∃ bs os c, bs < W.heap.size ∧ W.cell? ⟨g, k * 3, none⟩ = some (.int .i64 (nth R k).id) ∧ W.cell? ⟨g, k * 3 + 1, none⟩ = some (.int .i64 (nth R k).bf) ∧
      W.cell? ⟨g, k * 3 + 2, none⟩ = some (.slice (some ⟨bs, os, none⟩) 2 c) ∧ W.cell? ⟨bs, os, none⟩ = some (.int .i64 (nth R k).a0) := by
  have hr := h.rr
  obtain ⟨a, cp, e, -, -⟩ := hr.sl
  cases e
  obtain ⟨b, off, bs, os, c, he, hb, hbs, x0, x1, x2, r, y0, y1⟩ := RR.nd hr k hk
  simp only [Option.some.injEq, Addr.mk.injEq, and_true] at he
  obtain ⟨rfl, rfl⟩ := he
  rw [Nat.zero_add] at x0 x1 x2
  exact ⟨bs, os, c, hbs, x0, x1, x2, y0⟩
theorem OS.st {w0 W : World} {gO : Nat} {x x' : Value} {R R' : List Nd} (h : OS w0 W gO x R) (ho : OwnRingS W w0.heap.size x' (dats R')) : OS w0 (W.setCell ⟨gO, 0, none⟩ x') gO x' R' :=
  ⟨bSc h.bl h.ge 0 x', h.ge, h.bk.set 0 x', ho.scT h.bk ne_nd_sl ne_int_sl 0 x'⟩

set_option maxRecDepth 100000 in
set_option maxHeartbeats 2000000 in
theorem try_any (w0 W : World) (gO : Nat) (x x' : Value) (R R' : List Nd) (ok : Bool) (hS : OS w0 W gO x R) (ho : OwnRingS W w0.heap.size x' (dats R')) (hf : ok = false → R' = R) :
    Calls Try.prog 67 #[x', .bool ok, .pointer (some ⟨gO, 0, none⟩)] W fun e W' => e = .returned (.bool ok) ∧ (∃ y, OS w0 W' gO y R') ∧ ∀ z D, OwnRingS W w0.heap.size z D → OwnRingS W' w0.heap.size z D := by
  obtain ⟨a', c', rfl, -, -⟩ := RRing.sl ho.reads
  cases ok with
  | true =>
    have H1 := Lib.hid (hS.st ho)
    have HK : Hid (∀ z D, OwnRingS W w0.heap.size z D → OwnRingS (W.setCell ⟨gO, 0, none⟩ (.slice a' (dats R').length c')) w0.heap.size z D) := Lib.hid (fun z D h => h.scT hS.bk ne_nd_sl ne_int_sl 0 _)
    have x0 := hS.c
    have f0 := hS.bk.f 0
    have hl := hS.lt
    clear hS ho hf
    go_enter Try.func67, Try.ntmps67
    go_wp2
    go_ret
    exact ⟨rfl, ⟨_, H1.out⟩, HK.out⟩
  | false =>
    have HE := Lib.hid (hf rfl)
    have HS := Lib.hid hS
    clear hS ho hf
    go_enter Try.func67, Try.ntmps67
    go_wp2
    go_ret
    exact ⟨rfl, ⟨_, by rw [HE.out]; exact HS.out⟩, fun z D h => h⟩
theorem enters67 : ∀ (args : Array Value) (w : World), (callFunc 67 args).run Try.prog w = .ok (.enter 67 args) w := enters_of Try.func67 (by kernel_rfl) rfl

/-- A condition on the world that the last operation alone changes. -/
structure TW (last : Nat) (A B : World → Prop) (L : Nat → Bool) (w : World) : Prop where
  pre : L last = false → A w
  post : L last = true → B w
theorem TW.start {last : Nat} {A B : World → Prop} {w : World} (h : A w) : TW last A B (fun _ => false) w := ⟨fun _ => h, fun h => by cases h⟩
theorem TW.skip {last i : Nat} {A B : World → Prop} {L : Nat → Bool} {w : World} (h : TW last A B L w) (hi : ¬ last = i) : TW last A B (regL L i) w := by
  refine ⟨fun e => h.pre ?_, fun e => h.post ?_⟩ <;> simpa [regL, hi] using e
theorem TW.nx {last i : Nat} {A B : World → Prop} {L : Nat → Bool} {w' : World} (h : L last = false) (hi : ¬ last = i) (ha : A w') : TW last A B (regL L i) w' := by
  refine ⟨fun _ => ha, fun e => ?_⟩
  simp [regL, hi, h] at e
theorem TW.fin {last : Nat} {A B : World → Prop} {L : Nat → Bool} {w : World} (h : B w) : TW last A B (regL L last) w := ⟨fun e => by simp [regL] at e, fun _ => h⟩
theorem take_neq {R R' : List Nd} {t : Bool} (h : takeR R R' t = R') : t = false → R' = R := fun e => by rw [e] at h; exact h.symm

set_option maxRecDepth 100000 in
set_option maxHeartbeats 8000000 in
theorem implRingStabilize_ok (v : Value) (R : List Nd) (id : Int) (w : World) (hv : ValidL R) (hs : safeL R = true) (hx : liveR R id = true) (hr : RR w v R) :
    Calls Try.prog 37 #[v, .int .i64 id] w fun e w' => ∃ u, e = .returned (.tuple #[u, .bool true]) ∧ OwnRingS w' w.heap.size u (dats (stabS R (fnd R id))) ∧ Below w.heap.size w w' := by
  have h10 := hv.len
  have hk := (fdI_live hx).2
  have hm := (live_iff R id).1 hx
  obtain ⟨p, q, r, hG⟩ := good_of hv hs
  -- the rings, one behind the other
  obtain ⟨R1, hR1⟩ : ∃ R1, R1 = dropS R (fnd R id) := ⟨_, rfl⟩
  have hG1 : Good (idsL R) p q r R1 := by rw [hR1]; exact hG.drop hk
  have hl1 : R1.length = R.length := by rw [hR1, drop_len]
  have hA1 : (nth R1 (fnd R id)).a0 ∈ idsL R := by rw [hR1]; exact drop_live hG hk
  have hD1 : dropS R1 (fnd R id) = R1 := nth_drop (by omega) hG1 hA1
  obtain ⟨R2, hR2⟩ : ∃ R2, R2 = adoptS R1 (fnd R id) := ⟨_, rfl⟩
  have hG2 : Good (idsL R) p q r R2 := by rw [hR2]; exact hG1.adopt (by omega)
  have hl2 : R2.length = R.length := by rw [hR2, adopt_len, hl1]
  have hA2 : (nth R2 (fnd R id)).a0 ∈ idsL R := by rw [hR2, (adopt_a0 hG1 (by omega) hA1 (fnd R id)).1]; exact hA1
  obtain ⟨R3, hR3⟩ : ∃ R3, R3 = stab3 R2 (fnd R id) := ⟨_, rfl⟩
  obtain ⟨hG3, hA3⟩ := hG2.stab3 (by omega) hA2
  rw [← hR3] at hG3 hA3
  have hl3 : R3.length = R.length := by rw [hR3, stab3_len, hl2]
  have hfin : stabS R (fnd R id) = notifyS R3 (fnd R3 (nth R3 (fnd R id)).a0) (nth R3 (fnd R id)).id := by rw [hR3, hR2, hR1]; rfl
  have hS2 : stab3 R2 (fnd R id) = if 0 ≤ (nth R2 (nextOf R2 (fnd R id))).bf then closerS R2 (fnd R id) (nth R2 (nextOf R2 (fnd R id))).bf else R2 := rfl
  have hf : ∀ R', idsL R' = idsL R → fnd R' id = fnd R id := fun R' e => fnd_of e id
  have hlv : ∀ R' x, idsL R' = idsL R → x ∈ idsL R → liveR R' x = true := fun R' x e hx => (live_iff R' x).2 (by rw [e]; exact hx)
  have V1 := Lib.hid (hG1.valid (by omega)); have F1 := Lib.hid hG1.safe
  have V2 := Lib.hid (hG2.valid (by omega)); have F2 := Lib.hid hG2.safe
  have V3 := Lib.hid (hG3.valid (by omega)); have F3 := Lib.hid hG3.safe
  have V0 := Lib.hid hv; have F0 := Lib.hid hs
  have X0 := Lib.hid hx
  have X1 := Lib.hid (hlv R1 id hG1.ids hm); have X2 := Lib.hid (hlv R2 id hG2.ids hm); have X3 := Lib.hid (hlv R3 id hG3.ids hm)
  have N1 := Lib.hid (hf R1 hG1.ids); have N2 := Lib.hid (hf R2 hG2.ids); have N3 := Lib.hid (hf R3 hG3.ids)
  have L1 := Lib.hid (hlv R1 _ hG1.ids hA1)
  have L2 := Lib.hid (hlv R2 _ hG2.ids hA2)
  have L3 := Lib.hid (hlv R3 _ hG3.ids hA3)
  have HNE3 : Hid (id ≠ (nth R3 (fnd R id)).a0) := Lib.hid (fun e => by
    have h1 := (hG3.ok (fnd R id) (by omega)).ne hG3.pq
    have h2 : (nth R3 (fnd R id)).id = id := by have := id_of (R := R) (R' := R3) hG3.ids hk; rw [this, fnd_id hm]
    exact h1 (by rw [← e, h2]))
  have HID3 : Hid ((nth R3 (fnd R id)).id = id) := Lib.hid (by have := id_of (R := R) (R' := R3) hG3.ids hk; rw [this, fnd_id hm])
  have HFIN : Hid (stabS R (fnd R id) = notifyS R3 (fnd R3 (nth R3 (fnd R id)).a0) id) := Lib.hid (by rw [hfin, HID3.out])
  have HD1 := Lib.hid hD1; have HR1 := Lib.hid hR1; have HR2 := Lib.hid hR2
  have HS2 : Hid (R3 = if 0 ≤ (nth R2 (nextOf R2 (fnd R id))).bf then closerS R2 (fnd R id) (nth R2 (nextOf R2 (fnd R id))).bf else R2) := Lib.hid (hR3.trans hS2)
  have hk1 : fnd R id < R1.length := by omega
  have hk2 : fnd R id < R2.length := by omega
  have hk3 : fnd R id < R3.length := by omega
  obtain ⟨S, hSd⟩ : ∃ S, S = nextOf R2 (fnd R id) := ⟨_, rfl⟩
  rw [← hSd] at HS2
  have hSl : S < R2.length := by rw [hSd]; exact (fdI_live L2.out).2
  have HSD : Hid (fnd R2 (nth R2 (fnd R id)).a0 = S) := Lib.hid hSd.symm
  have HBF2 : Hid ((nth R2 S).bf = -1 ∨ (0 ≤ (nth R2 S).bf ∧ (nth R2 S).bf < 64)) := Lib.hid (V2.out.ok _ (nth_mem hSl)).b0
  have hpt := hv.pt hx
  have HPT := Lib.hid hpt
  have h310 : R3.length ≤ 10 := by omega
  have h210 : R2.length ≤ 10 := by omega
  have HL := Lib.hid (And.intro hl1 (And.intro hl2 hl3))
  have HLS : Hid (∀ e ∈ dats R, e.2.2.length ≤ 4096) := Lib.hid (fun e he => by
    obtain ⟨n, -, rfl⟩ := List.mem_map.1 he; simp [dat])
  have HR := Lib.hid hr
  have HSF : Hid (sfD (dats R) = true) := Lib.hid (by rw [sfD_dats hv]; exact hs)
  clear hG hG1 hG2 hG3 hR1 hR2 hR3 hA1 hA2 hA3 hD1 hS2 hf hlv hfin hSd hpt hl1 hl2 hl3 hv hs hx hm hr
  generalize hkk : fnd R id = k at *
  have N0 := Lib.hid hkk; clear hkk
  go_enter Try.func37, Try.ntmps37
  go_wp2_with fail
  refine (implRingSafe_any v (dats R) _ (by rw [dats_len]; omega) HR.out).mono ?_
  rw [HSF.out]
  rintro e w1 ⟨rfl, b1⟩
  have B1 := Lib.hid b1; clear b1
  go_wp2_with fail
  refine (ok_any id _).mono ?_
  rw [HPT.out]
  rintro e w2 ⟨rfl, rfl⟩
  go_wp2_with fail
  refine (copyRing_any v (dats R) _ (by rw [dats_len]; omega) HLS.out (HR.out.bl B1.out)).mono ?_
  rintro e w3 ⟨x3, rfl, o3, b3⟩
  obtain ⟨a3, q3, rfl, -, -⟩ := RRing.sl o3.reads
  generalize hx3 : Value.slice a3 (dats R).length q3 = x3 at *
  have S4 : Hid (OS w (w3.alloc (.cells #[x3] 23)) w3.heap.size x3 R) := Lib.hid ⟨bAl (bNext B1.out b3) _, (bNext B1.out b3).size, Blk.new _ _ _, (OwnRingS.base o3 B1.out.size).bl (below_alloc _ _)⟩
  have c4 := S4.out.c
  subst hx3
  clear o3 b3 B1
  obtain ⟨po, hpo⟩ := ptrAt_live S4.out.rr X0.out
  have HPO := Lib.hid hpo; clear hpo
  obtain ⟨gO, hgO⟩ : ∃ gO, gO = w3.heap.size := ⟨_, rfl⟩
  go_wp2_with fail
  rw [← hgO]
  rw [← hgO] at S4 c4
  refine (nodeAt_any _ R id _ (by omega) S4.out.rr).mono ?_
  rw [HPO.out]
  rintro e w5 ⟨rfl, b5⟩
  have S5 := Lib.hid (S4.out.nx b5)
  clear S4 c4 b5 hgO
  have HENT := enters67
  go_wp2
  go_loopg [31] 1 (fun gm s31 wr => Hid (∃ x Q, OS w wr gO x Q ∧ (gm = 1 ∧ Q = R ∨ gm = 0 ∧ Q = R1)))
  case atStart => exact Lib.hid ⟨_, R, S5.out, .inl ⟨rfl, rfl⟩⟩
  case round =>
    clear S5
    obtain ⟨x6, Q, s6, hq⟩ := hrel.out
    have c6 := s6.c
    have S6 := Lib.hid s6
    have VQ : Hid (ValidL Q) := Lib.hid (by rcases hq with ⟨-, rfl⟩ | ⟨-, rfl⟩; exact V0.out; exact V1.out)
    have FQ : Hid (safeL Q = true) := Lib.hid (by rcases hq with ⟨-, rfl⟩ | ⟨-, rfl⟩; exact F0.out; exact F1.out)
    have XQ : Hid (liveR Q id = true) := Lib.hid (by rcases hq with ⟨-, rfl⟩ | ⟨-, rfl⟩; exact X0.out; exact X1.out)
    have NQ : Hid (fnd Q id = k) := Lib.hid (by rcases hq with ⟨-, rfl⟩ | ⟨-, rfl⟩; exact N0.out; exact N1.out)
    have DQ : Hid (dropS Q k = R1) := Lib.hid (by rcases hq with ⟨-, rfl⟩ | ⟨-, rfl⟩; exact HR1.out.symm; exact HD1.out)
    have TQ : Hid ((!liveR Q (nth Q k).a0) = true → gk = 1) := Lib.hid (fun h => by
      rcases hq with ⟨h1, rfl⟩ | ⟨-, rfl⟩
      · exact h1
      · rw [L1.out] at h; cases h)
    have HNQ : Hid ((!liveR Q (nth Q k).a0) = false → R1 = Q) := Lib.hid (fun h => by
      have := take_neq (take_ringDrop Q id 0)
      rw [NQ.out, DQ.out] at this; exact this h)
    clear hrel s6 hq
    go_wp2_with fail
    refine (implRingDrop_ok x6 Q id 0 _ VQ.out FQ.out XQ.out S6.out.rr).mono ?_
    rw [NQ.out, DQ.out]
    rintro e w7 ⟨x7, rfl, o7, b7⟩
    have S7 := Lib.hid (S6.out.nx b7)
    have O7 := Lib.hid (OwnRingS.base o7 S6.out.bl.size)
    clear o7 b7 c6
    cases ht : (!liveR Q (nth Q k).a0) with
    | true =>
      have h1 := TQ.out ht
      clear TQ ht HNQ
      go_wp2_with fail
      refine (try_any w _ gO x6 x7 Q R1 true S7.out O7.out (fun h => by cases h)).mono ?_
      rintro e w8 ⟨rfl, ⟨y8, s8⟩, -⟩
      have S8 := Lib.hid s8
      clear s8
      go_wp2
      go_roundg 0
      case measure => omega
      case rel => exact Lib.hid ⟨_, R1, S8.out, .inr ⟨rfl, rfl⟩⟩
    | false =>
      have HNQ := Lib.hid (HNQ.out ht)
      clear TQ ht
      go_wp2_with fail
      refine (try_any w _ gO x6 x7 Q R1 false S7.out O7.out (fun _ => HNQ.out)).mono ?_
      rintro e w8 ⟨rfl, ⟨y8, s8⟩, -⟩
      have c8 := s8.c
      have S8 := Lib.hid s8
      clear s8 S7 O7 S6 VQ FQ XQ NQ DQ HNQ
      -- adopt
      have HNQ : Hid (liveR R1 (nth R1 k).a0 = false → R2 = R1) := Lib.hid (fun h => by rw [L1.out] at h; cases h)
      go_wp2_with fail
      refine (implRingAdopt_ok y8 R1 id 0 _ V1.out F1.out X1.out S8.out.rr).mono ?_
      rw [N1.out, ← HR2.out]
      rintro e w9 ⟨x9, rfl, o9, b9⟩
      have S9 := Lib.hid (S8.out.nx b9)
      have O9 := Lib.hid (OwnRingS.base o9 S8.out.bl.size)
      clear o9 b9 c8
      go_wp2_with fail
      refine (try_any w _ gO y8 x9 R1 R2 _ S9.out O9.out HNQ.out).mono ?_
      rw [L1.out]
      rintro e w10 ⟨rfl, ⟨y10, s10⟩, -⟩
      obtain ⟨g, cap, rfl, hg⟩ := s10.shape (by omega)
      obtain ⟨bs, os, c, hbs, -, -, z2, z3⟩ := s10.nd hk2
      have HPK := Lib.hid (ptrAt_own (g := g) (n := R2.length) (cap := cap) X2.out)
      have HPS := Lib.hid (ptrAt_own (g := g) (n := R2.length) (cap := cap) L2.out)
      rw [N2.out] at HPK
      rw [HSD.out] at HPS
      have W9 := Lib.hid (And.intro s10.d1 (And.intro (show g < w10.drew.heap.size from hg) (And.intro (show bs < w10.drew.heap.size from hbs) (And.intro (show w10.drew.cell? _ = _ from z2) (show w10.drew.cell? _ = _ from z3)))))
      have S10 := Lib.hid s10
      clear S8 S9 O9 HNQ s10 hg hbs z2 z3
      have L2' := L2
      generalize hy : (nth R2 k).a0 = y at *
      have HY := Lib.hid hy; clear hy
      go_wp2
      refine wp_region_facts [[], [], [], [1, 2], [3], [4], [5], [6], [7], [0, 8], [9]] (fun _ w' => OS w w' gO (.slice (some ⟨g, 0, none⟩) R2.length cap) R2 ∧ g < w'.heap.size ∧ bs < w'.heap.size ∧ w'.cell? ⟨g, k * 3 + 2, none⟩ = some (.slice (some ⟨bs, os, none⟩) 2 c) ∧ w'.cell? ⟨bs, os, none⟩ = some (.int .i64 y)) (fun q0 v w => match q0 with | 0 => v = .slice (some ⟨g, 0, none⟩) R2.length cap | 1 => v = .slice (some ⟨g, 0, none⟩) R2.length cap | 2 => v = .int .i64 id | 3 => v = .pointer (some ⟨g, k * 3, none⟩) | 4 => v = .pointer (some ⟨g, k * 3, none⟩) | 5 => v = .pointer (some ⟨g, k * 3 + 2, none⟩) | 6 => v = .slice (some ⟨bs, os, none⟩) 2 c | 7 => v = .pointer (some ⟨bs, os, none⟩) | 8 => v = .int .i64 y | 9 => v = .pointer (some ⟨g, S * 3, none⟩) | 10 => v = .pointer (some ⟨g, S * 3, none⟩) | _ => True) (fun _ _ => True) (by kernel_rfl) (by kernel_rfl) (fun _ _ _ _ _ h => h) W9.out ?_ ?_
      · refine ⟨?_, ?_, ?_, ?_, ?_, ?_, ?_, ?_, ?_, ?_, ?_, trivial⟩
        · intro a wq vs L hW hL hN hO hk hd K hK
          have p6 := hO 6 (by decide)
          have hc := hW.1.c
          clear hN hO hL hk hd
          go_simp
          exact hK _ _ hW trivial rfl
        · intro a wq vs L hW hL hN hO hk hd K hK
          have p6 := hO 6 (by decide)
          have hc := hW.1.c
          clear hN hO hL hk hd
          go_simp
          exact hK _ _ hW trivial rfl
        · intro a wq vs L hW hL hN hO hk hd K hK
          have p1 := hO 1 (by decide)
          clear hN hO hL hk hd
          go_simp
          exact hK _ _ hW trivial rfl
        · intro a wq vs L hW hL hN hO hk hd K hK
          have d1 := hd 1 40 (by decide) rfl
          rw [show vs 1 = .slice (some ⟨g, 0, none⟩) R2.length cap from (hk 1 (by decide)).2] at d1
          have d2 := hd 2 41 (by decide) rfl
          rw [show vs 2 = .int .i64 id from (hk 2 (by decide)).2] at d2
          refine step_callG (by simp [Region.wanted, yielded]) (f := 49) (args := #[.slice (some ⟨g, 0, none⟩) R2.length cap, .int .i64 id]) (by simp [execOp, Act.eval, Act.put, go_sem, d1, d2]) (nodeAt_any _ R2 id _ (by omega) hW.1.rr) ?_
          rw [HPK.out]
          rintro e w6 ⟨rfl, b6⟩
          exact ⟨_, rfl, hK _ _ ⟨hW.1.nx b6, Nat.lt_of_lt_of_le hW.2.1 b6.size, Nat.lt_of_lt_of_le hW.2.2.1 b6.size, (b6.cell hW.2.1).trans hW.2.2.2.1, (b6.cell hW.2.2.1).trans hW.2.2.2.2⟩ trivial rfl⟩
        · intro a wq vs L hW hL hN hO hk hd K hK
          have d3 := hd 3 42 (by decide) rfl
          rw [show vs 3 = .pointer (some ⟨g, k * 3, none⟩) from (hk 3 (by decide)).2] at d3
          clear hN hO hL hk hd
          go_simp
          exact hK _ _ hW trivial rfl
        · intro a wq vs L hW hL hN hO hk hd K hK
          have d4 := hd 4 43 (by decide) rfl
          rw [show vs 4 = .pointer (some ⟨g, k * 3, none⟩) from (hk 4 (by decide)).2] at d4
          clear hN hO hL hk hd
          go_simp
          exact hK _ _ hW trivial rfl
        · intro a wq vs L hW hL hN hO hk hd K hK
          have d5 := hd 5 44 (by decide) rfl
          rw [show vs 5 = .pointer (some ⟨g, k * 3 + 2, none⟩) from (hk 5 (by decide)).2] at d5
          have hx := hW.2.2.2.1
          clear hN hO hL hk hd
          go_simp
          exact hK _ _ hW trivial rfl
        · intro a wq vs L hW hL hN hO hk hd K hK
          have d6 := hd 6 45 (by decide) rfl
          rw [show vs 6 = .slice (some ⟨bs, os, none⟩) 2 c from (hk 6 (by decide)).2] at d6
          clear hN hO hL hk hd
          go_simp
          exact hK _ _ hW trivial rfl
        · intro a wq vs L hW hL hN hO hk hd K hK
          have d7 := hd 7 46 (by decide) rfl
          rw [show vs 7 = .pointer (some ⟨bs, os, none⟩) from (hk 7 (by decide)).2] at d7
          have hx := hW.2.2.2.2
          clear hN hO hL hk hd
          go_simp
          exact hK _ _ hW trivial rfl
        · intro a wq vs L hW hL hN hO hk hd K hK
          have d0 := hd 0 39 (by decide) rfl
          rw [show vs 0 = .slice (some ⟨g, 0, none⟩) R2.length cap from (hk 0 (by decide)).2] at d0
          have d8 := hd 8 47 (by decide) rfl
          rw [show vs 8 = .int .i64 y from (hk 8 (by decide)).2] at d8
          refine step_callG (by simp [Region.wanted, yielded]) (f := 49) (args := #[.slice (some ⟨g, 0, none⟩) R2.length cap, .int .i64 y]) (by simp [execOp, Act.eval, Act.put, go_sem, d0, d8]) (nodeAt_any _ R2 y _ (by omega) hW.1.rr) ?_
          rw [HPS.out]
          rintro e w6 ⟨rfl, b6⟩
          exact ⟨_, rfl, hK _ _ ⟨hW.1.nx b6, Nat.lt_of_lt_of_le hW.2.1 b6.size, Nat.lt_of_lt_of_le hW.2.2.1 b6.size, (b6.cell hW.2.1).trans hW.2.2.2.1, (b6.cell hW.2.2.1).trans hW.2.2.2.2⟩ trivial rfl⟩
        · intro a wq vs L hW hL hN hO hk hd K hK
          have d9 := hd 9 48 (by decide) rfl
          rw [show vs 9 = .pointer (some ⟨g, S * 3, none⟩) from (hk 9 (by decide)).2] at d9
          clear hN hO hL hk hd
          go_simp
          exact hK _ _ hW trivial rfl
      · intro vs wq hW hG
        have g10 : vs 10 = .pointer (some ⟨g, S * 3, none⟩) := hG 10 (by decide)
        clear hG
        simp only [putAll, Act.put, Nat.zero_add, Nat.reduceAdd]
        rw [g10]
        generalize vs 0 = y0
        generalize vs 1 = y1
        generalize vs 2 = y2
        generalize vs 3 = y3
        generalize vs 4 = y4
        generalize vs 5 = y5
        generalize vs 6 = y6
        generalize vs 7 = y7
        generalize vs 8 = y8
        generalize vs 9 = y9
        simp only [List.setIfInBounds_toArray, List.set_cons_succ, List.set_cons_zero]
        obtain ⟨s9, -⟩ := hW
        have S9 := Lib.hid s9
        clear W9 S10 s9
        have NZ : Hid (∀ V, OS w V gO (.slice (some ⟨g, 0, none⟩) R2.length cap) R2 → V.cell? ⟨g, S * 3 + 1, none⟩ = some (.int .i64 (nth R2 S).bf)) := Lib.hid (fun V h => by
          obtain ⟨_, _, _, -, -, h1, -, -⟩ := h.nd hSl
          exact h1)
        generalize hz : (nth R2 S).bf = z at *
        have xb := NZ.out _ S9.out
        clear hz
        by_cases hz1 : z = -1
        · have d1 : (z != -1) = false := by simp [hz1]
          have S12 : Hid (OS w wq gO (.slice (some ⟨g, 0, none⟩) R2.length cap) R3) := Lib.hid (by
            have e : R3 = R2 := by rw [HS2.out, hz1]; rfl
            rw [e]; exact S9.out)
          clear hz1 S9 NZ HBF2 HS2
          go_wp2
          clear xb d1
          obtain ⟨g2, cap2, hx2, hg2⟩ := S12.out.shape (by omega)
          rw [hx2] at S12
          clear hx2
          obtain ⟨bs2, os2, c2, hbs2, -, -, z2, z3⟩ := S12.out.nd hk3
          have HPK3 := Lib.hid (ptrAt_own (g := g2) (n := R3.length) (cap := cap2) X3.out)
          rw [N3.out] at HPK3
          have W12 := Lib.hid (And.intro S12.out.d1 (And.intro (Nat.lt_of_lt_of_le hg2 (Nat.le_refl _)) (And.intro (Nat.lt_of_lt_of_le hbs2 (Nat.le_refl _)) (And.intro z2 z3))))
          have xo := S12.out.c
          clear hg2 hbs2 z2 z3
          obtain ⟨R4, hR4⟩ : ∃ R4, R4 = stabS R k := ⟨_, rfl⟩
          have HF4 := Lib.hid hR4.symm
          rw [HFIN.out] at hR4
          obtain ⟨S3, hS3⟩ : ∃ S3, S3 = fnd R3 (nth R3 k).a0 := ⟨_, rfl⟩
          rw [← hS3] at hR4
          have HR4 := Lib.hid hR4; have HS3 := Lib.hid hS3.symm
          have HNQ : Hid (notifyG R3 S3 id = false → R4 = R3) := Lib.hid (fun h => by
            have := take_neq (take_ringNotify R3 (nth R3 k).a0 id)
            rw [HS3.out, ← HR4.out] at this; exact this h)
          clear hR4 hS3 HFIN xo
          generalize hy2 : (nth R3 k).a0 = y2 at *
          clear hy2
          refine wp_region_facts [[], [], [], [], [2, 3], [4, 2, 3], [5, 4, 2, 3], [6, 5, 4, 2, 3], [7, 6, 5, 4, 2, 3], [8, 7, 6, 5, 4, 2, 3], [], [1, 9, 10, 8, 7, 6, 5, 4, 2, 3], [11, 1, 9, 10, 8, 7, 6, 5, 4, 2, 3], [11, 1, 9, 10, 8, 7, 6, 5, 4, 2, 3], [0, 12, 13, 11, 1, 9, 10, 8, 7, 6, 5, 4, 2, 3]] (TW 14 (fun w' => OS w w' gO (.slice (some ⟨g2, 0, none⟩) R3.length cap2) R3 ∧ g2 < w'.heap.size ∧ bs2 < w'.heap.size ∧ w'.cell? ⟨g2, k * 3 + 2, none⟩ = some (.slice (some ⟨bs2, os2, none⟩) 2 c2) ∧ w'.cell? ⟨bs2, os2, none⟩ = some (.int .i64 y2)) (fun w' => ∃ y, OS w w' gO y R4)) (fun q0 v w1 => match q0 with | 0 => v = .func (.func 67) #[] #[.pointer (some ⟨gO, 0, none⟩)] | 1 => v = .slice (some ⟨g2, 0, none⟩) R3.length cap2 | 2 => v = .slice (some ⟨g2, 0, none⟩) R3.length cap2 | 3 => v = .int .i64 id | 4 => v = .pointer (some ⟨g2, k * 3, none⟩) | 5 => v = .pointer (some ⟨g2, k * 3, none⟩) | 6 => v = .pointer (some ⟨g2, k * 3 + 2, none⟩) | 7 => v = .slice (some ⟨bs2, os2, none⟩) 2 c2 | 8 => v = .pointer (some ⟨bs2, os2, none⟩) | 9 => v = (.int .i64 y2) | 10 => v = .int .i64 id | 11 => ∃ x, v = .tuple #[x, .bool (notifyG R3 S3 id)] ∧ OwnRingS w1 w.heap.size x (dats R4) | 12 => OwnRingS w1 w.heap.size v (dats R4) | 13 => v = .bool (notifyG R3 S3 id) | _ => True) (fun w' w'' => ∀ x D, OwnRingS w' w.heap.size x D → OwnRingS w'' w.heap.size x D) (by kernel_rfl) (by kernel_rfl) (fun q u wa wb hR h => by revert h; match q with | 11 => exact fun h => by obtain ⟨x, e, o⟩ := h; exact ⟨x, e, hR x _ o⟩ | 12 => exact fun h => hR _ _ h | 0 | 1 | 2 | 3 | 4 | 5 | 6 | 7 | 8 | 9 | 10 | 13 | _ + 14 => exact fun h => h) (TW.start W12.out) ?_ ?_
          · refine ⟨?_, ?_, ?_, ?_, ?_, ?_, ?_, ?_, ?_, ?_, ?_, ?_, ?_, ?_, ?_, trivial⟩
            · intro a wq vs L hW hL hN hO hk hd K hK
              have p7 := hO 7 (by decide)
              clear hN hO hL hk hd
              go_simp
              exact hK _ _ (hW.skip (by decide)) (fun _ _ h => h) rfl
            · intro a wq vs L hW hL hN hO hk hd K hK
              have p6 := hO 6 (by decide)
              have hA := hW.pre (hN 14 (by decide))
              have hc := hA.1.c
              clear hN hO hL hk hd
              go_simp
              exact hK _ _ (hW.skip (by decide)) (fun _ _ h => h) rfl
            · intro a wq vs L hW hL hN hO hk hd K hK
              have p6 := hO 6 (by decide)
              have hA := hW.pre (hN 14 (by decide))
              have hc := hA.1.c
              clear hN hO hL hk hd
              go_simp
              exact hK _ _ (hW.skip (by decide)) (fun _ _ h => h) rfl
            · intro a wq vs L hW hL hN hO hk hd K hK
              have p1 := hO 1 (by decide)
              clear hN hO hL hk hd
              go_simp
              exact hK _ _ (hW.skip (by decide)) (fun _ _ h => h) rfl
            · intro a wq vs L hW hL hN hO hk hd K hK
              have d2 := hd 2 71 (by decide) rfl
              rw [show vs 2 = .slice (some ⟨g2, 0, none⟩) R3.length cap2 from (hk 2 (by decide)).2] at d2
              have d3 := hd 3 72 (by decide) rfl
              rw [show vs 3 = .int .i64 id from (hk 3 (by decide)).2] at d3
              have hA := hW.pre (hN 14 (by decide))
              refine step_callG (by simp [Region.wanted, yielded]) (f := 49) (args := #[.slice (some ⟨g2, 0, none⟩) R3.length cap2, .int .i64 id]) (by simp [execOp, Act.eval, Act.put, go_sem, d2, d3]) (nodeAt_any _ R3 id _ (by omega) hA.1.rr) ?_
              rw [HPK3.out]
              rintro e w6 ⟨rfl, b6⟩
              exact ⟨_, rfl, hK _ _ (TW.nx (hN 14 (by decide)) (by decide) ⟨hA.1.nx b6, Nat.lt_of_lt_of_le hA.2.1 b6.size, Nat.lt_of_lt_of_le hA.2.2.1 b6.size, (b6.cell hA.2.1).trans hA.2.2.2.1, (b6.cell hA.2.2.1).trans hA.2.2.2.2⟩) (fun _ _ h => h.bl b6) rfl⟩
            · intro a wq vs L hW hL hN hO hk hd K hK
              have d4 := hd 4 73 (by decide) rfl
              rw [show vs 4 = .pointer (some ⟨g2, k * 3, none⟩) from (hk 4 (by decide)).2] at d4
              clear hN hO hL hk hd
              go_simp
              exact hK _ _ (hW.skip (by decide)) (fun _ _ h => h) rfl
            · intro a wq vs L hW hL hN hO hk hd K hK
              have d5 := hd 5 74 (by decide) rfl
              rw [show vs 5 = .pointer (some ⟨g2, k * 3, none⟩) from (hk 5 (by decide)).2] at d5
              clear hN hO hL hk hd
              go_simp
              exact hK _ _ (hW.skip (by decide)) (fun _ _ h => h) rfl
            · intro a wq vs L hW hL hN hO hk hd K hK
              have d6 := hd 6 75 (by decide) rfl
              rw [show vs 6 = .pointer (some ⟨g2, k * 3 + 2, none⟩) from (hk 6 (by decide)).2] at d6
              have hA := hW.pre (hN 14 (by decide))
              have hx := hA.2.2.2.1
              clear hN hO hL hk hd
              go_simp
              exact hK _ _ (hW.skip (by decide)) (fun _ _ h => h) rfl
            · intro a wq vs L hW hL hN hO hk hd K hK
              have d7 := hd 7 76 (by decide) rfl
              rw [show vs 7 = .slice (some ⟨bs2, os2, none⟩) 2 c2 from (hk 7 (by decide)).2] at d7
              clear hN hO hL hk hd
              go_simp
              exact hK _ _ (hW.skip (by decide)) (fun _ _ h => h) rfl
            · intro a wq vs L hW hL hN hO hk hd K hK
              have d8 := hd 8 77 (by decide) rfl
              rw [show vs 8 = .pointer (some ⟨bs2, os2, none⟩) from (hk 8 (by decide)).2] at d8
              have hA := hW.pre (hN 14 (by decide))
              have hx := hA.2.2.2.2
              clear hN hO hL hk hd
              go_simp
              exact hK _ _ (hW.skip (by decide)) (fun _ _ h => h) rfl
            · intro a wq vs L hW hL hN hO hk hd K hK
              have p1 := hO 1 (by decide)
              clear hN hO hL hk hd
              go_simp
              exact hK _ _ (hW.skip (by decide)) (fun _ _ h => h) rfl
            · intro a wq vs L hW hL hN hO hk hd K hK
              have d1 := hd 1 70 (by decide) rfl
              rw [show vs 1 = .slice (some ⟨g2, 0, none⟩) R3.length cap2 from (hk 1 (by decide)).2] at d1
              have d9 := hd 9 78 (by decide) rfl
              rw [show vs 9 = (.int .i64 y2) from (hk 9 (by decide)).2] at d9
              have d10 := hd 10 79 (by decide) rfl
              rw [show vs 10 = .int .i64 id from (hk 10 (by decide)).2] at d10
              have hA := hW.pre (hN 14 (by decide))
              refine step_callG (by simp [Region.wanted, yielded]) (f := 71) (args := #[.slice (some ⟨g2, 0, none⟩) R3.length cap2, (.int .i64 y2), .int .i64 id]) (by simp [execOp, Act.eval, Act.put, go_sem, d1, d9, d10]) (implRingNotify_ok _ R3 y2 id _ V3.out F3.out L3.out X3.out HNE3.out hA.1.rr) ?_
              rw [HS3.out, ← HR4.out]
              rintro e w6 ⟨x6, rfl, o6, b6⟩
              exact ⟨_, rfl, hK _ _ (TW.nx (hN 14 (by decide)) (by decide) ⟨hA.1.nx b6, Nat.lt_of_lt_of_le hA.2.1 b6.size, Nat.lt_of_lt_of_le hA.2.2.1 b6.size, (b6.cell hA.2.1).trans hA.2.2.2.1, (b6.cell hA.2.2.1).trans hA.2.2.2.2⟩) (fun _ _ h => h.bl b6) ⟨x6, rfl, o6.base hA.1.bl.size⟩⟩
            · intro a wq vs L hW hL hN hO hk hd K hK
              have d11 := hd 11 80 (by decide) rfl
              obtain ⟨x, e11, o11⟩ : ∃ x, vs 11 = .tuple #[x, .bool (notifyG R3 S3 id)] ∧ OwnRingS wq w.heap.size x (dats R4) := (hk 11 (by decide)).2
              rw [e11] at d11
              clear hN hO hL hk hd
              go_simp
              exact hK _ _ (hW.skip (by decide)) (fun _ _ h => h) o11
            · intro a wq vs L hW hL hN hO hk hd K hK
              have d11 := hd 11 80 (by decide) rfl
              obtain ⟨x, e11, o11⟩ : ∃ x, vs 11 = .tuple #[x, .bool (notifyG R3 S3 id)] ∧ OwnRingS wq w.heap.size x (dats R4) := (hk 11 (by decide)).2
              rw [e11] at d11
              clear hN hO hL hk hd
              go_simp
              exact hK _ _ (hW.skip (by decide)) (fun _ _ h => h) rfl
            · intro a wq vs L hW hL hN hO hk hd K hK
              have d0 := hd 0 69 (by decide) rfl
              rw [show vs 0 = .func (.func 67) #[] #[.pointer (some ⟨gO, 0, none⟩)] from (hk 0 (by decide)).2] at d0
              have d12 := hd 12 81 (by decide) rfl
              have d13 := hd 13 82 (by decide) rfl
              rw [show vs 13 = .bool (notifyG R3 S3 id) from (hk 13 (by decide)).2] at d13
              have hA := hW.pre hL
              have o12 : OwnRingS wq w.heap.size (vs 12) (dats R4) := (hk 12 (by decide)).2
              refine step_callG (by simp [Region.wanted, yielded]) (f := 67) (args := #[vs 12, .bool (notifyG R3 S3 id), .pointer (some ⟨gO, 0, none⟩)]) (by simp [execOp, Act.eval, Act.put, go_sem, d0, d12, d13, HENT]) (try_any w _ gO _ (vs 12) R3 R4 (notifyG R3 S3 id) hA.1 o12 HNQ.out) ?_
              rintro e w6 ⟨rfl, h6, k6⟩
              exact ⟨_, rfl, hK _ _ (TW.fin h6) k6 trivial⟩
          · intro vs wq hW hG
            clear hG
            simp only [putAll, Act.put, Nat.zero_add, Nat.reduceAdd]
            generalize vs 0 = y0
            generalize vs 1 = y1
            generalize vs 2 = y2
            generalize vs 3 = y3
            generalize vs 4 = y4
            generalize vs 5 = y5
            generalize vs 6 = y6
            generalize vs 7 = y7
            generalize vs 8 = y8
            generalize vs 9 = y9
            generalize vs 10 = y10
            generalize vs 11 = y11
            generalize vs 12 = y12
            generalize vs 13 = y13
            generalize vs 14 = y14
            simp only [List.setIfInBounds_toArray, List.set_cons_succ, List.set_cons_zero]
            obtain ⟨y13, s13⟩ := hW.post (by decide)
            have c13 := s13.c
            have S13 := Lib.hid s13
            clear s13 hW W12 S12
            go_wp2
            go_ret2
            exact ⟨_, rfl, by rw [HF4.out]; exact S13.out.ow, S13.out.bl⟩
        · have d1 : (z != -1) = true := by simp [hz1]
          have hz2 : 0 ≤ z ∧ z < 64 := by rcases HBF2.out with h | h; exact absurd h hz1; exact h
          have HBZ := Lib.hid hz2
          have HCL : Hid (closerS R2 k z = R3) := Lib.hid (by rw [HS2.out, if_pos hz2.1])
          have HNQ : Hid (closerG R2 k z = false → R3 = R2) := Lib.hid (fun h => by
            have := take_neq (take_ringCloser R2 id z)
            rw [N2.out, HCL.out] at this; exact this h)
          clear hz1 hz2 HBF2 HS2
          go_wp2
          clear xb d1
          refine wp_region_facts [[], [], [], [], [3], [4, 3], [5, 4, 3], [1, 2, 6, 5, 4, 3], [7, 1, 2, 6, 5, 4, 3], [7, 1, 2, 6, 5, 4, 3], [0, 8, 9, 7, 1, 2, 6, 5, 4, 3]] (TW 10 (fun w' => OS w w' gO (.slice (some ⟨g, 0, none⟩) R2.length cap) R2) (fun w' => ∃ y, OS w w' gO y R3)) (fun q0 v w1 => match q0 with | 0 => v = .func (.func 67) #[] #[.pointer (some ⟨gO, 0, none⟩)] | 1 => v = .slice (some ⟨g, 0, none⟩) R2.length cap | 2 => v = .int .i64 id | 3 => v = .pointer (some ⟨g, S * 3, none⟩) | 4 => v = .pointer (some ⟨g, S * 3, none⟩) | 5 => v = .pointer (some ⟨g, S * 3 + 1, none⟩) | 6 => v = .int .i64 z | 7 => ∃ x, v = .tuple #[x, .bool (closerG R2 k z)] ∧ OwnRingS w1 w.heap.size x (dats R3) | 8 => OwnRingS w1 w.heap.size v (dats R3) | 9 => v = .bool (closerG R2 k z) | _ => True) (fun w' w'' => ∀ x D, OwnRingS w' w.heap.size x D → OwnRingS w'' w.heap.size x D) (by kernel_rfl) (by kernel_rfl) (fun q u wa wb hR h => by revert h; match q with | 7 => exact fun h => by obtain ⟨x, e, o⟩ := h; exact ⟨x, e, hR x _ o⟩ | 8 => exact fun h => hR _ _ h | 0 | 1 | 2 | 3 | 4 | 5 | 6 | 9 | _ + 10 => exact fun h => h) (TW.start S9.out.d1) ?_ ?_
          · refine ⟨?_, ?_, ?_, ?_, ?_, ?_, ?_, ?_, ?_, ?_, ?_, trivial⟩
            · intro a wq vs L hW hL hN hO hk hd K hK
              have p7 := hO 7 (by decide)
              clear hN hO hL hk hd
              go_simp
              exact hK _ _ (hW.skip (by decide)) (fun _ _ h => h) rfl
            · intro a wq vs L hW hL hN hO hk hd K hK
              have p6 := hO 6 (by decide)
              have hA := hW.pre (hN 10 (by decide))
              have hc := hA.c
              clear hN hO hL hk hd
              go_simp
              exact hK _ _ (hW.skip (by decide)) (fun _ _ h => h) rfl
            · intro a wq vs L hW hL hN hO hk hd K hK
              have p1 := hO 1 (by decide)
              clear hN hO hL hk hd
              go_simp
              exact hK _ _ (hW.skip (by decide)) (fun _ _ h => h) rfl
            · intro a wq vs L hW hL hN hO hk hd K hK
              have p8 := hO 8 (by decide)
              clear hN hO hL hk hd
              go_simp
              exact hK _ _ (hW.skip (by decide)) (fun _ _ h => h) rfl
            · intro a wq vs L hW hL hN hO hk hd K hK
              have d3 := hd 3 61 (by decide) rfl
              rw [show vs 3 = .pointer (some ⟨g, S * 3, none⟩) from (hk 3 (by decide)).2] at d3
              clear hN hO hL hk hd
              go_simp
              exact hK _ _ (hW.skip (by decide)) (fun _ _ h => h) rfl
            · intro a wq vs L hW hL hN hO hk hd K hK
              have d4 := hd 4 62 (by decide) rfl
              rw [show vs 4 = .pointer (some ⟨g, S * 3, none⟩) from (hk 4 (by decide)).2] at d4
              clear hN hO hL hk hd
              go_simp
              exact hK _ _ (hW.skip (by decide)) (fun _ _ h => h) rfl
            · intro a wq vs L hW hL hN hO hk hd K hK
              have d5 := hd 5 63 (by decide) rfl
              rw [show vs 5 = .pointer (some ⟨g, S * 3 + 1, none⟩) from (hk 5 (by decide)).2] at d5
              have hA := hW.pre (hN 10 (by decide))
              have hx := NZ.out _ hA
              clear hN hO hL hk hd
              go_simp
              exact hK _ _ (hW.skip (by decide)) (fun _ _ h => h) rfl
            · intro a wq vs L hW hL hN hO hk hd K hK
              have d1 := hd 1 59 (by decide) rfl
              rw [show vs 1 = .slice (some ⟨g, 0, none⟩) R2.length cap from (hk 1 (by decide)).2] at d1
              have d2 := hd 2 60 (by decide) rfl
              rw [show vs 2 = .int .i64 id from (hk 2 (by decide)).2] at d2
              have d6 := hd 6 64 (by decide) rfl
              rw [show vs 6 = .int .i64 z from (hk 6 (by decide)).2] at d6
              have hA := hW.pre (hN 10 (by decide))
              refine step_callG (by simp [Region.wanted, yielded]) (f := 70) (args := #[.slice (some ⟨g, 0, none⟩) R2.length cap, .int .i64 id, .int .i64 z]) (by simp [execOp, Act.eval, Act.put, go_sem, d1, d2, d6]) (implRingCloser_ok _ R2 id z _ V2.out F2.out X2.out HBZ.out hA.rr) ?_
              rw [N2.out, HCL.out]
              rintro e w6 ⟨x6, rfl, o6, b6⟩
              exact ⟨_, rfl, hK _ _ (TW.nx (hN 10 (by decide)) (by decide) (hA.nx b6)) (fun _ _ h => h.bl b6) ⟨x6, rfl, o6.base hA.bl.size⟩⟩
            · intro a wq vs L hW hL hN hO hk hd K hK
              have d7 := hd 7 65 (by decide) rfl
              obtain ⟨x, e7, o7⟩ : ∃ x, vs 7 = .tuple #[x, .bool (closerG R2 k z)] ∧ OwnRingS wq w.heap.size x (dats R3) := (hk 7 (by decide)).2
              rw [e7] at d7
              clear hN hO hL hk hd
              go_simp
              exact hK _ _ (hW.skip (by decide)) (fun _ _ h => h) o7
            · intro a wq vs L hW hL hN hO hk hd K hK
              have d7 := hd 7 65 (by decide) rfl
              obtain ⟨x, e7, o7⟩ : ∃ x, vs 7 = .tuple #[x, .bool (closerG R2 k z)] ∧ OwnRingS wq w.heap.size x (dats R3) := (hk 7 (by decide)).2
              rw [e7] at d7
              clear hN hO hL hk hd
              go_simp
              exact hK _ _ (hW.skip (by decide)) (fun _ _ h => h) rfl
            · intro a wq vs L hW hL hN hO hk hd K hK
              have d0 := hd 0 58 (by decide) rfl
              rw [show vs 0 = .func (.func 67) #[] #[.pointer (some ⟨gO, 0, none⟩)] from (hk 0 (by decide)).2] at d0
              have d8 := hd 8 66 (by decide) rfl
              have d9 := hd 9 67 (by decide) rfl
              rw [show vs 9 = .bool (closerG R2 k z) from (hk 9 (by decide)).2] at d9
              have hA := hW.pre hL
              have o8 : OwnRingS wq w.heap.size (vs 8) (dats R3) := (hk 8 (by decide)).2
              refine step_callG (by simp [Region.wanted, yielded]) (f := 67) (args := #[vs 8, .bool (closerG R2 k z), .pointer (some ⟨gO, 0, none⟩)]) (by simp [execOp, Act.eval, Act.put, go_sem, d0, d8, d9, HENT]) (try_any w _ gO _ (vs 8) R2 R3 (closerG R2 k z) hA o8 HNQ.out) ?_
              rintro e w6 ⟨rfl, h6, k6⟩
              exact ⟨_, rfl, hK _ _ (TW.fin h6) k6 trivial⟩
          · intro vs wq hW hG
            clear hG
            simp only [putAll, Act.put, Nat.zero_add, Nat.reduceAdd]
            generalize vs 0 = y0
            generalize vs 1 = y1
            generalize vs 2 = y2
            generalize vs 3 = y3
            generalize vs 4 = y4
            generalize vs 5 = y5
            generalize vs 6 = y6
            generalize vs 7 = y7
            generalize vs 8 = y8
            generalize vs 9 = y9
            generalize vs 10 = y10
            simp only [List.setIfInBounds_toArray, List.set_cons_succ, List.set_cons_zero]
            have S12 := Lib.hid (hW.post (by decide))
            clear hW S9 HNQ HCL HBZ NZ
            obtain ⟨x12, s12⟩ := S12.out
            have S12 := Lib.hid s12
            clear s12
            go_wp2
            obtain ⟨g2, cap2, hx2, hg2⟩ := S12.out.shape (by omega)
            rw [hx2] at S12
            clear hx2
            obtain ⟨bs2, os2, c2, hbs2, -, -, z2, z3⟩ := S12.out.nd hk3
            have HPK3 := Lib.hid (ptrAt_own (g := g2) (n := R3.length) (cap := cap2) X3.out)
            rw [N3.out] at HPK3
            have W12 := Lib.hid (And.intro S12.out.d1 (And.intro (Nat.lt_of_lt_of_le hg2 (Nat.le_refl _)) (And.intro (Nat.lt_of_lt_of_le hbs2 (Nat.le_refl _)) (And.intro z2 z3))))
            have xo := S12.out.c
            clear hg2 hbs2 z2 z3
            obtain ⟨R4, hR4⟩ : ∃ R4, R4 = stabS R k := ⟨_, rfl⟩
            have HF4 := Lib.hid hR4.symm
            rw [HFIN.out] at hR4
            obtain ⟨S3, hS3⟩ : ∃ S3, S3 = fnd R3 (nth R3 k).a0 := ⟨_, rfl⟩
            rw [← hS3] at hR4
            have HR4 := Lib.hid hR4; have HS3 := Lib.hid hS3.symm
            have HNQ : Hid (notifyG R3 S3 id = false → R4 = R3) := Lib.hid (fun h => by
              have := take_neq (take_ringNotify R3 (nth R3 k).a0 id)
              rw [HS3.out, ← HR4.out] at this; exact this h)
            clear hR4 hS3 HFIN xo
            generalize hy2 : (nth R3 k).a0 = y2 at *
            clear hy2
            refine wp_region_facts [[], [], [], [], [2, 3], [4, 2, 3], [5, 4, 2, 3], [6, 5, 4, 2, 3], [7, 6, 5, 4, 2, 3], [8, 7, 6, 5, 4, 2, 3], [], [1, 9, 10, 8, 7, 6, 5, 4, 2, 3], [11, 1, 9, 10, 8, 7, 6, 5, 4, 2, 3], [11, 1, 9, 10, 8, 7, 6, 5, 4, 2, 3], [0, 12, 13, 11, 1, 9, 10, 8, 7, 6, 5, 4, 2, 3]] (TW 14 (fun w' => OS w w' gO (.slice (some ⟨g2, 0, none⟩) R3.length cap2) R3 ∧ g2 < w'.heap.size ∧ bs2 < w'.heap.size ∧ w'.cell? ⟨g2, k * 3 + 2, none⟩ = some (.slice (some ⟨bs2, os2, none⟩) 2 c2) ∧ w'.cell? ⟨bs2, os2, none⟩ = some (.int .i64 y2)) (fun w' => ∃ y, OS w w' gO y R4)) (fun q0 v w1 => match q0 with | 0 => v = .func (.func 67) #[] #[.pointer (some ⟨gO, 0, none⟩)] | 1 => v = .slice (some ⟨g2, 0, none⟩) R3.length cap2 | 2 => v = .slice (some ⟨g2, 0, none⟩) R3.length cap2 | 3 => v = .int .i64 id | 4 => v = .pointer (some ⟨g2, k * 3, none⟩) | 5 => v = .pointer (some ⟨g2, k * 3, none⟩) | 6 => v = .pointer (some ⟨g2, k * 3 + 2, none⟩) | 7 => v = .slice (some ⟨bs2, os2, none⟩) 2 c2 | 8 => v = .pointer (some ⟨bs2, os2, none⟩) | 9 => v = (.int .i64 y2) | 10 => v = .int .i64 id | 11 => ∃ x, v = .tuple #[x, .bool (notifyG R3 S3 id)] ∧ OwnRingS w1 w.heap.size x (dats R4) | 12 => OwnRingS w1 w.heap.size v (dats R4) | 13 => v = .bool (notifyG R3 S3 id) | _ => True) (fun w' w'' => ∀ x D, OwnRingS w' w.heap.size x D → OwnRingS w'' w.heap.size x D) (by kernel_rfl) (by kernel_rfl) (fun q u wa wb hR h => by revert h; match q with | 11 => exact fun h => by obtain ⟨x, e, o⟩ := h; exact ⟨x, e, hR x _ o⟩ | 12 => exact fun h => hR _ _ h | 0 | 1 | 2 | 3 | 4 | 5 | 6 | 7 | 8 | 9 | 10 | 13 | _ + 14 => exact fun h => h) (TW.start W12.out) ?_ ?_
            · refine ⟨?_, ?_, ?_, ?_, ?_, ?_, ?_, ?_, ?_, ?_, ?_, ?_, ?_, ?_, ?_, trivial⟩
              · intro a wq vs L hW hL hN hO hk hd K hK
                have p7 := hO 7 (by decide)
                clear hN hO hL hk hd
                go_simp
                exact hK _ _ (hW.skip (by decide)) (fun _ _ h => h) rfl
              · intro a wq vs L hW hL hN hO hk hd K hK
                have p6 := hO 6 (by decide)
                have hA := hW.pre (hN 14 (by decide))
                have hc := hA.1.c
                clear hN hO hL hk hd
                go_simp
                exact hK _ _ (hW.skip (by decide)) (fun _ _ h => h) rfl
              · intro a wq vs L hW hL hN hO hk hd K hK
                have p6 := hO 6 (by decide)
                have hA := hW.pre (hN 14 (by decide))
                have hc := hA.1.c
                clear hN hO hL hk hd
                go_simp
                exact hK _ _ (hW.skip (by decide)) (fun _ _ h => h) rfl
              · intro a wq vs L hW hL hN hO hk hd K hK
                have p1 := hO 1 (by decide)
                clear hN hO hL hk hd
                go_simp
                exact hK _ _ (hW.skip (by decide)) (fun _ _ h => h) rfl
              · intro a wq vs L hW hL hN hO hk hd K hK
                have d2 := hd 2 71 (by decide) rfl
                rw [show vs 2 = .slice (some ⟨g2, 0, none⟩) R3.length cap2 from (hk 2 (by decide)).2] at d2
                have d3 := hd 3 72 (by decide) rfl
                rw [show vs 3 = .int .i64 id from (hk 3 (by decide)).2] at d3
                have hA := hW.pre (hN 14 (by decide))
                refine step_callG (by simp [Region.wanted, yielded]) (f := 49) (args := #[.slice (some ⟨g2, 0, none⟩) R3.length cap2, .int .i64 id]) (by simp [execOp, Act.eval, Act.put, go_sem, d2, d3]) (nodeAt_any _ R3 id _ (by omega) hA.1.rr) ?_
                rw [HPK3.out]
                rintro e w6 ⟨rfl, b6⟩
                exact ⟨_, rfl, hK _ _ (TW.nx (hN 14 (by decide)) (by decide) ⟨hA.1.nx b6, Nat.lt_of_lt_of_le hA.2.1 b6.size, Nat.lt_of_lt_of_le hA.2.2.1 b6.size, (b6.cell hA.2.1).trans hA.2.2.2.1, (b6.cell hA.2.2.1).trans hA.2.2.2.2⟩) (fun _ _ h => h.bl b6) rfl⟩
              · intro a wq vs L hW hL hN hO hk hd K hK
                have d4 := hd 4 73 (by decide) rfl
                rw [show vs 4 = .pointer (some ⟨g2, k * 3, none⟩) from (hk 4 (by decide)).2] at d4
                clear hN hO hL hk hd
                go_simp
                exact hK _ _ (hW.skip (by decide)) (fun _ _ h => h) rfl
              · intro a wq vs L hW hL hN hO hk hd K hK
                have d5 := hd 5 74 (by decide) rfl
                rw [show vs 5 = .pointer (some ⟨g2, k * 3, none⟩) from (hk 5 (by decide)).2] at d5
                clear hN hO hL hk hd
                go_simp
                exact hK _ _ (hW.skip (by decide)) (fun _ _ h => h) rfl
              · intro a wq vs L hW hL hN hO hk hd K hK
                have d6 := hd 6 75 (by decide) rfl
                rw [show vs 6 = .pointer (some ⟨g2, k * 3 + 2, none⟩) from (hk 6 (by decide)).2] at d6
                have hA := hW.pre (hN 14 (by decide))
                have hx := hA.2.2.2.1
                clear hN hO hL hk hd
                go_simp
                exact hK _ _ (hW.skip (by decide)) (fun _ _ h => h) rfl
              · intro a wq vs L hW hL hN hO hk hd K hK
                have d7 := hd 7 76 (by decide) rfl
                rw [show vs 7 = .slice (some ⟨bs2, os2, none⟩) 2 c2 from (hk 7 (by decide)).2] at d7
                clear hN hO hL hk hd
                go_simp
                exact hK _ _ (hW.skip (by decide)) (fun _ _ h => h) rfl
              · intro a wq vs L hW hL hN hO hk hd K hK
                have d8 := hd 8 77 (by decide) rfl
                rw [show vs 8 = .pointer (some ⟨bs2, os2, none⟩) from (hk 8 (by decide)).2] at d8
                have hA := hW.pre (hN 14 (by decide))
                have hx := hA.2.2.2.2
                clear hN hO hL hk hd
                go_simp
                exact hK _ _ (hW.skip (by decide)) (fun _ _ h => h) rfl
              · intro a wq vs L hW hL hN hO hk hd K hK
                have p1 := hO 1 (by decide)
                clear hN hO hL hk hd
                go_simp
                exact hK _ _ (hW.skip (by decide)) (fun _ _ h => h) rfl
              · intro a wq vs L hW hL hN hO hk hd K hK
                have d1 := hd 1 70 (by decide) rfl
                rw [show vs 1 = .slice (some ⟨g2, 0, none⟩) R3.length cap2 from (hk 1 (by decide)).2] at d1
                have d9 := hd 9 78 (by decide) rfl
                rw [show vs 9 = (.int .i64 y2) from (hk 9 (by decide)).2] at d9
                have d10 := hd 10 79 (by decide) rfl
                rw [show vs 10 = .int .i64 id from (hk 10 (by decide)).2] at d10
                have hA := hW.pre (hN 14 (by decide))
                refine step_callG (by simp [Region.wanted, yielded]) (f := 71) (args := #[.slice (some ⟨g2, 0, none⟩) R3.length cap2, (.int .i64 y2), .int .i64 id]) (by simp [execOp, Act.eval, Act.put, go_sem, d1, d9, d10]) (implRingNotify_ok _ R3 y2 id _ V3.out F3.out L3.out X3.out HNE3.out hA.1.rr) ?_
                rw [HS3.out, ← HR4.out]
                rintro e w6 ⟨x6, rfl, o6, b6⟩
                exact ⟨_, rfl, hK _ _ (TW.nx (hN 14 (by decide)) (by decide) ⟨hA.1.nx b6, Nat.lt_of_lt_of_le hA.2.1 b6.size, Nat.lt_of_lt_of_le hA.2.2.1 b6.size, (b6.cell hA.2.1).trans hA.2.2.2.1, (b6.cell hA.2.2.1).trans hA.2.2.2.2⟩) (fun _ _ h => h.bl b6) ⟨x6, rfl, o6.base hA.1.bl.size⟩⟩
              · intro a wq vs L hW hL hN hO hk hd K hK
                have d11 := hd 11 80 (by decide) rfl
                obtain ⟨x, e11, o11⟩ : ∃ x, vs 11 = .tuple #[x, .bool (notifyG R3 S3 id)] ∧ OwnRingS wq w.heap.size x (dats R4) := (hk 11 (by decide)).2
                rw [e11] at d11
                clear hN hO hL hk hd
                go_simp
                exact hK _ _ (hW.skip (by decide)) (fun _ _ h => h) o11
              · intro a wq vs L hW hL hN hO hk hd K hK
                have d11 := hd 11 80 (by decide) rfl
                obtain ⟨x, e11, o11⟩ : ∃ x, vs 11 = .tuple #[x, .bool (notifyG R3 S3 id)] ∧ OwnRingS wq w.heap.size x (dats R4) := (hk 11 (by decide)).2
                rw [e11] at d11
                clear hN hO hL hk hd
                go_simp
                exact hK _ _ (hW.skip (by decide)) (fun _ _ h => h) rfl
              · intro a wq vs L hW hL hN hO hk hd K hK
                have d0 := hd 0 69 (by decide) rfl
                rw [show vs 0 = .func (.func 67) #[] #[.pointer (some ⟨gO, 0, none⟩)] from (hk 0 (by decide)).2] at d0
                have d12 := hd 12 81 (by decide) rfl
                have d13 := hd 13 82 (by decide) rfl
                rw [show vs 13 = .bool (notifyG R3 S3 id) from (hk 13 (by decide)).2] at d13
                have hA := hW.pre hL
                have o12 : OwnRingS wq w.heap.size (vs 12) (dats R4) := (hk 12 (by decide)).2
                refine step_callG (by simp [Region.wanted, yielded]) (f := 67) (args := #[vs 12, .bool (notifyG R3 S3 id), .pointer (some ⟨gO, 0, none⟩)]) (by simp [execOp, Act.eval, Act.put, go_sem, d0, d12, d13, HENT]) (try_any w _ gO _ (vs 12) R3 R4 (notifyG R3 S3 id) hA.1 o12 HNQ.out) ?_
                rintro e w6 ⟨rfl, h6, k6⟩
                exact ⟨_, rfl, hK _ _ (TW.fin h6) k6 trivial⟩
            · intro vs wq hW hG
              clear hG
              simp only [putAll, Act.put, Nat.zero_add, Nat.reduceAdd]
              generalize vs 0 = y0
              generalize vs 1 = y1
              generalize vs 2 = y2
              generalize vs 3 = y3
              generalize vs 4 = y4
              generalize vs 5 = y5
              generalize vs 6 = y6
              generalize vs 7 = y7
              generalize vs 8 = y8
              generalize vs 9 = y9
              generalize vs 10 = y10
              generalize vs 11 = y11
              generalize vs 12 = y12
              generalize vs 13 = y13
              generalize vs 14 = y14
              simp only [List.setIfInBounds_toArray, List.set_cons_succ, List.set_cons_zero]
              obtain ⟨y13, s13⟩ := hW.post (by decide)
              have c13 := s13.c
              have S13 := Lib.hid s13
              clear s13 hW W12 S12
              go_wp2
              go_ret2
              exact ⟨_, rfl, by rw [HF4.out]; exact S13.out.ow, S13.out.bl⟩
end Go.Proofs.Ythgekfiodedelaa
