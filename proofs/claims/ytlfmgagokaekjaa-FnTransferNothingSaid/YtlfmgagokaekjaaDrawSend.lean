/- What DrawTransferSend draws. -/
import Derived.Test.YtlfmgagokaekjaaDrawTr
import Derived.Test.YtlfmgagokaekjaaAppI
import Derived.Deep.RegionLaw
import Derived.Test.YtlfmgagokaekjaaReg
namespace Go.Proofs.Ytlfmgagokaekjaa
open Go.RowKit
set_option linter.unusedVariables false
set_option linter.unusedSimpArgs false


theorem size_put3 (w : World) (g : Nat) (a b c : Value) : (put3 w g a b c).heap.size = w.heap.size := by simp [put3, World.setCell]
def Pick (n : Int) (v : Value) : Prop := ∃ m : Int, v = .int .i64 m ∧ 0 ≤ m ∧ m < n
def Lit21 (v : Value) : Prop := ∃ m : Int, v = .int .i64 m ∧ -1 ≤ m ∧ m ≤ 21
def Lit8 (b g : Nat) (v : Value) (w : World) : Prop := ∃ h : Nat, v = .slice (some ⟨h, 0, none⟩) 8 8 ∧ h < w.heap.size ∧ h ≠ b ∧ h ≠ g ∧ ∀ i : Nat, i < 8 → ∃ z : Int, w.cell? ⟨h, i, none⟩ = some (.int .i64 z) ∧ -1 ≤ z ∧ z ≤ 21
def At8 (b g : Nat) (v : Value) (w : World) : Prop := ∃ h i : Nat, v = .pointer (some ⟨h, i, none⟩) ∧ h < w.heap.size ∧ h ≠ b ∧ h ≠ g ∧ ∃ z : Int, w.cell? ⟨h, i, none⟩ = some (.int .i64 z) ∧ -1 ≤ z ∧ z ≤ 21
def dsG (b g : Nat) (T : Value) (k : Nat) (v : Value) (w : World) : Prop := match k with
  | 0 => v = T
  | 1 => v = .pointer (some ⟨b, 0, none⟩)
  | 2 => Pick 20 v
  | 3 => v = .pointer (some ⟨b, 0, none⟩)
  | 4 => Pick 20 v
  | 5 => v = .pointer (some ⟨b, 0, none⟩)
  | 6 => Pick 20 v
  | 7 => v = .pointer (some ⟨b, 0, none⟩)
  | 8 => Pick 20 v
  | 9 => Lit8 b g v w
  | 10 => v = .pointer (some ⟨b, 0, none⟩)
  | 11 => Pick 8 v
  | 12 => At8 b g v w
  | 13 => Lit21 v
  | 15 => Lit21 v
  | _ => True
def Kept (b g : Nat) (w w' : World) : Prop := w.heap.size ≤ w'.heap.size ∧ ∀ k, k < w.heap.size → k ≠ b → k ≠ g → w'.heap[k]? = w.heap[k]?
theorem Kept.refl (b g : Nat) (w : World) : Kept b g w w := ⟨Nat.le_refl _, fun _ _ _ _ => rfl⟩
theorem Kept.cell {b g : Nat} {w w' : World} (h : Kept b g w w') {k : Nat} (i : Nat) (h1 : k < w.heap.size) (h2 : k ≠ b) (h3 : k ≠ g) : w'.cell? ⟨k, i, none⟩ = w.cell? ⟨k, i, none⟩ := by
  simp only [World.cell?, h.2 k h1 h2 h3]
theorem dsG_kept (b g : Nat) (T : Value) (k : Nat) (u : Value) (w w' : World) (h : Kept b g w w') (hg : dsG b g T k u w) : dsG b g T k u w' := by
  unfold dsG at *
  split at hg <;> try exact hg
  · obtain ⟨x, rfl, h1, h2, h3, h4⟩ := hg
    refine ⟨x, rfl, Nat.lt_of_lt_of_le h1 h.1, h2, h3, fun i hi => ?_⟩
    obtain ⟨z, hz⟩ := h4 i hi
    exact ⟨z, by rw [h.cell i h1 h2 h3]; exact hz⟩
  · obtain ⟨x, i, rfl, h1, h2, h3, z, hz⟩ := hg
    exact ⟨x, i, rfl, Nat.lt_of_lt_of_le h1 h.1, h2, h3, z, by rw [h.cell i h1 h2 h3]; exact hz⟩

def one (b : Bool) : Int := if b then 1 else 0
theorem one_le (b : Bool) : 0 ≤ one b ∧ one b ≤ 1 := by cases b <;> simp [one]
structure DsW (w0 : World) (S b : Nat) (q : Int) (xs : List Int) (u : Value) (T0 T1 : Array Value) (g2 : Nat) (L : Nat → Bool) (w : World) : Prop where
  rd : L 14 = false → ∃ p, p ≤ q + one (L 2) + one (L 4) + one (L 6) + one (L 8) + one (L 11) ∧ IsRd w S b p
  res : Blk w w0.heap.size (if L 14 then T1 else T0) 33
  box : Blk w g2 T1 33
  own : OwnInts w (w0.heap.size + 1) u xs
  apart : ∀ k, u.ownBlock = some k → k ≠ b
  bel : Below w0.heap.size w0 w
  bx : b < w.heap.size
theorem setL_ne (L : Nat → Bool) {i k : Nat} (h : k ≠ i) : setL L i k = L k := by simp [setL, h]
theorem setL_eq (L : Nat → Bool) (i : Nat) : setL L i i = true := by simp [setL]
theorem Kept.grown {b g : Nat} {w w' : World} (h : w.grownBy w' (some b)) : Kept b g w w' := ⟨h.size, fun k hk h1 _ => h.block k hk (fun e => h1 (Option.some.inj e))⟩
theorem Kept.alloc (b g : Nat) (w : World) (o : Obj) : Kept b g w (w.alloc o) := ⟨by simp, fun k hk _ _ => (below_alloc w o).block k hk⟩
theorem Kept.put3 (b g : Nat) (w : World) (x y z : Value) : Kept b g w (put3 w g x y z) := ⟨(grown_put3 w g x y z).size, fun k hk _ h2 => (grown_put3 w g x y z).block k hk (fun e => h2 (Option.some.inj e))⟩

section
variable {w0 w w3 : World} {S b : Nat} {q : Int} {xs : List Int} {u : Value} {T0 T1 : Array Value} {g2 : Nat} {L : Nat → Bool}
theorem DsW.skip (h : DsW w0 S b q xs u T0 T1 g2 L w) {i : Nat} (hi : i ≠ 14) : DsW w0 S b q xs u T0 T1 g2 (setL L i) w := by
  obtain ⟨h1, h2, h3, h4, h5, h6, h7⟩ := h
  refine ⟨fun e => ?_, by rw [setL_ne L (Ne.symm hi)]; exact h2, h3, h4, h5, h6, h7⟩
  rw [setL_ne L (Ne.symm hi)] at e
  obtain ⟨p, hp, hr⟩ := h1 e
  refine ⟨p, ?_, hr⟩
  have hm : ∀ k, one (L k) ≤ one (setL L i k) := fun k => by
    by_cases e : k = i
    · subst e; rw [setL_eq]; have := one_le (L k); simp [one] at *; omega
    · rw [setL_ne L e]; exact Int.le_refl _
  have a2 := hm 2; have a4 := hm 4; have a6 := hm 6; have a8 := hm 8; have a11 := hm 11
  omega
theorem DsW.pick (h : DsW w0 S b q xs u T0 T1 g2 L w) (hg2 : g2 ≠ b) (hb0 : w0.heap.size + 1 ≤ b) {i : Nat} (hi : i = 2 ∨ i = 4 ∨ i = 6 ∨ i = 8 ∨ i = 11) (hL : L i = false) {p : Int} (hp : p ≤ q + one (L 2) + one (L 4) + one (L 6) + one (L 8) + one (L 11)) (hr : IsRd w3 S b (p + 1)) (hg : w.grownBy w3 (some b)) : DsW w0 S b q xs u T0 T1 g2 (setL L i) w3 := by
  obtain ⟨-, h2, h3, h4, h5, h6, h7⟩ := h
  refine ⟨fun _ => ⟨p + 1, ?_, hr⟩, by rw [setL_ne L (by omega)]; exact h2.gr hg (fun j hj => by cases hj; omega), h3.gr hg (fun j hj => by cases hj; omega), h4.gr hg (ap_ne h5), h5, bGr h6 hg (fun j hj => by cases hj; omega), Nat.lt_of_lt_of_le h7 hg.size⟩
  have e0 : one false = 0 := rfl
  have e1 : one true = 1 := rfl
  rcases hi with rfl | rfl | rfl | rfl | rfl <;> rw [hL] at hp <;> simp only [setL_eq, setL_ne, ne_eq, Nat.reduceEqDiff, not_false_eq_true, e0, e1] at * <;> omega
theorem DsW.al (h : DsW w0 S b q xs u T0 T1 g2 L w) (o : Obj) {i : Nat} (hi : i ≠ 14) : DsW w0 S b q xs u T0 T1 g2 (setL L i) (w.alloc o) := by
  obtain ⟨h1, h2, h3, h4, h5, h6, h7⟩ := h.skip hi
  exact ⟨fun e => (h1 e).imp fun p h => ⟨h.1, h.2.alloc o⟩, h2.al o, h3.al o, h4.al o, h5, bAl h6 o, by have := sAl w o; omega⟩
theorem DsW.store {x y z x' y' z' : Value} (h : DsW w0 S b q xs u #[x, y, z] #[x', y', z'] g2 L w) (hg2 : g2 ≠ w0.heap.size) (hL : L 14 = false) : DsW w0 S b q xs u #[x, y, z] #[x', y', z'] g2 (setL L 14) (put3 w w0.heap.size x' y' z') := by
  obtain ⟨h1, h2, h3, h4, h5, h6, h7⟩ := h
  rw [hL] at h2
  refine ⟨fun e => (by rw [setL_eq] at e; cases e), ?_, h3.po3 _ _ _ _ (Ne.symm hg2), h4.p3 (by omega) _ _ _, h5, bP3 h6 (Nat.le_refl _) _ _ _, by rw [size_put3]; exact h7⟩
  rw [setL_eq]; exact h2.put3 _ _ _
end

set_option maxHeartbeats 1000000 in
theorem close_send (w we : World) (a2 : Option Addr) (q2 : Nat) (xs : List Int) (n k mw : Int) (t0 t1 t4 t5 t6 t7 t8 t9 t10 t11 t12 t13 t14 t15 t16 t17 t18 t19 t20 t21 t22 t23 : Value)
    (H : we.heap[w.heap.size]? = some (.cells #[.slice a2 xs.length q2, .int .i64 n, .int .i64 k] 33 (0, 0))) (O : OwnInts we w.heap.size (.slice a2 xs.length q2) xs) (c : Below w.heap.size w we) (hl2 : xs.length ≤ 21) (hn : -9 ≤ n ∧ n ≤ 99) (hk : -9 ≤ k ∧ k ≤ 99) (hm : -1 ≤ mw ∧ mw ≤ 21) :
    bodyPost Try.prog Try.f28 (fun e w' => ∃ u xs n k m, e = .returned (.tuple #[trV u n k, .int .i64 m]) ∧ OwnInts w' w.heap.size u xs ∧ xs.length ≤ 21 ∧ (-9 ≤ n ∧ n ≤ 99) ∧ (-9 ≤ k ∧ k ≤ 99) ∧ (-1 ≤ m ∧ m ≤ 21) ∧ Below w.heap.size w w') Exit.ret { tmps := #[t0, t1, .pointer (some ⟨w.heap.size, 0, none⟩), .int .i64 mw, t4, t5, t6, t7, t8, t9, t10, t11, t12, t13, t14, t15, t16, t17, t18, t19, t20, t21, t22, t23], defers := [] } we := by
  unfold trV
  exact bodyPost_ret (results_cellrow_tmp rfl _ _ w.heap.size 33 #[.slice a2 xs.length q2, .int .i64 n, .int .i64 k] (0, 0) _ rfl H Try.underlying33 rfl infoTr) rfl ⟨_, xs, n, k, mw, rfl, O, hl2, hn, hk, hm, c⟩

set_option maxHeartbeats 4000000 in
theorem drawTransferSend_any (v : Value) (zs : List Int) (w : World) (hr : RBytes w v zs) (hl : zs.length ≤ 1048576) :
    Calls Try.prog 28 #[v] w fun e w' => ∃ u xs n k m, e = .returned (.tuple #[trV u n k, .int .i64 m]) ∧ OwnInts w' w.heap.size u xs ∧ xs.length ≤ 21 ∧ (-9 ≤ n ∧ n ≤ 99) ∧ (-9 ≤ k ∧ k ≤ 99) ∧ (-1 ≤ m ∧ m ≤ 21) ∧ Below w.heap.size w w' := by
  obtain ⟨⟨a, cap, rfl, g1, g2, -⟩, -⟩ := id hr
  have HR := Lib.hid hr; clear hr
  have a0 := below_alloc w (.cells #[.slice none 0 0, .int .i64 0, .int .i64 0] 33)
  have B0 := Blk.new w #[.slice none 0 0, .int .i64 0, .int .i64 0] 33
  go_enter Try.func28, Try.ntmps28
  go_wp2_with fail
  refine (l6Open_any _ zs _ (HR.out.below a0) hl).mono ?_
  rintro e w1 ⟨b, rfl, hb, r1, b1⟩
  have B1 := B0.bl b1
  have c1 := bNext a0 b1
  simp only [World.size_alloc] at hb
  have hlt := r1.lt
  go_wp2_with fail
  refine (l92Transfer_any _ b 0 _ r1 (by omega)).mono ?_
  unfold trV
  rintro e w2 ⟨u, xs, n, k, rfl, o2, hl2, ⟨hn0, hn1⟩, ⟨hk0, hk1⟩, ⟨q, hq, r2⟩, g2⟩
  obtain ⟨a2, q2, rfl, -, -, -⟩ := o2.reads
  have B2 := B1.gr g2 (fun j hj => by cases hj; omega)
  have c2 := bGr c1 g2 (fun j hj => by cases hj; omega)
  have h1 := c1.size
  have h2 := g2.size
  have hB := B1.lt
  have hB2 := B2.lt
  have B5 := (Blk.new w2 #[.slice a2 xs.length q2, .int .i64 n, .int .i64 k] 33).d1
  have B6 := (B2.al (.cells #[.slice a2 xs.length q2, .int .i64 n, .int .i64 k] 33)).d1
  have o6 := (o2.al (.cells #[.slice a2 xs.length q2, .int .i64 n, .int .i64 k] 33)).d1
  have r6 := (r2.alloc (.cells #[.slice a2 xs.length q2, .int .i64 n, .int .i64 k] 33)).drew
  have c6 := bD1 (bAl c2 (.cells #[.slice a2 xs.length q2, .int .i64 n, .int .i64 k] 33))
  obtain ⟨x0, x1, x2⟩ := B5.get3
  have hbw : b < w2.heap.size := by have := r2.lt; omega
  have hS := r6.1
  have hq0 := r2.2.1
  go_wp2_with fail
  have hTb : ∀ k, (Value.slice a2 xs.length q2).ownBlock = some k → k ≠ b := fun k hk => by have := (o6.lts k hk).1; omega
  have o6' := o6.base (B' := w.heap.size + 1) (by omega)
  have HW : Hid (DsW w _ b q xs (.slice a2 xs.length q2) #[.slice none 0 0, .int .i64 0, .int .i64 0] #[.slice a2 xs.length q2, .int .i64 n, .int .i64 k] w2.heap.size (fun _ => false) ((w2.alloc (.cells #[.slice a2 xs.length q2, .int .i64 n, .int .i64 k] 33)).drew)) := Lib.hid ⟨fun _ => ⟨q, by simp [one], r6⟩, B6, B5, o6', hTb, c6, by have := r6.lt; exact this⟩
  have hgb : b ≠ w.heap.size := by omega
  have hg2 : w2.heap.size ≠ b := by omega
  have hg2' : w2.heap.size ≠ w.heap.size := by omega
  have hbS : w.heap.size + 1 ≤ b := by omega
  have hSS : w.heap.size + 1 ≤ (w.alloc (.cells #[.slice none 0 0, .int .i64 0, .int .i64 0] 33)).heap.size := by simp
  clear B6 B5 o6 o6' r6 c6 B2 c2 B1 c1 B0 a0 o2 r2 r1 b1 g2 HR x0 x1 x2 hTb
  refine wp_region_facts [[],[],[1],[],[3,2],[],[5,4,2],[],[7,6,4,2],[2,4,6,8],[],[10,8,6,4,2],[9,11],[12],[0,11,8,6,4,2],[13,14]] (DsW w _ b q xs (.slice a2 xs.length q2) #[.slice none 0 0, .int .i64 0, .int .i64 0] #[.slice a2 xs.length q2, .int .i64 n, .int .i64 k] w2.heap.size) (dsG b w.heap.size (.agg #[.slice a2 xs.length q2, .int .i64 n, .int .i64 k])) (Kept b w.heap.size) (by kernel_rfl) (by kernel_rfl) (dsG_kept _ _ _) HW.out ?_ ?_
  · refine ⟨?_, ?_, ?_, ?_, ?_, ?_, ?_, ?_, ?_, ?_, ?_, ?_, ?_, ?_, ?_, ?_, trivial⟩
    · intro a w3 vs L hW hL hN hO hk hd K hK
      obtain ⟨x0, x1, x2⟩ := hW.box.get3
      have h5 := hO 5 (by decide)
      go_simp
      exact hK _ _ (hW.skip (by decide)) (Kept.refl _ _ _) rfl
    · intro a w3 vs L hW hL hN hO hk hd K hK
      have h4 := hO 4 (by decide)
      go_simp
      exact hK _ _ (hW.skip (by decide)) (Kept.refl _ _ _) rfl
    · intro a w3 vs L hW hL hN hO hk hd K hK
      have d1 := hd 1 11 (by decide) rfl
      rw [show vs 1 = .pointer (some ⟨b, 0, none⟩) from (hk 1 (by decide)).2] at d1
      obtain ⟨p, hp, r⟩ := hW.rd (hN 14 (by decide))
      have hp2 : p ≤ 1000000 := by have a2 := one_le (L 2); have a4 := one_le (L 4); have a6 := one_le (L 6); have a8 := one_le (L 8); have a11 := one_le (L 11); omega
      refine step_call rfl (f := 41) (args := #[.pointer (some ⟨b, 0, none⟩), .int .i64 20]) (by simp [execOp, Act.eval, Act.put, go_sem, d1]) (pick_any _ b p 20 _ r hp2 (by omega) (by omega)) ?_
      rintro e w4 ⟨m, rfl, hm, r4, g4⟩
      exact ⟨_, rfl, hK _ _ (hW.pick hg2 hbS (by decide) hL hp r4 g4) (Kept.grown g4) ⟨m, rfl, hm.1, hm.2⟩⟩
    · intro a w3 vs L hW hL hN hO hk hd K hK
      have h4 := hO 4 (by decide)
      go_simp
      exact hK _ _ (hW.skip (by decide)) (Kept.refl _ _ _) rfl
    · intro a w3 vs L hW hL hN hO hk hd K hK
      have d1 := hd 3 13 (by decide) rfl
      rw [show vs 3 = .pointer (some ⟨b, 0, none⟩) from (hk 3 (by decide)).2] at d1
      obtain ⟨p, hp, r⟩ := hW.rd (hN 14 (by decide))
      have hp2 : p ≤ 1000000 := by have a2 := one_le (L 2); have a4 := one_le (L 4); have a6 := one_le (L 6); have a8 := one_le (L 8); have a11 := one_le (L 11); omega
      refine step_call rfl (f := 41) (args := #[.pointer (some ⟨b, 0, none⟩), .int .i64 20]) (by simp [execOp, Act.eval, Act.put, go_sem, d1]) (pick_any _ b p 20 _ r hp2 (by omega) (by omega)) ?_
      rintro e w4 ⟨m, rfl, hm, r4, g4⟩
      exact ⟨_, rfl, hK _ _ (hW.pick hg2 hbS (by decide) hL hp r4 g4) (Kept.grown g4) ⟨m, rfl, hm.1, hm.2⟩⟩
    · intro a w3 vs L hW hL hN hO hk hd K hK
      have h4 := hO 4 (by decide)
      go_simp
      exact hK _ _ (hW.skip (by decide)) (Kept.refl _ _ _) rfl
    · intro a w3 vs L hW hL hN hO hk hd K hK
      have d1 := hd 5 15 (by decide) rfl
      rw [show vs 5 = .pointer (some ⟨b, 0, none⟩) from (hk 5 (by decide)).2] at d1
      obtain ⟨p, hp, r⟩ := hW.rd (hN 14 (by decide))
      have hp2 : p ≤ 1000000 := by have a2 := one_le (L 2); have a4 := one_le (L 4); have a6 := one_le (L 6); have a8 := one_le (L 8); have a11 := one_le (L 11); omega
      refine step_call rfl (f := 41) (args := #[.pointer (some ⟨b, 0, none⟩), .int .i64 20]) (by simp [execOp, Act.eval, Act.put, go_sem, d1]) (pick_any _ b p 20 _ r hp2 (by omega) (by omega)) ?_
      rintro e w4 ⟨m, rfl, hm, r4, g4⟩
      exact ⟨_, rfl, hK _ _ (hW.pick hg2 hbS (by decide) hL hp r4 g4) (Kept.grown g4) ⟨m, rfl, hm.1, hm.2⟩⟩
    · intro a w3 vs L hW hL hN hO hk hd K hK
      have h4 := hO 4 (by decide)
      go_simp
      exact hK _ _ (hW.skip (by decide)) (Kept.refl _ _ _) rfl
    · intro a w3 vs L hW hL hN hO hk hd K hK
      have d1 := hd 7 17 (by decide) rfl
      rw [show vs 7 = .pointer (some ⟨b, 0, none⟩) from (hk 7 (by decide)).2] at d1
      obtain ⟨p, hp, r⟩ := hW.rd (hN 14 (by decide))
      have hp2 : p ≤ 1000000 := by have a2 := one_le (L 2); have a4 := one_le (L 4); have a6 := one_le (L 6); have a8 := one_le (L 8); have a11 := one_le (L 11); omega
      refine step_call rfl (f := 41) (args := #[.pointer (some ⟨b, 0, none⟩), .int .i64 20]) (by simp [execOp, Act.eval, Act.put, go_sem, d1]) (pick_any _ b p 20 _ r hp2 (by omega) (by omega)) ?_
      rintro e w4 ⟨m, rfl, hm, r4, g4⟩
      exact ⟨_, rfl, hK _ _ (hW.pick hg2 hbS (by decide) hL hp r4 g4) (Kept.grown g4) ⟨m, rfl, hm.1, hm.2⟩⟩
    · intro a w3 vs L hW hL hN hO hk hd K hK
      have d2 := hd 2 12 (by decide) rfl
      obtain ⟨m2, e2, hm2⟩ := show Pick 20 (vs 2) from (hk 2 (by decide)).2
      rw [e2] at d2
      have d4 := hd 4 14 (by decide) rfl
      obtain ⟨m4, e4, hm4⟩ := show Pick 20 (vs 4) from (hk 4 (by decide)).2
      rw [e4] at d4
      have d6 := hd 6 16 (by decide) rfl
      obtain ⟨m6, e6, hm6⟩ := show Pick 20 (vs 6) from (hk 6 (by decide)).2
      rw [e6] at d6
      have d8 := hd 8 18 (by decide) rfl
      obtain ⟨m8, e8, hm8⟩ := show Pick 20 (vs 8) from (hk 8 (by decide)).2
      rw [e8] at d8
      clear hk hd hN
      go_simp
      refine hK _ _ (hW.al _ (by decide)) (Kept.alloc _ _ _ _) ⟨w3.heap.size, rfl, by simp, ?_, ?_, ?_⟩
      · have := hW.bx; omega
      · have := hW.res.lt; omega
      · intro i hi
        have hb8 := Blk.new w3 #[.int .i64 (-1), .int .i64 0, .int .i64 20, .int .i64 21, .int .i64 m2, .int .i64 m4, .int .i64 m6, .int .i64 m8] 3
        have : i = 0 ∨ i = 1 ∨ i = 2 ∨ i = 3 ∨ i = 4 ∨ i = 5 ∨ i = 6 ∨ i = 7 := by omega
        rcases this with rfl | rfl | rfl | rfl | rfl | rfl | rfl | rfl <;> exact ⟨_, hb8.c _ rfl, by omega, by omega⟩
    · intro a w3 vs L hW hL hN hO hk hd K hK
      have h4 := hO 4 (by decide)
      go_simp
      exact hK _ _ (hW.skip (by decide)) (Kept.refl _ _ _) rfl
    · intro a w3 vs L hW hL hN hO hk hd K hK
      have d1 := hd 10 20 (by decide) rfl
      rw [show vs 10 = .pointer (some ⟨b, 0, none⟩) from (hk 10 (by decide)).2] at d1
      obtain ⟨p, hp, r⟩ := hW.rd (hN 14 (by decide))
      have hp2 : p ≤ 1000000 := by have a2 := one_le (L 2); have a4 := one_le (L 4); have a6 := one_le (L 6); have a8 := one_le (L 8); have a11 := one_le (L 11); omega
      refine step_call rfl (f := 41) (args := #[.pointer (some ⟨b, 0, none⟩), .int .i64 8]) (by simp [execOp, Act.eval, Act.put, go_sem, d1]) (pick_any _ b p 8 _ r hp2 (by omega) (by omega)) ?_
      rintro e w4 ⟨m, rfl, hm, r4, g4⟩
      exact ⟨_, rfl, hK _ _ (hW.pick hg2 hbS (by decide) hL hp r4 g4) (Kept.grown g4) ⟨m, rfl, hm.1, hm.2⟩⟩
    · intro a w3 vs L hW hL hN hO hk hd K hK
      have d9 := hd 9 19 (by decide) rfl
      have d11 := hd 11 21 (by decide) rfl
      obtain ⟨h, e9, h1, h2, h3, h4⟩ := show Lit8 b w.heap.size (vs 9) w3 from (hk 9 (by decide)).2
      obtain ⟨m, e11, hm0, hm1⟩ := show Pick 8 (vs 11) from (hk 11 (by decide)).2
      rw [e9] at d9; rw [e11] at d11
      obtain ⟨z, hz⟩ := h4 m.toNat (by omega)
      clear hk hd hN h4
      go_simp
      exact hK _ _ (hW.skip (by decide)) (Kept.refl _ _ _) ⟨h, m.toNat, rfl, h1, h2, h3, z, hz⟩
    · intro a w3 vs L hW hL hN hO hk hd K hK
      have d12 := hd 12 22 (by decide) rfl
      obtain ⟨h, i, e12, h1, h2, h3, z, hz, hz0, hz1⟩ := show At8 b w.heap.size (vs 12) w3 from (hk 12 (by decide)).2
      rw [e12] at d12
      clear hk hd hN
      go_simp
      exact hK _ _ (hW.skip (by decide)) (Kept.refl _ _ _) ⟨z, rfl, hz0, hz1⟩
    · intro a w3 vs L hW hL hN hO hk hd K hK
      have d0 := hd 0 10 (by decide) rfl
      rw [show vs 0 = .agg #[.slice a2 xs.length q2, .int .i64 n, .int .i64 k] from (hk 0 (by decide)).2] at d0
      have hres := hW.res
      rw [hL] at hres
      obtain ⟨z0, z1, z2⟩ := hres.get3
      obtain ⟨zf0, zf1, zf2⟩ := hres.fr3
      have h2 := hO 2 (by decide)
      clear hk hd hN
      go_simp
      exact hK undef _ (hW.store hg2' hL) (Kept.put3 _ _ _ _ _ _) trivial
    · intro a w3 vs L hW hL hN hO hk hd K hK
      have d13 := hd 13 23 (by decide) rfl
      obtain ⟨m, e13, hm⟩ := show Lit21 (vs 13) from (hk 13 (by decide)).2
      rw [e13] at d13
      clear hk hd hN
      go_simp
      exact hK _ _ (hW.skip (by decide)) (Kept.refl _ _ _) ⟨m, rfl, hm⟩
  · intro vs w3 hW hG
    obtain ⟨m15, e15, hm15⟩ := show Lit21 (vs 15) from hG 15 (by decide)
    have hres := hW.res
    rw [if_pos (by kernel_rfl)] at hres
    have H := hres.h
    have O := hW.own
    have c := hW.bel
    clear hW hres hG
    simp only [putAll, Act.put, e15, Nat.zero_add, Nat.reduceAdd]
    generalize vs 0 = y0
    generalize vs 1 = y1
    generalize vs 2 = y2
    generalize vs 3 = y3
    generalize vs 4 = y4
    generalize vs 5 = y5
    generalize vs 6 = y6
    generalize vs 7 = y7
    generalize vs 8 = y8
    generalize vs 9 = y9
    generalize vs 10 = y10
    generalize vs 11 = y11
    generalize vs 12 = y12
    generalize vs 13 = y13
    simp only [List.setIfInBounds_toArray, List.set_cons_succ, List.set_cons_zero]
    go_wp2
    with_reducible exact close_send w _ a2 q2 xs n k _ _ _ _ _ _ _ _ _ _ _ _ _ _ _ _ _ _ _ _ _ _ _ H (O.base (by omega)) c hl2 ⟨hn0, hn1⟩ ⟨hk0, hk1⟩ hm15
end Go.Proofs.Ytlfmgagokaekjaa
