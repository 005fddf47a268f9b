/- The walk of FnExactTransferNew: the law returns true. -/
import Derived.Test.YthcgpidlgcfbbaaTrEq
import Derived.Test.YthcgpidlgcfbbaaToInts
namespace Go.Proofs.Ythcgpidlgcfbbaa
open Go.RowKit
set_option linter.unusedVariables false
set_option linter.unusedSimpArgs false

theorem Blk3.kept {w w' : World} {g : Nat} {a b c : Value} {t : TypeId} {row : Option Nat} (h : Blk3 w g a b c t) (hg : w.grownBy w' row) (hne : ∀ k, row = some k → k ≠ g) : Blk3 w' g a b c t := by
  obtain ⟨_, _, _, _, h5⟩ := hg
  exact ⟨(h5 g (Array.getElem?_eq_some_iff.1 h.h).1 (fun e => hne g e.symm rfl)).trans h.h⟩
theorem Blk3.drewN {w : World} {g : Nat} {a b c : Value} {t : TypeId} (h : Blk3 w g a b c t) (n : Nat) : Blk3 (w.drewN n) g a b c t := ⟨h.h⟩
theorem Blk3.lt {w : World} {g : Nat} {a b c : Value} {t : TypeId} (h : Blk3 w g a b c t) : g < w.heap.size := (Array.getElem?_eq_some_iff.1 h.h).1
theorem Blk3.all {w w' : World} {g : Nat} {a b c : Value} {t : TypeId} (h : Blk3 w g a b c t) (hb : Below w.heap.size w w') : Blk3 w' g a b c t := h.below hb h.lt
theorem OwnA.lt {w : World} {B : Nat} {v : Value} {zs : List Int} (h : OwnA w B v zs) {k : Nat} (hk : v.ownBlock = some k) : B ≤ k ∧ k < w.heap.size := by
  obtain ⟨e, h⟩ := h; exact ownsRow_lt h hk
theorem length_newL (zs : List Int) : (newL zs).length ≤ zs.length := by unfold newL; split <;> simp

set_option maxHeartbeats 600000 in
theorem exactTransferNew_walk (v : Value) (zs : List Int) (w : World) (hr : RInts w v zs) (hw : ∀ n ∈ zs, (Lit.int .i64 n).wf = true) :
    Calls Try.prog 5 #[v] w fun e w' => e = .returned (.bool true) ∧ Below w.heap.size w w' := by
  obtain ⟨a, cap, rfl, hc, hm, -⟩ := id hr
  have HR := Lib.hid hr; clear hr hw
  by_cases hl : zs.length ≤ 1048576
  · have hl' : decide ((1048576 : Int) < zs.length) = false := decide_eq_false (by omega)
    obtain ⟨T, hT⟩ : ∃ T, T = newL zs := ⟨_, rfl⟩
    have hTl : T.length ≤ 1048576 := by rw [hT]; exact Nat.le_trans (length_newL zs) hl
    have HT := Lib.hid hT; clear hT
    obtain ⟨ok, hok⟩ : ∃ ok, ok = itemsB zs := ⟨_, rfl⟩
    have HK := Lib.hid hok; clear hok
    go_enter Try.func5, Try.ntmps5
    go_wp2_with fail
    refine (toIntS_any _ zs _ (by omega) HR.out).mono ?_
    rintro e w1 ⟨v1, rfl, o1, b1⟩
    go_wp2_with fail
    refine (specTransferNew_any _ zs _ _ (by omega) o1).mono ?_
    rw [← HT.out, ← HK.out]
    unfold trV
    rintro e w2 ⟨u2, rfl, o2, b2⟩
    obtain ⟨a2, cap2, rfl, -, -, -⟩ := o2.reads
    have c2 := bNext (bNext b1 b2) (below_alloc w2 (.cells #[.slice a2 T.length cap2, .int .i64 0, .int .i64 0] 27))
    have o2a := o2.below (below_alloc w2 (.cells #[.slice a2 T.length cap2, .int .i64 0, .int .i64 0] 27))
    have B2 := Blk3.new w2 (.slice a2 T.length cap2) (.int .i64 0) (.int .i64 0) 27
    obtain ⟨W2, hW2⟩ : ∃ W2, W2 = w2.alloc (.cells #[.slice a2 T.length cap2, .int .i64 0, .int .i64 0] 27) := ⟨_, rfl⟩
    have hS2 : W2.heap.size = w2.heap.size + 1 := by rw [hW2]; simp
    rw [← hW2] at c2 o2a B2
    have HW2 := Lib.hid hW2; clear hW2
    go_wp2_with fail
    rw [← HW2.out]
    refine (toIntS_any _ zs _ (by omega) (HR.out.below c2)).mono ?_
    rintro e w3 ⟨v3, rfl, o3, b3⟩
    have c3 := bNext c2 b3
    have o2b := o2a.below b3
    have B2b := B2.all b3
    go_wp2_with fail
    refine (implTransferNew_any _ zs _ (by omega) o3.reads).mono ?_
    rw [← HT.out, ← HK.out]
    unfold trV
    rintro e w4 ⟨u4, rfl, o4, b4⟩
    obtain ⟨a4, cap4, rfl, -, -, -⟩ := o4.reads
    have c4 := bNext (bNext c3 b4) (below_alloc w4 (.cells #[.slice a4 T.length cap4, .int .i64 0, .int .i64 0] 27))
    have o4a := o4.below (below_alloc w4 (.cells #[.slice a4 T.length cap4, .int .i64 0, .int .i64 0] 27))
    have B4 := Blk3.new w4 (.slice a4 T.length cap4) (.int .i64 0) (.int .i64 0) 27
    have o2c := (o2b.below b4).below (below_alloc w4 (.cells #[.slice a4 T.length cap4, .int .i64 0, .int .i64 0] 27))
    have o3c := (o3.below b4).below (below_alloc w4 (.cells #[.slice a4 T.length cap4, .int .i64 0, .int .i64 0] 27))
    have B2c := (B2b.all b4).all (below_alloc w4 (.cells #[.slice a4 T.length cap4, .int .i64 0, .int .i64 0] 27))
    have hm1 := b2.size
    have hm2 := b3.size
    have hm3 := b4.size
    obtain ⟨W4, hW4⟩ : ∃ W4, W4 = w4.alloc (.cells #[.slice a4 T.length cap4, .int .i64 0, .int .i64 0] 27) := ⟨_, rfl⟩
    have hS4 : W4.heap.size = w4.heap.size + 1 := by rw [hW4]; simp
    rw [← hW4] at c4 o4a B4 o2c o3c B2c
    have x0 := B2c.c0; have x1 := B2c.c1; have x2 := B2c.c2
    have y0 := B4.c0; have y1 := B4.c1; have y2 := B4.c2
    rw [hW4] at x0 x1 x2 y0 y1 y2
    have HW4 := Lib.hid hW4; clear hW4
    go_wp2_with fail
    clear x0 x1 x2 y0 y1 y2
    rw [← HW4.out]
    refine (eqTransfer_any _ _ 0 0 T _ (by omega) o4a.reads o2c.reads).mono ?_
    rintro e w5 ⟨rfl, b5⟩
    have c5 := bNext c4 b5
    have o2d := o2c.below b5
    have o3d := o3c.below b5
    have o4d := o4a.below b5
    have B2d := B2c.all b5
    have B4d := B4.all b5
    go_wp2_with fail
    refine (toIntS_any _ zs _ (by omega) (HR.out.below c5)).mono ?_
    rintro e w6 ⟨v6, rfl, o6, b6⟩
    have c6 := bNext c5 b6
    have o2e := o2d.below b6
    have o3e := o3d.below b6
    have o4e := o4d.below b6
    have B2e := B2d.all b6
    have B4e := B4d.all b6
    go_wp2_with fail
    refine (eqIntS_any _ _ zs zs _ (by omega) o3e.reads o6.reads).mono ?_
    rintro e w7 ⟨rfl, n7, rfl⟩
    go_wp2_with fail
    refine (markIntS_any _ zs _ _ _ (by omega) (by omega) (by omega) (o3e.any.drewN n7)).mono ?_
    rintro e w8 ⟨rfl, o3f, g8⟩
    have c8 := bNextA (bNextD c6 n7) (o3e.any.drewN n7) c2.size g8
    have hl3 : ∀ k, v3.ownBlock = some k → W2.heap.size ≤ k ∧ k < w3.heap.size := fun k hk => ownsRow_lt o3 hk
    have o2f := (o2e.any.drewN n7).kept g8 (OwnA.apart o2a.any o3.any (Nat.le_refl _))
    have o4f := (o4e.any.drewN n7).kept g8 (OwnA.apart' o3.any o4.any (Nat.le_refl _))
    have B2f := (B2e.drewN n7).kept g8 (fun k hk => by have := hl3 k hk; omega)
    have B4f := (B4e.drewN n7).kept g8 (fun k hk => by have := hl3 k hk; omega)
    have x0 := B2f.c0; have x1 := B2f.c1; have x2 := B2f.c2
    have y0 := B4f.c0; have y1 := B4f.c1; have y2 := B4f.c2
    go_wp2_with fail
    clear x0 x1 x2 y0 y1 y2
    refine (eqTransfer_any _ _ 0 0 T _ (by omega) o4f.reads o2f.reads).mono ?_
    rintro e w9 ⟨rfl, b9⟩
    have c9 := bNext c8 b9
    have o2g := o2f.below b9
    have o4g := o4f.below b9
    have B2g := B2f.all b9
    have B4g := B4f.all b9
    have y0 := B4g.c0; have y1 := B4g.c1; have y2 := B4g.c2
    go_wp2_with fail
    clear y0 y1 y2
    refine (markTransfer_any _ 0 0 1 T _ _ (by omega) (by omega) (by omega) o4g).mono ?_
    rintro e w10 ⟨rfl, o4h, g10⟩
    have c10 := bNextA c9 o4g c3.size g10
    have hl4 : ∀ k, (Value.slice a4 T.length cap4).ownBlock = some k → w3.heap.size ≤ k ∧ k < w4.heap.size := fun k hk => ownsRow_lt o4 hk
    have o2h := o2g.kept g10 (OwnA.apart o2b.any o4.any (Nat.le_refl _))
    have B2h := B2g.kept g10 (fun k hk => by have := hl4 k hk; omega)
    have B4h := B4g.kept g10 (fun k hk => by have := hl4 k hk; omega)
    have y0 := B4h.c0; have y1 := B4h.c1; have y2 := B4h.c2
    go_wp2_with fail
    clear y0 y1 y2
    refine (heldTransfer_any _ 0 0 1 T.length _ (by omega) (by omega) (by omega) o4h.reads).mono ?_
    rintro e w11 ⟨rfl, b11⟩
    have c11 := bNext c10 b11
    have o2i := o2h.below b11
    have o4i := o4h.below b11
    have B2i := B2h.all b11
    have B4i := B4h.all b11
    have hlt1 : decide (1 + (T.length : Int) < 0) = false := decide_eq_false (by omega)
    go_wp2_with fail
    refine (toIntS_any _ zs _ (by omega) (HR.out.below c11)).mono ?_
    rintro e w12 ⟨v12, rfl, o12, b12⟩
    have c12 := bNext c11 b12
    go_wp2_with fail
    refine (implTransferNew_any _ zs _ (by omega) o12.reads).mono ?_
    rw [← HT.out, ← HK.out]
    unfold trV
    rintro e w13 ⟨u13, rfl, o13, b13⟩
    obtain ⟨a13, cap13, rfl, -, -, -⟩ := o13.reads
    have hal := below_alloc w13 (.cells #[.slice a13 T.length cap13, .int .i64 0, .int .i64 0] 27)
    have c13 := bNext (bNext c12 b13) hal
    have o13a := o13.below hal
    have B13 := Blk3.new w13 (.slice a13 T.length cap13) (.int .i64 0) (.int .i64 0) 27
    have o2j := ((o2i.below b12).below b13).below hal
    have o4j := ((o4i.below b12).below b13).below hal
    have B2j := ((B2i.all b12).all b13).all hal
    have B4j := ((B4i.all b12).all b13).all hal
    clear hal
    have x0 := B2j.c0; have x1 := B2j.c1; have x2 := B2j.c2
    have y0 := B13.c0; have y1 := B13.c1; have y2 := B13.c2
    go_wp2_with fail
    clear x0 x1 x2 y0 y1 y2
    refine (eqTransfer_any _ _ 0 0 T _ (by omega) o13a.reads o2j.reads).mono ?_
    rintro e w14 ⟨rfl, b14⟩
    have c14 := bNext c13 b14
    have o4k := o4j.below b14
    have B4k := B4j.all b14
    have y0 := B4k.c0; have y1 := B4k.c1; have y2 := B4k.c2
    go_wp2_with fail
    clear y0 y1 y2
    refine (heldTransfer_any _ 0 0 1 T.length _ (by omega) (by omega) (by omega) o4k.reads).mono ?_
    rintro e w15 ⟨rfl, b15⟩
    go_wp2
    go_ret
    exact ⟨rfl, bNext c14 b15⟩
  · have hl' : decide ((1048576 : Int) < zs.length) = true := decide_eq_true (by omega)
    go_enter Try.func5, Try.ntmps5
    go_wp2
    go_ret
    exact ⟨rfl, Below.refl _ _⟩
end Go.Proofs.Ythcgpidlgcfbbaa
