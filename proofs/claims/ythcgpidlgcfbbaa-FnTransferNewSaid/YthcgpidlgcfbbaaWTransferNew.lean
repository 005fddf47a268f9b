/- The walk of FnTransferNew: the law returns true. -/
import Derived.Test.YthcgpidlgcfbbaaTrValid
import Derived.Test.YthcgpidlgcfbbaaWExactTransferNew
namespace Go.Proofs.Ythcgpidlgcfbbaa
open Go.RowKit
set_option linter.unusedVariables false
set_option linter.unusedSimpArgs false

set_option maxHeartbeats 600000 in
theorem transferNew_walk (v : Value) (zs : List Int) (w : World) (hr : RBytes w v zs) :
    Calls Try.prog 4 #[v] w fun e w' => e = .returned (.bool true) ∧ Below w.heap.size w w' := by
  obtain ⟨⟨a, cap, rfl, g1, g2, -⟩, -⟩ := id hr
  have HR := Lib.hid hr; clear hr
  by_cases hl : zs.length ≤ 1048576
  · go_enter Try.func4, Try.ntmps4
    go_wp2_with fail
    refine (drawTransferNew_any _ zs _ HR.out hl).mono ?_
    rintro e w1 ⟨u1, xs, rfl, o1, hxl, b1⟩
    have HU : Hid (itemsB xs = true → newL xs = xs) := Lib.hid (fun h => by rw [newL, h]; rfl)
    have HV : Hid (itemsB xs = true → validB 0 0 xs = true) := Lib.hid (fun h => by rw [validB, h, inB_of (by omega), inB_of (by omega)]; rfl)
    obtain ⟨T, hT⟩ : ∃ T, T = newL xs := ⟨_, rfl⟩
    have hTl : T.length ≤ 21 := by rw [hT]; exact Nat.le_trans (length_newL xs) hxl
    have HT := Lib.hid hT; clear hT
    go_wp2_with fail
    refine (implTransferNew_any _ xs _ (by omega) o1.reads).mono ?_
    rw [← HT.out]
    unfold trV
    rintro e w2 ⟨u2, rfl, o2, b2⟩
    obtain ⟨a2, cap2, rfl, -, -, -⟩ := o2.reads
    have hal2 := below_alloc w2 (.cells #[.slice a2 T.length cap2, .int .i64 0, .int .i64 0] 27)
    have c2 := bNext (bNext b1 b2) hal2
    have o1a := (o1.below b2).below hal2
    have o2a := o2.below hal2
    have B2 := Blk3.new w2 (.slice a2 T.length cap2) (.int .i64 0) (.int .i64 0) 27
    clear hal2
    go_wp2_with fail
    refine (specTransferNew_any _ xs _ _ (by omega) o1a).mono ?_
    rw [← HT.out]
    unfold trV
    rintro e w3 ⟨u3, rfl, o3, b3⟩
    obtain ⟨a3, cap3, rfl, -, -, -⟩ := o3.reads
    have hal3 := below_alloc w3 (.cells #[.slice a3 T.length cap3, .int .i64 0, .int .i64 0] 27)
    have c3 := bNext (bNext c2 b3) hal3
    have o1b := (o1a.below b3).below hal3
    have o2b := (o2a.below b3).below hal3
    have o3b := o3.below hal3
    have B2b := (B2.all b3).all hal3
    have B3b := Blk3.new w3 (.slice a3 T.length cap3) (.int .i64 0) (.int .i64 0) 27
    clear hal3
    have x0 := B2b.c0; have x1 := B2b.c1; have x2 := B2b.c2
    have y0 := B3b.c0; have y1 := B3b.c1; have y2 := B3b.c2
    cases hk : itemsB xs with
    | false =>
      have HK := Lib.hid hk; clear hk
      go_wp2_with fail
      clear x0 x1 x2 y0 y1 y2
      refine (sameTransfer_any _ _ 0 0 T _ (by omega) o2b.reads o3b.reads).mono ?_
      rintro e w4 ⟨rfl, b4⟩
      have c4 := bNext c3 b4
      have o2c := o2b.below b4
      have o3c := o3b.below b4
      have B2c := B2b.all b4
      have B3c := B3b.all b4
      have x0 := B2c.c0; have x1 := B2c.c1; have x2 := B2c.c2
      have y0 := B3c.c0; have y1 := B3c.c1; have y2 := B3c.c2
      go_wp2_with fail
      clear x0 x1 x2 y0 y1 y2
      refine (sameTransfer_any _ _ 0 0 T _ (by omega) o2c.reads o3c.reads).mono ?_
      rintro e w5 ⟨rfl, b5⟩
      go_wp2
      go_ret
      exact ⟨rfl, bNext c4 b5⟩
    | true =>
      have HTx : Hid (T = xs) := Lib.hid (by rw [HT.out]; exact HU.out hk)
      have HVv := Lib.hid (HV.out hk)
      have HK := Lib.hid hk; clear hk
      go_wp2_with fail
      clear x0 x1 x2 y0 y1 y2
      refine (sameTransfer_any _ _ 0 0 T _ (by omega) o2b.reads o3b.reads).mono ?_
      rintro e w4 ⟨rfl, b4⟩
      have c4 := bNext c3 b4
      have o1c := o1b.below b4
      have o2c := o2b.below b4
      have B2c := B2b.all b4
      have x0 := B2c.c0; have x1 := B2c.c1; have x2 := B2c.c2
      go_wp2_with fail
      clear x0 x1 x2
      refine (implTransferValid_any _ 0 0 T _ (by omega) o2c.reads).mono ?_
      rw [show validB 0 0 T = true by rw [HTx.out]; exact HVv.out]
      rintro e w5 ⟨rfl, b5⟩
      have c5 := bNext c4 b5
      have o1d := o1c.below b5
      have o2d := o2c.below b5
      have B2d := B2c.all b5
      have x0 := B2d.c0; have x1 := B2d.c1; have x2 := B2d.c2
      go_wp2_with fail
      clear x0 x1 x2
      refine (sameInts_any _ _ T xs _ (by omega) o2d.reads o1d.reads).mono ?_
      rw [HTx.out]
      rintro e w6 ⟨rfl, n6, rfl⟩
      go_wp2
      go_ret
      exact ⟨by simp, bNextD c5 _⟩
  · have hl' : decide ((1048576 : Int) < zs.length) = true := decide_eq_true (by omega)
    go_enter Try.func4, Try.ntmps4
    go_wp2
    go_ret
    exact ⟨rfl, Below.refl _ _⟩
end Go.Proofs.Ythcgpidlgcfbbaa
