/- What DrawTransferValid draws; the walk of FnTransferValid: the law returns true. -/
import Derived.Test.YthcgpidlgcfbbaaDrawTr
import Derived.Test.YthcgpidlgcfbbaaTrValid
namespace Go.Proofs.Ythcgpidlgcfbbaa
open Go.RowKit
set_option linter.unusedVariables false
set_option linter.unusedSimpArgs false

set_option maxHeartbeats 400000 in
theorem drawTransferValid_any (v : Value) (zs : List Int) (w : World) (hr : RBytes w v zs) (hl : zs.length ≤ 1048576) :
    Calls Try.prog 27 #[v] w fun e w' => ∃ u xs n k, e = .returned (trV u n k) ∧ OwnInts w' w.heap.size u xs ∧ xs.length ≤ 21 ∧ (-9 ≤ n ∧ n ≤ 99) ∧ (-9 ≤ k ∧ k ≤ 99) ∧ Below w.heap.size w w' := by
  obtain ⟨⟨a, cap, rfl, g1, g2, -⟩, -⟩ := id hr
  have HR := Lib.hid hr; clear hr
  have a0 := below_alloc w (.cells #[.slice none 0 0, .int .i64 0, .int .i64 0] 27)
  have B0 := Blk.new w #[.slice none 0 0, .int .i64 0, .int .i64 0] 27
  go_enter Try.func27, Try.ntmps27
  go_wp2_with fail
  refine (l6Open_any _ zs _ (HR.out.below a0) hl).mono ?_
  rintro e w1 ⟨b, rfl, hb, r1, b1⟩
  have B1 := B0.bl b1
  have c1 := bNext a0 b1
  simp only [World.size_alloc] at hb
  have hlt := r1.lt
  go_wp2_with fail
  refine (l92Transfer_any _ b 0 _ r1 (by omega)).mono ?_
  unfold trV
  rintro e w2 ⟨u, xs, n, k, rfl, o2, hl2, hn, hk, -, g2⟩
  obtain ⟨a2, q2, rfl, -, -, -⟩ := o2.reads
  have B2 := B1.gr g2 (fun j hj => by cases hj; omega)
  have c2 := bGr c1 g2 (fun j hj => by cases hj; omega)
  have h1 := c1.size
  obtain ⟨x0, x1, x2⟩ := B2.get3
  obtain ⟨f0, f1, f2⟩ := B2.fr3
  have hB := B1.lt
  go_wp2
  refine bodyPost_ret (results_cell_row rfl _ _ w.heap.size 27 #[.slice a2 xs.length q2, .int .i64 n, .int .i64 k] (0, 0) _ rfl (B2.put3 _ _ _).h Try.underlying27 rfl infoTr) rfl ⟨_, xs, n, k, rfl, (o2.p3 (by omega) _ _ _).base (by omega), hl2, hn, hk, bP3 c2 (Nat.le_refl _) _ _ _⟩

theorem validB_parts {n k : Int} {xs : List Int} (h : validB n k xs = true) : 0 ≤ k ∧ k ≤ n ∧ n ≤ xs.length ∧ xs.length ≤ 20 := by
  simp only [validB, Bool.and_eq_true] at h
  obtain ⟨⟨h1, h2⟩, h3⟩ := h
  have := itemsB_len h1
  have a := inB_true h2
  have b := inB_true h3
  omega

set_option maxHeartbeats 600000 in
theorem transferValid_walk (v : Value) (zs : List Int) (w : World) (hr : RBytes w v zs) :
    Calls Try.prog 6 #[v] w fun e w' => e = .returned (.bool true) ∧ Below w.heap.size w w' := by
  obtain ⟨⟨a, cap, rfl, g1, g2, -⟩, -⟩ := id hr
  have HR := Lib.hid hr; clear hr
  by_cases hl : zs.length ≤ 1048576
  · go_enter Try.func6, Try.ntmps6
    go_wp2_with fail
    refine (drawTransferValid_any _ zs _ HR.out hl).mono ?_
    unfold trV
    rintro e w1 ⟨u, xs, n, k, rfl, o1, hxl, hn, hk, b1⟩
    obtain ⟨a1, q1, rfl, -, -, -⟩ := o1.reads
    have B1 := Blk.new w1 #[.slice a1 xs.length q1, .int .i64 n, .int .i64 k] 27
    have c1 := bAl b1 (.cells #[.slice a1 xs.length q1, .int .i64 n, .int .i64 k] 27)
    have O1 := Lib.hid (o1.al (.cells #[.slice a1 xs.length q1, .int .i64 n, .int .i64 k] 27))
    clear o1
    cases hv : validB n k xs with
    | false =>
      have HV := Lib.hid hv; clear hv
      go_wp2_with fail
      refine (implTransferValid_any _ n k xs _ (by omega) O1.out.reads).mono ?_
      rw [HV.out]
      rintro e w2 ⟨rfl, b2⟩
      have B2 := B1.bl b2
      obtain ⟨x0, x1, x2⟩ := B2.get3
      go_wp2_with fail
      refine (specTransferValid_any _ n k xs _ (by omega) (O1.out.bl b2).reads).mono ?_
      rw [HV.out]
      rintro e w3 ⟨rfl, b3⟩
      clear x0 x1 x2
      have c3 := bNext (bNext c1 b2) b3
      go_wp2
      go_ret
      exact ⟨rfl, c3⟩
    | true =>
      obtain ⟨k0, k1, n1, l1⟩ := validB_parts hv
      have HV := Lib.hid hv; clear hv
      go_wp2_with fail
      refine (implTransferValid_any _ n k xs _ (by omega) O1.out.reads).mono ?_
      rw [HV.out]
      rintro e w2 ⟨rfl, b2⟩
      have B2 := B1.bl b2
      obtain ⟨x0, x1, x2⟩ := B2.get3
      go_wp2_with fail
      refine (specTransferValid_any _ n k xs _ (by omega) (O1.out.bl b2).reads).mono ?_
      rw [HV.out]
      rintro e w3 ⟨rfl, b3⟩
      clear x0 x1 x2
      have c3 := bNext (bNext c1 b2) b3
      have B3 := B2.bl b3
      obtain ⟨x0, x1, x2⟩ := B3.get3
      go_wp2
      go_ret
      exact ⟨by simp; omega, c3⟩
  · have hl' : decide ((1048576 : Int) < zs.length) = true := decide_eq_true (by omega)
    go_enter Try.func6, Try.ntmps6
    go_wp2
    go_ret
    exact ⟨rfl, Below.refl _ _⟩
end Go.Proofs.Ythcgpidlgcfbbaa
