/- The walk of FnDifferFew. -/
import Derived.Test.YtjidmmjbgffapaaDiffFacts
import Derived.Test.YtjidmmjbgffapaaDrawDiffer
import Derived.Test.YtjidmmjbgffapaaImplDiffer
import Derived.Test.YtjidmmjbgffapaaWSumsSet
import Derived.BigQuiet
namespace Go.Proofs.Ytjidmmjbgffapaa
open Go.RowKit
set_option linter.unusedVariables false
set_option linter.unusedSimpArgs false

set_option maxHeartbeats 600000 in
theorem differFew_walk (v : Value) (zs : List Int) (w : World) (hr : RBytes w v zs) :
    Calls Try.prog 12 #[v] w fun e w' => e = .returned (.bool true) ∧ Below w.heap.size w w' := by
  obtain ⟨⟨a, cap, rfl, g1, g2, -⟩, -⟩ := id hr
  have HR := Lib.hid hr; clear hr
  by_cases hl : zs.length ≤ 1048576
  · go_enter Try.func12, Try.ntmps12
    go_wp2_with fail
    refine (drawSumsDiffer_any _ zs _ HR.out hl).mono ?_
    rintro e w1 ⟨u1, u2, xs, ys, rfl, o1, o2, hxl, hyl, b1⟩
    go_wp2_with fail
    refine (implSumsDiffer_any _ _ xs ys _ (by omega) (by omega) o1.reads o2.reads).mono ?_
    rintro e w2 ⟨u3, rfl, o3, b3⟩
    have o1b := o1.below b3
    have o2b := o2.below b3
    go_wp2_with fail
    refine (specSumsDiffer_any _ _ xs ys _ (by omega) (by omega) o1b.reads o2b.reads).mono ?_
    rintro e w3 ⟨u4, rfl, o4, b4⟩
    have o1c := o1b.below b4
    have o2c := o2b.below b4
    have o3c := o3.below b4
    have c3 := bNext (bNext b1 b3) b4
    clear o1 o2 o1b o2b o3
    rcases diffM_cases xs ys with hT | ⟨hx, hy⟩
    · rw [hT] at o3c o4 ⊢
      clear hT
      go_wp2_with fail
      refine (sameInts_any _ _ [] [] _ (by simp) o3c.reads o4.reads).mono ?_
      rintro e w4 ⟨rfl, n4, rfl⟩
      go_wp2_with fail
      refine (sameInts_any _ _ [] [] _ (by simp) (o3c.drewN n4).reads (o4.drewN n4).reads).mono ?_
      rintro e w5 ⟨rfl, n5, rfl⟩
      go_wp2
      go_ret
      exact ⟨by simp, (by first | exact bNextD c3 _ | exact bNextD (bNextD c3 _) _)⟩
    · have hE := diffM_good hx hy
      have hT31 : (diffL xs ys).length ≤ 31 := by have := lvsTo_le (dif xs ys) 31; unfold diffL; omega
      have hN31 : 0 ≤ diffN xs ys ∧ diffN xs ys ≤ 31 := by have := cntTo_le (dif xs ys) 31; unfold diffN; omega
      rw [hE] at o3c o4 ⊢
      have hx31 := (validM_true hx).1
      have hy31 := (validM_true hy).1
      obtain ⟨b1', off1, cq1, rfl, hp1, hp2, hR1, hcell1⟩ := o1c.reads.shape hx31 (by omega)
      obtain ⟨b2', off2, cq2, rfl, hq1, hq2, hR2, hcell2⟩ := o2c.reads.shape hy31 (by omega)
      have hc1 : ∀ i, i < 31 → w3.cell? ⟨b1', off1 + i, none⟩ = some (.int .i64 (xs.getD i 0)) := fun i hi => by rw [(hcell1 i (by omega)).2, List.getD_eq_getElem?_getD, List.getElem?_eq_getElem (by omega)]; rfl
      have hc2 : ∀ i, i < 31 → w3.cell? ⟨b2', off2 + i, none⟩ = some (.int .i64 (ys.getD i 0)) := fun i hi => by rw [(hcell2 i (by omega)).2, List.getD_eq_getElem?_getD, List.getElem?_eq_getElem (by omega)]; rfl
      have hdif : ∀ i, dif xs ys i = !decide (xs.getD i 0 = ys.getD i 0) := fun i => rfl
      clear hcell1 hcell2 o1c o2c hxl hyl hx31 hy31 hE hR1 hR2
      have hF : cntTo (dif xs ys) 31 ≤ 1 + 8 * dTo (dif xs ys) 31 ∧ (lvsTo (dif xs ys) 31).length ≤ dTo (dif xs ys) 31 := ⟨cnt_few (dif_tree hx hy), lvs_few _ _⟩
      unfold diffL diffN at *
      generalize lvsTo (dif xs ys) 31 = T at *
      generalize cntTo (dif xs ys) 31 = N at *
      obtain ⟨d, hd⟩ : ∃ d, d = dif xs ys := ⟨_, rfl⟩
      rw [← hd] at hF hdif
      obtain ⟨f, hf⟩ : ∃ f : Nat → Int, f = fun i => xs.getD i 0 := ⟨_, rfl⟩
      obtain ⟨g, hg⟩ : ∃ g : Nat → Int, g = fun i => ys.getD i 0 := ⟨_, rfl⟩
      have hc1' : ∀ i, i < 31 → w3.cell? ⟨b1', off1 + i, none⟩ = some (.int .i64 (f i)) := by rw [hf]; exact hc1
      have hc2' : ∀ i, i < 31 → w3.cell? ⟨b2', off2 + i, none⟩ = some (.int .i64 (g i)) := by rw [hg]; exact hc2
      have hdif' : ∀ i, d i = !decide (f i = g i) := by rw [hf, hg]; exact hdif
      have HF := Lib.hid hc1'
      have HG := Lib.hid hc2'
      have HD := Lib.hid hdif'
      have HE := Lib.hid hF
      obtain ⟨hN0, hN1⟩ := hN31
      have hlt : decide ((N : Int) < 0) = false := decide_eq_false (by omega)
      obtain ⟨qa, qc, rfl, -, -, -⟩ := o3c.reads
      clear hx hy hc1 hc2 hdif hd hf hg hc1' hc2' hdif' hF
      go_wp2_with fail
      refine (sameInts_any _ _ T T _ (by omega) o3c.reads o4.reads).mono ?_
      rintro e w4 ⟨rfl, n4, rfl⟩
      have c4 := bNextD c3 n4
      clear o3c o4
      go_wp2
      go_loopw [9, 10] (fun n i wr => ∃ j : Nat, 15 ≤ j ∧ j ≤ 31 ∧ i = .int .i64 j ∧ n = .int .i64 (dTo d j : Nat) ∧ ∃ m, wr = w3.drewN m) (fun _ i _ => 31 - (intOf i).toNat)
      case atStart => exact ⟨15, by omega, by omega, rfl, by rw [dTo_low]; rfl, n4, rfl⟩
      case round =>
        obtain ⟨j, hj0, hj, rfl, rfl, m0, rfl⟩ := hrel
        have hpl := dTo_le d j
        by_cases hlt2 : j < 31
        · have hc1 := HF.out j hlt2
          have hc2 := HG.out j hlt2
          have HS : Hid (dTo d (j + 1) = dTo d j + if 15 ≤ j ∧ d j = true then 1 else 0) := Lib.hid rfl
          have HD' := Lib.hid (HD.out j)
          obtain ⟨x, hx⟩ : ∃ x, x = f j := ⟨_, rfl⟩
          obtain ⟨y, hy⟩ : ∃ y, y = g j := ⟨_, rfl⟩
          rw [← hx] at hc1 HD'
          rw [← hy] at hc2 HD'
          clear hx hy
          by_cases hxy : x = y
          · have hxy' : (x != y) = false := by simp [hxy]
            have HQ := Lib.hid hxy; clear hxy
            go_wp2
            go_quiet (fail)
            go_wp2
            go_roundw
            case rel => exact ⟨j + 1, by omega, by omega, by go_num, val_int (by rw [HS.out, if_neg (by rw [HD'.out, HQ.out]; simp)]; rfl), (by first | exact ⟨_, rfl⟩ | exact draws_two _ _ _)⟩
            case measure => simp [intOf]; omega
          · have hxy' : (x != y) = true := by simp [hxy]
            go_wp2
            go_quiet (fail)
            go_wp2
            go_roundw
            case rel => exact ⟨j + 1, by omega, by omega, by go_num, val_int (by rw [HS.out, if_pos (by rw [HD'.out]; simp [hxy]; omega)]; go_num), (by first | exact ⟨_, rfl⟩ | exact draws_two _ _ _)⟩
            case measure => simp [intOf]; omega
        · obtain rfl : j = 31 := by omega
          obtain ⟨hE1, hE2⟩ := HE.out
          generalize dTo d 31 = q at *
          have e1 : decide ((N : Int) ≤ 1 + 8 * q) = true := decide_eq_true (by omega)
          have e2 : decide ((N : Int) ≤ 31) = true := decide_eq_true (by omega)
          have e3 : decide ((T.length : Int) ≤ q) = true := decide_eq_true (by omega)
          go_wp2
          go_ret
          exact ⟨by simp [*], (by first | exact bNextD c4 _ | exact ⟨c4.os, c4.tape, c4.output, c4.size, c4.block⟩)⟩
  · have hl' : decide ((1048576 : Int) < zs.length) = true := decide_eq_true (by omega)
    go_enter Try.func12, Try.ntmps12
    go_wp2
    go_ret
    exact ⟨rfl, Below.refl _ _⟩
end Go.Proofs.Ytjidmmjbgffapaa
