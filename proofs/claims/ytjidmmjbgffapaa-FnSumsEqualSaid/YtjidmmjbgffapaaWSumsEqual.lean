/- The walk of FnSumsEqual: equal leaves give equal sums. -/
import Derived.Test.YtjidmmjbgffapaaWSums
namespace Go.Proofs.Ytjidmmjbgffapaa
open Go.RowKit
set_option linter.unusedVariables false
set_option linter.unusedSimpArgs false

set_option maxHeartbeats 1000000 in
theorem sumsEqual_walk (v : Value) (zs : List Int) (v2 : Value) (zs2 : List Int) (w : World) (hr : RBytes w v zs) (hr2 : RBytes w v2 zs2) :
    Calls Try.prog 5 #[v, v2] w fun e w' => e = .returned (.bool true) ∧ Below w.heap.size w w' := by
  obtain ⟨⟨a, cap, rfl, g1, g2, -⟩, -⟩ := id hr
  obtain ⟨⟨a', cap', rfl, g1', g2', -⟩, -⟩ := hr2
  have HR := Lib.hid hr; clear hr
  by_cases hl : zs.length ≤ 1048576
  · by_cases hl2 : zs2.length ≤ 1048576
    · go_enter Try.func5, Try.ntmps5
      go_wp2_with fail
      refine (drawSumsOf_any _ zs _ HR.out hl).mono ?_
      rintro e w1 ⟨u1, xs, rfl, o1, hxl, b1⟩
      go_wp2_with fail
      refine (implSumsOf_any _ xs _ (by omega) o1.reads).mono ?_
      rintro e w2 ⟨u2, rfl, o2, b2⟩
      have o1b := o1.below b2
      go_wp2_with fail
      refine (specSumsOf_any _ xs _ (by omega) o1b.reads).mono ?_
      rintro e w3 ⟨u3, rfl, o3, b3⟩
      have o1c := o1b.below b3
      have o2c := o2.below b3
      have c3 := bNext (bNext b1 b2) b3
      clear o1 o1b o2
      have hTl := length_sumsM xs
      rcases sumsM_cases xs with hT | ⟨h16, hx, hT⟩
      · rw [hT] at o2c o3
        clear hT hTl
        obtain ⟨q2, cq2, rfl, -, -, -⟩ := o2c.reads
        go_wp2_with fail
        refine (sameInts_any _ _ [] [] _ (by simp) o2c.reads o3.reads).mono ?_
        rintro e w4 ⟨rfl, n4, rfl⟩
        go_wp2_with fail
        refine (sameInts_any _ _ [] [] _ (by simp) (o2c.drewN n4).reads (o3.drewN n4).reads).mono ?_
        rintro e w5 ⟨rfl, n5, rfl⟩
        go_wp2
        go_ret
        exact ⟨by simp, (by first | exact bNextD c3 _ | exact bNextD (bNextD c3 _) _)⟩
      · rw [hT] at o2c o3
        clear hT hTl
        obtain ⟨b2', off2, cq2, rfl, hq1, hq2, hR2, -⟩ := o2c.reads.shape (length_treeL xs) (by omega)
        obtain ⟨b1', off1, cq1, rfl, hp1, hp2, hR1, hcell1⟩ := o1c.reads.shape h16 (by omega)
        have hRd := hR2.drop (k := 15) (by simp)
        rw [treeL_drop xs h16] at hRd
        obtain ⟨l, hl'⟩ : ∃ l, l = zs2.length % 16 := ⟨_, rfl⟩
        have hll : l < 16 := by omega
        have hlm : (zs2.length : Int) % 16 = l := by omega
        obtain ⟨hbl1, hx1⟩ := hcell1 l (by omega)
        have hxr := hx _ (List.getElem_mem (show l < xs.length by omega))
        obtain ⟨z, hz⟩ : ∃ z, z = xs[l]'(by omega) := ⟨_, rfl⟩
        have hself : xs.set l z = xs := by rw [hz]; exact List.set_getElem_self _
        rw [← hz] at hx1 hxr
        have hset := setM_tree h16 hx hll hxr.1 hxr.2
        rw [hself] at hset
        clear hcell1 hx hl' hz o2c hself
        have H1 := Lib.hid h16; clear h16
        have H2 := Lib.hid hset; clear hset
        have HD := Lib.hid hRd; clear hRd
        have hl16 : (l : Int) < 16 := by omega
        go_wp2_with fail
        refine (sameInts_any _ _ (treeL xs) (treeL xs) _ (by simp) hR2 o3.reads).mono ?_
        rintro e w4 ⟨rfl, n4, rfl⟩
        have c4 := bNextD c3 n4
        go_wp2_with fail
        refine (sameInts_any _ _ xs xs _ (by omega) (HD.out.drewN n4) (hR1.drewN n4)).mono ?_
        rintro e w5 ⟨rfl, n5, rfl⟩
        have c5 := bNextD c4 n5
        have hx1' : ((w3.drewN n4).drewN n5).cell? ⟨b1', off1 + l, none⟩ = some (.int .i64 z) := hx1
        go_wp2_with fail
        refine (implSumsSet_any _ (treeL xs) _ _ _ (by simp) (hR2.drewN _)).mono ?_
        rintro e w6 ⟨u6, rfl, o6, b6⟩
        have o6' : OwnA w6 w3.heap.size u6 (treeL xs) := by
          have e := H2.out
          first
            | (rw [hlm, e] at o6; exact o6)
            | (rw [e] at o6; exact o6)
        clear o6
        have hR26 := (hR2.below (w' := w6) ⟨b6.os, b6.tape, b6.output, b6.size, fun k hk => b6.block k hk⟩)
        go_wp2_with fail
        refine (sameInts_any _ _ (treeL xs) (treeL xs) _ (by simp) o6'.reads hR26).mono ?_
        rintro e w7 ⟨rfl, n7, rfl⟩
        go_wp2
        go_ret
        exact ⟨by simp, bNextD (c3.trans ⟨b6.os, b6.tape, b6.output, b6.size, fun k hk => b6.block k (Nat.lt_of_lt_of_le hk c3.size)⟩) _⟩
    · have hl2' : decide ((1048576 : Int) < zs2.length) = true := by simp; omega
      go_enter Try.func5, Try.ntmps5
      go_wp2
      go_ret
      exact ⟨rfl, Below.refl _ _⟩
  · have hl' : decide ((1048576 : Int) < zs.length) = true := by simp; omega
    go_enter Try.func5, Try.ntmps5
    go_wp2
    go_ret
    exact ⟨rfl, Below.refl _ _⟩
end Go.Proofs.Ytjidmmjbgffapaa
