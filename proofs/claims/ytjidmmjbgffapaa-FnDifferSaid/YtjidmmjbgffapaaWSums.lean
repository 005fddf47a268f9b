/- The walk of FnSums: the root changes with every leaf. -/
import Derived.Test.YtjidmmjbgffapaaDrawSums
import Derived.Test.YtjidmmjbgffapaaPath
import Derived.Test.YtjidmmjbgffapaaSame
namespace Go.Proofs.Ytjidmmjbgffapaa
open Go.RowKit
set_option linter.unusedVariables false
set_option linter.unusedSimpArgs false

/-- A drawn list of values: either its tree is empty, or it is a good one. -/
theorem sumsM_cases (xs : List Int) : sumsM xs = [] ∨ (xs.length = 16 ∧ (∀ z ∈ xs, 0 ≤ z ∧ z ≤ 990) ∧ sumsM xs = treeL xs) := by
  by_cases h : sumOkB xs = true
  · obtain ⟨h1, h2⟩ := sumOk_true h
    exact .inr ⟨h1, h2, sumsM_good h1 h2⟩
  · exact .inl (by rw [sumsM, if_neg h])

theorem setM_tree {xs : List Int} (h16 : xs.length = 16) (hx : ∀ z ∈ xs, 0 ≤ z ∧ z ≤ 990) {l : Nat} (hl : l < 16) {v : Int} (h0 : 0 ≤ v) (h1 : v ≤ 990) :
    setM (treeL xs) l v = treeL (xs.set l v) := by
  unfold setM
  rw [validM_tree h16 hx, inB_of (by omega), Bool.and_self, if_pos rfl, treeL_drop xs h16, Int.toNat_natCast, sumsM_good (by simpa using h16) (range_set hx h0 h1)]

set_option maxHeartbeats 1000000 in
theorem sums_walk (v : Value) (zs : List Int) (v2 : Value) (zs2 : List Int) (w : World) (hr : RBytes w v zs) (hr2 : RBytes w v2 zs2) :
    Calls Try.prog 4 #[v, v2] w fun e w' => e = .returned (.bool true) ∧ Below w.heap.size w w' := by
  obtain ⟨⟨a, cap, rfl, g1, g2, -⟩, -⟩ := id hr
  obtain ⟨⟨a', cap', rfl, g1', g2', -⟩, -⟩ := hr2
  have HR := Lib.hid hr; clear hr
  by_cases hl : zs.length ≤ 1048576
  · by_cases hl2 : zs2.length ≤ 1048576
    · go_enter Try.func4, Try.ntmps4
      go_wp2_with fail
      refine (drawSumsOf_any _ zs _ HR.out hl).mono ?_
      rintro e w1 ⟨u1, xs, rfl, o1, hxl, b1⟩
      go_wp2_with fail
      refine (implSumsOf_any _ xs _ (by omega) o1.reads).mono ?_
      rintro e w2 ⟨u2, rfl, o2, b2⟩
      have o1b := o1.below b2
      go_wp2_with fail
      refine (specSumsOf_any _ xs _ (by omega) o1b.reads).mono ?_
      rintro e w3 ⟨u3, rfl, o3, b3⟩
      have o1c := o1b.below b3
      have o2c := o2.below b3
      have c3 := bNext (bNext b1 b2) b3
      clear o1 o1b o2
      have hTl := length_sumsM xs
      rcases sumsM_cases xs with hT | ⟨h16, hx, hT⟩
      · rw [hT] at o2c o3
        clear hT hTl
        obtain ⟨q2, cq2, rfl, -, -, -⟩ := o2c.reads
        go_wp2_with fail
        refine (sameInts_any _ _ [] [] _ (by simp) o2c.reads o3.reads).mono ?_
        rintro e w4 ⟨rfl, n4, rfl⟩
        go_wp2_with fail
        refine (sameInts_any _ _ [] [] _ (by simp) (o2c.drewN n4).reads (o3.drewN n4).reads).mono ?_
        rintro e w5 ⟨rfl, n5, rfl⟩
        go_wp2
        go_ret
        exact ⟨by simp, (by first | exact bNextD c3 _ | exact bNextD (bNextD c3 _) _)⟩
      · rw [hT] at o2c o3
        clear hT hTl
        obtain ⟨b2', off2, cq2, rfl, hq1, hq2, hR2, hcell2⟩ := o2c.reads.shape (length_treeL xs) (by omega)
        obtain ⟨b1', off1, cq1, rfl, hp1, hp2, hR1, hcell1⟩ := o1c.reads.shape h16 (by omega)
        obtain ⟨hbl, hx0⟩ := hcell2 0 (by simp)
        rw [treeL_get] at hx0
        obtain ⟨l, hl'⟩ : ∃ l, l = zs2.length % 16 := ⟨_, rfl⟩
        have hll : l < 16 := by omega
        have hlm : (zs2.length : Int) % 16 = l := by omega
        obtain ⟨hbl1, hx1⟩ := hcell1 l (by omega)
        have hxr := hx _ (List.getElem_mem (show l < xs.length by omega))
        obtain ⟨z, hz⟩ : ∃ z, z = xs[l]'(by omega) := ⟨_, rfl⟩
        rw [← hz] at hx1 hxr
        obtain ⟨z0, z1⟩ := hxr
        obtain ⟨y, hy⟩ : ∃ y, y = (z + 1 + (zs.length : Int) % 990) % 991 := ⟨_, rfl⟩
        have hy0 : 0 ≤ y ∧ y ≤ 990 := by omega
        have hyz : y ≠ z := by omega
        have hset := setM_tree h16 hx hll hy0.1 hy0.2
        have hne := (tr_set h16 hx hll hy0.1 hy0.2 (by rw [← hz]; exact hyz) 31 0 rfl (by omega)).1 (ancB_root l)
        clear hcell1 hcell2 hx hl' hz o2c
        have H1 := Lib.hid h16; clear h16
        have H2 := Lib.hid hset; clear hset
        have H3 := Lib.hid hlm; clear hlm
        have H4 := Lib.hid hy
        have hyz' : (y == z) = false := by simp [hyz]
        have hl16 : (l : Int) < 16 := by omega
        have hm0 : 0 ≤ (zs.length : Int) % 990 := by omega
        have hm1 : (zs.length : Int) % 990 ≤ 989 := by omega
        clear hy
        go_wp2_with fail
        refine (sameInts_any _ _ (treeL xs) (treeL xs) _ (by simp) hR2 o3.reads).mono ?_
        rintro e w4 ⟨rfl, n4, rfl⟩
        have hlm := H3.out
        go_wp2_with fail
        refine (implSumsSet_any _ (treeL xs) _ _ _ (by simp) (hR2.drewN n4)).mono ?_
        rintro e w5 ⟨u5, rfl, o5, b5⟩
        have o5' : OwnA w5 w3.heap.size u5 (treeL (xs.set l y)) := by
          have e := H2.out
          first
            | (rw [H3.out, ← H4.out, e] at o5; exact o5)
            | (rw [← H4.out, e] at o5; exact o5)
            | (rw [e] at o5; exact o5)
        clear o5
        obtain ⟨b5', off5, cq5, rfl, -, -, -, hcell5⟩ := o5'.reads.shape (length_treeL _) (by omega)
        obtain ⟨-, hx5⟩ := hcell5 0 (by simp)
        rw [treeL_get] at hx5
        clear hcell5
        have hx1' : w5.cell? ⟨b1', off1 + l, none⟩ = some (.int .i64 z) := by
          rw [b5.cell (p := ⟨b1', off1 + l, none⟩) hbl1]; exact hx1
        have hx0' : w5.cell? ⟨b2', off2 + 0, none⟩ = some (.int .i64 (tr xs 0)) := by
          rw [b5.cell (p := ⟨b2', off2 + 0, none⟩) hbl]; exact hx0
        have c5 := bNext (bNextD c3 n4) b5
        have hnb : (tr (xs.set l y) 0 != tr xs 0) = true := by rw [bne_iff_ne]; exact hne
        generalize tr (xs.set l y) 0 = q at *
        generalize tr xs 0 = q' at *
        rw [Nat.add_zero] at hx5 hx0'
        have H5 := Lib.hid hne
        clear hne hx1 hx0
        have hcmp : ((z + 1 + (zs.length : Int) % 990) % 991 == z) = false := by rw [← H4.out]; exact hyz'
        go_wp2
        go_quiet (fail)
        go_wp2
        go_ret
        exact ⟨by simp, bNextD c5 _⟩
    · have hl2' : decide ((1048576 : Int) < zs2.length) = true := by simp; omega
      go_enter Try.func4, Try.ntmps4
      go_wp2
      go_ret
      exact ⟨rfl, Below.refl _ _⟩
  · have hl' : decide ((1048576 : Int) < zs.length) = true := by simp; omega
    go_enter Try.func4, Try.ntmps4
    go_wp2
    go_ret
    exact ⟨rfl, Below.refl _ _⟩
end Go.Proofs.Ytjidmmjbgffapaa
