/- The walks of FnSumsSet and FnSumsSetOrder. -/
import Derived.Test.YtjidmmjbgffapaaDrawSet
import Derived.Test.YtjidmmjbgffapaaWSums
namespace Go.Proofs.Ytjidmmjbgffapaa
open Go.RowKit
set_option linter.unusedVariables false
set_option linter.unusedSimpArgs false

theorem setM_cases (xs : List Int) (leaf value : Int) : setM xs leaf value = [] ∨ ∃ (l : Nat) (vs : List Int), leaf = l ∧ l < 16 ∧ vs.length = 16 ∧ (∀ z ∈ vs, 0 ≤ z ∧ z ≤ 990) ∧ xs = treeL vs ∧ 0 ≤ value ∧ value ≤ 990 ∧ setM xs leaf value = treeL (vs.set l value) := by
  by_cases hv : validM xs = true
  · by_cases hi : inB leaf 0 15 = true
    · obtain ⟨h31, h16, hr, he⟩ := validM_true hv
      obtain ⟨i0, i1⟩ := inB_true hi
      obtain ⟨l, rfl⟩ := Int.eq_ofNat_of_zero_le i0
      by_cases hvv : 0 ≤ value ∧ value ≤ 990
      · refine .inr ⟨l, xs.drop 15, rfl, by omega, h16, hr, he, hvv.1, hvv.2, ?_⟩
        rw [setM, hv, hi, Bool.and_self, if_pos rfl, Int.toNat_natCast, sumsM_good (by simpa using h16) (range_set hr hvv.1 hvv.2)]
      · refine .inl ?_
        rw [setM, hv, hi, Bool.and_self, if_pos rfl, Int.toNat_natCast]
        exact sumsM_bad fun h => hvv (h.2 value (mem_set_self (by omega) value))
    · exact .inl (by rw [setM, if_neg (by simp [hi])])
  · exact .inl (by rw [setM, if_neg (by simp [hv])])

set_option maxHeartbeats 1000000 in
theorem sumsSet_walk (v : Value) (zs : List Int) (w : World) (hr : RBytes w v zs) :
    Calls Try.prog 8 #[v] w fun e w' => e = .returned (.bool true) ∧ Below w.heap.size w w' := by
  obtain ⟨⟨a, cap, rfl, g1, g2, -⟩, -⟩ := id hr
  have HR := Lib.hid hr; clear hr
  obtain ⟨i0, hi0, hz0, hz1, hz2⟩ := info_parts infoInt
  by_cases hl : zs.length ≤ 1048576
  · go_enter Try.func8, Try.ntmps8
    go_wp2_with fail
    refine (drawSumsSet_any _ zs _ HR.out hl).mono ?_
    rintro e w1 ⟨u1, xs, leaf, value, rfl, o1, hxl, b1⟩
    go_wp2_with fail
    refine (implSumsSet_any _ xs _ _ _ (by omega) o1.reads).mono ?_
    rintro e w2 ⟨u2, rfl, o2, b2⟩
    have o1b := o1.below b2
    go_wp2_with fail
    refine (specSumsSet_any _ xs _ _ _ (by omega) o1b.reads).mono ?_
    rintro e w3 ⟨u3, rfl, o3, b3⟩
    have o1c := o1b.below b3
    have o2c := o2.below b3
    have c3 := bNext (bNext b1 b2) b3
    clear o1 o1b o2
    rcases setM_cases xs leaf value with hT | ⟨l, vs, rfl, hl16, hv16, hvr, hxs, hv0, hv1, hT⟩
    · rw [hT] at o2c o3
      clear hT
      obtain ⟨q2, cq2, rfl, -, -, -⟩ := o2c.reads
      go_wp2_with fail
      refine (sameInts_any _ _ [] [] _ (by simp) o2c.reads o3.reads).mono ?_
      rintro e w4 ⟨rfl, n4, rfl⟩
      go_wp2_with fail
      refine (sameInts_any _ _ [] [] _ (by simp) (o2c.drewN n4).reads (o3.drewN n4).reads).mono ?_
      rintro e w5 ⟨rfl, n5, rfl⟩
      go_wp2
      go_ret
      exact ⟨by simp, (by first | exact bNextD c3 _ | exact bNextD (bNextD c3 _) _)⟩
    · rw [hT] at o2c o3
      clear hT
      subst hxs
      obtain ⟨b2', off2, cq2, rfl, hq1, hq2, hR2, -⟩ := o2c.reads.shape (length_treeL _) (by omega)
      obtain ⟨b1', off1, cq1, rfl, hp1, hp2, hR1, -⟩ := o1c.reads.shape (length_treeL vs) (by omega)
      have hRd := hR1.drop (k := 15) (by simp)
      rw [treeL_drop vs hv16] at hRd
      have HD := Lib.hid hRd; clear hRd
      have H16 := Lib.hid hv16; clear hv16
      have HVR := Lib.hid (range_set hvr (l := l) hv0 hv1); clear hvr
      go_wp2_with fail
      refine (sameInts_any _ _ _ _ _ (by simp) hR2 o3.reads).mono ?_
      rintro e w4 ⟨rfl, n4, rfl⟩
      have c4 := bNextD c3 n4
      have hR24 := hR2.drewN n4
      have HD4 := HD.out.drewN n4
      obtain ⟨W4, hW4⟩ : ∃ W, W = w3.drewN n4 := ⟨_, rfl⟩
      rw [← hW4] at c4 hR24 HD4
      have hnews : ∀ o j u, (ints vs)[j]? = some u → (W4.alloc o).cell? ((⟨b1', off1 + 15, none⟩ : Addr).add j) = some u := by
        intro o j u hj
        obtain ⟨h1, h2⟩ := HD4.addr.2 j u hj
        rw [Addr.add_mid] at h2 ⊢
        rw [(below_alloc W4 o).cell (p := ⟨b1', off1 + 15 + j, none⟩) h1]; exact h2
      have HLEN : Hid ((ints vs).length = 16 * 1) := by unfold Hid; simp; exact H16.out
      rw [← hW4]
      clear hW4
      go_wp2_with (at_builtin; refine wpList_append_own _ rfl _ _ 22 rfl W4.heap.size 3 i0 (.int .i64 0) 1 8 Try.underlying22 hi0 hz0 hz1 hz2 rfl (by decide) _ 0 [] rfl (own_empty W4) ⟨b1', off1 + 15, none⟩ 16 (cq1 - 15) (ints vs) rfl HLEN.out (hnews _) (ints_oneCell _) ?c3 ?c4 ?c5 ?_)
      case c3 => simp; unfold maxLen; omega
      case c4 => simp
      case c5 => simp
      intro v' w5 hown hg _
      have o5 : OwnInts w5 W4.heap.size v' vs := own_append0 (m := 0) hown (by rw [H16.out])
      have b5 : Below W4.heap.size W4 w5 := (below_alloc W4 _).grown hg (by simp) (fun j hj => by cases hj; exact Nat.le_refl _)
      clear hown hg hnews
      have hR25 := hR24.below b5
      rcases ownsRow_shape o5 with ⟨_, h0⟩ | ⟨g, cap5, rfl, hB, hgl, hn, hc5⟩
      · rw [H16.out] at h0; omega
      · rw [H16.out] at hn ⊢
        have o5' := o5
        rw [H16.out] at o5'
        have hcj := OwnInts.cellAt o5' (j := l) (by rw [H16.out]; omega)
        have hfz := OwnInts.frozenAt o5' l
        have o6 := own_set o5' l value
        generalize vs[l]'(by rw [H16.out]; omega) = u at hcj
        have b6 : Below W4.heap.size w5 (w5.setCell ⟨g, l, none⟩ (.int .i64 value)) := (Below.refl _ _).setCell hB _
        have c6 := (bNext c4 b5).trans (b6.mono c4.size)
        have hR26 : RInts (w5.setCell ⟨g, l, none⟩ (.int .i64 value)) (.slice (some ⟨b2', off2, none⟩) 31 cq2) (treeL (vs.set l value)) := (hR24.below (b5.trans b6))
        clear o5 o5'
        go_wp2_with fail
        refine (implSumsOf_any _ (vs.set l value) _ (by simp; have := H16.out; omega) o6.reads).mono ?_
        rintro e w7 ⟨u7, rfl, o7, b7⟩
        rw [sumsM_good (by simp; exact H16.out) HVR.out] at o7
        have hR27 := hR26.below b7
        have c7 := bNext c6 b7
        go_wp2_with fail
        refine (sameInts_any _ _ (treeL (vs.set l value)) (treeL (vs.set l value)) _ (by simp) o7.reads hR27).mono ?_
        rintro e w8 ⟨rfl, n8, rfl⟩
        go_wp2
        go_ret
        exact ⟨by simp, bNextD c7 _⟩
  · have hl' : decide ((1048576 : Int) < zs.length) = true := by simp; omega
    go_enter Try.func8, Try.ntmps8
    go_wp2
    go_ret
    exact ⟨rfl, Below.refl _ _⟩

set_option maxHeartbeats 1000000 in
theorem sumsSetOrder_walk (v : Value) (zs : List Int) (v2 : Value) (zs2 : List Int) (w : World) (hr : RBytes w v zs) (hr2 : RBytes w v2 zs2) :
    Calls Try.prog 9 #[v, v2] w fun e w' => e = .returned (.bool true) ∧ Below w.heap.size w w' := by
  obtain ⟨⟨a, cap, rfl, g1, g2, -⟩, -⟩ := id hr
  obtain ⟨⟨a', cap', rfl, g1', g2', -⟩, -⟩ := hr2
  have HR := Lib.hid hr; clear hr
  by_cases hl : zs.length ≤ 1048576
  · by_cases hl2 : zs2.length ≤ 1048576
    · go_enter Try.func9, Try.ntmps9
      go_wp2_with fail
      refine (drawSumsSet_any _ zs _ HR.out hl).mono ?_
      rintro e w1 ⟨u1, xs, leaf, value, rfl, o1, hxl, b1⟩
      go_wp2_with fail
      refine (implSumsSet_any _ xs _ _ _ (by omega) o1.reads).mono ?_
      rintro e w2 ⟨u2, rfl, o2, b2⟩
      have o1b := o1.below b2
      go_wp2_with fail
      refine (specSumsSet_any _ xs _ _ _ (by omega) o1b.reads).mono ?_
      rintro e w3 ⟨u3, rfl, o3, b3⟩
      have o1c := o1b.below b3
      have o2c := o2.below b3
      have c3 := bNext (bNext b1 b2) b3
      clear o1 o1b o2
      rcases setM_cases xs leaf value with hT | ⟨l, vs, rfl, hl16, hv16, hvr, hxs, hv0, hv1, hT⟩
      · rw [hT] at o2c o3
        clear hT
        obtain ⟨q2, cq2, rfl, -, -, -⟩ := o2c.reads
        go_wp2_with fail
        refine (sameInts_any _ _ [] [] _ (by simp) o2c.reads o3.reads).mono ?_
        rintro e w4 ⟨rfl, n4, rfl⟩
        go_wp2_with fail
        refine (sameInts_any _ _ [] [] _ (by simp) (o2c.drewN n4).reads (o3.drewN n4).reads).mono ?_
        rintro e w5 ⟨rfl, n5, rfl⟩
        go_wp2
        go_ret
        exact ⟨by simp, (by first | exact bNextD c3 _ | exact bNextD (bNextD c3 _) _)⟩
      · rw [hT] at o2c o3
        clear hT
        subst hxs
        obtain ⟨b2', off2, cq2, rfl, hq1, hq2, hR2, -⟩ := o2c.reads.shape (length_treeL _) (by omega)
        obtain ⟨o, ho⟩ : ∃ o : Nat, o = (l + 1 + zs2.length % 15) % 16 := ⟨_, rfl⟩
        have ho16 : o < 16 := by omega
        have hol : o ≠ l := by omega
        have hoi : ((l : Int) + 1 + (zs2.length : Int) % 15) % 16 = o := by omega
        obtain ⟨y, hy⟩ : ∃ y : Int, y = (zs2.length : Int) % 991 := ⟨_, rfl⟩
        have hy0 : 0 ≤ y ∧ y ≤ 990 := by omega
        have e1 := setM_tree (xs := vs.set l value) (by simpa using hv16) (range_set hvr hv0 hv1) ho16 hy0.1 hy0.2
        have e2 := setM_tree hv16 hvr ho16 hy0.1 hy0.2
        have e3 := setM_tree (xs := vs.set o y) (by simpa using hv16) (range_set hvr hy0.1 hy0.2) hl16 hv0 hv1
        have e4 : (vs.set o y).set l value = (vs.set l value).set o y := List.set_comm _ _ hol
        rw [e4] at e3
        have HE := Lib.hid (And.intro e1 (And.intro e2 e3))
        have HOI := Lib.hid hoi
        have HY := Lib.hid hy
        have hne : (((l : Int) + 1 + (zs2.length : Int) % 15) % 16 == (l : Int)) = false := by rw [beq_eq_false_iff_ne, hoi]; omega
        clear e1 e2 e3 e4 hoi hy hvr hv16 ho
        go_wp2_with fail
        refine (sameInts_any _ _ _ _ _ (by simp) hR2 o3.reads).mono ?_
        rintro e w4 ⟨rfl, n4, rfl⟩
        have c4 := bNextD c3 n4
        go_wp2_with fail
        refine (implSumsSet_any _ (treeL (vs.set l value)) _ _ _ (by simp) (hR2.drewN n4)).mono ?_
        rintro e w5 ⟨u5, rfl, o5, b5⟩
        rw [HOI.out, ← HY.out, HE.out.1] at o5
        go_wp2_with fail
        refine (implSumsSet_any _ (treeL vs) _ _ _ (by simp) ((o1c.drewN n4).below b5).reads).mono ?_
        rintro e w6 ⟨u6, rfl, o6, b6⟩
        rw [HOI.out, ← HY.out, HE.out.2.1] at o6
        go_wp2_with fail
        refine (implSumsSet_any _ (treeL (vs.set o y)) _ _ _ (by simp) o6.reads).mono ?_
        rintro e w7 ⟨u7, rfl, o7, b7⟩
        rw [HE.out.2.2] at o7
        have o5c := (o5.below b6).below b7
        have c7 := bNext (bNext (bNext c4 b5) b6) b7
        go_wp2_with fail
        refine (sameInts_any _ _ _ _ _ (by simp) o5c.reads o7.reads).mono ?_
        rintro e w8 ⟨rfl, n8, rfl⟩
        go_wp2
        go_ret
        exact ⟨by simp, bNextD c7 _⟩
    · have hl2' : decide ((1048576 : Int) < zs2.length) = true := by simp; omega
      go_enter Try.func9, Try.ntmps9
      go_wp2
      go_ret
      exact ⟨rfl, Below.refl _ _⟩
  · have hl' : decide ((1048576 : Int) < zs.length) = true := by simp; omega
    go_enter Try.func9, Try.ntmps9
    go_wp2
    go_ret
    exact ⟨rfl, Below.refl _ _⟩
end Go.Proofs.Ytjidmmjbgffapaa
