/- impl.SumsOf, slices.Equal at []int, validSums, SumsSet. -/
import Derived.Test.YtjidmmjbgffapaaSumW
import Derived.Test.YtjidmmjbgffapaaClone
import Derived.Test.YtjidmmjbgffapaaFind
namespace Go.Proofs.Ytjidmmjbgffapaa
open Go.RowKit
set_option linter.unusedVariables false
set_option linter.unusedSimpArgs false

theorem says1 : Says 32 (fun n => !inB n 0 990) := ⟨enters_of Try.func32 (by kernel_rfl) rfl, sumsOf1_any⟩

theorem any_bad {zs : List Int} (h : (zs.any fun n => !inB n 0 990) = false) : ∀ z ∈ zs, 0 ≤ z ∧ z ≤ 990 := by
  intro z hz
  have := List.any_eq_false.1 h z hz
  simp at this
  exact inB_true this
theorem any_bad' {zs : List Int} (h : (zs.any fun n => !inB n 0 990) = true) : ¬ ∀ z ∈ zs, 0 ≤ z ∧ z ≤ 990 := by
  intro hall
  obtain ⟨z, hz, hb⟩ := List.any_eq_true.1 h
  simp at hb
  exact inB_false hb (hall z hz)

theorem sumsM_bad {zs : List Int} (h : ¬ (zs.length = 16 ∧ ∀ z ∈ zs, 0 ≤ z ∧ z ≤ 990)) : sumsM zs = [] := by
  unfold sumsM
  rw [if_neg]
  intro hb
  exact h (sumOk_true hb)
theorem sumsM_good {zs : List Int} (h : zs.length = 16) (h' : ∀ z ∈ zs, 0 ≤ z ∧ z ≤ 990) : sumsM zs = treeL zs := by
  unfold sumsM; rw [if_pos (sumOk_of h h')]

set_option maxHeartbeats 2000000 in
theorem implSumsOf_any (v : Value) (zs : List Int) (w : World) (hl : zs.length ≤ 4194304) (hr : RInts w v zs) :
    Calls Try.prog 17 #[v] w fun e w' => ∃ u, e = .returned u ∧ OwnA w' w.heap.size u (sumsM zs) ∧ Below w.heap.size w w' := by
  obtain ⟨a, cap, rfl, hc, hm, _⟩ := id hr
  have HR := Lib.hid hr; clear hr
  by_cases h16 : zs.length = 16
  · have hne : ((zs.length : Int) != 16) = false := by simp; omega
    have H16 := Lib.hid h16; clear h16
    cases hbad : zs.any (fun n => !inB n 0 990) with
    | true =>
      have HB := Lib.hid hbad; clear hbad
      go_enter Try.func17, Try.ntmps17
      go_wp2_with fail
      refine (containsFunc_any _ _ says1 _ zs _ hl HR.out).mono ?_
      rw [HB.out]
      rintro e w' ⟨rfl, rfl⟩
      go_wp2
      go_ret
      exact ⟨_, rfl, by rw [sumsM_bad (fun h => any_bad' HB.out h.2)]; exact OwnA.nil _ _, Below.refl _ _⟩
    | false =>
      have hz := any_bad hbad
      have HB := Lib.hid hbad; clear hbad
      have HZ := Lib.hid hz; clear hz
      go_enter Try.func17, Try.ntmps17
      go_wp2_with fail
      refine (containsFunc_any _ _ says1 _ zs _ hl HR.out).mono ?_
      rw [HB.out]
      rintro e w' ⟨rfl, rfl⟩
      go_wp2_with fail
      rw [H16.out]
      have hr16 := HR.out
      rw [H16.out] at hr16
      refine (treeOf_any a cap zs _ H16.out HZ.out hr16).mono ?_
      rintro e w1 ⟨rfl, hb1⟩
      have HS : Hid ((Try.prog.info? 43).map (·.size) = some (ints (treeL zs)).toArray.size) := by unfold Hid; simp; exact infoTree'
      have HZZ : Hid (zeros31.toArray.size = (ints (treeL zs)).toArray.size) := by unfold Hid; simp [zeros31]
      have HALL : Hid ((ints (treeL zs)).toArray.all (·.oneCell') = true) := by
        unfold Hid
        rw [Array.all_eq_true_iff_forall_mem]
        intro v hv
        exact ints_oneCell _ v (by simpa using hv)
      go_wp2_with (refine wpList_store_row (o := ⟨none, .store _ _ _, _, _, _, _⟩) rfl 43 (.tmp 3) (.tmp 12) rfl w1.heap.size (ints (treeL zs)).toArray rfl rfl 43 zeros31.toArray (heap_alloc_new w1 (.cells zeros31.toArray 43)) HS.out HZZ.out HALL.out ?_)
      go_ret
      refine ⟨_, rfl, ?_, ?_⟩
      · rw [sumsM_good H16.out HZ.out]
        refine ⟨43, by simp, .inr ⟨w1.heap.size, 31, (ints (treeL zs)).toArray, by simp, hb1.size, setRow_heap _ _ _ _ _ _ (heap_alloc_new w1 (.cells zeros31.toArray 43)), by simp, by unfold maxLen; omega, by simp, ?_⟩⟩
        rw [List.take_of_length_le (by simp)]
      · exact below_setRow (hb1.alloc hb1.size _) hb1.size _
  · have hne : ((zs.length : Int) != 16) = true := by simp; omega
    go_enter Try.func17, Try.ntmps17
    go_wp2
    go_ret
    exact ⟨_, rfl, by rw [sumsM_bad (fun h => h16 h.1)]; exact OwnA.nil _ _, Below.refl _ _⟩

set_option maxHeartbeats 1000000 in
theorem equal_any (v1 v2 : Value) (xs ys : List Int) (w : World) (hl1 : xs.length ≤ 4194304) (hr1 : RInts w v1 xs) (hr2 : RInts w v2 ys) :
    Calls Try.prog 47 #[v1, v2] w fun e w' => e = .returned (.bool (decide (xs = ys))) ∧ ∃ n, w' = w.drewN n := by
  obtain ⟨a, cap, rfl, hc, hm, hcell⟩ := hr1
  obtain ⟨a2, cap2, rfl, hc2, hm2, hcell2⟩ := hr2
  by_cases hne : xs.length = ys.length
  · have hlen2 : ys.length ≤ 4194304 := by omega
    have hne' : ((xs.length : Int) != ys.length) = false := by simp [hne]
    have HN := Lib.hid hne; clear hne
    go_enter Try.func47, Try.ntmps47
    go_wp2
    go_loopw [5, 13] (fun _ i wr => ∃ j : Nat, j ≤ xs.length ∧ i = .int .i64 j ∧ Hid (xs.take j = ys.take j) ∧ ∃ m, wr = w.drewN m) (fun _ i _ => xs.length - (intOf i).toNat)
    case atStart => exact ⟨0, Nat.zero_le _, rfl, by simp [Hid], 0, rfl⟩
    case round =>
      obtain ⟨j, hj, rfl, hH, m0, rfl⟩ := hrel
      by_cases hlt : j < xs.length
      · have hlt2 : j < ys.length := by have := HN.out; omega
        obtain ⟨b, off, rfl, hb, hcj⟩ := hcell j hlt
        obtain ⟨b2, off2, rfl, hb2, hcj2⟩ := hcell2 j hlt2
        obtain ⟨x, hx⟩ : ∃ x, x = xs[j] := ⟨_, rfl⟩
        obtain ⟨y, hy⟩ : ∃ y, y = ys[j] := ⟨_, rfl⟩
        rw [← hx] at hcj
        rw [← hy] at hcj2
        have HX := Lib.hid hx; clear hx
        have HY := Lib.hid hy; clear hy
        by_cases hxy : x = y
        · have hxy' : (x != y) = false := by simp [hxy]
          have HE := Lib.hid hxy; clear hxy
          go_wp2
          go_quiet (fail)
          go_wp2
          go_roundw
          case rel => exact ⟨j + 1, by omega, by go_num, take_snoc_eq hlt hlt2 hH.out (by rw [← HX.out, ← HY.out]; exact HE.out), (by first | exact ⟨_, rfl⟩ | exact draws_two _ _ _)⟩
          case measure => simp [intOf]; omega
        · have hxy' : (x != y) = true := by simp [hxy]
          go_wp2
          go_quiet (fail)
          go_wp2
          go_ret
          exact ⟨ret_bool (by rw [decide_eq_false]; exact take_ne hlt hlt2 (by rw [← HX.out, ← HY.out]; exact hxy)), (by first | exact ⟨_, rfl⟩ | exact draws_two _ _ _)⟩
      · go_wp2
        go_ret
        exact ⟨ret_bool (by rw [decide_eq_true]; exact eqLists xs ys j hj hH.out HN.out (by omega)), _, rfl⟩
  · have hne' : ((xs.length : Int) != ys.length) = true := by simp; omega
    go_enter Try.func47, Try.ntmps47
    go_wp2
    go_ret
    exact ⟨ret_bool (by rw [decide_eq_false]; intro h; subst h; exact hne rfl), 0, rfl⟩

/-- A cut from k on reads as the numbers from k on. -/
theorem RInts.drop {w : World} {b off n cap : Nat} {zs : List Int} (h : RInts w (.slice (some ⟨b, off, none⟩) n cap) zs) {k : Nat} (hk : k ≤ zs.length) :
    RInts w (.slice (some ⟨b, off + k, none⟩) (n - k) (cap - k)) (zs.drop k) := by
  obtain ⟨a', cap', hv, hn, hc, hcell⟩ := h
  simp only [Value.slice.injEq] at hv
  obtain ⟨rfl, rfl, rfl⟩ := hv
  refine ⟨some ⟨b, off + k, none⟩, cap - k, by rw [List.length_drop], by rw [List.length_drop]; omega, by omega, fun i hi => ?_⟩
  obtain ⟨b', off', ha, hlt, hx⟩ := hcell (k + i) (by simp at hi; omega)
  cases ha
  exact ⟨b, off + k, rfl, hlt, by rw [Nat.add_assoc, hx]; simp⟩

theorem RInts.some {w : World} {a : Option Addr} {n cap : Nat} {zs : List Int} (h : RInts w (.slice a n cap) zs) (h0 : 0 < zs.length) : ∃ b off, a = some ⟨b, off, none⟩ := by
  obtain ⟨a', cap', hv, hn, hc, hcell⟩ := h
  simp only [Value.slice.injEq] at hv
  obtain ⟨rfl, rfl, rfl⟩ := hv
  obtain ⟨b, off, rfl, _⟩ := hcell 0 h0
  exact ⟨b, off, rfl⟩

/-- What validSums answers. -/
def validM (zs : List Int) : Bool := decide (zs.length = 31 ∧ sumsM (zs.drop 15) = zs)
theorem validM_true {zs : List Int} (h : validM zs = true) : zs.length = 31 ∧ (zs.drop 15).length = 16 ∧ (∀ z ∈ zs.drop 15, 0 ≤ z ∧ z ≤ 990) ∧ zs = treeL (zs.drop 15) := by
  obtain ⟨h1, h2⟩ : zs.length = 31 ∧ sumsM (zs.drop 15) = zs := by simpa [validM] using h
  by_cases hb : sumOkB (zs.drop 15) = true
  · obtain ⟨h3, h4⟩ := sumOk_true hb
    exact ⟨h1, h3, h4, by rw [← sumsM_good h3 h4]; exact h2.symm⟩
  · rw [sumsM, if_neg hb] at h2
    rw [← h2] at h1
    simp at h1
theorem validM_tree {vs : List Int} (h : vs.length = 16) (h' : ∀ z ∈ vs, 0 ≤ z ∧ z ≤ 990) : validM (treeL vs) = true := by
  simp [validM, treeL_drop vs h, sumsM_good h h']

set_option maxHeartbeats 1000000 in
theorem validSums_any (v : Value) (zs : List Int) (w : World) (hl : zs.length ≤ 4194304) (hr : RInts w v zs) :
    Calls Try.prog 37 #[v] w fun e w' => e = .returned (.bool (validM zs)) ∧ Below w.heap.size w w' := by
  obtain ⟨a, cap, rfl, hc, hm, _⟩ := id hr
  by_cases h31 : zs.length = 31
  · have hne : ((zs.length : Int) == 31) = true := by simp; omega
    obtain ⟨b, off, rfl⟩ := hr.some (by omega)
    have hd := hr.drop (k := 15) (by omega)
    have hc' : 31 ≤ cap := by omega
    rw [h31] at hr hd hc ⊢
    have HR := Lib.hid hr; clear hr
    have HD := Lib.hid hd; clear hd
    have H31 := Lib.hid h31; clear h31
    go_enter Try.func37, Try.ntmps37
    go_wp2_with fail
    refine (implSumsOf_any _ (zs.drop 15) _ (by simp; omega) HD.out).mono ?_
    rintro e w1 ⟨u, rfl, o1, b1⟩
    go_wp2_with fail
    refine (equal_any _ _ (sumsM (zs.drop 15)) zs _ (by have := length_sumsM (zs.drop 15); omega) o1.reads (HR.out.below b1)).mono ?_
    rintro e w2 ⟨rfl, n, rfl⟩
    go_wp2
    go_ret
    exact ⟨ret_bool (by simp [validM, H31.out]), bNextD b1 _⟩
  · have hne : ((zs.length : Int) == 31) = false := by simp; omega
    go_enter Try.func37, Try.ntmps37
    go_wp2
    go_ret
    exact ⟨ret_bool (by simp [validM, h31]), Below.refl _ _⟩

/-- What SumsSet answers. -/
def setM (zs : List Int) (leaf value : Int) : List Int := if validM zs && inB leaf 0 15 then sumsM ((zs.drop 15).set leaf.toNat value) else []
theorem length_setM (zs : List Int) (leaf value : Int) : (setM zs leaf value).length ≤ 31 := by
  unfold setM; split
  · exact length_sumsM _
  · simp

set_option maxHeartbeats 2000000 in
theorem implSumsSet_any (v : Value) (zs : List Int) (leaf value : Int) (w : World) (hl : zs.length ≤ 4194304) (hr : RInts w v zs) :
    Calls Try.prog 23 #[v, .int .i64 leaf, .int .i64 value] w fun e w' => ∃ u, e = .returned u ∧ OwnA w' w.heap.size u (setM zs leaf value) ∧ Below w.heap.size w w' := by
  obtain ⟨a, cap, rfl, hc, hm, _⟩ := id hr
  have HR := Lib.hid hr; clear hr
  cases hv : validM zs with
  | false =>
    go_enter Try.func23, Try.ntmps23
    go_wp2_with fail
    refine (validSums_any _ zs _ hl HR.out).mono ?_
    rw [hv]
    rintro e w1 ⟨rfl, b1⟩
    go_wp2
    go_ret
    exact ⟨_, rfl, by simp [setM, hv]; exact OwnA.nil _ _, b1⟩
  | true =>
    cases hi : inB leaf 0 15 with
    | false =>
      go_enter Try.func23, Try.ntmps23
      go_wp2_with fail
      refine (validSums_any _ zs _ hl HR.out).mono ?_
      rw [hv]
      rintro e w1 ⟨rfl, b1⟩
      go_wp2_with (go_at_call 38; refine (inRange_any _ _ _ _).mono ?_; rintro e w' ⟨rfl, rfl⟩)
      go_ret
      exact ⟨_, rfl, by simp [setM, hi]; exact OwnA.nil _ _, b1⟩
    | true =>
      obtain ⟨hi0, hi1⟩ := inB_true hi
      obtain ⟨L, rfl⟩ := Int.eq_ofNat_of_zero_le hi0
      obtain ⟨h31, h16, -⟩ := validM_true hv
      obtain ⟨b, off, rfl⟩ := HR.out.some (by omega)
      have hd := HR.out.drop (k := 15) (by omega)
      have hc' : 31 ≤ cap := by omega
      have hr := HR.out
      rw [h31] at hr hd hc ⊢
      have HRR := Lib.hid hr; clear hr
      have HD := Lib.hid hd; clear hd
      have H31 := Lib.hid h31; clear h31
      have H16 := Lib.hid h16; clear h16
      go_enter Try.func23, Try.ntmps23
      go_wp2_with fail
      refine (validSums_any _ zs _ hl HRR.out).mono ?_
      rw [hv]
      rintro e w1 ⟨rfl, b1⟩
      go_wp2_with (go_at_call 38; refine (inRange_any _ _ _ _).mono ?_; rintro e w' ⟨rfl, rfl⟩)
      refine (clone_any _ (zs.drop 15) _ (by simp; omega) (HD.out.below b1)).mono ?_
      rintro e w2 ⟨u, rfl, o2, b2⟩
      rcases ownsRow_shape o2 with ⟨_, h0⟩ | ⟨g, cap2, rfl, hB, hg, hn, hc2⟩
      · rw [H16.out] at h0; omega
      · rw [H16.out] at hn ⊢
        have o2' := o2
        rw [H16.out] at o2'
        have hcj := OwnInts.cellAt o2' (j := L) (by rw [H16.out]; omega)
        have hfz := OwnInts.frozenAt o2' L
        have o3 := own_set o2' L value
        generalize (zs.drop 15)[L]'(by rw [H16.out]; omega) = u at hcj
        have c2 := bNext b1 b2
        have b3 : Below w1.heap.size w2 (w2.setCell ⟨g, L, none⟩ (.int .i64 value)) := (Below.refl _ _).setCell hB _
        clear o2 o2'
        go_wp2_with fail
        refine (implSumsOf_any _ ((zs.drop 15).set L value) _ (by simp; omega) o3.reads).mono ?_
        rintro e w4 ⟨u4, rfl, o4, b4⟩
        go_wp2
        go_ret
        refine ⟨_, rfl, ?_, ?_⟩
        · simp only [setM, hv, hi, Bool.and_self, if_true, Int.toNat_natCast]
          exact o4.base (by have := c2.size; simpa using this)
        · exact (c2.trans (b3.mono b1.size)).trans (b4.mono (by have := c2.size; simpa using this))
end Go.Proofs.Ytjidmmjbgffapaa
