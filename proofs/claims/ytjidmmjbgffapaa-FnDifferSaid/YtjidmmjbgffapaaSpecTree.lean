/- The reference's l21Tree and SumsSet. -/
import Derived.Test.YtjidmmjbgffapaaSpecSums
import Derived.Test.YtjidmmjbgffapaaImplSums
namespace Go.Proofs.Ytjidmmjbgffapaa
open Go.RowKit
set_option linter.unusedVariables false
set_option linter.unusedSimpArgs false

theorem validM_eq (zs : List Int) : validM zs = (valuesM zs 31 && decide (treeL (zs.drop 15) = zs)) := by
  rw [Bool.eq_iff_iff]
  constructor
  · intro h
    obtain ⟨h1, h2, h3, h4⟩ := validM_true h
    rw [Bool.and_eq_true]
    refine ⟨?_, by rw [decide_eq_true_iff]; exact h4.symm⟩
    unfold valuesM
    rw [decide_eq_true_iff]
    refine ⟨fun z hz => ?_, by omega⟩
    rw [h4] at hz
    simp only [treeL, List.mem_map, List.mem_range] at hz
    obtain ⟨i, _, rfl⟩ := hz
    exact tr_range _ h3 i
  · intro h
    rw [Bool.and_eq_true] at h
    obtain ⟨h1, h2⟩ : (∀ z ∈ zs, 0 ≤ z ∧ z ≤ 990) ∧ (zs.length : Int) = 31 := by simpa [valuesM] using h.1
    have h3 : treeL (zs.drop 15) = zs := by simpa using h.2
    unfold validM
    rw [decide_eq_true_iff]
    exact ⟨by omega, by rw [sumsM_good (by simp; omega) (fun z hz => h1 z (List.mem_of_mem_drop hz))]; exact h3⟩

set_option maxHeartbeats 1000000 in
theorem l21Tree_any (v : Value) (zs : List Int) (w : World) (hl : zs.length ≤ 4194304) (hr : RInts w v zs) :
    Calls Try.prog 40 #[v] w fun e w' => e = .returned (.bool (validM zs)) ∧ Below w.heap.size w w' := by
  obtain ⟨a, cap, rfl, hc, hm, _⟩ := id hr
  have HR := Lib.hid hr; clear hr
  cases hb : valuesM zs 31 with
  | false =>
    go_enter Try.func40, Try.ntmps40
    go_wp2_with fail
    refine (l21Values_any _ zs 31 _ hl HR.out).mono ?_
    rw [hb]
    rintro e w' ⟨rfl, rfl⟩
    go_wp2
    go_ret
    exact ⟨ret_bool (by rw [validM_eq, hb]; rfl), Below.refl _ _⟩
  | true =>
    obtain ⟨hz, h31'⟩ : (∀ z ∈ zs, 0 ≤ z ∧ z ≤ 990) ∧ (zs.length : Int) = 31 := by simpa [valuesM] using hb
    have h31 : zs.length = 31 := by omega
    clear h31'
    obtain ⟨b, off, rfl⟩ := HR.out.some (by omega)
    have hd := HR.out.drop (k := 15) (by omega)
    have hc' : 31 ≤ cap := by omega
    have hr := HR.out
    have hzd : ∀ z ∈ zs.drop 15, 0 ≤ z ∧ z ≤ 990 := fun z h => hz z (List.mem_of_mem_drop h)
    have h16 : (zs.drop 15).length = 16 := by simp; omega
    rw [h31] at hr hd hc ⊢
    have HRR := Lib.hid hr; clear hr
    have HD := Lib.hid hd; clear hd
    have H31 := Lib.hid h31; clear h31
    have H16 := Lib.hid h16; clear h16
    have HZ := Lib.hid hzd; clear hzd hz
    go_enter Try.func40, Try.ntmps40
    go_wp2_with fail
    refine (l21Values_any _ zs 31 _ hl HRR.out).mono ?_
    rw [hb]
    rintro e w' ⟨rfl, rfl⟩
    go_wp2_with fail
    refine (l21Build_any _ (zs.drop 15) _ H16.out HZ.out HD.out).mono ?_
    rintro e w1 ⟨u, rfl, o1, b1⟩
    obtain ⟨xs, hxs⟩ : ∃ xs, xs = treeL (zs.drop 15) := ⟨_, rfl⟩
    have hxl : xs.length = 31 := by rw [hxs]; simp
    rw [← hxs] at o1
    have hV : Hid (validM zs = decide (xs = zs)) := by unfold Hid; rw [validM_eq, hb, hxs]; rfl
    clear hxs
    obtain ⟨a1, cap1, rfl, hn1, hm1, hcell1⟩ := o1.reads
    obtain ⟨b1', off1, rfl, -, -⟩ := hcell1 0 (by omega)
    obtain ⟨a2, cap2, hv2, -, -, hcell2⟩ := HRR.out.below b1
    simp only [Value.slice.injEq] at hv2
    obtain ⟨rfl, -, rfl⟩ := hv2
    rw [hxl] at hn1 ⊢
    have HXL := Lib.hid hxl; clear hxl
    go_wp2
    go_loopw [4] (fun i wr => ∃ j : Nat, j ≤ 31 ∧ i = .int .i64 j ∧ Hid (xs.take j = zs.take j) ∧ ∃ m, wr = w1.drewN m) (fun i _ => 31 - (intOf i).toNat)
    case atStart => exact ⟨0, Nat.zero_le _, rfl, by simp [Hid], 0, rfl⟩
    case round =>
      obtain ⟨j, hj, rfl, hH, m0, rfl⟩ := hrel
      by_cases hlt : j < 31
      · have hltx : j < xs.length := by have := HXL.out; omega
        have hltz : j < zs.length := by have := H31.out; omega
        obtain ⟨c, o, he, hb, hcj⟩ := hcell1 j hltx
        cases he
        obtain ⟨c2, o2, he2, hb2, hcj2⟩ := hcell2 j hltz
        cases he2
        obtain ⟨x, hx⟩ : ∃ x, x = xs[j] := ⟨_, rfl⟩
        obtain ⟨y, hy⟩ : ∃ y, y = zs[j] := ⟨_, rfl⟩
        rw [← hx] at hcj
        rw [← hy] at hcj2
        have HX := Lib.hid hx; clear hx
        have HY := Lib.hid hy; clear hy
        by_cases hxy : x = y
        · have hxy' : (x != y) = false := by simp [hxy]
          have HE := Lib.hid hxy; clear hxy
          go_wp2
          go_quiet (fail)
          go_wp2
          go_roundw
          case rel => exact ⟨j + 1, by omega, by go_num, take_snoc_eq hltx hltz hH.out (by rw [← HX.out, ← HY.out]; exact HE.out), (by first | exact ⟨_, rfl⟩ | exact draws_two _ _ _)⟩
          case measure => simp [intOf]; omega
        · have hxy' : (x != y) = true := by simp [hxy]
          go_wp2
          go_quiet (fail)
          go_wp2
          go_ret
          refine ⟨ret_bool (by rw [hV.out, decide_eq_false]; exact take_ne hltx hltz (by rw [← HX.out, ← HY.out]; exact hxy)), ?_⟩
          first | exact bNextD b1 _ | exact bNextD (bNextD b1 _) _
      · go_wp2
        go_ret
        exact ⟨ret_bool (by rw [hV.out, decide_eq_true]; exact eqLists xs zs j (by have := HXL.out; omega) hH.out (by rw [HXL.out, H31.out]) (by have := HXL.out; omega)), bNextD b1 _⟩

theorem mem_set_self {l : List Int} {i : Nat} (h : i < l.length) (v : Int) : v ∈ l.set i v :=
  List.mem_iff_getElem.2 ⟨i, by simpa using h, by simp⟩

theorem own_append0 {w w1 : World} {v' : Value} {zs : List Int} {n m : Nat} (h : w1.ownsRow w.heap.size 3 1 v' n (([] : List Value) ++ ints zs)) (hn : n = zs.length) : OwnInts w1 w.heap.size v' zs := by
  subst hn; simpa [OwnInts] using h

set_option maxHeartbeats 600000 in
theorem specSumsSet_any (v : Value) (zs : List Int) (leaf value : Int) (w : World) (hl : zs.length ≤ 4194304) (hr : RInts w v zs) :
    Calls Try.prog 24 #[v, .int .i64 leaf, .int .i64 value] w fun e w' => ∃ u, e = .returned u ∧ OwnInts w' w.heap.size u (setM zs leaf value) ∧ Below w.heap.size w w' := by
  obtain ⟨a, cap, rfl, hc, hm, _⟩ := id hr
  have HR := Lib.hid hr; clear hr
  obtain ⟨i0, hi0, hz0, hz1, hz2⟩ := info_parts infoInt
  cases hv : validM zs with
  | false =>
    go_enter Try.func24, Try.ntmps24
    go_wp2_with fail
    refine (l21Tree_any _ zs _ hl HR.out).mono ?_
    rw [hv]
    rintro e w1 ⟨rfl, b1⟩
    go_wp2
    go_ret
    exact ⟨_, rfl, by simp [setM, hv]; exact (own_empty w1).base b1.size, bNext b1 (below_alloc _ _)⟩
  | true =>
    cases hi : inB leaf 0 15 with
    | false =>
      go_enter Try.func24, Try.ntmps24
      go_wp2_with fail
      refine (l21Tree_any _ zs _ hl HR.out).mono ?_
      rw [hv]
      rintro e w1 ⟨rfl, b1⟩
      go_wp2_with (go_at_call 41; refine (l6In_any _ _ _ _).mono ?_; rintro e w' ⟨rfl, rfl⟩)
      go_ret
      exact ⟨_, rfl, by simp [setM, hi]; exact (own_empty w1).base b1.size, bNext b1 (below_alloc _ _)⟩
    | true =>
      obtain ⟨hq0, hq1⟩ := inB_true hi
      obtain ⟨L, rfl⟩ := Int.eq_ofNat_of_zero_le hq0
      obtain ⟨h31, h16, hzd, -⟩ := validM_true hv
      have HZ := Lib.hid hzd; clear hzd
      cases hvv : inB value 0 990 with
      | false =>
        have H16 := Lib.hid h16; clear h16 h31
        go_enter Try.func24, Try.ntmps24
        go_wp2_with fail
        refine (l21Tree_any _ zs _ hl HR.out).mono ?_
        rw [hv]
        rintro e w1 ⟨rfl, b1⟩
        go_wp2_with fail
        refine (l6In_any _ 0 15 _).mono ?_
        rintro e w' ⟨rfl, rfl⟩
        go_wp2_with fail
        refine (l6In_any _ 0 990 _).mono ?_
        rintro e w' ⟨rfl, rfl⟩
        go_wp2
        go_ret
        refine ⟨_, rfl, ?_, bNext b1 (below_alloc _ _)⟩
        have : setM zs L value = [] := by
          simp only [setM, hv, hi, Bool.and_self, if_true, Int.toNat_natCast]
          refine sumsM_bad fun h => inB_false hvv (h.2 value ?_)
          exact mem_set_self (by rw [H16.out]; omega) value
        rw [this]
        exact (own_empty w1).base b1.size
      | true =>
        obtain ⟨b, off, rfl⟩ := HR.out.some (by omega)
        have hd := HR.out.drop (k := 15) (by omega)
        have hc' : 31 ≤ cap := by omega
        have hr := HR.out
        rw [h31] at hr hd hc ⊢
        have HRR := Lib.hid hr; clear hr
        have HD := Lib.hid hd; clear hd
        have H31 := Lib.hid h31; clear h31
        have H16 := Lib.hid h16; clear h16
        go_enter Try.func24, Try.ntmps24
        go_wp2_with fail
        refine (l21Tree_any _ zs _ hl HRR.out).mono ?_
        rw [hv]
        rintro e w1 ⟨rfl, b1⟩
        have hnews : ∀ o j u, (ints (zs.drop 15))[j]? = some u → (w1.alloc o).cell? ((⟨b, off + 15, none⟩ : Addr).add j) = some u := by
          intro o j u hj
          obtain ⟨h1, h2⟩ := (HD.out.below b1).addr.2 j u hj
          rw [Addr.add_mid] at h2 ⊢
          rw [(below_alloc w1 o).cell (p := ⟨b, off + 15 + j, none⟩) h1]; exact h2
        have hlen16 : (ints (zs.drop 15)).length = 16 * 1 := by simp; have := H31.out; omega
        have HLEN := Lib.hid hlen16; clear hlen16
        go_wp2_with fail
        refine (l6In_any _ 0 15 _).mono ?_
        rintro e w' ⟨rfl, rfl⟩
        go_wp2_with fail
        refine (l6In_any _ 0 990 _).mono ?_
        rintro e w' ⟨rfl, rfl⟩
        go_wp2_with ((at_builtin; refine wpList_append_own _ rfl _ _ 22 rfl w1.heap.size 3 i0 (.int .i64 0) 1 8 Try.underlying22 hi0 hz0 hz1 hz2 rfl (by decide) _ 0 [] rfl (own_empty w1) ⟨b, off + 15, none⟩ 16 (cap - 15) (ints (zs.drop 15)) rfl HLEN.out (hnews _) (ints_oneCell _) ?c3 ?c4 ?c5 ?_))
        case c3 => simp; unfold maxLen; omega
        case c4 => simp
        case c5 => simp
        intro v' w2 hown hg _
        have o2 : OwnInts w2 w1.heap.size v' (zs.drop 15) := own_append0 (m := 0) hown (by rw [H16.out])
        have b2 : Below w1.heap.size w1 w2 := (below_alloc w1 _).grown hg (by simp) (fun j hj => by cases hj; exact Nat.le_refl _)
        clear hown hg hnews
        rcases ownsRow_shape o2 with ⟨_, h0⟩ | ⟨g, cap2, rfl, hB, hgl, hn, hc2⟩
        · rw [H16.out] at h0; omega
        · rw [H16.out] at hn ⊢
          have o2' := o2
          rw [H16.out] at o2'
          have hcj := OwnInts.cellAt o2' (j := L) (by rw [H16.out]; omega)
          have hfz := OwnInts.frozenAt o2' L
          have o3 := own_set o2' L value
          generalize (zs.drop 15)[L]'(by rw [H16.out]; omega) = u at hcj
          have c2 := bNext b1 b2
          have b3 : Below w1.heap.size w2 (w2.setCell ⟨g, L, none⟩ (.int .i64 value)) := (Below.refl _ _).setCell hB _
          clear o2 o2'
          have hz3 : ∀ z ∈ (zs.drop 15).set L value, 0 ≤ z ∧ z ≤ 990 := by
            intro z hz
            rcases List.mem_or_eq_of_mem_set hz with h | h
            · exact HZ.out z h
            · subst h; exact inB_true hvv
          have HZ3 := Lib.hid hz3; clear hz3
          go_wp2_with fail
          refine (l21Build_any _ ((zs.drop 15).set L value) _ (by simp; have := H31.out; omega) HZ3.out o3.reads).mono ?_
          rintro e w4 ⟨u4, rfl, o4, b4⟩
          go_wp2
          go_ret
          refine ⟨_, rfl, ?_, ?_⟩
          · simp only [setM, hv, hi, Bool.and_self, if_true, Int.toNat_natCast]
            rw [sumsM_good (by simp; have := H31.out; omega) HZ3.out]
            exact o4.base (by have := c2.size; simpa using this)
          · exact (c2.trans (b3.mono b1.size)).trans (b4.mono (by have := c2.size; simpa using this))
end Go.Proofs.Ytjidmmjbgffapaa
