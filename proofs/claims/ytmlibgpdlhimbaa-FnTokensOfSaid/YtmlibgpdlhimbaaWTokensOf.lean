/- The walk of FnTokensOf, and what DrawTokensOf draws. -/
import Derived.Test.YtmlibgpdlhimbaaTok
import Derived.Test.YtmlibgpdlhimbaaRdPt
import Derived.Test.YtmlibgpdlhimbaaSame
import Derived.Deep.RegionHeld3
namespace Go.Proofs.Ytmlibgpdlhimbaa
open Go.RowKit
set_option linter.unusedVariables false
set_option linter.unusedSimpArgs false

set_option maxHeartbeats 1000000 in
theorem drawTokensOf_any (v : Value) (zs : List Int) (w : World) (hr : RBytes w v zs) (hl : zs.length ≤ 1048576) :
    Calls Try.prog 21 #[v] w fun e w' => ∃ node weight, e = .returned (.tuple #[.int .i64 node, .int .i64 weight]) ∧ (-1 ≤ node ∧ node ≤ 64) ∧ (-1 ≤ weight ∧ weight ≤ 6) ∧ Below w.heap.size w w' := by
  go_enter Try.func21, Try.ntmps21
  go_wp2_with fail
  refine (l6Open_any v zs _ hr hl).mono ?_
  rintro e w1 ⟨b, rfl, hb, r1, b1⟩
  go_wp2_with fail
  refine (l91Point_any _ b 0 _ r1 (by omega)).mono ?_
  rintro e w2 ⟨m, rfl, hm, r2, g2⟩
  have b2 := b1.grown g2 b1.size (fun j hj => by cases hj; exact hb)
  go_wp2_with fail
  refine (pick_any _ b _ 8 _ r2 (by omega) (by omega) (by omega)).mono ?_
  rintro e w3 ⟨k, rfl, ⟨hk, hk'⟩, r3, g3⟩
  have b3 := b2.grown g3 b2.size (fun j hj => by cases hj; exact hb)
  go_wp2
  go_ret2
  exact ⟨_, _, rfl, hm, ⟨by omega, by omega⟩, b3⟩

theorem rtake {w w1 wr : World} {a : Option Addr} {n cap L K : Nat} {node : Int} (h : RInts w (.slice a n cap) (toks node L)) {m : Nat} (hb : Below wr.heap.size (w.drewN m) w1) (hs : wr.heap.size = w.heap.size) (hK : K + 1 ≤ L) {k : Nat} (hk : k = K + 1) : RInts w1 (.slice a k cap) (toks node (K + 1)) := by
  subst hk
  have h2 := ((h.drewN m).below (by rw [hs] at hb; exact hb)).take (k := K + 1) (by simp; omega)
  rw [toks_take _ hK] at h2
  exact h2

set_option maxHeartbeats 400000 in
theorem tokensOf_walk (v : Value) (zs : List Int) (v2 : Value) (zs2 : List Int) (w : World) (hr : RBytes w v zs) (hr2 : RBytes w v2 zs2) :
    Calls Try.prog 4 #[v, v2] w fun e w' => e = .returned (.bool true) ∧ Below w.heap.size w w' := by
  obtain ⟨⟨a, cap, rfl, h1, h2, h3⟩, h4⟩ := hr
  obtain ⟨⟨a', cap', rfl, h1', h2', h3'⟩, h4'⟩ := hr2
  by_cases hl : zs.length ≤ 1048576
  · by_cases hl2 : zs2.length ≤ 1048576
    · have hr : RBytes w (.slice a zs.length cap) zs := ⟨⟨a, cap, rfl, h1, h2, h3⟩, h4⟩
      clear h3 h3' h4 h4'
      go_enter Try.func4, Try.ntmps4
      go_wp2_with fail
      refine (drawTokensOf_any _ zs _ hr hl).mono ?_
      rintro e w1 ⟨node, weight, rfl, hn, hwt, b1⟩
      go_wp2_with fail
      obtain ⟨T, hT⟩ : ∃ T, T = tokensM node weight := ⟨_, rfl⟩
      refine (implTokensOf_any _ _ _).mono ?_
      rw [← hT]
      rintro e w2 ⟨u2, rfl, o2, b2⟩
      go_wp2_with fail
      refine (specTokensOf_any _ _ _).mono ?_
      rw [← hT]
      rintro e w3 ⟨u3, rfl, o3, b3⟩
      have hTl : T.length ≤ 5 := by rw [hT]; exact length_tokensM _ _
      have o2b := o2.below b3
      have c3 := bNext (bNext b1 b2) b3
      cases hg : (ptB node && inB weight 1 5) with
      | false =>
        have hT0 : T = [] := by rw [hT]; unfold tokensM; rw [hg]; rfl
        subst hT0
        clear hT
        obtain ⟨q2, cq2, rfl, _⟩ := o2b.reads
        go_wp2_with fail
        refine (sameInts_any _ _ [] [] _ (by simp) o2b.reads o3.reads).mono ?_
        rintro e w4 ⟨rfl, n4, rfl⟩
        go_wp2_with fail
        refine (sameInts_any _ _ [] [] _ (by simp) (o2b.drewN n4).reads (o3.drewN n4).reads).mono ?_
        rintro e w5 ⟨rfl, n5, rfl⟩
        go_wp2
        go_ret
        exact ⟨by simp, (by first | exact bNextD c3 _ | exact bNextD (bNextD c3 _) _)⟩
      | true =>
        simp only [Bool.and_eq_true] at hg
        obtain ⟨hp, hq⟩ := hg
        obtain ⟨hq1, hq2⟩ := inB_true hq
        obtain ⟨L, rfl⟩ := Int.eq_ofNat_of_zero_le (show 0 ≤ weight by omega)
        have hTL : T = toks node L := by rw [hT, tokensM_good hp hq]; simp
        clear hT
        subst hTL
        have hR3 := o3.reads
        obtain ⟨q2, cq2, rfl, hc1, hc2, hc3⟩ := o2b.reads
        obtain ⟨g, og, rfl, _, _⟩ := hc3 0 (by simp; omega)
        have hR2 : RInts w3 (.slice (some ⟨g, og, none⟩) L cq2) (toks node L) := ⟨_, cq2, by simp, hc1, hc2, hc3⟩
        rw [length_toks] at hc1
        clear hc3 o2 o2b o3
        have hL1 : 1 ≤ L := by omega
        have ht3 : ((L : Int) == 0) = false := by rw [beq_eq_false_iff_ne]; omega
        obtain ⟨K, hK⟩ : ∃ K, K = zs2.length % L := ⟨_, rfl⟩
        have hKL : K < L := by rw [hK]; exact Nat.mod_lt _ (by omega)
        have hKm : ((zs2.length : Int) % (L : Int)) = (K : Int) := by rw [hK]; simp
        have hm0 : 0 ≤ (zs2.length : Int) % (L : Int) := by rw [hKm]; omega
        clear hK
        go_wp2_with fail
        refine (sameInts_any _ _ _ _ _ (by simp; omega) hR2 hR3).mono ?_
        rintro e w4 ⟨rfl, n4, rfl⟩
        have c4 := bNextD c3 n4
        have hT2 : tokensM node (1 + (K : Int)) = toks node (K + 1) := by
          rw [tokensM_good hp (inB_of (by omega))]; congr 1; omega
        go_wp2_with fail
        have f1 : (0 : Int) ≤ 1 + (K : Int) := by omega
        have f2 : 1 + (K : Int) ≤ (cq2 : Int) := by omega
        go_region_held3 (fun _ => True) (trivial) (first | (go_at_call 17; refine (implTokensOf_any _ _ _).mono ?_; rw [hT2]; rintro e w5 ⟨u5, rfl, o5, b5⟩) | (go_at_call 22; refine (sameInts_any _ _ (toks node (K + 1)) (toks node (K + 1)) _ (by simp; omega) (OwnInts.reads o5) (rtake hR2 b5 rfl (by omega) (by omega))).mono ?_; rintro e w6 ⟨rfl, n6, rfl⟩))
        all_goals
          go_wp2
          go_ret
          exact ⟨by simp, bNextD (bNext (bNextD c3 _) b5) _⟩
    · have hl2' : decide ((1048576 : Int) < zs2.length) = true := by simp; omega
      go_enter Try.func4, Try.ntmps4
      go_wp2
      go_ret
      exact ⟨rfl, Below.refl _ _⟩
  · have hl' : decide ((1048576 : Int) < zs.length) = true := by simp; omega
    go_enter Try.func4, Try.ntmps4
    go_wp2
    go_ret
    exact ⟨rfl, Below.refl _ _⟩
end Go.Proofs.Ytmlibgpdlhimbaa
