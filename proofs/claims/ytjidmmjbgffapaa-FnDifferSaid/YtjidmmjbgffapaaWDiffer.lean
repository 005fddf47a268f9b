/- The walk of FnDiffer. -/
import Derived.Test.YtjidmmjbgffapaaDiffFacts
import Derived.Test.YtjidmmjbgffapaaDrawDiffer
import Derived.Test.YtjidmmjbgffapaaImplDiffer
import Derived.Test.YtjidmmjbgffapaaWSumsSet
import Derived.BigQuiet
namespace Go.Proofs.Ytjidmmjbgffapaa
open Go.RowKit
set_option linter.unusedVariables false
set_option linter.unusedSimpArgs false

set_option maxHeartbeats 600000 in
theorem differ_walk (v : Value) (zs : List Int) (w : World) (hr : RBytes w v zs) :
    Calls Try.prog 11 #[v] w fun e w' => e = .returned (.bool true) ∧ Below w.heap.size w w' := by
  obtain ⟨⟨a, cap, rfl, g1, g2, -⟩, -⟩ := id hr
  have HR := Lib.hid hr; clear hr
  by_cases hl : zs.length ≤ 1048576
  · go_enter Try.func11, Try.ntmps11
    go_wp2_with fail
    refine (drawSumsDiffer_any _ zs _ HR.out hl).mono ?_
    rintro e w1 ⟨u1, u2, xs, ys, rfl, o1, o2, hxl, hyl, b1⟩
    go_wp2_with fail
    refine (implSumsDiffer_any _ _ xs ys _ (by omega) (by omega) o1.reads o2.reads).mono ?_
    rintro e w2 ⟨u3, rfl, o3, b3⟩
    have o1b := o1.below b3
    have o2b := o2.below b3
    go_wp2_with fail
    refine (specSumsDiffer_any _ _ xs ys _ (by omega) (by omega) o1b.reads o2b.reads).mono ?_
    rintro e w3 ⟨u4, rfl, o4, b4⟩
    have o1c := o1b.below b4
    have o2c := o2b.below b4
    have o3c := o3.below b4
    have c3 := bNext (bNext b1 b3) b4
    clear o1 o2 o1b o2b o3
    rcases diffM_cases xs ys with hT | ⟨hx, hy⟩
    · rw [hT] at o3c o4 ⊢
      clear hT
      go_wp2_with fail
      refine (sameInts_any _ _ [] [] _ (by simp) o3c.reads o4.reads).mono ?_
      rintro e w4 ⟨rfl, n4, rfl⟩
      go_wp2_with fail
      refine (sameInts_any _ _ [] [] _ (by simp) (o3c.drewN n4).reads (o4.drewN n4).reads).mono ?_
      rintro e w5 ⟨rfl, n5, rfl⟩
      go_wp2
      go_ret
      exact ⟨by simp, (by first | exact bNextD c3 _ | exact bNextD (bNextD c3 _) _)⟩
    · have hE := diffM_good hx hy
      have hT31 : (diffL xs ys).length ≤ 31 := by have := lvsTo_le (dif xs ys) 31; unfold diffL; omega
      have hN31 : 0 ≤ diffN xs ys ∧ diffN xs ys ≤ 31 := by have := cntTo_le (dif xs ys) 31; unfold diffN; omega
      rw [hE] at o3c o4 ⊢
      have hx31 := (validM_true hx).1
      have hy31 := (validM_true hy).1
      obtain ⟨b1', off1, cq1, rfl, hp1, hp2, hR1, hcell1⟩ := o1c.reads.shape hx31 (by omega)
      obtain ⟨b2', off2, cq2, rfl, hq1, hq2, hR2, hcell2⟩ := o2c.reads.shape hy31 (by omega)
      have hc1 : ∀ i, i < 31 → w3.cell? ⟨b1', off1 + i, none⟩ = some (.int .i64 (xs.getD i 0)) := fun i hi => by rw [(hcell1 i (by omega)).2, List.getD_eq_getElem?_getD, List.getElem?_eq_getElem (by omega)]; rfl
      have hc2 : ∀ i, i < 31 → w3.cell? ⟨b2', off2 + i, none⟩ = some (.int .i64 (ys.getD i 0)) := fun i hi => by rw [(hcell2 i (by omega)).2, List.getD_eq_getElem?_getD, List.getElem?_eq_getElem (by omega)]; rfl
      have hdif : ∀ i, dif xs ys i = !decide (xs.getD i 0 = ys.getD i 0) := fun i => rfl
      clear hcell1 hcell2 o1c o2c hxl hyl hx31 hy31 hE hR1 hR2
      have hU := lvs_up (dif xs ys) 31
      have hM := lvs_mem (dif xs ys) 31
      have hRt : dif xs ys 0 = false → lvsTo (dif xs ys) 31 = [] ∧ cntTo (dif xs ys) 31 = 1 := lvs_root
      unfold diffL diffN at *
      generalize lvsTo (dif xs ys) 31 = T at *
      generalize cntTo (dif xs ys) 31 = N at *
      obtain ⟨d, hd⟩ : ∃ d, d = dif xs ys := ⟨_, rfl⟩
      rw [← hd] at hM hRt hdif
      obtain ⟨f, hf⟩ : ∃ f : Nat → Int, f = fun i => xs.getD i 0 := ⟨_, rfl⟩
      obtain ⟨g, hg⟩ : ∃ g : Nat → Int, g = fun i => ys.getD i 0 := ⟨_, rfl⟩
      have hc1' : ∀ i, i < 31 → w3.cell? ⟨b1', off1 + i, none⟩ = some (.int .i64 (f i)) := by rw [hf]; exact hc1
      have hc2' : ∀ i, i < 31 → w3.cell? ⟨b2', off2 + i, none⟩ = some (.int .i64 (g i)) := by rw [hg]; exact hc2
      have hdif' : ∀ i, d i = !decide (f i = g i) := by rw [hf, hg]; exact hdif
      have hM' : ∀ z ∈ T, ∃ i : Nat, 15 ≤ i ∧ i < 31 ∧ f i ≠ g i ∧ z = (i : Int) - 15 := by
        intro z hz
        obtain ⟨i, a1, a2, a3, a4⟩ := hM z hz
        rw [hdif'] at a3
        exact ⟨i, a1, a2, by simpa using a3, a4⟩
      have hRt' : f 0 = g 0 → T = [] ∧ N = 1 := fun h => hRt (by rw [hdif', h]; simp)
      have hU' : ∀ i (h : i + 1 < T.length), T[i] < T[i + 1] := fun i h => List.pairwise_iff_getElem.1 hU i (i + 1) (by omega) h (by omega)
      have HF := Lib.hid hc1'
      have HG := Lib.hid hc2'
      have HM := Lib.hid hM'
      have HT := Lib.hid hRt'
      have HU := Lib.hid hU'
      obtain ⟨hN0, hN1⟩ := hN31
      have hlt : decide ((N : Int) < 0) = false := decide_eq_false (by omega)
      obtain ⟨qa, qc, rfl, hqc, -, hcell⟩ := o3c.reads
      have HC := Lib.hid hcell
      clear hx hy hc1 hc2 hdif hd hf hg hc1' hc2' hdif' hM hRt hU hM' hRt' hU' hcell
      go_wp2_with fail
      refine (sameInts_any _ _ T T _ (by omega) o3c.reads o4.reads).mono ?_
      rintro e w4 ⟨rfl, n4, rfl⟩
      have c4 := bNextD c3 n4
      clear o3c o4
      go_wp2
      go_loopw [9] (fun i wr => ∃ j : Nat, j ≤ T.length ∧ i = .int .i64 j ∧ ∃ m, wr = w3.drewN m) (fun i _ => T.length - (intOf i).toNat)
      case atStart => exact ⟨0, by omega, rfl, n4, rfl⟩
      case round =>
        obtain ⟨j, hj, rfl, m0, rfl⟩ := hrel
        by_cases hlt2 : j < T.length
        · obtain ⟨b3', off3, rfl, hb3, hx3⟩ := HC.out j hlt2
          obtain ⟨p, hp0, hp1, hpf, hpz⟩ := HM.out T[j] (List.getElem_mem _)
          have hcf := HF.out p hp1
          have hcg := HG.out p hp1
          generalize f p = x at hcf hpf
          generalize g p = y at hcg hpf
          have hxy : (x == y) = false := by simp [hpf]
          obtain ⟨l, rfl⟩ : ∃ l, p = 15 + l := ⟨p - 15, by omega⟩
          have hpz' : T[j] = (l : Int) := by omega
          have hm1 : (15 : Int) + l < 31 := by omega
          have hm2 : (l : Int) < 16 := by omega
          have hm3 : IntKind.i64.wrap (15 + (l : Int)) = 15 + l := IntWalk.i64_in _ (by omega)
          have hm4 : (15 + (l : Int)).toNat = 15 + l := by omega
          have hm5 : decide ((15 : Int) + l < 0) = false := decide_eq_false (by omega)
          by_cases hj0 : j = 0
          · have hkk : decide ((0 : Int) < (j : Int)) = false := decide_eq_false (by omega)
            have hkk2 : decide (0 < j) = false := decide_eq_false (by omega)
            rw [hpz'] at hx3
            clear hpz hpz' hj0
            go_wp2
            go_quiet (fail)
            go_wp2
            go_roundw
            case rel => exact ⟨j + 1, by omega, by go_num, (by first | exact ⟨_, rfl⟩ | exact draws_two _ _ _)⟩
            case measure => simp [intOf]; omega
          · obtain ⟨k, hk⟩ : ∃ k, k + 1 = j := ⟨j - 1, by omega⟩
            obtain ⟨_, _, he, _, hxk⟩ := HC.out k (by omega)
            cases he
            have hup := HU.out k (by omega)
            simp only [hk] at hup
            obtain ⟨z, hz⟩ : ∃ z, z = T[k] := ⟨_, rfl⟩
            rw [hpz'] at hx3 hup
            rw [← hz] at hxk hup
            clear hpz hpz' hz
            have hup' : decide ((l : Int) ≤ z) = false := decide_eq_false (by omega)
            have hkk : decide ((0 : Int) < (j : Int)) = true := decide_eq_true (by omega)
            have hkk2 : decide (0 < j) = true := decide_eq_true (by omega)
            have hkm : (j : Int) - 1 = k := by omega
            have hkl : (k : Int) < T.length := by omega
            go_wp2
            go_quiet (fail)
            go_wp2
            go_roundw
            case rel => exact ⟨j + 1, by omega, by go_num, (by first | exact ⟨_, rfl⟩ | exact draws_two _ _ _)⟩
            case measure => simp [intOf]; omega
        · obtain rfl : j = T.length := by omega
          have hcf := HF.out 0 (by omega)
          have hcg := HG.out 0 (by omega)
          rw [Nat.add_zero] at hcf hcg
          have hT' := HT.out
          generalize f 0 = x at *
          generalize g 0 = y at *
          by_cases hxy : x = y
          · obtain ⟨hT0, hN9⟩ := hT' hxy
            have hxy' : (x != y) = false := by simp [hxy]
            have e1 : ((T.length : Int) == 0) = true := by rw [hT0]; rfl
            have e2 : ((N : Int) == 1) = true := by rw [hN9]; rfl
            clear hxy hT0 hN9
            go_wp2
            go_quiet (fail)
            go_wp2
            go_ret
            exact ⟨by simp [*], (by first | exact bNextD c4 _ | exact ⟨c4.os, c4.tape, c4.output, c4.size, c4.block⟩)⟩
          · have hxy' : (x != y) = true := by simp [hxy]
            clear hT'
            go_wp2
            go_quiet (fail)
            go_wp2
            go_ret
            exact ⟨by simp [*], (by first | exact bNextD c4 _ | exact ⟨c4.os, c4.tape, c4.output, c4.size, c4.block⟩)⟩
  · have hl' : decide ((1048576 : Int) < zs.length) = true := decide_eq_true (by omega)
    go_enter Try.func11, Try.ntmps11
    go_wp2
    go_ret
    exact ⟨rfl, Below.refl _ _⟩
end Go.Proofs.Ytjidmmjbgffapaa
