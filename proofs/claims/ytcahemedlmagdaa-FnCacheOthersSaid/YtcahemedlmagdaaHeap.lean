/- The methods of entryHeap. -/
import Derived.Test.YtcahemedlmagdaaHeapL
import Derived.BigRegion
import Derived.RegionTactic
import Derived.Test.YtcahemedlmagdaaReg
namespace Go.Proofs.Ytcahemedlmagdaa
open Go.RowKit
set_option linter.unusedVariables false
set_option linter.unusedSimpArgs false

set_option maxHeartbeats 400000 in
theorem heapLen_any (v : Value) (zs : List Ent) (w : World) (hr : RRow EL w v zs) :
    Calls Try.prog 73 #[v] w fun e w' => e = .returned (.int .i64 zs.length) ∧ w = w' := by
  obtain ⟨a, cap, rfl, hc, hm, -⟩ := hr
  go_enter Try.func73, Try.ntmps73
  go_wp2
  go_ret
  exact ⟨rfl, rfl⟩

set_option maxHeartbeats 1000000 in
theorem heapLess_any (v : Value) (zs : List Ent) (i j : Nat) (w : World) (hl : zs.length ≤ 4194304) (hi : i < zs.length) (hj : j < zs.length) (hr : RRow EL w v zs) :
    Calls Try.prog 74 #[v, .int .i64 i, .int .i64 j] w fun e w' => e = .returned (.bool (lessE zs[i] zs[j])) ∧ ∃ n, w' = w.drewN n := by
  obtain ⟨a, cap, rfl, hc, hm, -⟩ := id hr
  obtain ⟨b, off, rfl, -, h0, -, h2⟩ := hr.ent i hi
  obtain ⟨b', off', he, -, g0, -, g2⟩ := hr.ent j hj
  simp only [Option.some.injEq, Addr.mk.injEq, and_true] at he
  obtain ⟨rfl, rfl⟩ := he
  clear hr
  have HI : Hid (zs[i] = (zs[i].1, zs[i].2.1, zs[i].2.2)) := Lib.hid rfl
  have HJ : Hid (zs[j] = (zs[j].1, zs[j].2.1, zs[j].2.2)) := Lib.hid rfl
  have HL : Hid (lessE zs[i] zs[j] = (decide (zs[i].2.2 < zs[j].2.2) || (decide (zs[i].2.2 = zs[j].2.2) && decide (zs[i].1 < zs[j].1)))) := Lib.hid rfl
  have i0 : (0 : Int) ≤ (i : Int) := by omega
  have j0 : (0 : Int) ≤ (j : Int) := by omega
  have i1 : (i : Int) < zs.length := by omega
  have j1 : (j : Int) < zs.length := by omega
  generalize zs[i].1 = x at *
  generalize zs[i].2.2 = s at *
  generalize zs[j].1 = y at *
  generalize zs[j].2.2 = t at *
  rw [HL.out]
  clear HI HJ HL
  by_cases h1 : s < t
  · have q1 : decide (s < t) = true := decide_eq_true h1
    clear h1
    go_enter Try.func74, Try.ntmps74
    go_wp2
    go_quiet (fail)
    go_wp2
    go_ret
    exact ⟨by first | rfl | simp [q1], _, rfl⟩
  · have q1 : decide (s < t) = false := decide_eq_false h1
    by_cases h2' : s = t
    · have q2 : (s == t) = true := by simp [h2']
      have q2' : decide (s = t) = true := decide_eq_true h2'
      have Q := Lib.hid q2'
      clear h1 h2' q2'
      by_cases h3 : x < y
      · have q3 : decide (x < y) = true := decide_eq_true h3
        clear h3
        go_enter Try.func74, Try.ntmps74
        go_wp2
        go_quiet (fail)
        go_wp2
        go_ret
        exact ⟨by rw [q1, Q.out, q3]; rfl, _, rfl⟩
      · have q3 : decide (x < y) = false := decide_eq_false h3
        clear h3
        go_enter Try.func74, Try.ntmps74
        go_wp2
        go_quiet (fail)
        go_wp2
        go_ret
        exact ⟨by rw [q1, Q.out, q3]; rfl, _, rfl⟩
    · have q2 : (s == t) = false := by simp [h2']
      have q2' : decide (s = t) = false := decide_eq_false h2'
      have Q := Lib.hid q2'
      clear h1 h2' q2'
      go_enter Try.func74, Try.ntmps74
      go_wp2
      go_quiet (fail)
      go_wp2
      go_ret
      exact ⟨by rw [q1, Q.out]; rfl, _, rfl⟩

/-- The world while two places are exchanged. -/
def swW (wd w1 w2 : World) (L : Nat → Bool) (w : World) : Prop := w = if L 15 then w2 else if L 13 then w1 else wd
theorem swW.skip {wd w1 w2 w : World} {L : Nat → Bool} (h : swW wd w1 w2 L w) {i : Nat} (h1 : i ≠ 13) (h2 : i ≠ 15) : swW wd w1 w2 (regL L i) w := by
  unfold swW at *; rw [h]; simp [regL, Ne.symm h1, Ne.symm h2]
theorem swW.at0 {wd w1 w2 w : World} {L : Nat → Bool} (h : swW wd w1 w2 L w) (h1 : L 15 = false) (h2 : L 13 = false) : w = wd := by
  unfold swW at h; rw [h1, h2] at h; exact h
theorem swW.at1 {wd w1 w2 w : World} {L : Nat → Bool} (h : swW wd w1 w2 L w) (h1 : L 15 = false) (h2 : L 13 = true) : w = w1 := by
  unfold swW at h; rw [h1, h2] at h; exact h
theorem swW.to1 {wd w1 w2 w : World} {L : Nat → Bool} (h : swW wd w1 w2 L w) (h1 : L 15 = false) {i : Nat} (hi : i = 13) : swW wd w1 w2 (regL L 13) w1 := by
  unfold swW; simp [regL, h1]
theorem swW.to2 {wd w1 w2 w : World} {L : Nat → Bool} (h : swW wd w1 w2 L w) : swW wd w1 w2 (regL L 15) w2 := by
  unfold swW; simp [regL]
def swG (g cap n i j : Nat) (x y z x' y' z' : Int) (k : Nat) (v : Value) (w : World) : Prop := match k with
  | 0 => v = .slice (some ⟨g, 0, none⟩) n cap
  | 1 => v = .int .i64 i
  | 2 => v = .slice (some ⟨g, 0, none⟩) n cap
  | 3 => v = .int .i64 j
  | 4 => v = .slice (some ⟨g, 0, none⟩) n cap
  | 5 => v = .int .i64 j
  | 6 => v = .pointer (some ⟨g, j * 3, none⟩)
  | 7 => v = .agg #[.int .i64 x', .int .i64 y', .int .i64 z']
  | 8 => v = .slice (some ⟨g, 0, none⟩) n cap
  | 9 => v = .int .i64 i
  | 10 => v = .pointer (some ⟨g, i * 3, none⟩)
  | 11 => v = .agg #[.int .i64 x, .int .i64 y, .int .i64 z]
  | 12 => v = .pointer (some ⟨g, i * 3, none⟩)
  | 14 => v = .pointer (some ⟨g, j * 3, none⟩)
  | _ => True

set_option maxRecDepth 100000 in
set_option maxHeartbeats 2000000 in
theorem heapSwap_any (g cap : Nat) (e : TypeId) (B : Nat) (zs : List Ent) (i j : Nat) (w : World) (hl : zs.length ≤ 4194304) (hi : i < zs.length) (hj : j < zs.length) (hij : i ≠ j) (ho : OwnRow EL e w B (.slice (some ⟨g, 0, none⟩) zs.length cap) zs) :
    Calls Try.prog 75 #[.slice (some ⟨g, 0, none⟩) zs.length cap, .int .i64 i, .int .i64 j] w fun e' w' => e' = .returned (.tuple #[]) ∧ OwnRow EL e w' B (.slice (some ⟨g, 0, none⟩) zs.length cap) (swapL zs i j) ∧ w.grownBy w' (some g) := by
  obtain ⟨h0, h1, h2⟩ := ho.d1.ent i hi
  obtain ⟨g0, g1, g2⟩ := ho.d1.ent j hj
  have f0 := ho.d1.frozenAt (i * 3); have f1 := ho.d1.frozenAt (i * 3 + 1); have f2 := ho.d1.frozenAt (i * 3 + 2)
  have i0 : (0 : Int) ≤ (i : Int) := by omega
  have j0 : (0 : Int) ≤ (j : Int) := by omega
  have i1 : (i : Int) < zs.length := by omega
  have j1 : (j : Int) < zs.length := by omega
  have HS : Hid (swapL zs i j = (zs.set i (zs[j].1, zs[j].2.1, zs[j].2.2)).set j (zs[i].1, zs[i].2.1, zs[i].2.2)) := Lib.hid (by simp [swapL, hi, hj])
  have HO : Hid (OwnRow EL e w B (.slice (some ⟨g, 0, none⟩) zs.length cap) zs) := Lib.hid ho
  clear ho
  generalize zs[i].1 = x at *
  generalize zs[i].2.1 = y at *
  generalize zs[i].2.2 = z at *
  generalize hx' : zs[j].1 = x' at *
  generalize hy' : zs[j].2.1 = y' at *
  generalize hz' : zs[j].2.2 = z' at *
  obtain ⟨wd, hwd⟩ : ∃ wd, wd = w.drew := ⟨_, rfl⟩
  rw [← hwd] at h0 h1 h2 g0 g1 g2 f0 f1 f2
  obtain ⟨w1, hw1⟩ : ∃ w1, w1 = ((wd.setCell ⟨g, i * 3, none⟩ (.int .i64 x')).setCell ⟨g, i * 3 + 1, none⟩ (.int .i64 y')).setCell ⟨g, i * 3 + 2, none⟩ (.int .i64 z') := ⟨_, rfl⟩
  have o1 := HO.out.d1.set3 i hi x' y' z'
  rw [← hwd, ← hw1] at o1
  have hj2 : j < (zs.set i (x', y', z')).length := by simpa using hj
  obtain ⟨w2, hw2⟩ : ∃ w2, w2 = ((w1.setCell ⟨g, j * 3, none⟩ (.int .i64 x)).setCell ⟨g, j * 3 + 1, none⟩ (.int .i64 y)).setCell ⟨g, j * 3 + 2, none⟩ (.int .i64 z) := ⟨_, rfl⟩
  have o2 := o1.set3 j hj2 x y z
  rw [← hw2, ← HS.out] at o2
  obtain ⟨k0, k1, k2⟩ := o1.ent j hj2
  have l0 := o1.frozenAt (j * 3); have l1 := o1.frozenAt (j * 3 + 1); have l2 := o1.frozenAt (j * 3 + 2)
  have G2 : Hid (w.grownBy w2 (some g)) := Lib.hid (by
    rw [hw2, hw1, hwd]
    exact ((((((⟨rfl, rfl, rfl, Nat.le_refl _, fun _ _ _ => rfl⟩ : w.grownBy w.drew (some g)).trans (grown_set _ g _ _)).trans (grown_set _ g _ _)).trans (grown_set _ g _ _)).trans (grown_set _ g _ _)).trans (grown_set _ g _ _)).trans (grown_set _ g _ _))
  have O2 := Lib.hid o2
  have E1 := Lib.hid hw1; have E2 := Lib.hid hw2
  have EW := Lib.hid hwd
  clear hw1 hw2 o1 o2 hwd hx' hy' hz'
  go_enter Try.func75, Try.ntmps75
  go_wp2_with fail
  refine wp_region_facts [[],[],[],[],[],[],[4,5],[6],[],[],[8,9],[10],[0,1,4,5,6,7,11],[12,7,0,1,4,5,6,11],[2,3,13],[14,11,13,7,12]] (swW wd w1 w2) (swG g cap zs.length i j x y z x' y' z') (fun _ _ => True) (by kernel_rfl) (by kernel_rfl) (fun _ _ _ _ _ h => h) (by rw [← EW.out]; rfl) ?_ ?_
  · refine ⟨?_, ?_, ?_, ?_, ?_, ?_, ?_, ?_, ?_, ?_, ?_, ?_, ?_, ?_, ?_, ?_, trivial⟩
    · intro a w3 vs L hW hL hN hO hk hd K hK
      have hv := hO 0 (by decide)
      clear hN hO
      go_simp
      exact hK _ _ (hW.skip (by decide) (by decide)) trivial rfl
    · intro a w3 vs L hW hL hN hO hk hd K hK
      have hv := hO 1 (by decide)
      clear hN hO
      go_simp
      exact hK _ _ (hW.skip (by decide) (by decide)) trivial rfl
    · intro a w3 vs L hW hL hN hO hk hd K hK
      have hv := hO 0 (by decide)
      clear hN hO
      go_simp
      exact hK _ _ (hW.skip (by decide) (by decide)) trivial rfl
    · intro a w3 vs L hW hL hN hO hk hd K hK
      have hv := hO 2 (by decide)
      clear hN hO
      go_simp
      exact hK _ _ (hW.skip (by decide) (by decide)) trivial rfl
    · intro a w3 vs L hW hL hN hO hk hd K hK
      have hv := hO 0 (by decide)
      clear hN hO
      go_simp
      exact hK _ _ (hW.skip (by decide) (by decide)) trivial rfl
    · intro a w3 vs L hW hL hN hO hk hd K hK
      have hv := hO 2 (by decide)
      clear hN hO
      go_simp
      exact hK _ _ (hW.skip (by decide) (by decide)) trivial rfl
    · intro a w3 vs L hW hL hN hO hk hd K hK
      have d4 := hd 4 10 (by decide) rfl
      rw [show vs 4 = .slice (some ⟨g, 0, none⟩) zs.length cap from (hk 4 (by decide)).2] at d4
      have d5 := hd 5 11 (by decide) rfl
      rw [show vs 5 = .int .i64 j from (hk 5 (by decide)).2] at d5
      clear hk hd hN hO
      go_simp
      exact hK _ _ (hW.skip (by decide) (by decide)) trivial rfl
    · intro a w3 vs L hW hL hN hO hk hd K hK
      have d6 := hd 6 12 (by decide) rfl
      rw [show vs 6 = .pointer (some ⟨g, j * 3, none⟩) from (hk 6 (by decide)).2] at d6
      have e3 : w3 = wd := hW.at0 (hN 15 (by decide)) (hN 13 (by decide))
      subst e3
      clear hk hd hN hO
      go_simp
      exact hK _ _ (hW.skip (by decide) (by decide)) trivial rfl
    · intro a w3 vs L hW hL hN hO hk hd K hK
      have hv := hO 0 (by decide)
      clear hN hO
      go_simp
      exact hK _ _ (hW.skip (by decide) (by decide)) trivial rfl
    · intro a w3 vs L hW hL hN hO hk hd K hK
      have hv := hO 1 (by decide)
      clear hN hO
      go_simp
      exact hK _ _ (hW.skip (by decide) (by decide)) trivial rfl
    · intro a w3 vs L hW hL hN hO hk hd K hK
      have d8 := hd 8 14 (by decide) rfl
      rw [show vs 8 = .slice (some ⟨g, 0, none⟩) zs.length cap from (hk 8 (by decide)).2] at d8
      have d9 := hd 9 15 (by decide) rfl
      rw [show vs 9 = .int .i64 i from (hk 9 (by decide)).2] at d9
      clear hk hd hN hO
      go_simp
      exact hK _ _ (hW.skip (by decide) (by decide)) trivial rfl
    · intro a w3 vs L hW hL hN hO hk hd K hK
      have d10 := hd 10 16 (by decide) rfl
      rw [show vs 10 = .pointer (some ⟨g, i * 3, none⟩) from (hk 10 (by decide)).2] at d10
      have e3 : w3 = wd := hW.at0 (hN 15 (by decide)) (hN 13 (by decide))
      subst e3
      clear hk hd hN hO
      go_simp
      exact hK _ _ (hW.skip (by decide) (by decide)) trivial rfl
    · intro a w3 vs L hW hL hN hO hk hd K hK
      have d0 := hd 0 6 (by decide) rfl
      rw [show vs 0 = .slice (some ⟨g, 0, none⟩) zs.length cap from (hk 0 (by decide)).2] at d0
      have d1 := hd 1 7 (by decide) rfl
      rw [show vs 1 = .int .i64 i from (hk 1 (by decide)).2] at d1
      clear hk hd hN hO
      go_simp
      exact hK _ _ (hW.skip (by decide) (by decide)) trivial rfl
    · intro a w3 vs L hW hL hN hO hk hd K hK
      have d12 := hd 12 18 (by decide) rfl
      rw [show vs 12 = .pointer (some ⟨g, i * 3, none⟩) from (hk 12 (by decide)).2] at d12
      have d7 := hd 7 13 (by decide) rfl
      rw [show vs 7 = .agg #[.int .i64 x', .int .i64 y', .int .i64 z'] from (hk 7 (by decide)).2] at d7
      have e3 : w3 = wd := hW.at0 (hN 15 (by decide)) hL
      subst e3
      have hW1 := hW.to1 (hN 15 (by decide)) (i := 13) rfl
      clear hk hd hN hO
      go_simp
      refine hK undef _ ?_ trivial trivial
      rw [← E1.out]
      exact hW1
    · intro a w3 vs L hW hL hN hO hk hd K hK
      have d2 := hd 2 8 (by decide) rfl
      rw [show vs 2 = .slice (some ⟨g, 0, none⟩) zs.length cap from (hk 2 (by decide)).2] at d2
      have d3 := hd 3 9 (by decide) rfl
      rw [show vs 3 = .int .i64 j from (hk 3 (by decide)).2] at d3
      clear hk hd hN hO
      go_simp
      exact hK _ _ (hW.skip (by decide) (by decide)) trivial rfl
    · intro a w3 vs L hW hL hN hO hk hd K hK
      have d14 := hd 14 19 (by decide) rfl
      rw [show vs 14 = .pointer (some ⟨g, j * 3, none⟩) from (hk 14 (by decide)).2] at d14
      have d11 := hd 11 17 (by decide) rfl
      rw [show vs 11 = .agg #[.int .i64 x, .int .i64 y, .int .i64 z] from (hk 11 (by decide)).2] at d11
      have e3 : w3 = w1 := hW.at1 hL (hk 13 (by decide)).1
      subst e3
      have hW1 := hW.to2
      clear hk hd hN hO
      go_simp
      refine hK undef _ ?_ trivial trivial
      rw [← E2.out]
      exact hW1
  · intro vs w3 hW hG
    have e3 : w3 = w2 := by unfold swW at hW; rw [if_pos (by kernel_rfl)] at hW; exact hW
    subst e3
    clear hW hG
    simp only [putAll, Act.put, Nat.zero_add, Nat.reduceAdd]
    generalize vs 0 = y0
    generalize vs 1 = y1
    generalize vs 2 = y2
    generalize vs 3 = y3
    generalize vs 4 = y4
    generalize vs 5 = y5
    generalize vs 6 = y6
    generalize vs 7 = y7
    generalize vs 8 = y8
    generalize vs 9 = y9
    generalize vs 10 = y10
    generalize vs 11 = y11
    generalize vs 12 = y12
    generalize vs 14 = y14
    simp only [List.setIfInBounds_toArray, List.set_cons_succ, List.set_cons_zero]
    go_wp2
    go_end0
    exact ⟨rfl, O2.out, G2.out⟩

/-- A variable that holds a slice of entries of the call's own. -/
def HeapAt (w : World) (B : Nat) (p g cap : Nat) (zs : List Ent) : Prop :=
  Blk w p #[.slice (some ⟨g, 0, none⟩) zs.length cap] 66 ∧ OwnRow EL entT w B (.slice (some ⟨g, 0, none⟩) zs.length cap) zs ∧ B ≤ p ∧ p ≠ g

theorem nilLen (a : Addr) (w : World) : (nilAhead 157 68 (.pointer (some a)) "Len").run Try.prog w = .ok (some false) w := by kernel_rfl

end Go.Proofs.Ytcahemedlmagdaa
