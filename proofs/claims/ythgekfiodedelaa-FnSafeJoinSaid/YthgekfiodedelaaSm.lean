/- slices.Equal; laws.sameNode, sameRing; impl.sameRing; spec.l3SameNode, l3Same. -/
import Derived.Test.YthgekfiodedelaaImE
import Derived.Test.YthgekfiodedelaaSame
import Derived.BigQuiet
namespace Go.Proofs.Ythgekfiodedelaa
open Go.RowKit
set_option linter.unusedVariables false
set_option linter.unusedSimpArgs false

set_option maxHeartbeats 1000000 in
theorem equal_any (v1 v2 : Value) (xs ys : List Int) (w : World) (hl1 : xs.length ≤ 4194304) (hr1 : RInts w v1 xs) (hr2 : RInts w v2 ys) :
    Calls Try.prog 60 #[v1, v2] w fun e w' => e = .returned (.bool (decide (xs = ys))) ∧ ∃ n, w' = w.drewN n := by
  obtain ⟨a, cap, rfl, hc, hm, hcell⟩ := hr1
  obtain ⟨a2, cap2, rfl, hc2, hm2, hcell2⟩ := hr2
  by_cases hne : xs.length = ys.length
  · have hlen2 : ys.length ≤ 4194304 := by omega
    have hne' : ((xs.length : Int) != ys.length) = false := by simp [hne]
    have HN := Lib.hid hne; clear hne
    go_enter Try.func60, Try.ntmps60
    go_wp2
    go_loopw [5, 13] (fun _ i wr => ∃ j : Nat, j ≤ xs.length ∧ i = .int .i64 j ∧ Hid (xs.take j = ys.take j) ∧ ∃ m, wr = w.drewN m) (fun _ i _ => xs.length - (intOf i).toNat)
    case atStart => exact ⟨0, Nat.zero_le _, rfl, by simp [Hid], 0, rfl⟩
    case round =>
      obtain ⟨j, hj, rfl, hH, m0, rfl⟩ := hrel
      by_cases hlt : j < xs.length
      · have hlt2 : j < ys.length := by have := HN.out; omega
        obtain ⟨b, off, rfl, hb, hcj⟩ := hcell j hlt
        obtain ⟨b2, off2, rfl, hb2, hcj2⟩ := hcell2 j hlt2
        obtain ⟨x, hx⟩ : ∃ x, x = xs[j] := ⟨_, rfl⟩
        obtain ⟨y, hy⟩ : ∃ y, y = ys[j] := ⟨_, rfl⟩
        rw [← hx] at hcj
        rw [← hy] at hcj2
        have HX := Lib.hid hx; clear hx
        have HY := Lib.hid hy; clear hy
        by_cases hxy : x = y
        · have hxy' : (x != y) = false := by simp [hxy]
          have HE := Lib.hid hxy; clear hxy
          go_wp2
          go_quiet (fail)
          go_wp2
          go_roundw
          case rel => exact ⟨j + 1, by omega, by go_num, take_snoc_eq hlt hlt2 hH.out (by rw [← HX.out, ← HY.out]; exact HE.out), (by first | exact ⟨_, rfl⟩ | exact draws_two _ _ _)⟩
          case measure => simp [intOf]; omega
        · have hxy' : (x != y) = true := by simp [hxy]
          go_wp2
          go_quiet (fail)
          go_wp2
          go_ret
          exact ⟨ret_bool (by rw [decide_eq_false]; exact take_ne hlt hlt2 (by rw [← HX.out, ← HY.out]; exact hxy)), (by first | exact ⟨_, rfl⟩ | exact draws_two _ _ _)⟩
      · go_wp2
        go_ret
        exact ⟨ret_bool (by rw [decide_eq_true]; exact eqLists xs ys j hj hH.out HN.out (by omega)), _, rfl⟩
  · have hne' : ((xs.length : Int) != ys.length) = true := by simp; omega
    go_enter Try.func60, Try.ntmps60
    go_wp2
    go_ret
    exact ⟨ret_bool (by rw [decide_eq_false]; intro h; subst h; exact hne rfl), 0, rfl⟩


theorem rn_ext {D E : List Rn} (hl : D.length = E.length) {j : Nat} (hj : D.length ≤ j) (h : ∀ i, i < j → D[i]? = E[i]?) : D = E := by
  apply List.ext_getElem?
  intro i
  by_cases hi : i < j
  · exact h i hi
  · rw [List.getElem?_eq_none (by omega), List.getElem?_eq_none (by omega)]
theorem rn_step {D E : List Rn} {j : Nat} (h1 : j < D.length) (h2 : j < E.length) (h : ∀ i, i < j → D[i]? = E[i]?) (e : D[j] = E[j]) : ∀ i, i < j + 1 → D[i]? = E[i]? := fun i hi => by
  by_cases hij : i = j
  · subst hij; rw [List.getElem?_eq_getElem h1, List.getElem?_eq_getElem h2, e]
  · exact h i (by omega)
theorem rn_ne {D E : List Rn} {j : Nat} (h1 : j < D.length) (h2 : j < E.length) (e : D[j] ≠ E[j]) : D ≠ E := fun h => by subst h; exact e rfl

set_option maxRecDepth 100000 in
set_option maxHeartbeats 2000000 in
theorem same1_any (x1 y1 x2 y2 : Int) (s1 s2 : Value) (z1 z2 : List Int) (w : World) (h1 : RInts w s1 z1) (h2 : RInts w s2 z2) (hl : z1.length ≤ 4096) :
    Calls Try.prog 59 #[.agg #[.int .i64 x1, .int .i64 y1, s1], .agg #[.int .i64 x2, .int .i64 y2, s2]] w fun e w' => e = .returned (.bool (decide (((x1, y1, z1) : Rn) = (x2, y2, z2)))) ∧ Below w.heap.size w w' := by
  obtain ⟨a1, c1, rfl, -, -, -⟩ := id h1
  obtain ⟨a2, c2, rfl, -, -, -⟩ := id h2
  have B1 := Blk.new w #[.int .i64 x1, .int .i64 y1, .slice a1 z1.length c1] 37
  have B2 := Blk.new (w.alloc (.cells #[.int .i64 x1, .int .i64 y1, .slice a1 z1.length c1] 37)) #[.int .i64 x2, .int .i64 y2, .slice a2 z2.length c2] 37
  rw [World.size_alloc] at B2
  obtain ⟨W, hW⟩ : ∃ W, W = (w.alloc (.cells #[.int .i64 x1, .int .i64 y1, .slice a1 z1.length c1] 37)).alloc (.cells #[.int .i64 x2, .int .i64 y2, .slice a2 z2.length c2] 37) := ⟨_, rfl⟩
  have BB : Hid (Below w.heap.size w W) := Lib.hid (by rw [hW]; exact bAl (bAl (Below.refl _ _) _) _)
  have B1' := B1.al (.cells #[.int .i64 x2, .int .i64 y2, .slice a2 z2.length c2] 37)
  rw [← hW] at B1' B2
  have R1 := Lib.hid (h1.bl BB.out)
  have R2 := Lib.hid (h2.bl BB.out)
  obtain ⟨p0, p1, p2⟩ := B1'.get3
  obtain ⟨q0, q1, q2⟩ := B2.get3
  have hlt : w.heap.size < W.heap.size := B1'.lt
  have hlt2 : w.heap.size + 1 < W.heap.size := B2.lt
  clear B1 B1' B2 h1 h2
  by_cases e1 : x1 = x2
  · by_cases e2 : y1 = y2
    · rw [hW] at p0 p1 p2 q0 q1 q2 hlt hlt2
      have d1 : (x1 == x2) = true := by simp [e1]
      have d2 : (y1 == y2) = true := by simp [e2]
      have HE : Hid (decide (((x1, y1, z1) : Rn) = (x2, y2, z2)) = decide (z1 = z2)) := Lib.hid (decide_eq_decide.2 (by simp [e1, e2]))
      clear e1 e2
      go_enter Try.func59, Try.ntmps59
      go_wp2_with fail
      rw [← hW]
      refine (equal_any _ _ z1 z2 _ (by omega) R1.out R2.out).mono ?_
      rintro e w5 ⟨rfl, n5, rfl⟩
      have c5 := Lib.hid (bDr BB.out n5)
      go_wp2
      go_ret
      exact ⟨ret_bool HE.out.symm, by have h5 := c5.out; rw [hW] at h5; exact h5⟩
    · skip
      have d1 : (x1 == x2) = true := by simp [e1]
      have d2 : (y1 == y2) = false := by simp [e2]
      have HE : Hid (decide (((x1, y1, z1) : Rn) = (x2, y2, z2)) = false) := Lib.hid (decide_eq_false (by simp [e2]))
      clear e1 e2
      go_enter Try.func59, Try.ntmps59
      rw [hW] at p0 p1 p2 q0 q1 q2 hlt hlt2
      go_wp2
      go_ret
      exact ⟨ret_bool HE.out.symm, by rw [hW] at BB; exact BB.out⟩
  · skip
    have d1 : (x1 == x2) = false := by simp [e1]
    have HE : Hid (decide (((x1, y1, z1) : Rn) = (x2, y2, z2)) = false) := Lib.hid (decide_eq_false (by simp [e1]))
    clear e1
    go_enter Try.func59, Try.ntmps59
    rw [hW] at p0 p1 p2 q0 q1 q2 hlt hlt2
    go_wp2
    go_ret
    exact ⟨ret_bool HE.out.symm, by rw [hW] at BB; exact BB.out⟩

set_option maxRecDepth 100000 in
set_option maxHeartbeats 2000000 in
theorem sameNode_any (x1 y1 x2 y2 : Int) (s1 s2 : Value) (z1 z2 : List Int) (w : World) (h1 : RInts w s1 z1) (h2 : RInts w s2 z2) (hl : z1.length ≤ 4096) :
    Calls Try.prog 31 #[.agg #[.int .i64 x1, .int .i64 y1, s1], .agg #[.int .i64 x2, .int .i64 y2, s2]] w fun e w' => e = .returned (.bool (decide (((x1, y1, z1) : Rn) = (x2, y2, z2)))) ∧ Below w.heap.size w w' := by
  obtain ⟨a1, c1, rfl, -, -, -⟩ := id h1
  obtain ⟨a2, c2, rfl, -, -, -⟩ := id h2
  have B1 := Blk.new w #[.int .i64 x1, .int .i64 y1, .slice a1 z1.length c1] 37
  have B2 := Blk.new (w.alloc (.cells #[.int .i64 x1, .int .i64 y1, .slice a1 z1.length c1] 37)) #[.int .i64 x2, .int .i64 y2, .slice a2 z2.length c2] 37
  rw [World.size_alloc] at B2
  obtain ⟨W, hW⟩ : ∃ W, W = (w.alloc (.cells #[.int .i64 x1, .int .i64 y1, .slice a1 z1.length c1] 37)).alloc (.cells #[.int .i64 x2, .int .i64 y2, .slice a2 z2.length c2] 37) := ⟨_, rfl⟩
  have BB : Hid (Below w.heap.size w W) := Lib.hid (by rw [hW]; exact bAl (bAl (Below.refl _ _) _) _)
  have B1' := B1.al (.cells #[.int .i64 x2, .int .i64 y2, .slice a2 z2.length c2] 37)
  rw [← hW] at B1' B2
  have R1 := Lib.hid (h1.bl BB.out)
  have R2 := Lib.hid (h2.bl BB.out)
  obtain ⟨p0, p1, p2⟩ := B1'.get3
  obtain ⟨q0, q1, q2⟩ := B2.get3
  have hlt : w.heap.size < W.heap.size := B1'.lt
  have hlt2 : w.heap.size + 1 < W.heap.size := B2.lt
  clear B1 B1' B2 h1 h2
  by_cases e1 : x1 = x2
  · by_cases e2 : y1 = y2
    · rw [hW] at p0 p1 p2 q0 q1 q2 hlt hlt2
      have d1 : (x1 == x2) = true := by simp [e1]
      have d2 : (y1 == y2) = true := by simp [e2]
      have HE : Hid (decide (((x1, y1, z1) : Rn) = (x2, y2, z2)) = decide (z1 = z2)) := Lib.hid (decide_eq_decide.2 (by simp [e1, e2]))
      clear e1 e2
      go_enter Try.func31, Try.ntmps31
      go_wp2_with fail
      rw [← hW]
      refine (sameInts_any _ _ z1 z2 _ (by omega) R1.out R2.out).mono ?_
      rintro e w5 ⟨rfl, n5, rfl⟩
      have c5 := Lib.hid (bDr BB.out n5)
      go_wp2
      go_ret
      exact ⟨ret_bool HE.out.symm, by have h5 := c5.out; rw [hW] at h5; exact h5⟩
    · skip
      have d1 : (x1 == x2) = true := by simp [e1]
      have d2 : (y1 == y2) = false := by simp [e2]
      have HE : Hid (decide (((x1, y1, z1) : Rn) = (x2, y2, z2)) = false) := Lib.hid (decide_eq_false (by simp [e2]))
      clear e1 e2
      go_enter Try.func31, Try.ntmps31
      rw [hW] at p0 p1 p2 q0 q1 q2 hlt hlt2
      go_wp2
      go_ret
      exact ⟨ret_bool HE.out.symm, by rw [hW] at BB; exact BB.out⟩
  · skip
    have d1 : (x1 == x2) = false := by simp [e1]
    have HE : Hid (decide (((x1, y1, z1) : Rn) = (x2, y2, z2)) = false) := Lib.hid (decide_eq_false (by simp [e1]))
    clear e1
    go_enter Try.func31, Try.ntmps31
    rw [hW] at p0 p1 p2 q0 q1 q2 hlt hlt2
    go_wp2
    go_ret
    exact ⟨ret_bool HE.out.symm, by rw [hW] at BB; exact BB.out⟩

set_option maxRecDepth 100000 in
set_option maxHeartbeats 2000000 in
theorem l3SameNode_any (x1 y1 x2 y2 : Int) (s1 s2 : Value) (z1 z2 : List Int) (w : World) (h1 : RInts w s1 z1) (h2 : RInts w s2 z2) (hl : z1.length ≤ 4096) :
    Calls Try.prog 89 #[.agg #[.int .i64 x1, .int .i64 y1, s1], .agg #[.int .i64 x2, .int .i64 y2, s2]] w fun e w' => e = .returned (.bool (decide (((x1, y1, z1) : Rn) = (x2, y2, z2)))) ∧ Below w.heap.size w w' := by
  obtain ⟨a1, c1, rfl, -, -, -⟩ := id h1
  obtain ⟨a2, c2, rfl, -, -, -⟩ := id h2
  have B1 := Blk.new w #[.int .i64 x1, .int .i64 y1, .slice a1 z1.length c1] 37
  have B2 := Blk.new (w.alloc (.cells #[.int .i64 x1, .int .i64 y1, .slice a1 z1.length c1] 37)) #[.int .i64 x2, .int .i64 y2, .slice a2 z2.length c2] 37
  rw [World.size_alloc] at B2
  obtain ⟨W, hW⟩ : ∃ W, W = (w.alloc (.cells #[.int .i64 x1, .int .i64 y1, .slice a1 z1.length c1] 37)).alloc (.cells #[.int .i64 x2, .int .i64 y2, .slice a2 z2.length c2] 37) := ⟨_, rfl⟩
  have BB : Hid (Below w.heap.size w W) := Lib.hid (by rw [hW]; exact bAl (bAl (Below.refl _ _) _) _)
  have B1' := B1.al (.cells #[.int .i64 x2, .int .i64 y2, .slice a2 z2.length c2] 37)
  rw [← hW] at B1' B2
  have R1 := Lib.hid (h1.bl BB.out)
  have R2 := Lib.hid (h2.bl BB.out)
  obtain ⟨p0, p1, p2⟩ := B1'.get3
  obtain ⟨q0, q1, q2⟩ := B2.get3
  have hlt : w.heap.size < W.heap.size := B1'.lt
  have hlt2 : w.heap.size + 1 < W.heap.size := B2.lt
  clear B1 B1' B2 h1 h2
  by_cases e1 : x1 = x2
  · by_cases e2 : y1 = y2
    · by_cases e3 : z1.length = z2.length
      · have d1 : (x1 != x2) = false := by simp [e1]
        have d2 : (y1 != y2) = false := by simp [e2]
        have d3 : ((z1.length : Int) != (z2.length : Int)) = false := by simp [e3]
        have HE : Hid (decide (((x1, y1, z1) : Rn) = (x2, y2, z2)) = decide (z1 = z2)) := Lib.hid (decide_eq_decide.2 (by simp [e1, e2]))
        have H3 := Lib.hid e3
        have BB2 := Lib.hid BB.out
        clear e1 e2 e3
        go_enter Try.func89, Try.ntmps89
        rw [hW] at p0 p1 p2 q0 q1 q2 hlt hlt2
        go_wp2
        rw [← hW]
        rw [← hW] at p0 p1 p2 q0 q1 q2 hlt hlt2
        clear hW
        go_loopw [5] (fun i wr => ∃ j : Nat, j ≤ z1.length ∧ i = .int .i64 j ∧ Hid (z1.take j = z2.take j) ∧ ∃ m, wr = W.drewN m) (fun i _ => z1.length - (intOf i).toNat)
        case atStart => exact ⟨0, Nat.zero_le _, rfl, Lib.hid (by simp), 0, rfl⟩
        case round =>
          obtain ⟨j, hj, rfl, hH, m0, rfl⟩ := hrel
          by_cases hlt1 : j < z1.length
          · have hltb : j < z2.length := by have := H3.out; omega
            obtain ⟨_, _, e1, -, -, hcell⟩ := R1.out
            cases e1
            obtain ⟨_, _, e2, -, -, hcell2⟩ := R2.out
            cases e2
            obtain ⟨b, off, rfl, hb, hcj⟩ := hcell j hlt1
            obtain ⟨b2, off2, rfl, hb2, hcj2⟩ := hcell2 j hltb
            obtain ⟨x, hx⟩ : ∃ x, x = z1[j] := ⟨_, rfl⟩
            obtain ⟨y, hy⟩ : ∃ y, y = z2[j] := ⟨_, rfl⟩
            rw [← hx] at hcj
            rw [← hy] at hcj2
            have HX := Lib.hid hx; clear hx
            have HY := Lib.hid hy; clear hy
            clear hcell hcell2
            by_cases hxy : x = y
            · have hxy' : (x != y) = false := by simp [hxy]
              have HXY := Lib.hid hxy; clear hxy
              go_wp2
              go_quiet (fail)
              go_wp2
              go_roundw
              case rel => exact ⟨j + 1, by omega, by go_num, Lib.hid (take_snoc_eq hlt1 hltb hH.out (by rw [← HX.out, ← HY.out]; exact HXY.out)), (by first | exact ⟨_, rfl⟩ | exact draws_two _ _ _)⟩
              case measure => simp [intOf]; omega
            · have hxy' : (x != y) = true := by simp [hxy]
              have HF : Hid (decide (z1 = z2) = false) := Lib.hid (by rw [decide_eq_false]; exact take_ne hlt1 hltb (by rw [← HX.out, ← HY.out]; exact hxy))
              clear hxy
              go_wp2
              go_quiet (fail)
              go_wp2
              go_ret
              exact ⟨ret_bool (by rw [HE.out, HF.out]), by first | exact bDr BB.out _ | (rw [← drewN_drewN]; exact bDr (bDr BB.out _) _) | exact bDr (bDr BB.out _) _⟩
          · have HF : Hid (decide (z1 = z2) = true) := Lib.hid (by rw [decide_eq_true]; exact eqLists z1 z2 j hj hH.out H3.out (by omega))
            go_wp2
            go_ret
            exact ⟨ret_bool (by rw [HE.out, HF.out]), bDr BB.out _⟩
      · skip
        have d1 : (x1 != x2) = false := by simp [e1]
        have d2 : (y1 != y2) = false := by simp [e2]
        have d3 : ((z1.length : Int) != (z2.length : Int)) = true := by simp; omega
        have HE : Hid (decide (((x1, y1, z1) : Rn) = (x2, y2, z2)) = false) := Lib.hid (decide_eq_false (by simp [e1, e2]; intro h; exact e3 (by rw [h])))
        rw [hW] at p0 p1 p2 q0 q1 q2 hlt hlt2
        clear e1 e2 e3
        go_enter Try.func89, Try.ntmps89
        go_wp2
        go_ret
        exact ⟨ret_bool HE.out.symm, by rw [hW] at BB; exact BB.out⟩
    · skip
      have d1 : (x1 != x2) = false := by simp [e1]
      have d2 : (y1 != y2) = true := by simp [e2]
      have HE : Hid (decide (((x1, y1, z1) : Rn) = (x2, y2, z2)) = false) := Lib.hid (decide_eq_false (by simp [e2]))
      rw [hW] at p0 p1 p2 q0 q1 q2 hlt hlt2
      clear e1 e2
      go_enter Try.func89, Try.ntmps89
      go_wp2
      go_ret
      exact ⟨ret_bool HE.out.symm, by rw [hW] at BB; exact BB.out⟩
  · skip
    have d1 : (x1 != x2) = true := by simp [e1]
    have HE : Hid (decide (((x1, y1, z1) : Rn) = (x2, y2, z2)) = false) := Lib.hid (decide_eq_false (by simp [e1]))
    rw [hW] at p0 p1 p2 q0 q1 q2 hlt hlt2
    clear e1
    go_enter Try.func89, Try.ntmps89
    go_wp2
    go_ret
    exact ⟨ret_bool HE.out.symm, by rw [hW] at BB; exact BB.out⟩

set_option maxRecDepth 100000 in
set_option maxHeartbeats 4000000 in
theorem sameRing_any (v1 v2 : Value) (D E : List Rn) (w : World) (hl : D.length ≤ 4096) (hls : ∀ e ∈ D, e.2.2.length ≤ 4096) (hr1 : RRing w v1 D) (hr2 : RRing w v2 E) :
    Calls Try.prog 11 #[v1, v2] w fun e w' => e = .returned (.bool (decide (D = E))) ∧ Below w.heap.size w w' := by
  obtain ⟨a, cap, rfl, hc, hm⟩ := id hr1.sl
  obtain ⟨a2, cap2, rfl, hc2, hm2⟩ := id hr2.sl
  have HR1 := Lib.hid hr1; have HR2 := Lib.hid hr2; clear hr1 hr2
  have HLS := Lib.hid hls; clear hls
  by_cases hne : D.length = E.length
  · have hne' : ((D.length : Int) != E.length) = false := by simp [hne]
    have HN := Lib.hid hne; clear hne
    go_enter Try.func11, Try.ntmps11
    go_wp2
    go_loopw [5] (fun i wr => ∃ j : Nat, j ≤ D.length ∧ i = .int .i64 j ∧ Hid (∀ i, i < j → D[i]? = E[i]?) ∧ Hid (Below w.heap.size w wr)) (fun i _ => D.length - (intOf i).toNat)
    case atStart => exact ⟨0, Nat.zero_le _, rfl, Lib.hid (fun i h => absurd h (by omega)), Lib.hid (Below.refl _ _)⟩
    case round =>
      obtain ⟨j, hj, rfl, HJ, BJ⟩ := hrel
      by_cases hlt : j < D.length
      · have hlt2 : j < E.length := by have := HN.out; omega
        obtain ⟨b, off, s, c, rfl, hb, x0, x1, x2, r1⟩ := RRing.nd (HR1.out.bl BJ.out) j hlt
        obtain ⟨b2, off2, s2, c2, rfl, hb2, y0, y1, y2, r2⟩ := RRing.nd (HR2.out.bl BJ.out) j hlt2
        have HS : Hid (D[j].2.2.length ≤ 4096) := Lib.hid (HLS.out _ (List.getElem_mem hlt))
        obtain ⟨d, hd⟩ : ∃ d, d = D[j] := ⟨_, rfl⟩
        obtain ⟨e, he⟩ : ∃ e, e = E[j] := ⟨_, rfl⟩
        rw [← hd] at x0 x1 x2 r1 HS
        rw [← he] at y0 y1 y2 r2
        have HDJ := Lib.hid hd; have HEJ := Lib.hid he
        clear hd he
        obtain ⟨dx, dy, dz⟩ := d
        obtain ⟨ex, ey, ez⟩ := e
        dsimp only at x0 x1 x2 r1 y0 y1 y2 r2 HS
        have HC := Lib.hid (sameNode_any dx dy ex ey _ _ dz ez wr.drew r1.d1 r2.d1 HS.out)
        have kk0 := And.intro (And.intro (show wr.drew.cell? _ = _ from x0) (And.intro (show wr.drew.cell? _ = _ from x1) (show wr.drew.cell? _ = _ from x2))) (And.intro (show wr.drew.cell? _ = _ from y0) (And.intro (show wr.drew.cell? _ = _ from y1) (show wr.drew.cell? _ = _ from y2)))
        go_wp2
        by_cases hq : ((dx, dy, dz) : Rn) = (ex, ey, ez)
        all_goals
          first
          | (have hq2 : decide (((dx, dy, dz) : Rn) = (ex, ey, ez)) = true := decide_eq_true hq)
          | (have hq2 : decide (((dx, dy, dz) : Rn) = (ex, ey, ez)) = false := decide_eq_false hq)
          rw [hq2] at HC
          go_region_held3 (fun w' => (w'.cell? ⟨b, off + j * 3, none⟩ = some (.int .i64 dx) ∧ w'.cell? ⟨b, off + j * 3 + 1, none⟩ = some (.int .i64 dy) ∧ w'.cell? ⟨b, off + j * 3 + 2, none⟩ = some (.slice s dz.length c)) ∧ (w'.cell? ⟨b2, off2 + j * 3, none⟩ = some (.int .i64 ex) ∧ w'.cell? ⟨b2, off2 + j * 3 + 1, none⟩ = some (.int .i64 ey) ∧ w'.cell? ⟨b2, off2 + j * 3 + 2, none⟩ = some (.slice s2 ez.length c2))) (first | with_reducible exact kk0 | with_reducible exact kk5) ((go_at_call 31; refine HC.out.mono ?_; rintro e w5 ⟨rfl, b5⟩; have kk5 := And.intro (And.intro ((b5.cell hb).trans kk0.1.1) (And.intro ((b5.cell hb).trans kk0.1.2.1) ((b5.cell hb).trans kk0.1.2.2))) (And.intro ((b5.cell hb2).trans kk0.2.1) (And.intro ((b5.cell hb2).trans kk0.2.2.1) ((b5.cell hb2).trans kk0.2.2.2))); have c5 := Lib.hid (bNext (bD1 BJ.out) b5)))
        · have HJ1 : Hid (∀ i, i < j + 1 → D[i]? = E[i]?) := Lib.hid (rn_step hlt hlt2 HJ.out (by rw [← HDJ.out, ← HEJ.out]; exact hq))
          clear hq kk0 kk5 x0 x1 x2 y0 y1 y2
          go_wp2
          go_roundw
          case rel => exact ⟨j + 1, by omega, by go_num, HJ1, c5⟩
          case measure => simp [intOf]; omega
        · have HF : Hid (decide (D = E) = false) := Lib.hid (decide_eq_false (rn_ne hlt hlt2 (by rw [← HDJ.out, ← HEJ.out]; exact hq)))
          clear hq kk0 kk5 x0 x1 x2 y0 y1 y2
          go_wp2
          go_ret
          exact ⟨ret_bool HF.out.symm, c5.out⟩
      · have HF : Hid (decide (D = E) = true) := Lib.hid (decide_eq_true (rn_ext HN.out (by omega) HJ.out))
        go_wp2
        go_ret
        exact ⟨ret_bool HF.out.symm, BJ.out⟩
  · have hne' : ((D.length : Int) != E.length) = true := by simp; omega
    have HF : Hid (decide (D = E) = false) := Lib.hid (decide_eq_false (fun h => hne (by rw [h])))
    clear hne
    go_enter Try.func11, Try.ntmps11
    go_wp2
    go_ret
    exact ⟨ret_bool HF.out.symm, Below.refl _ _⟩

set_option maxRecDepth 100000 in
set_option maxHeartbeats 4000000 in
theorem l3Same_any (v1 v2 : Value) (D E : List Rn) (w : World) (hl : D.length ≤ 4096) (hls : ∀ e ∈ D, e.2.2.length ≤ 4096) (hr1 : RRing w v1 D) (hr2 : RRing w v2 E) :
    Calls Try.prog 62 #[v1, v2] w fun e w' => e = .returned (.bool (decide (D = E))) ∧ Below w.heap.size w w' := by
  obtain ⟨a, cap, rfl, hc, hm⟩ := id hr1.sl
  obtain ⟨a2, cap2, rfl, hc2, hm2⟩ := id hr2.sl
  have HR1 := Lib.hid hr1; have HR2 := Lib.hid hr2; clear hr1 hr2
  have HLS := Lib.hid hls; clear hls
  by_cases hne : D.length = E.length
  · have hne' : ((D.length : Int) != E.length) = false := by simp [hne]
    have HN := Lib.hid hne; clear hne
    go_enter Try.func62, Try.ntmps62
    go_wp2
    go_loopw [5] (fun i wr => ∃ j : Nat, j ≤ D.length ∧ i = .int .i64 j ∧ Hid (∀ i, i < j → D[i]? = E[i]?) ∧ Hid (Below w.heap.size w wr)) (fun i _ => D.length - (intOf i).toNat)
    case atStart => exact ⟨0, Nat.zero_le _, rfl, Lib.hid (fun i h => absurd h (by omega)), Lib.hid (Below.refl _ _)⟩
    case round =>
      obtain ⟨j, hj, rfl, HJ, BJ⟩ := hrel
      by_cases hlt : j < D.length
      · have hlt2 : j < E.length := by have := HN.out; omega
        obtain ⟨b, off, s, c, rfl, hb, x0, x1, x2, r1⟩ := RRing.nd (HR1.out.bl BJ.out) j hlt
        obtain ⟨b2, off2, s2, c2, rfl, hb2, y0, y1, y2, r2⟩ := RRing.nd (HR2.out.bl BJ.out) j hlt2
        have HS : Hid (D[j].2.2.length ≤ 4096) := Lib.hid (HLS.out _ (List.getElem_mem hlt))
        obtain ⟨d, hd⟩ : ∃ d, d = D[j] := ⟨_, rfl⟩
        obtain ⟨e, he⟩ : ∃ e, e = E[j] := ⟨_, rfl⟩
        rw [← hd] at x0 x1 x2 r1 HS
        rw [← he] at y0 y1 y2 r2
        have HDJ := Lib.hid hd; have HEJ := Lib.hid he
        clear hd he
        obtain ⟨dx, dy, dz⟩ := d
        obtain ⟨ex, ey, ez⟩ := e
        dsimp only at x0 x1 x2 r1 y0 y1 y2 r2 HS
        have HC := Lib.hid (l3SameNode_any dx dy ex ey _ _ dz ez wr.drew r1.d1 r2.d1 HS.out)
        have kk0 := And.intro (And.intro (show wr.drew.cell? _ = _ from x0) (And.intro (show wr.drew.cell? _ = _ from x1) (show wr.drew.cell? _ = _ from x2))) (And.intro (show wr.drew.cell? _ = _ from y0) (And.intro (show wr.drew.cell? _ = _ from y1) (show wr.drew.cell? _ = _ from y2)))
        go_wp2
        by_cases hq : ((dx, dy, dz) : Rn) = (ex, ey, ez)
        all_goals
          first
          | (have hq2 : decide (((dx, dy, dz) : Rn) = (ex, ey, ez)) = true := decide_eq_true hq)
          | (have hq2 : decide (((dx, dy, dz) : Rn) = (ex, ey, ez)) = false := decide_eq_false hq)
          rw [hq2] at HC
          go_region_held3 (fun w' => (w'.cell? ⟨b, off + j * 3, none⟩ = some (.int .i64 dx) ∧ w'.cell? ⟨b, off + j * 3 + 1, none⟩ = some (.int .i64 dy) ∧ w'.cell? ⟨b, off + j * 3 + 2, none⟩ = some (.slice s dz.length c)) ∧ (w'.cell? ⟨b2, off2 + j * 3, none⟩ = some (.int .i64 ex) ∧ w'.cell? ⟨b2, off2 + j * 3 + 1, none⟩ = some (.int .i64 ey) ∧ w'.cell? ⟨b2, off2 + j * 3 + 2, none⟩ = some (.slice s2 ez.length c2))) (first | with_reducible exact kk0 | with_reducible exact kk5) ((go_at_call 89; refine HC.out.mono ?_; rintro e w5 ⟨rfl, b5⟩; have kk5 := And.intro (And.intro ((b5.cell hb).trans kk0.1.1) (And.intro ((b5.cell hb).trans kk0.1.2.1) ((b5.cell hb).trans kk0.1.2.2))) (And.intro ((b5.cell hb2).trans kk0.2.1) (And.intro ((b5.cell hb2).trans kk0.2.2.1) ((b5.cell hb2).trans kk0.2.2.2))); have c5 := Lib.hid (bNext (bD1 BJ.out) b5)))
        · have HJ1 : Hid (∀ i, i < j + 1 → D[i]? = E[i]?) := Lib.hid (rn_step hlt hlt2 HJ.out (by rw [← HDJ.out, ← HEJ.out]; exact hq))
          clear hq kk0 kk5 x0 x1 x2 y0 y1 y2
          go_wp2
          go_roundw
          case rel => exact ⟨j + 1, by omega, by go_num, HJ1, c5⟩
          case measure => simp [intOf]; omega
        · have HF : Hid (decide (D = E) = false) := Lib.hid (decide_eq_false (rn_ne hlt hlt2 (by rw [← HDJ.out, ← HEJ.out]; exact hq)))
          clear hq kk0 kk5 x0 x1 x2 y0 y1 y2
          go_wp2
          go_ret
          exact ⟨ret_bool HF.out.symm, c5.out⟩
      · have HF : Hid (decide (D = E) = true) := Lib.hid (decide_eq_true (rn_ext HN.out (by omega) HJ.out))
        go_wp2
        go_ret
        exact ⟨ret_bool HF.out.symm, BJ.out⟩
  · have hne' : ((D.length : Int) != E.length) = true := by simp; omega
    have HF : Hid (decide (D = E) = false) := Lib.hid (decide_eq_false (fun h => hne (by rw [h])))
    clear hne
    go_enter Try.func62, Try.ntmps62
    go_wp2
    go_ret
    exact ⟨ret_bool HF.out.symm, Below.refl _ _⟩

set_option maxRecDepth 100000 in
set_option maxHeartbeats 4000000 in
theorem equalFunc_any (v1 v2 : Value) (D E : List Rn) (w : World) (hl : D.length ≤ 4096) (hls : ∀ e ∈ D, e.2.2.length ≤ 4096) (hr1 : RRing w v1 D) (hr2 : RRing w v2 E) :
    Calls Try.prog 58 #[v1, v2, .func (.func 59) #[] #[]] w fun e w' => e = .returned (.bool (decide (D = E))) ∧ Below w.heap.size w w' := by
  have henter := enters_of Try.func59 (by kernel_rfl) rfl
  obtain ⟨a, cap, rfl, hc, hm⟩ := id hr1.sl
  obtain ⟨a2, cap2, rfl, hc2, hm2⟩ := id hr2.sl
  have HR1 := Lib.hid hr1; have HR2 := Lib.hid hr2; clear hr1 hr2
  have HLS := Lib.hid hls; clear hls
  by_cases hne : D.length = E.length
  · have hne' : ((D.length : Int) != E.length) = false := by simp [hne]
    have HN := Lib.hid hne; clear hne
    go_enter Try.func58, Try.ntmps58
    go_wp2
    go_loopw [7, 8, 9, 17] (fun _ _ _ i wr => ∃ j : Nat, j ≤ D.length ∧ i = .int .i64 j ∧ Hid (∀ i, i < j → D[i]? = E[i]?) ∧ Hid (Below w.heap.size w wr)) (fun _ _ _ i _ => D.length - (intOf i).toNat)
    case atStart => exact ⟨0, Nat.zero_le _, rfl, Lib.hid (fun i h => absurd h (by omega)), Lib.hid (Below.refl _ _)⟩
    case round =>
      obtain ⟨j, hj, rfl, HJ, BJ⟩ := hrel
      by_cases hlt : j < D.length
      · have hlt2 : j < E.length := by have := HN.out; omega
        obtain ⟨b, off, s, c, rfl, hb, x0, x1, x2, r1⟩ := RRing.nd (HR1.out.bl BJ.out) j hlt
        obtain ⟨b2, off2, s2, c2, rfl, hb2, y0, y1, y2, r2⟩ := RRing.nd (HR2.out.bl BJ.out) j hlt2
        have HS : Hid (D[j].2.2.length ≤ 4096) := Lib.hid (HLS.out _ (List.getElem_mem hlt))
        obtain ⟨d, hd⟩ : ∃ d, d = D[j] := ⟨_, rfl⟩
        obtain ⟨e, he⟩ : ∃ e, e = E[j] := ⟨_, rfl⟩
        rw [← hd] at x0 x1 x2 r1 HS
        rw [← he] at y0 y1 y2 r2
        have HDJ := Lib.hid hd; have HEJ := Lib.hid he
        clear hd he
        obtain ⟨dx, dy, dz⟩ := d
        obtain ⟨ex, ey, ez⟩ := e
        dsimp only at x0 x1 x2 r1 y0 y1 y2 r2 HS
        have B1 := Blk.new wr #[.int .i64 dx, .int .i64 dy, .slice s dz.length c] 37
        have y0' := (below_alloc wr (.cells #[.int .i64 dx, .int .i64 dy, .slice s dz.length c] 37)).cell (p := ⟨b2, off2 + j * 3, none⟩) hb2 |>.trans y0
        have y1' := (below_alloc wr (.cells #[.int .i64 dx, .int .i64 dy, .slice s dz.length c] 37)).cell (p := ⟨b2, off2 + j * 3 + 1, none⟩) hb2 |>.trans y1
        have y2' := (below_alloc wr (.cells #[.int .i64 dx, .int .i64 dy, .slice s dz.length c] 37)).cell (p := ⟨b2, off2 + j * 3 + 2, none⟩) hb2 |>.trans y2
        have B2 := Blk.new (wr.alloc (.cells #[.int .i64 dx, .int .i64 dy, .slice s dz.length c] 37)) #[.int .i64 ex, .int .i64 ey, .slice s2 ez.length c2] 37
        rw [World.size_alloc] at B2
        have B1' := B1.al (.cells #[.int .i64 ex, .int .i64 ey, .slice s2 ez.length c2] 37)
        obtain ⟨p0, p1, p2⟩ := B1'.get3
        obtain ⟨q0, q1, q2⟩ := B2.get3
        have BB : Hid (Below wr.heap.size wr ((wr.alloc (.cells #[.int .i64 dx, .int .i64 dy, .slice s dz.length c] 37)).alloc (.cells #[.int .i64 ex, .int .i64 ey, .slice s2 ez.length c2] 37))) := Lib.hid (bAl (bAl (Below.refl _ _) _) _)
        have HC := Lib.hid (same1_any dx dy ex ey _ _ dz ez _ (r1.bl BB.out) (r2.bl BB.out) HS.out)
        clear B1 B1' B2 y0 y1 y2
        by_cases hq : ((dx, dy, dz) : Rn) = (ex, ey, ez)
        · have hq2 : decide (((dx, dy, dz) : Rn) = (ex, ey, ez)) = true := decide_eq_true hq
          rw [hq2] at HC
          have HJ1 : Hid (∀ i, i < j + 1 → D[i]? = E[i]?) := Lib.hid (rn_step hlt hlt2 HJ.out (by rw [← HDJ.out, ← HEJ.out]; exact hq))
          clear hq hq2
          go_wp2_with fail
          refine HC.out.mono ?_
          rintro e w5 ⟨rfl, b5⟩
          have c5 := Lib.hid (bNext BJ.out (bNext BB.out b5))
          clear b5
          go_wp2
          go_roundw
          case rel => exact ⟨j + 1, by omega, by go_num, HJ1, c5⟩
          case measure => simp [intOf]; omega
        · have hq2 : decide (((dx, dy, dz) : Rn) = (ex, ey, ez)) = false := decide_eq_false hq
          rw [hq2] at HC
          have HF : Hid (decide (D = E) = false) := Lib.hid (decide_eq_false (rn_ne hlt hlt2 (by rw [← HDJ.out, ← HEJ.out]; exact hq)))
          clear hq hq2
          go_wp2_with fail
          refine HC.out.mono ?_
          rintro e w5 ⟨rfl, b5⟩
          have c5 := Lib.hid (bNext BJ.out (bNext BB.out b5))
          clear b5
          go_wp2
          go_ret
          exact ⟨ret_bool HF.out.symm, c5.out⟩
      · have HF : Hid (decide (D = E) = true) := Lib.hid (decide_eq_true (rn_ext HN.out (by omega) HJ.out))
        go_wp2
        go_ret
        exact ⟨ret_bool HF.out.symm, BJ.out⟩
  · have hne' : ((D.length : Int) != E.length) = true := by simp; omega
    have HF : Hid (decide (D = E) = false) := Lib.hid (decide_eq_false (fun h => hne (by rw [h])))
    clear hne
    go_enter Try.func58, Try.ntmps58
    go_wp2
    go_ret
    exact ⟨ret_bool HF.out.symm, Below.refl _ _⟩

set_option maxHeartbeats 1000000 in
theorem implSameRing_any (v1 v2 : Value) (D E : List Rn) (w : World) (hl : D.length ≤ 4096) (hls : ∀ e ∈ D, e.2.2.length ≤ 4096) (hr1 : RRing w v1 D) (hr2 : RRing w v2 E) :
    Calls Try.prog 29 #[v1, v2] w fun e w' => e = .returned (.bool (decide (D = E))) ∧ Below w.heap.size w w' := by
  have HC := Lib.hid (equalFunc_any v1 v2 D E w hl hls hr1 hr2)
  clear hr1 hr2 hls
  go_enter Try.func29, Try.ntmps29
  go_wp2_with fail
  refine HC.out.mono ?_
  rintro e w5 ⟨rfl, b5⟩
  have c5 := Lib.hid b5
  clear b5
  go_wp2
  go_ret
  exact ⟨rfl, c5.out⟩
end Go.Proofs.Ythgekfiodedelaa
