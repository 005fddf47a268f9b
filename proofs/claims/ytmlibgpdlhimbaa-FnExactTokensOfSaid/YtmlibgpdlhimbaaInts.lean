/- The laws' helpers on slices of numbers: what each computes. -/
import Derived.Test.YtmlibgpdlhimbaaChecked
import Derived.Test.YtmlibgpdlhimbaaBase
namespace Go.Proofs.Ytmlibgpdlhimbaa
open Go.RowKit
set_option linter.unusedVariables false
set_option linter.unusedSimpArgs false

theorem infoInt : (Try.prog.info? 3).map (fun i => (i.zero, i.size, i.bytes)) = some (some (.int .i64 0), 1, 8) := by kernel_rfl

theorem own_empty (w : World) : OwnInts (w.alloc (.cells #[] 3)) w.heap.size (.slice (some ⟨w.heap.size, 0, none⟩) 0 0) [] :=
  World.ownsRow_lit w #[] 0 (Nat.le_refl _) (by unfold maxLen; omega) rfl

theorem below_alloc (w : World) (o : Obj) : Below w.heap.size w (w.alloc o) := (Below.refl _ _).alloc (Nat.le_refl _) o

theorem own_snoc {w' : World} {B : Nat} {v' : Value} {xs : List Int} {y : Int} {n : Nat}
    (h : w'.ownsRow B 3 1 v' n (ints xs ++ [.int .i64 y])) (hn : n = xs.length + 1) : OwnInts w' B v' (xs ++ [y]) := by
  subst hn
  unfold OwnInts
  rw [List.length_append, ints_append]
  exact h
theorem oneCell_int (x : Int) : ∀ u ∈ [Value.int .i64 x], u.oneCell' = true := by intro u hu; simp at hu; subst hu; rfl

/-- What heldIntS answers. -/
def heldFrom (k : Int) : List Int → Int
  | [] => k
  | z :: zs => if z = k then heldFrom (k + 1) zs else -1

def upFrom (k : Int) : Nat → List Int
  | 0 => []
  | n + 1 => k :: upFrom (k + 1) n

theorem length_upFrom (k : Int) (n : Nat) : (upFrom k n).length = n := by
  induction n generalizing k with
  | zero => rfl
  | succ n ih => simp [upFrom, ih]

theorem heldFrom_up (k : Int) (n : Nat) : heldFrom k (upFrom k n) = k + n := by
  induction n generalizing k with
  | zero => simp [heldFrom, upFrom]
  | succ n ih => simp [heldFrom, upFrom, ih]; omega

set_option maxHeartbeats 400000 in
theorem heldIntS_any (v : Value) (zs : List Int) (k : Int) (w : World) (hk0 : 0 ≤ k) (hk1 : k ≤ 4611686018427387904) (hlen : zs.length ≤ 4194304) (hr : RInts w v zs) :
    Calls Try.prog 20 #[v, .int .i64 k] w fun e w' => e = .returned (.int .i64 (heldFrom k zs)) ∧ w = w' := by
  obtain ⟨a, cap, rfl, hc, hm, hcell⟩ := hr
  go_enter Try.func20, Try.ntmps20
  go_wp2
  go_loop [1, 5] (fun q i => ∃ j : Nat, j ≤ zs.length ∧ i = .int .i64 j ∧ q = .int .i64 (k + j) ∧ Hid (heldFrom k zs = heldFrom (k + j) (zs.drop j))) (fun _ i => zs.length - (intOf i).toNat)
  case atStart => exact ⟨0, Nat.zero_le _, rfl, by simp, by simp [Hid]⟩
  case round =>
    obtain ⟨j, hj, rfl, rfl, hH⟩ := hrel
    by_cases hlt : j < zs.length
    · obtain ⟨b, off, rfl, hb, hcj⟩ := hcell j hlt
      have hD : Hid (zs.drop j = zs[j] :: zs.drop (j + 1)) := List.drop_eq_getElem_cons hlt
      obtain ⟨z, hz⟩ : ∃ z, z = zs[j] := ⟨_, rfl⟩
      rw [← hz] at hcj hD
      clear hz
      by_cases hzk : z = k + j
      · have hzk' : (z != k + j) = false := by simp [hzk]
        have HZ := Lib.hid hzk; clear hzk
        go_wp2
        go_round
        case rel => exact ⟨j + 1, by omega, by go_num, by go_num, by rw [hH.out, hD.out, heldFrom, if_pos HZ.out]; simp [Hid]; congr 1; omega⟩
        case measure => simp [intOf]; omega
      · have hzk' : (z != k + j) = true := by simp [hzk]
        go_wp2
        go_ret
        exact ⟨ret_int (by rw [hH.out, hD.out, heldFrom, if_neg hzk]), rfl⟩
    · go_wp2
      go_ret
      exact ⟨ret_int (by rw [hH.out, List.drop_of_length_le (by omega)]; rfl), rfl⟩

/-- What eqIntS and sameInts answer. -/
theorem eqLists (xs ys : List Int) (n : Nat) (hx : n ≤ xs.length) (h : xs.take n = ys.take n) (hl : xs.length = ys.length) (hn : xs.length ≤ n) : xs = ys := by
  rw [List.take_of_length_le (by omega), List.take_of_length_le (by omega)] at h; exact h

theorem take_snoc_eq {xs ys : List Int} {j : Nat} (hx : j < xs.length) (hy : j < ys.length) (h : xs.take j = ys.take j) (he : xs[j] = ys[j]) : xs.take (j + 1) = ys.take (j + 1) := by
  rw [List.take_succ_eq_append_getElem hx, List.take_succ_eq_append_getElem hy, h, he]

theorem take_ne {xs ys : List Int} {j : Nat} (hx : j < xs.length) (hy : j < ys.length) (he : xs[j] ≠ ys[j]) : xs ≠ ys := by
  intro h; subst h; exact he rfl

set_option maxHeartbeats 400000 in
theorem eqIntS_any (v1 v2 : Value) (xs ys : List Int) (w : World) (hl1 : xs.length ≤ 4194304) (hr1 : RInts w v1 xs) (hr2 : RInts w v2 ys) :
    Calls Try.prog 18 #[v1, v2] w fun e w' => e = .returned (.bool (decide (xs = ys))) ∧ ∃ n, w' = w.drewN n := by
  obtain ⟨a, cap, rfl, hc, hm, hcell⟩ := hr1
  obtain ⟨a2, cap2, rfl, hc2, hm2, hcell2⟩ := hr2
  by_cases hne : xs.length = ys.length
  · have hlen2 : ys.length ≤ 4194304 := by omega
    have hne' : ((xs.length : Int) != ys.length) = false := by simp [hne]
    have HN := Lib.hid hne; clear hne
    go_enter Try.func18, Try.ntmps18
    go_wp2
    go_loopw [5] (fun i wr => ∃ j : Nat, j ≤ xs.length ∧ i = .int .i64 j ∧ Hid (xs.take j = ys.take j) ∧ ∃ m, wr = w.drewN m) (fun i _ => xs.length - (intOf i).toNat)
    case atStart => exact ⟨0, Nat.zero_le _, rfl, by simp [Hid], 0, rfl⟩
    case round =>
      obtain ⟨j, hj, rfl, hH, m0, rfl⟩ := hrel
      by_cases hlt : j < xs.length
      · have hlt2 : j < ys.length := by have := HN.out; omega
        obtain ⟨b, off, rfl, hb, hcj⟩ := hcell j hlt
        obtain ⟨b2, off2, rfl, hb2, hcj2⟩ := hcell2 j hlt2
        obtain ⟨x, hx⟩ : ∃ x, x = xs[j] := ⟨_, rfl⟩
        obtain ⟨y, hy⟩ : ∃ y, y = ys[j] := ⟨_, rfl⟩
        rw [← hx] at hcj
        rw [← hy] at hcj2
        have HX := Lib.hid hx; clear hx
        have HY := Lib.hid hy; clear hy
        by_cases hxy : x = y
        · have hxy' : (x != y) = false := by simp [hxy]
          have HE := Lib.hid hxy; clear hxy
          go_wp2
          go_quiet (fail)
          go_wp2
          go_roundw
          case rel => exact ⟨j + 1, by omega, by go_num, take_snoc_eq hlt hlt2 hH.out (by rw [← HX.out, ← HY.out]; exact HE.out), (by first | exact ⟨_, rfl⟩ | exact draws_two _ _ _)⟩
          case measure => simp [intOf]; omega
        · have hxy' : (x != y) = true := by simp [hxy]
          go_wp2
          go_quiet (fail)
          go_wp2
          go_ret
          exact ⟨ret_bool (by rw [decide_eq_false]; exact take_ne hlt hlt2 (by rw [← HX.out, ← HY.out]; exact hxy)), (by first | exact ⟨_, rfl⟩ | exact draws_two _ _ _)⟩
      · go_wp2
        go_ret
        exact ⟨ret_bool (by rw [decide_eq_true]; exact eqLists xs ys j hj hH.out HN.out (by omega)), _, rfl⟩
  · have hne' : ((xs.length : Int) != ys.length) = true := by simp; omega
    go_enter Try.func18, Try.ntmps18
    go_wp2
    go_ret
    exact ⟨ret_bool (by rw [decide_eq_false]; intro h; subst h; exact hne rfl), 0, rfl⟩

set_option maxHeartbeats 400000 in
theorem sameInts_any (v1 v2 : Value) (xs ys : List Int) (w : World) (hl1 : xs.length ≤ 4194304) (hr1 : RInts w v1 xs) (hr2 : RInts w v2 ys) :
    Calls Try.prog 22 #[v1, v2] w fun e w' => e = .returned (.bool (decide (xs = ys))) ∧ ∃ n, w' = w.drewN n := by
  obtain ⟨a, cap, rfl, hc, hm, hcell⟩ := hr1
  obtain ⟨a2, cap2, rfl, hc2, hm2, hcell2⟩ := hr2
  by_cases hne : xs.length = ys.length
  · have hlen2 : ys.length ≤ 4194304 := by omega
    have hne' : ((xs.length : Int) != ys.length) = false := by simp [hne]
    have HN := Lib.hid hne; clear hne
    go_enter Try.func22, Try.ntmps22
    go_wp2
    go_loopw [5] (fun i wr => ∃ j : Nat, j ≤ xs.length ∧ i = .int .i64 j ∧ Hid (xs.take j = ys.take j) ∧ ∃ m, wr = w.drewN m) (fun i _ => xs.length - (intOf i).toNat)
    case atStart => exact ⟨0, Nat.zero_le _, rfl, by simp [Hid], 0, rfl⟩
    case round =>
      obtain ⟨j, hj, rfl, hH, m0, rfl⟩ := hrel
      by_cases hlt : j < xs.length
      · have hlt2 : j < ys.length := by have := HN.out; omega
        obtain ⟨b, off, rfl, hb, hcj⟩ := hcell j hlt
        obtain ⟨b2, off2, rfl, hb2, hcj2⟩ := hcell2 j hlt2
        obtain ⟨x, hx⟩ : ∃ x, x = xs[j] := ⟨_, rfl⟩
        obtain ⟨y, hy⟩ : ∃ y, y = ys[j] := ⟨_, rfl⟩
        rw [← hx] at hcj
        rw [← hy] at hcj2
        have HX := Lib.hid hx; clear hx
        have HY := Lib.hid hy; clear hy
        by_cases hxy : x = y
        · have hxy' : (x != y) = false := by simp [hxy]
          have HE := Lib.hid hxy; clear hxy
          go_wp2
          go_quiet (fail)
          go_wp2
          go_roundw
          case rel => exact ⟨j + 1, by omega, by go_num, take_snoc_eq hlt hlt2 hH.out (by rw [← HX.out, ← HY.out]; exact HE.out), (by first | exact ⟨_, rfl⟩ | exact draws_two _ _ _)⟩
          case measure => simp [intOf]; omega
        · have hxy' : (x != y) = true := by simp [hxy]
          go_wp2
          go_quiet (fail)
          go_wp2
          go_ret
          exact ⟨ret_bool (by rw [decide_eq_false]; exact take_ne hlt hlt2 (by rw [← HX.out, ← HY.out]; exact hxy)), (by first | exact ⟨_, rfl⟩ | exact draws_two _ _ _)⟩
      · go_wp2
        go_ret
        exact ⟨ret_bool (by rw [decide_eq_true]; exact eqLists xs ys j hj hH.out HN.out (by omega)), _, rfl⟩
  · have hne' : ((xs.length : Int) != ys.length) = true := by simp; omega
    go_enter Try.func22, Try.ntmps22
    go_wp2
    go_ret
    exact ⟨ret_bool (by rw [decide_eq_false]; intro h; subst h; exact hne rfl), 0, rfl⟩


set_option maxHeartbeats 400000 in
theorem hasInt_any (v : Value) (zs : List Int) (n : Int) (w : World) (hlen : zs.length ≤ 4194304) (hr : RInts w v zs) :
    Calls Try.prog 36 #[v, .int .i64 n] w fun e w' => e = .returned (.bool (decide (n ∈ zs))) ∧ w = w' := by
  obtain ⟨a, cap, rfl, hc, hm, hcell⟩ := hr
  go_enter Try.func36, Try.ntmps36
  go_wp2
  go_loop [5] (fun i => ∃ j : Nat, j ≤ zs.length ∧ i = .int .i64 j ∧ Hid (n ∉ zs.take j)) (fun i => zs.length - (intOf i).toNat)
  case atStart => exact ⟨0, Nat.zero_le _, rfl, by simp [Hid]⟩
  case round =>
    obtain ⟨j, hj, rfl, hH⟩ := hrel
    by_cases hlt : j < zs.length
    · obtain ⟨b, off, rfl, hb, hcj⟩ := hcell j hlt
      have hD : Hid (zs.take (j + 1) = zs.take j ++ [zs[j]]) := List.take_succ_eq_append_getElem hlt
      have hM : Hid (zs[j] ∈ zs) := List.getElem_mem hlt
      obtain ⟨z, hz⟩ : ∃ z, z = zs[j] := ⟨_, rfl⟩
      rw [← hz] at hcj hD hM
      clear hz
      by_cases hzk : z = n
      · have hzk' : (z == n) = true := by simp [hzk]
        have HZ := Lib.hid hzk; clear hzk
        go_wp2
        go_ret
        exact ⟨ret_bool (by rw [decide_eq_true]; rw [← HZ.out]; exact hM.out), rfl⟩
      · have hzk' : (z == n) = false := by simp [hzk]
        go_wp2
        go_round
        case rel => exact ⟨j + 1, by omega, by go_num, by show n ∉ _; rw [hD.out]; simp; exact ⟨hH.out, fun h => hzk h.symm⟩⟩
        case measure => simp [intOf]; omega
    · go_wp2
      go_ret
      exact ⟨ret_bool (by rw [decide_eq_false]; have := hH.out; rw [List.take_of_length_le (by omega)] at this; exact this), rfl⟩

theorem set_up {zs : List Int} {k : Int} {j : Nat} (hj : j < zs.length) : (ints (upFrom k j ++ zs.drop j)).set j (.int .i64 (k + j)) = ints (upFrom k (j + 1) ++ zs.drop (j + 1)) := by
  have hu : ∀ (k : Int) (j : Nat), upFrom k (j + 1) = upFrom k j ++ [k + j] := by
    intro k j
    induction j generalizing k with
    | zero => simp [upFrom]
    | succ j ih => rw [upFrom, ih (k + 1)]; simp [upFrom]; omega
  have hs : ∀ (l : List Value) (h : j < l.length) (u : Value), (l.drop j).set 0 u = u :: l.drop (j + 1) := by
    intro l h u
    rw [List.drop_eq_getElem_cons h]; rfl
  rw [hu]
  simp [ints, List.set_append, length_upFrom, List.map_drop]
  exact hs _ (by simpa using hj) _

set_option maxHeartbeats 400000 in
theorem markIntS_any (v : Value) (zs : List Int) (k : Int) (w : World) (B : Nat) (hk0 : 0 ≤ k) (hk1 : k ≤ 4611686018427387904) (hlen : zs.length ≤ 4194304) (hown : OwnInts w B v zs) :
    Calls Try.prog 19 #[v, .int .i64 k] w fun e w' => e = .returned (.int .i64 (k + zs.length)) ∧ OwnInts w' B v (upFrom k zs.length) ∧ w.grownBy w' v.ownBlock := by
  rcases ownsRow_shape hown with ⟨rfl, h0⟩ | ⟨g, cap, rfl, hB, hg, hn, hc⟩
  · obtain rfl : zs = [] := List.eq_nil_of_length_eq_zero h0
    go_enter Try.func19, Try.ntmps19
    go_wp2
    refine wp_loop_rounds 1 ?_
    rw [rounds_succ]
    go_wp2
    go_ret
    exact ⟨by simp, hown, ⟨rfl, rfl, rfl, Nat.le_refl _, fun _ _ _ => rfl⟩⟩
  · go_enter Try.func19, Try.ntmps19
    go_wp2
    go_loopw [1, 5] (fun q i wr => ∃ j : Nat, j ≤ zs.length ∧ i = .int .i64 j ∧ q = .int .i64 (k + j) ∧ wr.ownsRow B 3 1 (.slice (some ⟨g, 0, none⟩) zs.length cap) zs.length (ints (upFrom k j ++ zs.drop j)) ∧ w.grownBy wr (some g)) (fun _ i _ => zs.length - (intOf i).toNat)
    case atStart => exact ⟨0, Nat.zero_le _, rfl, by simp, by simpa [upFrom, OwnInts] using hown, ⟨rfl, rfl, rfl, Nat.le_refl _, fun _ _ _ => rfl⟩⟩
    case round =>
      obtain ⟨j, hj, rfl, rfl, hownj, hgr⟩ := hrel
      by_cases hlt : j < zs.length
      · have hcj : ∃ u, wr.cell? ⟨g, j, none⟩ = some u := ⟨_, (hownj.cellAt j (by omega)).trans (List.getElem?_eq_getElem (by simp [length_upFrom]; omega))⟩
        obtain ⟨u, hcj⟩ := hcj
        have hfz := hownj.frozenAt j
        have hst := hownj.stored j (.int .i64 (k + j))
        rw [set_up hlt] at hst
        have HS := Lib.hid hst
        clear hst
        go_wp2
        go_roundw
        case rel => exact ⟨j + 1, by omega, by go_num, by go_num, HS.out.1, hgr.trans HS.out.2⟩
        case measure => simp [intOf]; omega
      · obtain rfl : j = zs.length := by omega
        go_wp2
        go_ret
        exact ⟨rfl, by simpa [OwnInts, length_upFrom] using hownj, hgr⟩
end Go.Proofs.Ytmlibgpdlhimbaa
