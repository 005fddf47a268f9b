/- impl.positions, up, CircleDistance, CircleBetween. -/
import Derived.Test.YthgekfiodedelaaNdP
import Derived.Test.YthgekfiodedelaaNodes
import Derived.Test.YthgekfiodedelaaRgPlain3
namespace Go.Proofs.Ythgekfiodedelaa
open Go.RowKit
set_option linter.unusedVariables false
set_option linter.unusedSimpArgs false

set_option maxHeartbeats 1000000 in
theorem positions_any (v : Value) (zs : List Int) (w : World) (hl : zs.length ≤ 4194304) (hr : RInts w v zs) :
    Calls Try.prog 65 #[v] w fun e w' => e = .returned (.bool (zs.all ptB)) ∧ w = w' := by
  obtain ⟨a, cap, rfl, hc, hm, hcell⟩ := hr
  go_enter Try.func65, Try.ntmps65
  go_wp2
  go_loop [4, 7] (fun s4 i => ∃ j : Nat, j ≤ zs.length ∧ i = .int .i64 j ∧ Hid (zs.all ptB = (zs.drop j).all ptB)) (fun _ i => zs.length - (intOf i).toNat)
  case atStart => exact ⟨0, Nat.zero_le _, rfl, Lib.hid rfl⟩
  case round =>
    obtain ⟨j, hj, rfl, hH⟩ := hrel
    by_cases hlt : j < zs.length
    · obtain ⟨b, off, rfl, hb, hcj⟩ := hcell j hlt
      have hD : Hid (zs.drop j = zs[j] :: zs.drop (j + 1)) := Lib.hid (List.drop_eq_getElem_cons hlt)
      obtain ⟨z, hz⟩ : ∃ z, z = zs[j] := ⟨_, rfl⟩
      rw [← hz] at hcj hD
      clear hz hcell
      cases q : ptB z with
      | false =>
        have Q := Lib.hid q; clear q
        go_wp2_with fail
        refine (ok_any z _).mono ?_
        rw [Q.out]
        rintro e w' ⟨rfl, rfl⟩
        go_wp2
        go_ret
        exact ⟨ret_bool (by rw [hH.out, hD.out, List.all_cons, Q.out]; rfl), rfl⟩
      | true =>
        have Q := Lib.hid q; clear q
        go_wp2_with fail
        refine (ok_any z _).mono ?_
        rw [Q.out]
        rintro e w' ⟨rfl, rfl⟩
        go_wp2
        go_round
        case rel => exact ⟨j + 1, by omega, by go_num, Lib.hid (by rw [hH.out, hD.out, List.all_cons, Q.out]; rfl)⟩
        case measure => simp [intOf]; omega
    · go_wp2
      go_ret
      exact ⟨ret_bool (by rw [hH.out, List.drop_of_length_le (by omega)]; rfl), rfl⟩

set_option maxHeartbeats 400000 in
theorem up_any (a b : Int) (w : World) (ha : 0 ≤ a ∧ a < 64) (hb : 0 ≤ b ∧ b < 64) : Calls Try.prog 116 #[.int .i64 a, .int .i64 b] w fun e w' => e = .returned (.int .i64 (upI a b)) ∧ w = w' := by
  have e1 : IntKind.i64.wrap (b - a) = b - a := IntWalk.i64_in _ (by omega)
  have e2 : IntKind.i64.wrap (b - a + 64) = b - a + 64 := IntWalk.i64_in _ (by omega)
  have e3 : Int.tmod (b - a + 64) 64 = (b - a + 64) % 64 := Int.tmod_eq_emod_of_nonneg (by omega)
  have e4 : 0 ≤ b - a + 64 := by omega
  have e5 : IntKind.i64.wrap ((b - a + 64) % 64) = (b - a + 64) % 64 := IntWalk.i64_in _ (by omega)
  go_enter Try.func116, Try.ntmps116
  go_wp2
  go_ret
  exact ⟨ret_int (by simp [upI]), rfl⟩

theorem pts_all {l : List Int} (h : ∀ x ∈ l, 0 ≤ x ∧ x < 64) : l.all ptB = true := by
  rw [List.all_eq_true]; exact fun x hx => ptB_of (by have := h x hx; omega)
theorem lit_reads (w : World) (zs : List Int) (hn : zs.length ≤ maxLen) : RInts (w.alloc (.cells (ints zs).toArray 3)) (.slice (some ⟨w.heap.size, 0, none⟩) zs.length zs.length) zs := by
  have h := World.ownsRow_lit w (e := 3) (size := 1) (ints zs).toArray zs.length (Nat.le_refl _) hn (by simp)
  exact OwnInts.reads (B := w.heap.size) (by simpa [OwnInts] using h)

set_option maxHeartbeats 400000 in
theorem distance_any (a b : Int) (w : World) (ha : 0 ≤ a ∧ a < 64) (hb : 0 ≤ b ∧ b < 64) : Calls Try.prog 101 #[.int .i64 a, .int .i64 b] w fun e w' => e = .returned (.int .i64 (upI a b)) ∧ Below w.heap.size w w' := by
  have HR := Lib.hid (lit_reads w [a, b] (by unfold maxLen; simp))
  have HA : Hid ([a, b].all ptB = true) := Lib.hid (pts_all (by simp; omega))
  have HB := Lib.hid (below_alloc w (.cells (ints [a, b]).toArray 3))
  have HL : Hid ([a, b].length ≤ 4194304) := Lib.hid (by simp)
  have HU := fun w => up_any a b w ha hb
  clear ha hb
  go_enter Try.func101, Try.ntmps101
  go_wp2_with fail
  refine (positions_any _ [a, b] _ HL.out HR.out).mono ?_
  rw [HA.out]
  rintro e w' ⟨rfl, rfl⟩
  go_wp2_with fail
  refine (HU _).mono ?_
  rintro e w' ⟨rfl, rfl⟩
  go_wp2
  go_ret
  exact ⟨rfl, HB.out⟩

set_option maxHeartbeats 1000000 in
theorem between_any (a x b : Int) (w : World) (ha : 0 ≤ a ∧ a < 64) (hx : 0 ≤ x ∧ x < 64) (hb : 0 ≤ b ∧ b < 64) : Calls Try.prog 72 #[.int .i64 a, .int .i64 x, .int .i64 b] w fun e w' => e = .returned (.bool (btw a x b)) ∧ Below w.heap.size w w' := by
  have HR := Lib.hid (lit_reads w [a, x, b] (by unfold maxLen; simp))
  have HA : Hid ([a, x, b].all ptB = true) := Lib.hid (pts_all (by simp; omega))
  have HB := Lib.hid (below_alloc w (.cells (ints [a, x, b]).toArray 3))
  have HL : Hid ([a, x, b].length ≤ 4194304) := Lib.hid (by simp)
  have HU := Lib.hid (btw_up ha hx hb)
  have D1 := fun w => distance_any a x w ha hx
  have D2 := fun w => distance_any a b w ha hb
  clear ha hb hx
  by_cases h1 : x = a
  · have q1 : (x == a) = true := by simp [h1]
    have HE : Hid (btw a x b = false) := Lib.hid (by rw [HU.out]; simp [h1])
    clear h1
    go_enter Try.func72, Try.ntmps72
    go_wp2_with fail
    refine (positions_any _ [a, x, b] _ HL.out HR.out).mono ?_
    rw [HA.out]
    rintro e w' ⟨rfl, rfl⟩
    go_wp2
    go_ret
    exact ⟨ret_bool HE.out.symm, HB.out⟩
  · have q1 : (x == a) = false := by simp [h1]
    by_cases h2 : x = b
    · have q2 : (x == b) = true := by simp [h2]
      have HE : Hid (btw a x b = false) := Lib.hid (by rw [HU.out]; simp [h2])
      clear h1 h2
      go_enter Try.func72, Try.ntmps72
      go_wp2_with fail
      refine (positions_any _ [a, x, b] _ HL.out HR.out).mono ?_
      rw [HA.out]
      rintro e w' ⟨rfl, rfl⟩
      go_wp2
      go_ret
      exact ⟨ret_bool HE.out.symm, HB.out⟩
    · have q2 : (x == b) = false := by simp [h2]
      by_cases h3 : a = b
      · have q3 : (a == b) = true := by simp [h3]
        have HE : Hid (btw a x b = true) := Lib.hid (by rw [HU.out]; simp [h1, h2, h3])
        clear h1 h2 h3
        go_enter Try.func72, Try.ntmps72
        go_wp2_with fail
        refine (positions_any _ [a, x, b] _ HL.out HR.out).mono ?_
        rw [HA.out]
        rintro e w' ⟨rfl, rfl⟩
        go_wp2
        go_ret
        exact ⟨ret_bool HE.out.symm, HB.out⟩
      · have q3 : (a == b) = false := by simp [h3]
        have HE : Hid (btw a x b = decide (upI a x < upI a b)) := Lib.hid (by rw [HU.out]; simp [h1, h2, h3])
        clear h1 h2 h3
        generalize upI a x = y at *
        generalize upI a b = z at *
        go_enter Try.func72, Try.ntmps72
        go_wp2_with fail
        refine (positions_any _ [a, x, b] _ HL.out HR.out).mono ?_
        rw [HA.out]
        rintro e w' ⟨rfl, rfl⟩
        go_wp2_with fail
        refine (D1 _).mono ?_
        rintro e w2 ⟨rfl, b2⟩
        go_wp2_with fail
        refine (D2 _).mono ?_
        rintro e w3 ⟨rfl, b3⟩
        have c3 := Lib.hid (bNext (bNext HB.out b2) b3)
        clear b2 b3
        go_wp2
        go_ret
        exact ⟨ret_bool HE.out.symm, c3.out⟩
end Go.Proofs.Ythgekfiodedelaa
