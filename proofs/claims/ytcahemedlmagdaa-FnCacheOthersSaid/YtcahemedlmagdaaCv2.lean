/- The program's CacheValid. -/
import Derived.Test.YtcahemedlmagdaaCv
import Derived.Test.YtcahemedlmagdaaQb
namespace Go.Proofs.Ytcahemedlmagdaa
open Go.RowKit
set_option linter.unusedVariables false
set_option linter.unusedSimpArgs false

theorem enB_three {x y z : Int} (h : enB (x, y, z) = true) : ptB x = true ∧ inB y 0 99 = true ∧ inB z 0 999 = true := by
  simp only [enB, Bool.and_eq_true] at h
  exact ⟨h.1.1, h.1.2, h.2⟩
theorem cvFrom_en (zs : List Ent) (j : Nat) (hj : j < zs.length) {x y z p : Int} (hz : zs[j] = (x, y, z)) (hp : prevK zs j = p) : cvFrom (prevK zs j) (zs.drop j) = (enB (x, y, z) && decide (p < x) && cvFrom (prevK zs (j + 1)) (zs.drop (j + 1))) := cvFrom_at zs j hj hz hp

theorem entryOk_at (x y z : Int) (t : Bool) (w : World) (h : enB (x, y, z) = t) :
    Calls Try.prog 25 #[.agg #[.int .i64 x, .int .i64 y, .int .i64 z]] w fun e w' => e = .returned (.bool t) ∧ Below w.heap.size w w' := by
  subst h; exact entryOk_any x y z w

set_option maxHeartbeats 4000000 in
theorem implCacheValid_any (v : Value) (zs : List Ent) (w : World) (hl : zs.length ≤ 4194304) (hr : RRow EL w v zs) :
    Calls Try.prog 21 #[v] w fun e w' => e = .returned (.bool (cvB zs)) ∧ Below w.heap.size w w' := by
  obtain ⟨a, cap, rfl, hc, hm, -⟩ := id hr
  have hcell := hr.ent
  clear hr
  by_cases h6 : zs.length ≤ 6
  · have h6' : decide ((6 : Int) < zs.length) = false := decide_eq_false (by omega)
    have H6 : Hid (decide (zs.length ≤ 6) = true) := Lib.hid (decide_eq_true h6)
    go_enter Try.func21, Try.ntmps21
    go_wp2
    go_loopw [10] (fun i wr => ∃ j : Nat, j ≤ zs.length ∧ i = .int .i64 j ∧ Hid (cvFrom (-1) zs = cvFrom (prevK zs j) (zs.drop j)) ∧ Below w.heap.size w wr) (fun i _ => zs.length - (intOf i).toNat)
    case atStart => exact ⟨0, Nat.zero_le _, rfl, Lib.hid rfl, Below.refl _ _⟩
    case round =>
      obtain ⟨j, hj, rfl, hH, hB⟩ := hrel
      by_cases hlt : j < zs.length
      · obtain ⟨b, off, rfl, hbl, h0, h1, h2⟩ := hcell j hlt
        obtain ⟨x, hx⟩ : ∃ x, x = zs[j].1 := ⟨_, rfl⟩
        obtain ⟨y, hy⟩ : ∃ y, y = zs[j].2.1 := ⟨_, rfl⟩
        obtain ⟨z, hz⟩ : ∃ z, z = zs[j].2.2 := ⟨_, rfl⟩
        rw [← hx] at h0; rw [← hy] at h1; rw [← hz] at h2
        have HX : Hid (zs[j] = (x, y, z)) := Lib.hid (by rw [hx, hy, hz])
        clear hx hy hz
        have r0 := (hB.cell (p := ⟨b, off + j * 3, none⟩) hbl).trans h0
        have r1 := (hB.cell (p := ⟨b, off + j * 3 + 1, none⟩) hbl).trans h1
        have r2 := (hB.cell (p := ⟨b, off + j * 3 + 2, none⟩) hbl).trans h2
        have hbr : b < wr.heap.size := by have := hB.size; omega
        clear h0 h1 h2
        have B1 := Blk.new wr #[.int .i64 x, .int .i64 y, .int .i64 z] 30
        have c1 := bAl hB (.cells #[.int .i64 x, .int .i64 y, .int .i64 z] 30)
        obtain ⟨x0, x1, x2⟩ := B1.get3
        have X0 := BW.cell x0; have X1 := BW.cell x1; have X2 := BW.cell x2
        clear x0 x1 x2
        by_cases hj0 : 0 < j
        · obtain ⟨k, hk⟩ : ∃ k, j = k + 1 := ⟨j - 1, by omega⟩
          have hk' : k < zs.length := by omega
          obtain ⟨b', off', he, -, g0, -, -⟩ := hcell k hk'
          simp only [Option.some.injEq, Addr.mk.injEq, and_true] at he
          obtain ⟨rfl, rfl⟩ := he
          have hP := prevK_pos hk hk'
          obtain ⟨p, hp⟩ : ∃ p, p = (zs[k]'hk').1 := ⟨_, rfl⟩
          rw [← hp] at hP g0
          have HS := Lib.hid (cvFrom_en zs j hlt HX.out hP)
          have e1 : (j : Int) - 1 = k := by omega
          have e2 : IntKind.i64.wrap ((j : Int) - 1) = k := by rw [e1]; exact IntWalk.i64_in _ (by omega)
          have e3 : decide (0 < (j : Int)) = true := decide_eq_true (by omega)
          have e3' : decide (0 < j) = true := decide_eq_true (by omega)
          have p2 : b < (wr.alloc (.cells #[.int .i64 x, .int .i64 y, .int .i64 z] 30)).heap.size := by simp; omega
          have p1 : (wr.alloc (.cells #[.int .i64 x, .int .i64 y, .int .i64 z] 30)).cell? ⟨b, off + k * 3, none⟩ = some (.int .i64 p) := (c1.cell (p := ⟨b, off + k * 3, none⟩) hbl).trans g0
          have P1 := BW.cell p1; clear p1 p2
          clear hp hP hcell hk HX g0
          cases q1 : enB (x, y, z) with
          | false =>
            go_wp2_with fail
            refine wp_region_quiet_b (by kernel_rfl) (by kernel_rfl) ?_
            repeat (first | go_big_quiet_step ((go_at_call 25; exact quiet_b (entryOk_at x y z _ _ q1))) | quiet_step ((go_at_call 25; exact quiet_b (entryOk_at x y z _ _ q1))))
            refine wpQuiet_nil ?_
            intro _ hw1; obtain ⟨iq, hw2⟩ := hw1; subst hw2
            go_wp2_with fail
            have c3 := bNext c1 iq.h
            go_ret
            exact ⟨ret_bool (by rw [cvB, hH.out, HS.out]; simp [q1]), c3⟩
          | true =>
            have Q1 : Hid (ptB x = true ∧ inB y 0 99 = true ∧ inB z 0 999 = true) := Lib.hid (enB_three q1)
            by_cases q4 : p < x
            · have q5 : decide (x ≤ p) = false := decide_eq_false (by omega)
              have Q4 : Hid (decide (p < x) = true) := Lib.hid (decide_eq_true q4)
              go_wp2_with fail
              refine wp_region_quiet_b (by kernel_rfl) (by kernel_rfl) ?_
              repeat (first | go_big_quiet_step ((go_at_call 25; exact quiet_b (entryOk_at x y z _ _ q1))) | quiet_step ((go_at_call 25; exact quiet_b (entryOk_at x y z _ _ q1))))
              refine wpQuiet_nil ?_
              intro _ hw1; obtain ⟨iq, hw2⟩ := hw1; subst hw2
              go_wp2_with fail
              have c3 := bNext c1 iq.h
              go_roundw
              case rel => exact ⟨j + 1, by omega, by go_num, Lib.hid (by rw [hH.out, HS.out, Q4.out]; simp [q1]), c3⟩
              case measure => simp [intOf]; omega
            · have q5 : decide (x ≤ p) = true := decide_eq_true (by omega)
              have Q4 : Hid (decide (p < x) = false) := Lib.hid (decide_eq_false q4)
              go_wp2_with fail
              refine wp_region_quiet_b (by kernel_rfl) (by kernel_rfl) ?_
              repeat (first | go_big_quiet_step ((go_at_call 25; exact quiet_b (entryOk_at x y z _ _ q1))) | quiet_step ((go_at_call 25; exact quiet_b (entryOk_at x y z _ _ q1))))
              refine wpQuiet_nil ?_
              intro _ hw1; obtain ⟨iq, hw2⟩ := hw1; subst hw2
              go_wp2_with fail
              have c3 := bNext c1 iq.h
              go_ret
              exact ⟨ret_bool (by rw [cvB, hH.out, HS.out, Q4.out]; simp [q1]), c3⟩
        · have e3 : decide (0 < (j : Int)) = false := decide_eq_false (by omega)
          have e3' : decide (0 < j) = false := decide_eq_false (by omega)
          have hP : prevK zs j = -1 := by
            have : j = 0 := by omega
            subst this; rfl
          have HS := Lib.hid (cvFrom_en zs j hlt HX.out hP)
          clear hP hcell HX
          cases q1 : enB (x, y, z) with
          | false =>
            go_wp2_with fail
            refine wp_region_quiet_b (by kernel_rfl) (by kernel_rfl) ?_
            repeat (first | go_big_quiet_step ((go_at_call 25; exact quiet_b (entryOk_at x y z _ _ q1))) | quiet_step ((go_at_call 25; exact quiet_b (entryOk_at x y z _ _ q1))))
            refine wpQuiet_nil ?_
            intro _ hw1; obtain ⟨iq, hw2⟩ := hw1; subst hw2
            go_wp2_with fail
            have c3 := bNext c1 iq.h
            go_ret
            exact ⟨ret_bool (by rw [cvB, hH.out, HS.out]; simp [q1]), c3⟩
          | true =>
            have Q1 : Hid (ptB x = true ∧ inB y 0 99 = true ∧ inB z 0 999 = true) := Lib.hid (enB_three q1)
            have Q4 : Hid (decide (-1 < x) = true) := Lib.hid (decide_eq_true (by have := ptB_true Q1.out.1; omega))
            go_wp2_with fail
            refine wp_region_quiet_b (by kernel_rfl) (by kernel_rfl) ?_
            repeat (first | go_big_quiet_step ((go_at_call 25; exact quiet_b (entryOk_at x y z _ _ q1))) | quiet_step ((go_at_call 25; exact quiet_b (entryOk_at x y z _ _ q1))))
            refine wpQuiet_nil ?_
            intro _ hw1; obtain ⟨iq, hw2⟩ := hw1; subst hw2
            go_wp2_with fail
            have c3 := bNext c1 iq.h
            go_roundw
            case rel => exact ⟨j + 1, by omega, by go_num, Lib.hid (by rw [hH.out, HS.out, Q4.out]; simp [q1]), c3⟩
            case measure => simp [intOf]; omega
      · go_wp2
        go_ret
        refine ⟨ret_bool ?_, hB⟩
        rw [cvB, hH.out, cvFrom_end zs j (by omega), Bool.true_and, H6.out]
  · have h6' : decide ((6 : Int) < zs.length) = true := decide_eq_true (by omega)
    have H6 : Hid (decide (zs.length ≤ 6) = false) := Lib.hid (decide_eq_false h6)
    go_enter Try.func21, Try.ntmps21
    go_wp2
    go_ret
    exact ⟨ret_bool (by rw [cvB, H6.out, Bool.and_false]), Below.refl _ _⟩

theorem Drawn.below {w w' : World} (h : Drawn w w') : Below w.heap.size w w' := by obtain ⟨n, rfl⟩ := h; exact below_draws' w n
theorem specCacheValid_b (v : Value) (zs : List Ent) (w : World) (hl : zs.length ≤ 4194304) (hr : RRow EL w v zs) :
    Calls Try.prog 31 #[v] w fun e w' => e = .returned (.bool (cvB zs)) ∧ Below w.heap.size w w' :=
  (specCacheValid_any v zs w hl hr).mono fun _ _ h => ⟨h.1, h.2.below⟩
end Go.Proofs.Ytcahemedlmagdaa
