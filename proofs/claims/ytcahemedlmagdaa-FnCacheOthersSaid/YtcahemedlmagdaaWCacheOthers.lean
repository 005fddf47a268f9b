/- The walk of FnCacheOthers: the law returns true. -/
import Derived.Test.YtcahemedlmagdaaCpLaws
import Derived.Test.YtcahemedlmagdaaCputI
import Derived.Test.YtcahemedlmagdaaDrawCp
import Derived.Test.YtcahemedlmagdaaEntEq
namespace Go.Proofs.Ytcahemedlmagdaa
open Go.RowKit
set_option linter.unusedVariables false
set_option linter.unusedSimpArgs false

theorem lostTo_le (zs out : List Ent) (key : Int) : ∀ j, lostTo zs out key j ≤ j
  | 0 => Nat.le_refl _
  | j + 1 => by have := lostTo_le zs out key j; rw [lostTo]; split <;> omega
theorem any_take {T : List Ent} {e : Ent} {m : Nat} (h : m < T.length) : (T.take (m + 1)).any (fun x => decide (x = e)) = ((T.take m).any (fun x => decide (x = e)) || decide (T[m] = e)) := by
  rw [List.take_succ_eq_append_getElem h, List.any_append]; simp

set_option maxRecDepth 100000 in
set_option maxHeartbeats 4000000 in
theorem cacheOthers_walk (v : Value) (zs : List Int) (w : World) (hr : RBytes w v zs) :
    Calls Try.prog 3 #[v] w fun e w' => e = .returned (.bool true) ∧ Below w.heap.size w w' := by
  obtain ⟨⟨a, cap, rfl, g1, g2, -⟩, -⟩ := id hr
  have HR := Lib.hid hr; clear hr
  by_cases hl : zs.length ≤ 1048576
  · go_enter Try.func3, Try.ntmps3
    go_wp2_with fail
    refine (drawCachePut_any _ zs _ HR.out hl).mono ?_
    rintro e w1 ⟨u, xs, key, value, now, rfl, o1, hxl, hnow, b1⟩
    obtain ⟨au, capu, rfl, -, -, -⟩ := o1.reads
    have O1 := Lib.hid o1; clear o1
    obtain ⟨T, hT⟩ : ∃ T, T = cpL xs key value now := ⟨_, rfl⟩
    have hTl : T.length ≤ 21 := by rw [hT]; have := cpL_len xs key value now; omega
    have HT := Lib.hid hT
    cases hg : cpG xs key value now with
    | false =>
      have HG := Lib.hid hg; clear hg hT
      go_wp2_with fail
      refine (implCachePut_any _ xs key value now _ (by omega) O1.out.reads).mono ?_
      rw [HG.out, ← HT.out]
      rintro e w2 ⟨u2, rfl, o2, b2⟩
      obtain ⟨a2, q2, rfl, -, -, -⟩ := o2.reads
      have O2 := Lib.hid o2; clear o2
      have c2 := bNext b1 b2
      go_wp2_with fail
      refine (specCachePut_p _ xs key value now _ (by omega) (O1.out.bl b2).reads).mono ?_
      rw [HG.out, ← HT.out]
      rintro e w3 ⟨u3, rfl, o3, b3⟩
      obtain ⟨a3, q3, rfl, -, -, -⟩ := o3.reads
      have O3 := Lib.hid o3; clear o3
      have c3 := bNext c2 b3
      have R2 := Lib.hid (O2.out.bl b3)
      have X1 := Lib.hid ((O1.out.bl b2).bl b3)
      clear O1 O2 b1 b2 b3
      go_wp2_with fail
      refine (sameEntries_same _ _ T _ (by omega) R2.out.reads O3.out.reads).mono ?_
      rintro e w4 ⟨rfl, b4⟩
      have c4 := bNext c3 b4
      go_wp2_with fail
      refine (sameEntries_same _ _ T _ (by omega) (R2.out.bl b4).reads (O3.out.bl b4).reads).mono ?_
      rintro e w5 ⟨rfl, b5⟩
      go_wp2
      go_ret
      exact ⟨rfl, bNext c4 b5⟩
    | true =>
      have HO : Hid (∀ i, i < xs.length → keptB xs T key i = false → ∀ k, k < xs.length → (zE xs i).2.2 ≤ (zE xs k).2.2) := Lib.hid (by rw [hT]; exact (cpL_others hg).1)
      have HZ : Hid (lostTo xs T key xs.length = 0 ∨ (lostTo xs T key xs.length = 1 ∧ xs.length = 6)) := Lib.hid (by rw [hT]; exact (cpL_others hg).2)
      have HX6 : xs.length ≤ 6 := (cvB_from (cpG_parts hg).1).2
      have HG := Lib.hid hg; clear hg hT
      go_wp2_with fail
      refine (implCachePut_any _ xs key value now _ (by omega) O1.out.reads).mono ?_
      rw [HG.out, ← HT.out]
      rintro e w2 ⟨u2, rfl, o2, b2⟩
      obtain ⟨a2, q2, rfl, -, -, -⟩ := o2.reads
      have O2 := Lib.hid o2; clear o2
      have c2 := bNext b1 b2
      go_wp2_with fail
      refine (specCachePut_p _ xs key value now _ (by omega) (O1.out.bl b2).reads).mono ?_
      rw [HG.out, ← HT.out]
      rintro e w3 ⟨u3, rfl, o3, b3⟩
      obtain ⟨a3, q3, rfl, -, -, -⟩ := o3.reads
      have O3 := Lib.hid o3; clear o3
      have c3 := bNext c2 b3
      have R2 := Lib.hid (O2.out.bl b3)
      have X1 := Lib.hid ((O1.out.bl b2).bl b3)
      clear O1 O2 b1 b2 b3
      go_wp2_with fail
      refine (sameEntries_same _ _ T _ (by omega) R2.out.reads O3.out.reads).mono ?_
      rintro e w4 ⟨rfl, b4⟩
      have c4 := bNext c3 b4
      have R4 := Lib.hid (R2.out.bl b4)
      have X4 := Lib.hid (X1.out.bl b4)
      clear R2 X1 O3
      obtain ⟨L, hL⟩ : ∃ L, L = lostTo xs T key := ⟨_, rfl⟩
      have HL := Lib.hid hL; clear hL
      have HLB : Hid (∀ j, j ≤ xs.length → L j ≤ 6) := Lib.hid (fun j hj => by rw [HL.out]; have := lostTo_le xs T key j; omega)
      go_wp2
      go_loopw [11, 12, 13, 14, 15] (fun l i f k k2 wr => ∃ j : Nat, j ≤ xs.length ∧ i = .int .i64 j ∧ l = .int .i64 (L j : Nat) ∧ ∃ n, wr = w4.drewN n) (fun _ i _ _ _ _ => xs.length - (intOf i).toNat)
      case atStart => exact ⟨0, Nat.zero_le _, rfl, by rw [HL.out]; rfl, 0, rfl⟩
      case round =>
        obtain ⟨j, hj, rfl, rfl, n0, hwr⟩ := hrel
        obtain ⟨wo, rfl⟩ : ∃ wo : World, wo = wr := ⟨_, rfl⟩
        by_cases hlt : j < xs.length
        · obtain ⟨bx, ofx, rfl, hbx, x0, x1, x2⟩ := (X4.out.dr n0).reads.ent j hlt
          rw [← hwr] at x0 x1 x2 hbx
          have HWR := Lib.hid hwr
          have HE : Hid (zE xs j = (xs[j].1, xs[j].2.1, xs[j].2.2)) := Lib.hid (zE_get hlt)
          have HOj : Hid (keptB xs T key j = false → ∀ k, k < xs.length → xs[j].2.2 ≤ (zE xs k).2.2) := Lib.hid (fun h k hk => by have := HO.out j hlt h k hk; rwa [zE_get hlt] at this)
          have HS : Hid (L (j + 1) = if keptB xs T key j then L j else L j + 1) := Lib.hid (by rw [HL.out]; rfl)
          obtain ⟨F, hF⟩ : ∃ F : Nat → Bool, F = fun m => (xs[j].1 == key) || (T.take m).any (fun e => decide (e = zE xs j)) := ⟨_, rfl⟩
          have HF0 : Hid (F 0 = (xs[j].1 == key)) := Lib.hid (by rw [hF]; simp)
          have HFS : Hid (∀ m (h : m < T.length), F (m + 1) = (F m || decide (T[m] = (xs[j].1, xs[j].2.1, xs[j].2.2)))) := Lib.hid (fun m h => by rw [hF]; simp only; rw [any_take h, HE.out, Bool.or_assoc])
          have HFE : Hid (F T.length = keptB xs T key j) := Lib.hid (by rw [hF, keptB, HE.out]; simp only [List.take_length])
          clear hF hwr
          generalize xs[j].1 = x at *
          generalize xs[j].2.1 = y at *
          generalize xs[j].2.2 = z at *
          go_wp2
          go_loopw [13, 14] (fun f k wr => ∃ m : Nat, m ≤ T.length ∧ k = .int .i64 m ∧ f = .bool (F m) ∧ ∃ n, wr = w4.drewN n) (fun _ k _ => T.length - (intOf k).toNat)
          case atStart => exact ⟨0, Nat.zero_le _, rfl, by rw [HF0.out], n0, HWR.out⟩
          case round =>
            obtain ⟨m, hm, rfl, rfl, n1, hwr⟩ := hrel
            by_cases hmt : m < T.length
            · obtain ⟨bt, oft, rfl, hbt, t0, t1, t2⟩ := (R4.out.dr n1).reads.ent m hmt
              rw [← hwr] at t0 t1 t2 hbt
              have HW1 := Lib.hid hwr
              have c0 : wr.cell? ⟨bx, ofx + j * 3, none⟩ = some (.int .i64 x) := by rw [hwr]; rw [HWR.out] at x0; exact x0
              have c1 : wr.cell? ⟨bx, ofx + j * 3 + 1, none⟩ = some (.int .i64 y) := by rw [hwr]; rw [HWR.out] at x1; exact x1
              have c2 : wr.cell? ⟨bx, ofx + j * 3 + 2, none⟩ = some (.int .i64 z) := by rw [hwr]; rw [HWR.out] at x2; exact x2
              have HFm := Lib.hid (HFS.out m hmt)
              clear hwr x0 x1 x2
              have HTm : Hid (T[m] = (T[m].1, T[m].2.1, T[m].2.2)) := Lib.hid rfl
              rw [HTm.out] at HFm
              clear HTm
              generalize T[m].1 = p at *
              generalize T[m].2.1 = q at *
              generalize T[m].2.2 = r at *
              cases hf : F m with
              | true =>
                have HF1 : Hid (F (m + 1) = true) := Lib.hid (by rw [HFm.out, hf]; rfl)
                clear hf HFm
                go_wp2
                go_quiet (fail)
                go_wp2
                go_roundw
                case rel => exact ⟨m + 1, by omega, by go_num, by rw [HF1.out], by rw [HW1.out]; exact draws_two _ _ _⟩
                case measure => simp [intOf]; omega
              | false =>
                have HF1 : Hid (F (m + 1) = decide (((p, q, r) : Ent) = (x, y, z))) := Lib.hid (by rw [HFm.out, hf]; rfl)
                clear hf HFm
                by_cases h1 : p = x
                · have e1 : (p == x) = true := by simp [h1]
                  by_cases h2 : q = y
                  · have e2 : (q == y) = true := by simp [h2]
                    by_cases h3 : r = z
                    · have e3 : (r == z) = true := by simp [h3]
                      have HF2 : Hid (F (m + 1) = true) := Lib.hid (by rw [HF1.out, h1, h2, h3]; simp)
                      clear h1 h2 h3 HF1
                      go_wp2
                      go_quiet (fail)
                      go_wp2
                      go_roundw
                      case rel => exact ⟨m + 1, by omega, by go_num, by rw [HF2.out], by rw [HW1.out]; exact draws_two _ _ _⟩
                      case measure => simp [intOf]; omega
                    · have e3 : (r == z) = false := by simp [h3]
                      have HF2 : Hid (F (m + 1) = false) := Lib.hid (by rw [HF1.out]; simp [h3])
                      clear h1 h2 h3 HF1
                      go_wp2
                      go_quiet (fail)
                      go_wp2
                      go_roundw
                      case rel => exact ⟨m + 1, by omega, by go_num, by rw [HF2.out], by rw [HW1.out]; exact draws_two _ _ _⟩
                      case measure => simp [intOf]; omega
                  · have e2 : (q == y) = false := by simp [h2]
                    have HF2 : Hid (F (m + 1) = false) := Lib.hid (by rw [HF1.out]; simp [h2])
                    clear h1 h2 HF1
                    go_wp2
                    go_quiet (fail)
                    go_wp2
                    go_roundw
                    case rel => exact ⟨m + 1, by omega, by go_num, by rw [HF2.out], by rw [HW1.out]; exact draws_two _ _ _⟩
                    case measure => simp [intOf]; omega
                · have e1 : (p == x) = false := by simp [h1]
                  have HF2 : Hid (F (m + 1) = false) := Lib.hid (by rw [HF1.out]; simp [h1])
                  clear h1 HF1
                  go_wp2
                  go_quiet (fail)
                  go_wp2
                  go_roundw
                  case rel => exact ⟨m + 1, by omega, by go_num, by rw [HF2.out], by rw [HW1.out]; exact draws_two _ _ _⟩
                  case measure => simp [intOf]; omega
            · obtain rfl : m = T.length := by omega
              cases hf : F T.length with
              | true =>
                have HL1 : Hid (L (j + 1) = L j) := Lib.hid (by rw [HS.out, if_pos (by rw [← HFE.out, hf])])
                have HW1 := Lib.hid hwr
                clear hf hwr x0 x1 x2
                go_wp2
                go_roundw
                case rel => exact ⟨j + 1, by omega, by go_num, by rw [HL1.out], n1, HW1.out⟩
                case measure => simp [intOf]; omega
              | false =>
                have HL1 : Hid (L (j + 1) = L j + 1) := Lib.hid (by rw [HS.out, if_neg (by rw [← HFE.out, hf]; simp)])
                have HOf := Lib.hid (HOj.out (by rw [← HFE.out, hf]))
                have HW1 := Lib.hid hwr
                have c2 : wr.cell? ⟨bx, ofx + j * 3 + 2, none⟩ = some (.int .i64 z) := by rw [hwr]; rw [HWR.out] at x2; exact x2
                obtain ⟨wi, rfl⟩ : ∃ wi : World, wi = wr := ⟨_, rfl⟩
                have HLj : Hid (L j ≤ 6) := Lib.hid (HLB.out j hj)
                have hLj := HLj.out
                clear hf hwr x0 x1 x2
                go_wp2
                go_loopw [15] (fun k wr => ∃ m : Nat, m ≤ xs.length ∧ k = .int .i64 m ∧ ∃ n, wr = w4.drewN n) (fun k _ => xs.length - (intOf k).toNat)
                case atStart => exact ⟨0, Nat.zero_le _, rfl, n1, HW1.out⟩
                case round =>
                  obtain ⟨m, hm, rfl, n2, hwr⟩ := hrel
                  by_cases hmt : m < xs.length
                  · obtain ⟨bt, oft, he, hbt, -, -, t2⟩ := (X4.out.dr n2).reads.ent m hmt
                    simp only [Option.some.injEq, Addr.mk.injEq, and_true] at he
                    obtain ⟨rfl, rfl⟩ := he
                    rw [← hwr] at t2
                    have c3 : wr.cell? ⟨bx, ofx + j * 3 + 2, none⟩ = some (.int .i64 z) := by rw [hwr]; rw [HW1.out] at c2; exact c2
                    have HW2 := Lib.hid hwr
                    have hz := HOf.out m hmt
                    rw [zE_get hmt] at hz
                    generalize xs[m].2.2 = t at *
                    have hq : decide (t < z) = false := decide_eq_false (by omega)
                    clear hwr hz
                    go_wp2
                    go_quiet (fail)
                    go_wp2
                    go_roundw
                    case rel => exact ⟨m + 1, by omega, by go_num, by rw [HW2.out]; exact draws_two _ _ _⟩
                    case measure => simp [intOf]; omega
                  · obtain rfl : m = xs.length := by omega
                    have HW2 := Lib.hid hwr; clear hwr
                    go_wp2
                    go_roundw
                    case rel => exact ⟨j + 1, by omega, by go_num, by rw [HL1.out]; go_num, n2, HW2.out⟩
                    case measure => simp [intOf]; omega
        · obtain rfl : j = xs.length := by omega
          have HW1 := Lib.hid hwr; clear hwr
          have HLE := Lib.hid (show L xs.length = 0 ∨ (L xs.length = 1 ∧ xs.length = 6) by rw [HL.out]; exact HZ.out)
          rcases HLE.out with h0 | ⟨h1, h6⟩
          · have q0 : ((L xs.length : Int) == 0) = true := by simp [h0]
            clear h0
            go_wp2
            go_ret
            exact ⟨rfl, by rw [HW1.out]; exact bDr c4 _⟩
          · have q0 : ((L xs.length : Int) == 0) = false := by simp [h1]
            have q1 : ((L xs.length : Int) == 1) = true := by simp [h1]
            have q6 : ((xs.length : Int) == 6) = true := by simp [h6]
            clear h1 h6
            go_wp2
            go_ret
            exact ⟨rfl, by rw [HW1.out]; exact bDr c4 _⟩
  · have hl' : decide ((1048576 : Int) < zs.length) = true := decide_eq_true (by omega)
    go_enter Try.func3, Try.ntmps3
    go_wp2
    go_ret
    exact ⟨rfl, Below.refl _ _⟩
end Go.Proofs.Ytcahemedlmagdaa
