/- The walk of FnCacheSweep: the law returns true. -/
import Derived.Test.YtldlaklddcekiaaCaLaws
namespace Go.Proofs.Ytldlaklddcekiaa
open Go.RowKit
set_option linter.unusedVariables false
set_option linter.unusedSimpArgs false

set_option maxHeartbeats 2000000 in
theorem cacheSweep_walk (v : Value) (zs : List Int) (w : World) (hr : RBytes w v zs) :
    Calls Try.prog 10 #[v] w fun e w' => e = .returned (.bool true) ∧ Below w.heap.size w w' := by
  obtain ⟨⟨a, cap, rfl, g1, g2, -⟩, -⟩ := id hr
  have HR := Lib.hid hr; clear hr
  by_cases hl : zs.length ≤ 1048576
  · go_enter Try.func10, Try.ntmps10
    go_wp2_with fail
    refine (drawCacheSweep_any _ zs _ HR.out hl).mono ?_
    rintro e w1 ⟨u, xs, now, rfl, o1, hxl, hn, b1⟩
    obtain ⟨au, capu, rfl, -, -, -⟩ := o1.reads
    have O1 := Lib.hid o1; clear o1
    have hnB : inB now 0 999 = true := inB_of (by omega)
    obtain ⟨D, hD⟩ : ∃ D, D = sweepL xs now := ⟨_, rfl⟩
    have hDl : D.length ≤ 20 := by rw [hD]; exact Nat.le_trans (sweepL_len xs now) hxl
    have HD := Lib.hid hD; have HB := Lib.hid hnB; clear hD hnB
    go_wp2_with fail
    refine (implCacheSweep_any _ xs now _ (by omega) O1.out.reads).mono ?_
    rw [← HD.out]
    rintro e w2 ⟨u2, rfl, o2, b2⟩
    obtain ⟨ax, capx, rfl, -, -, -⟩ := o2.reads
    have c2 := bNext b1 b2
    have O2 := Lib.hid o2; clear o2
    go_wp2_with fail
    refine (specCacheSweep_any _ xs now _ (by omega) (O1.out.bl b2).reads).mono ?_
    rw [← HD.out]
    rintro e w3 ⟨u3, rfl, o3, b3⟩
    obtain ⟨ay, capy, rfl, -, -, -⟩ := o3.reads
    have c3 := bNext c2 b3
    have O3 := Lib.hid o3; clear o3
    have O2b := Lib.hid (O2.out.bl b3)
    have O1b := Lib.hid ((O1.out.bl b2).bl b3)
    clear O1 O2
    cases hv : cvB xs with
    | false =>
      have HV := Lib.hid hv; clear hv
      go_wp2_with fail
      refine (sameEntries_same _ _ D _ (by omega) O2b.out.reads O3.out.reads).mono ?_
      rintro e w4 ⟨rfl, b4⟩
      have c4 := bNext c3 b4
      go_wp2_with fail
      refine (specCacheValid_b _ xs _ (by omega) (O1b.out.bl b4).reads).mono ?_
      rw [HV.out]
      rintro e w5 ⟨rfl, b5⟩
      have c5 := bNext c4 b5
      have O2c := Lib.hid ((O2b.out.bl b4).bl b5)
      have O3c := Lib.hid ((O3.out.bl b4).bl b5)
      go_wp2_with fail
      refine (sameEntries_same _ _ D _ (by omega) O2c.out.reads O3c.out.reads).mono ?_
      rintro e w6 ⟨rfl, b6⟩
      have c6 := bNext c5 b6
      go_wp2
      go_ret
      exact ⟨rfl, c6⟩
    | true =>
      have HV := Lib.hid hv; clear hv
      have HDf : Hid (D = xs.filter (fun e => freshB e now)) := Lib.hid (by rw [HD.out]; exact sweep_good (by simp [sweepG, HV.out, HB.out]))
      go_wp2_with fail
      refine (sameEntries_same _ _ D _ (by omega) O2b.out.reads O3.out.reads).mono ?_
      rintro e w4 ⟨rfl, b4⟩
      have c4 := bNext c3 b4
      go_wp2_with fail
      refine (specCacheValid_b _ xs _ (by omega) (O1b.out.bl b4).reads).mono ?_
      rw [HV.out]
      rintro e w5 ⟨rfl, b5⟩
      have c5 := bNext c4 b5
      have O1c := Lib.hid ((O1b.out.bl b4).bl b5)
      have O2c := Lib.hid ((O2b.out.bl b4).bl b5)
      clear O1b O2b O3
      go_wp2
      go_loopw [7, 8] (fun n i wr => ∃ j m : Nat, j ≤ xs.length ∧ m ≤ j ∧ i = .int .i64 j ∧ n = .int .i64 m ∧ Hid (m = ((xs.take j).filter (fun e => freshB e now)).length) ∧ Hid (OwnRow EL entT wr w.heap.size (.slice au xs.length capu) xs) ∧ Hid (OwnRow EL entT wr w1.heap.size (.slice ax D.length capx) D) ∧ Below w.heap.size w wr) (fun _ i _ => xs.length - (intOf i).toNat)
      case atStart => exact ⟨0, 0, Nat.zero_le _, Nat.le_refl _, rfl, rfl, Lib.hid rfl, O1c, O2c, c5⟩
      case round =>
        obtain ⟨j, m, hj, hmj, rfl, rfl, HM, OX, OD, hB⟩ := hrel
        clear O1c O2c
        by_cases hlt : j < xs.length
        · have HF : Hid (getT xs xs[j].1 now = freshB xs[j] now) := Lib.hid (sweep_fine HV.out HB.out hlt)
          have HK : Hid (dropT D xs[j].1 = freshB xs[j] now) := Lib.hid (by rw [HD.out]; exact sweep_kept HV.out HB.out hlt)
          have HS := Lib.hid (take_filter (f := fun e => freshB e now) hlt)
          have hDL := dropL_len D xs[j].1
          obtain ⟨b, off, rfl, hbl, h0, -, -⟩ := OX.out.reads.ent j hlt
          generalize xs[j].1 = x at *
          generalize xs[j] = ej at *
          go_wp2_with fail
          refine (implCacheGet_any _ xs x now _ (by omega) OX.out.reads).mono ?_
          rw [HF.out]
          rintro e w6 ⟨rfl, b6⟩
          have OX6 := Lib.hid (OX.out.bl b6)
          have OD6 := Lib.hid (OD.out.bl b6)
          have c6 := bNext hB b6
          have h06 := (b6.cell (p := ⟨b, off + j * 3, none⟩) hbl).trans h0
          have hb6 : b < w6.heap.size := by have := b6.size; omega
          clear h0 OX OD
          cases hf : freshB ej now with
          | false =>
            have HFf := Lib.hid hf; clear hf
            go_wp2_with fail
            refine (implCacheDrop_any _ D x _ (by omega) OD6.out.reads).mono ?_
            rw [HK.out, HFf.out]
            rintro e w7 ⟨u7, rfl, o7, b7⟩
            have OX7 := Lib.hid (OX6.out.bl b7)
            have OD7 := Lib.hid (OD6.out.bl b7)
            have c7 := bNext c6 b7
            clear o7 h06
            go_wp2
            go_roundw
            case rel => exact ⟨j + 1, m, by omega, by omega, by go_num, rfl, Lib.hid (by rw [HS.out, HFf.out]; simpa using HM.out), OX7, OD7, c7⟩
            case measure => simp [intOf]; omega
          | true =>
            have HFf := Lib.hid hf; clear hf
            go_wp2_with fail
            refine (implCacheDrop_any _ D x _ (by omega) OD6.out.reads).mono ?_
            rw [HK.out, HFf.out]
            rintro e w7 ⟨u7, rfl, o7, b7⟩
            have OX7 := Lib.hid (OX6.out.bl b7)
            have OD7 := Lib.hid (OD6.out.bl b7)
            have c7 := bNext c6 b7
            clear o7 h06
            go_wp2
            go_roundw
            case rel => exact ⟨j + 1, m + 1, by omega, by omega, by go_num, by go_num, Lib.hid (by rw [HS.out, HFf.out]; simp [← HM.out]), OX7, OD7, c7⟩
            case measure => simp [intOf]; omega
        · have hmD : m = D.length := by
            rw [HDf.out, HM.out, List.take_of_length_le (by omega)]
          have hq : ((m : Int) == D.length) = true := by simp [hmD]
          clear hmD
          go_wp2
          go_ret
          exact ⟨rfl, hB⟩
  · have hl' : decide ((1048576 : Int) < zs.length) = true := decide_eq_true (by omega)
    go_enter Try.func10, Try.ntmps10
    go_wp2
    go_ret
    exact ⟨rfl, Below.refl _ _⟩
end Go.Proofs.Ytldlaklddcekiaa
