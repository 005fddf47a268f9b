/- The walk of FnCacheDrop: the law returns true. -/
import Derived.Test.YtldlaklddcekiaaCaLaws
namespace Go.Proofs.Ytldlaklddcekiaa
open Go.RowKit
set_option linter.unusedVariables false
set_option linter.unusedSimpArgs false

set_option maxHeartbeats 2000000 in
theorem cacheDrop_walk (v : Value) (zs : List Int) (v2 : Value) (zs2 : List Int) (w : World) (hr : RBytes w v zs) (hr2 : RBytes w v2 zs2) :
    Calls Try.prog 8 #[v, v2] w fun e w' => e = .returned (.bool true) ∧ Below w.heap.size w w' := by
  obtain ⟨⟨a, cap, rfl, g1, g2, -⟩, -⟩ := id hr
  obtain ⟨⟨a2, cap2, rfl, g3, g4, -⟩, -⟩ := id hr2
  have HR := Lib.hid hr; clear hr hr2
  unfold maxLen at g4
  by_cases hl : zs.length ≤ 1048576
  · have hl' : decide ((1048576 : Int) < zs.length) = false := decide_eq_false (by omega)
    by_cases hl2 : zs2.length ≤ 1048576
    · have hl2' : decide ((1048576 : Int) < zs2.length) = false := decide_eq_false (by omega)
      go_enter Try.func8, Try.ntmps8
      go_wp2_with fail
      refine (drawCacheDrop_any _ zs _ HR.out hl).mono ?_
      rintro e w1 ⟨u, xs, key, rfl, o1, hxl, hk, b1⟩
      obtain ⟨au, capu, rfl, -, -, -⟩ := o1.reads
      have O1 := Lib.hid o1; clear o1
      obtain ⟨D, hD⟩ : ∃ D, D = dropL xs key := ⟨_, rfl⟩
      have hDl : D.length ≤ 20 := by rw [hD]; exact Nat.le_trans (dropL_len xs key) hxl
      have HD := Lib.hid hD
      cases ht : dropT xs key with
      | false =>
        have HT := Lib.hid ht; clear ht hD
        go_wp2_with fail
        refine (implCacheDrop_any _ xs key _ (by omega) O1.out.reads).mono ?_
        rw [HT.out, ← HD.out]
        rintro e w2 ⟨u2, rfl, o2, b2⟩
        obtain ⟨ax, capx, rfl, -, -, -⟩ := o2.reads
        have c2 := bNext b1 b2
        have O2 := Lib.hid o2; clear o2
        go_wp2_with fail
        refine (specCacheDrop_any _ xs key _ (by omega) (O1.out.bl b2).reads).mono ?_
        rw [HT.out, ← HD.out]
        rintro e w3 ⟨u3, rfl, o3, b3⟩
        obtain ⟨ay, capy, rfl, -, -, -⟩ := o3.reads
        have c3 := bNext c2 b3
        have O3 := Lib.hid o3; clear o3
        have O2b := Lib.hid (O2.out.bl b3)
        go_wp2_with fail
        refine (sameEntries_same _ _ D _ (by omega) O2b.out.reads O3.out.reads).mono ?_
        rintro e w4 ⟨rfl, b4⟩
        have c4 := bNext c3 b4
        have O3c := Lib.hid (O3.out.bl b4)
        have O2c := Lib.hid (O2b.out.bl b4)
        go_wp2_with fail
        refine (sameEntries_same _ _ D _ (by omega) O2c.out.reads O3c.out.reads).mono ?_
        rintro e w5 ⟨rfl, b5⟩
        have c5 := bNext c4 b5
        go_wp2
        go_ret
        exact ⟨rfl, c5⟩
      | true =>
        obtain ⟨hG, hK⟩ := dropT_parts ht
        obtain ⟨hpl, -⟩ := hasK_at hK
        have hDe := (drop_has hG hK).1
        have hlen : D.length = xs.length - 1 := by rw [hD, hDe, cutAt_len hpl]
        have hG2 : dropG D key = true := by
          rw [dropG, hD, cvB_drop hG, Bool.true_and]
          simp only [dropG, Bool.and_eq_true] at hG
          exact hG.2
        have hK2 : hasK D key = false := by rw [hD]; exact hasK_drop hG
        obtain ⟨hD2, hT2⟩ := drop_hasnot hG2 hK2
        have HG2 : Hid (∀ now, getT D key now = false ∧ getN D key now = 0) := Lib.hid (fun now => by
          have : getT D key now = false := by rw [getT, usedK_not now hK2, Bool.and_false]
          exact ⟨this, by rw [getN, this]; rfl⟩)
        have HD2 := Lib.hid hD2; have HT2 := Lib.hid hT2
        have hl3 : (D.length : Int) = xs.length - 1 := by omega
        have HL := Lib.hid hl3
        have HT := Lib.hid ht
        clear ht hD hDe hG hK hG2 hK2 hD2 hT2 hlen hpl hl3
        go_wp2_with fail
        refine (implCacheDrop_any _ xs key _ (by omega) O1.out.reads).mono ?_
        rw [HT.out, ← HD.out]
        rintro e w2 ⟨u2, rfl, o2, b2⟩
        obtain ⟨ax, capx, rfl, -, -, -⟩ := o2.reads
        have c2 := bNext b1 b2
        have O2 := Lib.hid o2; clear o2
        go_wp2_with fail
        refine (specCacheDrop_any _ xs key _ (by omega) (O1.out.bl b2).reads).mono ?_
        rw [HT.out, ← HD.out]
        rintro e w3 ⟨u3, rfl, o3, b3⟩
        obtain ⟨ay, capy, rfl, -, -, -⟩ := o3.reads
        have c3 := bNext c2 b3
        have O3 := Lib.hid o3; clear o3
        have O2b := Lib.hid (O2.out.bl b3)
        go_wp2_with fail
        refine (sameEntries_same _ _ D _ (by omega) O2b.out.reads O3.out.reads).mono ?_
        rintro e w4 ⟨rfl, b4⟩
        have c4 := bNext c3 b4
        have O2c := Lib.hid (O2b.out.bl b4)
        go_wp2_with fail
        refine (implCacheGet_any _ D key _ _ (by omega) O2c.out.reads).mono ?_
        rw [(HG2.out _).1, (HG2.out _).2]
        rintro e w5 ⟨rfl, b5⟩
        have c5 := bNext c4 b5
        have O2d := Lib.hid (O2c.out.bl b5)
        go_wp2_with fail
        refine (implCacheDrop_any _ D key _ (by omega) O2d.out.reads).mono ?_
        rw [HT2.out, HD2.out]
        rintro e w6 ⟨u6, rfl, o6, b6⟩
        obtain ⟨az, capz, rfl, -, -, -⟩ := o6.reads
        have c6 := bNext c5 b6
        have O6 := Lib.hid o6; clear o6
        have O2e := Lib.hid (O2d.out.bl b6)
        go_wp2_with fail
        refine (sameEntries_same _ _ D _ (by omega) O6.out.reads O2e.out.reads).mono ?_
        rintro e w7 ⟨rfl, b7⟩
        have c7 := bNext c6 b7
        have hq : ((D.length : Int) == xs.length - 1) = true := by simp [HL.out]
        go_wp2
        go_ret
        exact ⟨rfl, c7⟩
    · have hl2' : decide ((1048576 : Int) < zs2.length) = true := decide_eq_true (by omega)
      go_enter Try.func8, Try.ntmps8
      go_wp2
      go_ret
      exact ⟨rfl, Below.refl _ _⟩
  · have hl' : decide ((1048576 : Int) < zs.length) = true := decide_eq_true (by omega)
    go_enter Try.func8, Try.ntmps8
    go_wp2
    go_ret
    exact ⟨rfl, Below.refl _ _⟩
end Go.Proofs.Ytldlaklddcekiaa
