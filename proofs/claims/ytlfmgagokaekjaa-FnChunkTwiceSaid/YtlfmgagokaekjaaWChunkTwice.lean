/- The walk of FnChunkTwice: the law returns true. -/
import Derived.Test.YtlfmgagokaekjaaDrawPut
import Derived.Test.YtlfmgagokaekjaaPutS
import Derived.Test.YtlfmgagokaekjaaChkFacts
namespace Go.Proofs.Ytlfmgagokaekjaa
open Go.RowKit
set_option linter.unusedVariables false
set_option linter.unusedSimpArgs false

set_option maxHeartbeats 1000000 in
theorem chunkTwice_walk (v : Value) (zs : List Int) (w : World) (hr : RBytes w v zs) :
    Calls Try.prog 5 #[v] w fun e w' => e = .returned (.bool true) ∧ Below w.heap.size w w' := by
  obtain ⟨⟨a, cap, rfl, g1, g2, -⟩, -⟩ := id hr
  have HR := Lib.hid hr; clear hr
  by_cases hl : zs.length ≤ 1048576
  · go_enter Try.func5, Try.ntmps5
    go_wp2_with fail
    refine (drawChunkPut_any _ zs _ HR.out hl).mono ?_
    unfold chV
    rintro e w1 ⟨vg, got, n, u, cs, rfl, og, oc, hgl, hcl, hn, b1⟩
    obtain ⟨ag, qg, rfl, hqg, -, -⟩ := id og.reads
    obtain ⟨ac, qc, rfl, hqc, -, -⟩ := id oc.reads
    have B1 := Blk.new w1 #[.int .i64 n, .slice ac cs.length qc] 25
    have c1 := bAl b1 (.cells #[.int .i64 n, .slice ac cs.length qc] 25)
    have OG := Lib.hid (og.al (.cells #[.int .i64 n, .slice ac cs.length qc] 25))
    have OC := Lib.hid (oc.al (.cells #[.int .i64 n, .slice ac cs.length qc] 25))
    clear og oc
    obtain ⟨R, hR⟩ : ∃ R, R = putL got n cs := ⟨_, rfl⟩
    obtain ⟨OK, hOK⟩ : ∃ OK, OK = putT got n cs := ⟨_, rfl⟩
    have hRl : R.length ≤ 40 := by rw [hR]; have := putL_len got n cs; omega
    have HRR := Lib.hid hR; have HOK := Lib.hid hOK; clear hR hOK
    obtain ⟨x0, x1⟩ := B1.get2
    go_wp2_with fail
    clear x0 x1
    refine (implChunkPut_any _ got _ n cs _ (by omega) (by omega) OG.out.reads OC.out.reads).mono ?_
    rw [← HRR.out, ← HOK.out]
    rintro e w2 ⟨v2, rfl, o2, b2⟩
    have c2 := bNext c1 b2
    have B2 := B1.bl b2
    have OG2 := Lib.hid (OG.out.bl b2)
    have OC2 := Lib.hid (OC.out.bl b2)
    have O2 := Lib.hid o2; clear o2 B1 OG OC
    obtain ⟨x0, x1⟩ := B2.get2
    go_wp2_with fail
    clear x0 x1
    refine (specChunkPut_any _ got _ n cs _ _ (by omega) (by omega) OG2.out OC2.out.reads).mono ?_
    rw [← HRR.out, ← HOK.out]
    rintro e w3 ⟨v3, rfl, o3, b3⟩
    have c3 := bNext c2 b3
    have B3 := B2.bl b3
    have OG3 := Lib.hid (OG2.out.bl b3)
    have OC3 := Lib.hid (OC2.out.bl b3)
    have O2c := Lib.hid (O2.out.bl b3)
    have O3 := Lib.hid o3; clear o3 B2 OG2 OC2 O2
    obtain ⟨a3, q3, rfl, -, -, -⟩ := id O3.out.reads
    obtain ⟨a2, q2, rfl, hq2, -, -⟩ := id O2c.out.reads
    go_wp2_with fail
    refine (sameInts_same _ _ R _ (by omega) O2c.out.reads O3.out.reads).mono ?_
    rintro e w4 ⟨rfl, n4, hw4⟩
    have c4 : Below w.heap.size w w4 := by rw [hw4]; exact bDr c3 n4
    have B4 : Blk w4 w1.heap.size #[.int .i64 n, .slice ac cs.length qc] 25 := by rw [hw4]; exact B3.dr n4
    have OG4 : Hid (OwnInts w4 w.heap.size (.slice ag got.length qg) got) := Lib.hid (by rw [hw4]; exact OG3.out.dr n4)
    have OC4 : Hid (OwnInts w4 w.heap.size (.slice ac cs.length qc) cs) := Lib.hid (by rw [hw4]; exact OC3.out.dr n4)
    have O24 : Hid (OwnInts w4 _ (.slice a2 R.length q2) R) := Lib.hid (by rw [hw4]; exact O2c.out.dr n4)
    have O34 : Hid (OwnInts w4 _ (.slice a3 R.length q3) R) := Lib.hid (by rw [hw4]; exact O3.out.dr n4)
    clear hw4 B3 OG3 OC3 O2c O3
    cases hT : OK with
    | false =>
      subst hT
      go_wp2_with fail
      refine (sameInts_same _ _ R _ (by omega) O24.out.reads O34.out.reads).mono ?_
      rintro e w5 ⟨rfl, n5, rfl⟩
      go_wp2
      go_ret
      exact ⟨rfl, bDr c4 _⟩
    | true =>
      obtain ⟨x0, x1⟩ := B4.get2
      subst hT
      have hT := HOK.out.symm
      obtain ⟨e1, e2⟩ := put_twice hT
      rw [← HRR.out] at e1 e2
      have E1 := Lib.hid e1; have E2 := Lib.hid e2; clear e1 e2 hT
      go_wp2_with fail
      clear x0 x1
      refine (implChunkPut_any _ R _ n cs _ (by omega) (by omega) O24.out.reads OC4.out.reads).mono ?_
      rw [E1.out, E2.out]
      rintro e w5 ⟨v5, rfl, o5, b5⟩
      have c5 := bNext c4 b5
      go_wp2_with fail
      refine (sameInts_same _ _ R _ (by omega) o5.reads (O24.out.bl b5).reads).mono ?_
      rintro e w6 ⟨rfl, n6, rfl⟩
      have c6 := bDr c5 n6
      go_wp2
      go_ret
      exact ⟨rfl, c6⟩
  · have hl' : decide ((1048576 : Int) < zs.length) = true := decide_eq_true (by omega)
    go_enter Try.func5, Try.ntmps5
    go_wp2
    go_ret
    exact ⟨rfl, Below.refl _ _⟩
end Go.Proofs.Ytlfmgagokaekjaa
