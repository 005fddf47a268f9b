/- The walk of FnChunkPut: the law returns true. -/
import Derived.Test.YtlfmgagokaekjaaDrawPut
import Derived.Test.YtlfmgagokaekjaaPutS
import Derived.Test.YtlfmgagokaekjaaChkFacts
import Derived.Test.YtlfmgagokaekjaaDrawAck
import Derived.BigQuiet
import Derived.Deep.QuietTactic
import Derived.Deep.RegionHeld3
namespace Go.Proofs.Ytlfmgagokaekjaa
open Go.RowKit
set_option linter.unusedVariables false
set_option linter.unusedSimpArgs false

theorem RInts.mid {w : World} {g off n cap : Nat} {zs : List Int} (h : RInts w (.slice (some ⟨g, off, none⟩) n cap) zs) (lo hi : Nat) (hlo : lo ≤ hi) (hhi : hi ≤ zs.length) :
    RInts w (.slice (some ⟨g, off + lo, none⟩) (hi - lo) (cap - lo)) ((zs.take hi).drop lo) := by
  obtain ⟨a, cap', hsh, hc, hm, hcell⟩ := h
  simp only [Value.slice.injEq] at hsh
  obtain ⟨rfl, rfl, rfl⟩ := hsh
  have hl : ((zs.take hi).drop lo).length = hi - lo := by simp; omega
  refine ⟨_, _, by rw [hl], by omega, by omega, fun i hi' => ?_⟩
  obtain ⟨b, o, hb, hlt, hcl⟩ := hcell (lo + i) (by omega)
  simp only [Option.some.injEq, Addr.mk.injEq, and_true] at hb
  obtain ⟨rfl, rfl⟩ := hb
  refine ⟨_, _, rfl, hlt, ?_⟩
  rw [Nat.add_assoc, hcl]
  simp

set_option maxHeartbeats 1000000 in
theorem chunkPut_walk (v : Value) (zs : List Int) (w : World) (hr : RBytes w v zs) :
    Calls Try.prog 4 #[v] w fun e w' => e = .returned (.bool true) ∧ Below w.heap.size w w' := by
  obtain ⟨⟨a, cap, rfl, g1, g2, -⟩, -⟩ := id hr
  have HR := Lib.hid hr; clear hr
  by_cases hl : zs.length ≤ 1048576
  · go_enter Try.func4, Try.ntmps4
    go_wp2_with fail
    refine (drawChunkPut_any _ zs _ HR.out hl).mono ?_
    unfold chV
    rintro e w1 ⟨vg, got, n, u, cs, rfl, og, oc, hgl, hcl, hn, b1⟩
    obtain ⟨ag, qg, rfl, hqg, -, -⟩ := id og.reads
    obtain ⟨ac, qc, rfl, hqc, -, -⟩ := id oc.reads
    have B1 := Blk.new w1 #[.int .i64 n, .slice ac cs.length qc] 25
    have c1 := bAl b1 (.cells #[.int .i64 n, .slice ac cs.length qc] 25)
    have OG := Lib.hid (og.al (.cells #[.int .i64 n, .slice ac cs.length qc] 25))
    have OC := Lib.hid (oc.al (.cells #[.int .i64 n, .slice ac cs.length qc] 25))
    clear og oc
    obtain ⟨R, hR⟩ : ∃ R, R = putL got n cs := ⟨_, rfl⟩
    obtain ⟨OK, hOK⟩ : ∃ OK, OK = putT got n cs := ⟨_, rfl⟩
    have hRl : R.length ≤ 40 := by rw [hR]; have := putL_len got n cs; omega
    have HRR := Lib.hid hR; have HOK := Lib.hid hOK; clear hR hOK
    obtain ⟨x0, x1⟩ := B1.get2
    go_wp2_with fail
    clear x0 x1
    refine (implChunkPut_any _ got _ n cs _ (by omega) (by omega) OG.out.reads OC.out.reads).mono ?_
    rw [← HRR.out, ← HOK.out]
    rintro e w2 ⟨v2, rfl, o2, b2⟩
    have c2 := bNext c1 b2
    have B2 := B1.bl b2
    have OG2 := Lib.hid (OG.out.bl b2)
    have OC2 := Lib.hid (OC.out.bl b2)
    have O2 := Lib.hid o2; clear o2 B1 OG OC
    obtain ⟨x0, x1⟩ := B2.get2
    go_wp2_with fail
    clear x0 x1
    refine (specChunkPut_any _ got _ n cs _ _ (by omega) (by omega) OG2.out OC2.out.reads).mono ?_
    rw [← HRR.out, ← HOK.out]
    rintro e w3 ⟨v3, rfl, o3, b3⟩
    have c3 := bNext c2 b3
    have B3 := B2.bl b3
    have OG3 := Lib.hid (OG2.out.bl b3)
    have OC3 := Lib.hid (OC2.out.bl b3)
    have O2c := Lib.hid (O2.out.bl b3)
    have O3 := Lib.hid o3; clear o3 B2 OG2 OC2 O2
    obtain ⟨a3, q3, rfl, -, -, -⟩ := id O3.out.reads
    obtain ⟨a2, q2, rfl, hq2, -, -⟩ := id O2c.out.reads
    go_wp2_with fail
    refine (sameInts_same _ _ R _ (by omega) O2c.out.reads O3.out.reads).mono ?_
    rintro e w4 ⟨rfl, n4, hw4⟩
    have c4 : Below w.heap.size w w4 := by rw [hw4]; exact bDr c3 n4
    have B4 : Blk w4 w1.heap.size #[.int .i64 n, .slice ac cs.length qc] 25 := by rw [hw4]; exact B3.dr n4
    have OG4 : Hid (OwnInts w4 w.heap.size (.slice ag got.length qg) got) := Lib.hid (by rw [hw4]; exact OG3.out.dr n4)
    have OC4 : Hid (OwnInts w4 w.heap.size (.slice ac cs.length qc) cs) := Lib.hid (by rw [hw4]; exact OC3.out.dr n4)
    have O24 : Hid (OwnInts w4 _ (.slice a2 R.length q2) R) := Lib.hid (by rw [hw4]; exact O2c.out.dr n4)
    have O34 : Hid (OwnInts w4 _ (.slice a3 R.length q3) R) := Lib.hid (by rw [hw4]; exact O3.out.dr n4)
    clear hw4 B3 OG3 OC3 O2c O3
    cases hT : OK with
    | false =>
      subst hT
      go_wp2_with fail
      refine (sameInts_same _ _ R _ (by omega) O24.out.reads O34.out.reads).mono ?_
      rintro e w5 ⟨rfl, n5, rfl⟩
      go_wp2
      go_ret
      exact ⟨rfl, bDr c4 _⟩
    | true =>
      subst hT
      obtain ⟨A, rfl, hG, hA, ho, hRe⟩ := putT_parts HOK.out.symm
      rw [← HRR.out] at hRe
      have hlen : R.length = max got.length (A + cs.length) := by rw [hRe]; exact putR_len hA
      obtain ⟨-, -, -, hc1, hc4, -, -⟩ := putG_parts hG
      have hm1 : R.take got.length = got := by rw [hRe]; exact List.take_left
      have hm2 : (R.take (A + cs.length)).drop A = cs := by rw [hRe]; exact putR_slice hA ho
      rcases ownsRow_shape O24.out with ⟨hsh, h0⟩ | ⟨gz, capz, hsh, hgz1, hgz2, -, -⟩
      · omega
      simp only [Value.slice.injEq] at hsh
      obtain ⟨rfl, -, rfl⟩ := hsh
      have r1 := O24.out.reads.take (k := got.length) (by omega)
      have r2 := O24.out.reads.mid A (A + cs.length) (by omega) (by omega)
      rw [hm1] at r1
      rw [hm2, Nat.zero_add, show A + cs.length - A = cs.length by omega] at r2
      have r3 := OG4.out.reads
      have r4 := OC4.out.reads
      have hmx := fun w ts t => run_max2 (P := Try.prog) w ts t (got.length : Int) ((A : Int) + cs.length) (R.length : Int) (by rw [hlen]; omega)
      have f1 : (got.length : Int) ≤ (q2 : Int) := by omega
      have f2 : (0 : Int) ≤ (A : Int) := by omega
      have f3 : (A : Int) ≤ (A : Int) + cs.length := by omega
      have f4 : (A : Int) + cs.length ≤ (q2 : Int) := by omega
      have f5 : ¬ q2 = A := by omega
      have f6 : ((A : Int) + (cs.length : Int)).toNat - A = cs.length := by omega
      have ew : IntKind.i64.wrap ((A : Int) + cs.length) = (A : Int) + cs.length := IntWalk.i64_in _ (by omega)
      have R1 := Lib.hid r1; have R2 := Lib.hid r2; have R3 := Lib.hid r3; have R4 := Lib.hid r4
      clear r1 r2 r3 r4 hm1 hm2 hlen hRe hG ho HRR HOK
      have kk0 := B4.d1.get2
      go_wp2_with fail
      go_region_held3 (fun w' => w'.cell? ⟨w1.heap.size, 0, none⟩ = some (.int .i64 A) ∧ w'.cell? ⟨w1.heap.size, 1, none⟩ = some (.slice ac cs.length qc)) (first | with_reducible exact kk0 | with_reducible exact kk1 | with_reducible exact kk2) (first | (go_at_call 16; first | (with_reducible refine (sameInts_same _ _ got _ ?_ R1.out.d1 R3.out.d1).mono ?_; (· omega); rintro e w5 ⟨rfl, n5, hw5⟩; have c5 : Below w.heap.size w w5 := (by rw [hw5]; exact bDr (bD1 c4) n5); have B5 : Blk w5 w1.heap.size #[.int .i64 A, .slice ac cs.length qc] 25 := (by rw [hw5]; exact B4.d1.dr n5); have R25 : Hid (RInts w5 _ cs) := Lib.hid (by rw [hw5]; exact R2.out.d1.dr n5); have R45 : Hid (RInts w5 _ cs) := Lib.hid (by rw [hw5]; exact R4.out.d1.dr n5); clear hw5; have kk1 := B5.get2) | (with_reducible refine (sameInts_same _ _ cs _ ?_ R25.out R45.out).mono ?_; (· omega); rintro e w6 ⟨rfl, n6, hw6⟩; have c6 : Below w.heap.size w w6 := (by rw [hw6]; exact bDr c5 n6); have B6 : Blk w6 w1.heap.size #[.int .i64 A, .slice ac cs.length qc] 25 := (by rw [hw6]; exact B5.dr n6); clear hw6; have kk2 := B6.get2)))
      all_goals (go_wp2; go_ret; exact ⟨rfl, c6⟩)
  · have hl' : decide ((1048576 : Int) < zs.length) = true := decide_eq_true (by omega)
    go_enter Try.func4, Try.ntmps4
    go_wp2
    go_ret
    exact ⟨rfl, Below.refl _ _⟩
end Go.Proofs.Ytlfmgagokaekjaa
