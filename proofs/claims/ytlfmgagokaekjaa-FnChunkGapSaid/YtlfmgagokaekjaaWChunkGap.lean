/- The walk of FnChunkGap: the law returns true. -/
import Derived.Test.YtlfmgagokaekjaaDrawPut
import Derived.Test.YtlfmgagokaekjaaPutS
import Derived.Test.YtlfmgagokaekjaaChkFacts
import Derived.BigQuiet
import Derived.Deep.QuietTactic
namespace Go.Proofs.Ytlfmgagokaekjaa
open Go.RowKit
set_option linter.unusedVariables false
set_option linter.unusedSimpArgs false

/-- Has a difference been seen below j? -/
def badTo (got cs : List Int) (a j : Nat) : Bool := decide (got.length < a) || (List.range j).any fun i => decide (a + i < got.length) && decide (got.getD (a + i) 0 ≠ cs.getD i 0)
theorem badTo_succ (got cs : List Int) (a j : Nat) : badTo got cs a (j + 1) = (badTo got cs a j || (decide (a + j < got.length) && decide (got.getD (a + j) 0 ≠ cs.getD j 0))) := by
  simp only [badTo, List.range_succ, List.any_append, List.any_cons, List.any_nil, Bool.or_false, Bool.or_assoc]
theorem badTo_end {got cs : List Int} {a j : Nat} (hG : putG got a cs = true) (hT : putT got a cs = false) (hj : j = cs.length ∨ got.length ≤ a + j) (hj2 : j ≤ cs.length) : badTo got cs a j = true := by
  simp only [putT, hG, Bool.true_and, Int.toNat_natCast] at hT
  by_cases ha : got.length < a
  · simp [badTo, ha]
  · have hb : okB got cs a = false := by
      have : decide (a ≤ got.length) = true := decide_eq_true (by omega)
      rw [this, Bool.true_and] at hT; exact hT
    simp only [okB, List.all_eq_false, List.mem_range, decide_eq_true_eq] at hb
    obtain ⟨i, hi, hne⟩ := hb
    have hne2 : a + i < got.length ∧ got.getD (a + i) 0 ≠ cs.getD i 0 := by
      by_cases h : a + i < got.length
      · exact ⟨h, fun e => hne (fun _ => e)⟩
      · exact absurd (fun h2 => absurd h2 h) hne
    simp only [badTo, Bool.or_eq_true, List.any_eq_true, List.mem_range, Bool.and_eq_true, decide_eq_true_eq]
    exact .inr ⟨i, by omega, hne2.1, hne2.2⟩

set_option maxHeartbeats 1000000 in
theorem chunkGap_walk (v : Value) (zs : List Int) (w : World) (hr : RBytes w v zs) :
    Calls Try.prog 3 #[v] w fun e w' => e = .returned (.bool true) ∧ Below w.heap.size w w' := by
  obtain ⟨⟨a, cap, rfl, g1, g2, -⟩, -⟩ := id hr
  have HR := Lib.hid hr; clear hr
  by_cases hl : zs.length ≤ 1048576
  · go_enter Try.func3, Try.ntmps3
    go_wp2_with fail
    refine (drawChunkPut_any _ zs _ HR.out hl).mono ?_
    unfold chV
    rintro e w1 ⟨vg, got, n, u, cs, rfl, og, oc, hgl, hcl, hn, b1⟩
    obtain ⟨ag, qg, rfl, hqg, -, -⟩ := id og.reads
    obtain ⟨ac, qc, rfl, hqc, -, -⟩ := id oc.reads
    have B1 := Blk.new w1 #[.int .i64 n, .slice ac cs.length qc] 25
    have c1 := bAl b1 (.cells #[.int .i64 n, .slice ac cs.length qc] 25)
    have OG := Lib.hid (og.al (.cells #[.int .i64 n, .slice ac cs.length qc] 25))
    have OC := Lib.hid (oc.al (.cells #[.int .i64 n, .slice ac cs.length qc] 25))
    clear og oc
    obtain ⟨R, hR⟩ : ∃ R, R = putL got n cs := ⟨_, rfl⟩
    obtain ⟨OK, hOK⟩ : ∃ OK, OK = putT got n cs := ⟨_, rfl⟩
    have hRl : R.length ≤ 40 := by rw [hR]; have := putL_len got n cs; omega
    have HRR := Lib.hid hR; have HOK := Lib.hid hOK; clear hR hOK
    obtain ⟨x0, x1⟩ := B1.get2
    go_wp2_with fail
    clear x0 x1
    refine (implChunkPut_any _ got _ n cs _ (by omega) (by omega) OG.out.reads OC.out.reads).mono ?_
    rw [← HRR.out, ← HOK.out]
    rintro e w2 ⟨v2, rfl, o2, b2⟩
    have c2 := bNext c1 b2
    have B2 := B1.bl b2
    have OG2 := Lib.hid (OG.out.bl b2)
    have OC2 := Lib.hid (OC.out.bl b2)
    have O2 := Lib.hid o2; clear o2 B1 OG OC
    obtain ⟨x0, x1⟩ := B2.get2
    go_wp2_with fail
    clear x0 x1
    refine (specChunkPut_any _ got _ n cs _ _ (by omega) (by omega) OG2.out OC2.out.reads).mono ?_
    rw [← HRR.out, ← HOK.out]
    rintro e w3 ⟨v3, rfl, o3, b3⟩
    have c3 := bNext c2 b3
    have B3 := B2.bl b3
    have OG3 := Lib.hid (OG2.out.bl b3)
    have OC3 := Lib.hid (OC2.out.bl b3)
    have O2c := Lib.hid (O2.out.bl b3)
    have O3 := Lib.hid o3; clear o3 B2 OG2 OC2 O2
    obtain ⟨a3, q3, rfl, -, -, -⟩ := id O3.out.reads
    obtain ⟨a2, q2, rfl, hq2, -, -⟩ := id O2c.out.reads
    go_wp2_with fail
    refine (sameInts_same _ _ R _ (by omega) O2c.out.reads O3.out.reads).mono ?_
    rintro e w4 ⟨rfl, n4, hw4⟩
    have c4 : Below w.heap.size w w4 := by rw [hw4]; exact bDr c3 n4
    have B4 : Blk w4 w1.heap.size #[.int .i64 n, .slice ac cs.length qc] 25 := by rw [hw4]; exact B3.dr n4
    have OG4 : Hid (OwnInts w4 w.heap.size (.slice ag got.length qg) got) := Lib.hid (by rw [hw4]; exact OG3.out.dr n4)
    have OC4 : Hid (OwnInts w4 w.heap.size (.slice ac cs.length qc) cs) := Lib.hid (by rw [hw4]; exact OC3.out.dr n4)
    have O24 : Hid (OwnInts w4 _ (.slice a2 R.length q2) R) := Lib.hid (by rw [hw4]; exact O2c.out.dr n4)
    have O34 : Hid (OwnInts w4 _ (.slice a3 R.length q3) R) := Lib.hid (by rw [hw4]; exact O3.out.dr n4)
    clear hw4 B3 OG3 OC3 O2c O3
    cases hT : OK with
    | true =>
      subst hT
      go_wp2_with fail
      refine (sameInts_same _ _ R _ (by omega) O24.out.reads O34.out.reads).mono ?_
      rintro e w5 ⟨rfl, n5, rfl⟩
      go_wp2
      go_ret
      exact ⟨rfl, bDr c4 _⟩
    | false =>
      subst hT
      by_cases hR0 : R.length = 0
      · have hq : ((R.length : Int) == 0) = true := by simp [hR0]
        have HR0 := Lib.hid hR0; clear hR0
        go_wp2_with fail
        refine (sameInts_same _ _ R _ (by omega) O24.out.reads O34.out.reads).mono ?_
        rintro e w5 ⟨rfl, n5, rfl⟩
        go_wp2
        go_ret
        exact ⟨rfl, bDr c4 _⟩
      · have hq : ((R.length : Int) == 0) = false := by rw [beq_eq_false_iff_ne]; omega
        have hG : putG got n cs = true := by
          cases hg : putG got n cs with
          | true => rfl
          | false => exact absurd (by rw [HRR.out, (put_bad hg).1]; rfl) hR0
        have hT := HOK.out.symm
        obtain ⟨-, -, -, hc1, hc4, hn0, -⟩ := putG_parts hG
        obtain ⟨A, rfl⟩ := Int.eq_ofNat_of_zero_le hn0
        have hRe : R = got := by
          rcases Nat.lt_or_ge got.length A with h | h
          · rw [HRR.out]; exact (put_far hG h).1
          · rw [HRR.out]
            cases ho : okB got cs A with
            | false => exact (put_mis hG ho).1
            | true => rw [(put_ok hG h ho).2] at hT; cases hT
        have HE := fun j => @badTo_end got cs A j hG hT
        have HEE := Lib.hid HE; clear HE hT hG
        subst hRe
        clear hR0
        obtain ⟨x0, x1⟩ := B4.get2
        go_wp2
        go_loopw [9, 10] (fun bd i wr => ∃ j : Nat, j ≤ cs.length ∧ i = .int .i64 j ∧ bd = .bool (badTo R cs A j) ∧ Blk wr w1.heap.size #[.int .i64 A, .slice ac cs.length qc] 25 ∧ Hid (OwnInts wr w.heap.size (.slice ag R.length qg) R) ∧ Hid (OwnInts wr w.heap.size (.slice ac cs.length qc) cs) ∧ Hid (RInts wr (.slice a2 R.length q2) R) ∧ Below w.heap.size w wr) (fun _ i _ => cs.length - (intOf i).toNat)
        case atStart => exact ⟨0, by omega, rfl, by simp [badTo], B4, OG4, OC4, Lib.hid O24.out.reads, c4⟩
        case round =>
          clear x0 x1 B4 OG4 OC4 c4
          obtain ⟨j, hj, rfl, rfl, B5, OG5, OC5, R5, c5⟩ := hrel
          obtain ⟨x0, x1⟩ := B5.get2
          have ew : IntKind.i64.wrap ((A : Int) + j) = (A : Int) + j := IntWalk.i64_in _ (by omega)
          by_cases hlt : j < cs.length
          · have hd : decide ((j : Int) < (cs.length : Int)) = true := decide_eq_true (by omega)
            have hd' : decide (j < cs.length) = true := decide_eq_true hlt
            by_cases hin : A + j < R.length
            · have hd2 : decide ((A : Int) + (j : Int) < (R.length : Int)) = true := decide_eq_true (by omega)
              have ha1 : 0 ≤ (A : Int) + (j : Int) := by omega
              have ha2 : (A : Int) + (j : Int) < (R.length : Int) := by omega
              have ha3 : ((A : Int) + (j : Int)).toNat = A + j := by omega
              rcases ownsRow_shape OG5.out with ⟨hsh, h0⟩ | ⟨gz, capz, hsh, -, -, -, -⟩
              · omega
              simp only [Value.slice.injEq] at hsh
              obtain ⟨rfl, -, rfl⟩ := hsh
              rcases ownsRow_shape OC5.out with ⟨hsh, h0⟩ | ⟨gc, capc, hsh, -, -, -, -⟩
              · omega
              simp only [Value.slice.injEq] at hsh
              obtain ⟨rfl, -, rfl⟩ := hsh
              have y0 := OG5.out.cellAt (j := A + j) hin
              have y1 := OC5.out.cellAt (j := j) hlt
              have hS := badTo_succ R cs A j
              have e1 : R.getD (A + j) 0 = R[A + j] := by simp [List.getD_eq_getElem?_getD, List.getElem?_eq_getElem hin]
              have e2 : cs.getD j 0 = cs[j] := by simp [List.getD_eq_getElem?_getD, List.getElem?_eq_getElem hlt]
              rw [e1, e2, decide_eq_true hin, Bool.true_and] at hS
              obtain ⟨p, hp⟩ : ∃ p, p = R[A + j] := ⟨_, rfl⟩
              obtain ⟨s, hs⟩ : ∃ s, s = cs[j] := ⟨_, rfl⟩
              rw [← hp] at y0 hS; rw [← hs] at y1 hS
              have HS := Lib.hid hS; clear hS e1 e2 hp hs
              cases hb : badTo R cs A j with
              | true =>
                have BD : Hid (badTo R cs A (j + 1) = true) := Lib.hid (by rw [HS.out, hb]; rfl)
                have HB := Lib.hid hb; clear hb
                go_wp2_with fail
                go_quiet (fail)
                go_wp2
                go_roundw
                case rel => exact ⟨j + 1, by omega, by go_num, by rw [BD.out], B5.dr _, Lib.hid (OG5.out.dr _), Lib.hid (OC5.out.dr _), Lib.hid (R5.out.dr _), bDr c5 _⟩
                case measure => simp [intOf]; omega
              | false =>
                by_cases hps : p = s
                · have hq2 : (p != s) = false := by simp [hps]
                  have hq3 : (p == s) = true := by simp [hps]
                  have BD : Hid (badTo R cs A (j + 1) = false) := Lib.hid (by rw [HS.out, hb]; simp [hps])
                  have HB := Lib.hid hb; clear hb hps
                  go_wp2_with fail
                  go_quiet (fail)
                  go_wp2
                  go_roundw
                  case rel => exact ⟨j + 1, by omega, by go_num, by rw [BD.out], B5.dr _, Lib.hid (OG5.out.dr _), Lib.hid (OC5.out.dr _), Lib.hid (R5.out.dr _), bDr c5 _⟩
                  case measure => simp [intOf]; omega
                · have hq2 : (p != s) = true := by simp [hps]
                  have hq3 : (p == s) = false := by simp [hps]
                  have BD : Hid (badTo R cs A (j + 1) = true) := Lib.hid (by rw [HS.out, hb]; simp [hps])
                  have HB := Lib.hid hb; clear hb hps
                  go_wp2_with fail
                  go_quiet (fail)
                  go_wp2
                  go_roundw
                  case rel => exact ⟨j + 1, by omega, by go_num, by rw [BD.out], B5.dr _, Lib.hid (OG5.out.dr _), Lib.hid (OC5.out.dr _), Lib.hid (R5.out.dr _), bDr c5 _⟩
                  case measure => simp [intOf]; omega
            · have hd2 : decide ((A : Int) + (j : Int) < (R.length : Int)) = false := decide_eq_false (by omega)
              have hb := HEE.out j (.inr (by omega)) hj
              rw [hb]
              clear hb
              go_wp2_with fail
              clear x0 x1
              refine (sameInts_same _ _ R _ (by omega) R5.out OG5.out.reads).mono ?_
              rintro e w6 ⟨rfl, n6, rfl⟩
              go_wp2
              go_ret
              exact ⟨rfl, bDr c5 _⟩
          · have hd : decide ((j : Int) < (cs.length : Int)) = false := decide_eq_false (by omega)
            have hd' : decide (j < cs.length) = false := decide_eq_false hlt
            have hb := HEE.out j (.inl (by omega)) hj
            rw [hb]
            clear hb
            go_wp2_with fail
            clear x0 x1
            refine (sameInts_same _ _ R _ (by omega) R5.out OG5.out.reads).mono ?_
            rintro e w6 ⟨rfl, n6, rfl⟩
            go_wp2
            go_ret
            exact ⟨rfl, bDr c5 _⟩
  · have hl' : decide ((1048576 : Int) < zs.length) = true := decide_eq_true (by omega)
    go_enter Try.func3, Try.ntmps3
    go_wp2
    go_ret
    exact ⟨rfl, Below.refl _ _⟩
end Go.Proofs.Ytlfmgagokaekjaa
