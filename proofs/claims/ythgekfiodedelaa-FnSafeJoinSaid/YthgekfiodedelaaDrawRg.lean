/- What is drawn for rings: DrawRingCalm, l91Member, DrawRingFail, DrawRingJoin. -/
import Derived.Test.YthgekfiodedelaaSpD
import Derived.Test.YthgekfiodedelaaRdPt
namespace Go.Proofs.Ythgekfiodedelaa
open Go.RowKit
set_option linter.unusedVariables false
set_option linter.unusedSimpArgs false

set_option maxRecDepth 100000 in
set_option maxHeartbeats 2000000 in
theorem drawRingCalm_any (v : Value) (zs : List Int) (w : World) (hr : RBytes w v zs) (hl : zs.length ≤ 1048576) :
    Calls Try.prog 8 #[v] w fun e w' => ∃ u D, e = .returned u ∧ RRing w' u D ∧ Mild D ∧ Below w.heap.size w w' := by
  obtain ⟨⟨a, cap, rfl, -, -, -⟩, -⟩ := id hr
  have HR := Lib.hid hr; clear hr
  go_enter Try.func8, Try.ntmps8
  go_wp2_with fail
  refine (l6Open_any _ zs _ HR.out hl).mono ?_
  rintro e w1 ⟨b, rfl, hb, r1, b1⟩
  have RD1 := Lib.hid r1; have B1 := Lib.hid b1
  clear r1 b1
  go_wp2_with fail
  refine (l91Spoilt_any w.heap.size b 0 _ RD1.out (by omega)).mono ?_
  rintro e w2 ⟨u2, D, q, rfl, r2, m2, -, -, g2⟩
  have R2 := Lib.hid r2; have M2 := Lib.hid m2
  have c2 := Lib.hid (bGr B1.out g2 (fun k hk => by cases hk; exact hb))
  clear r2 m2 g2
  go_wp2
  go_ret
  exact ⟨_, D, rfl, R2.out.reads, M2.out, c2.out⟩

set_option maxRecDepth 100000 in
set_option maxHeartbeats 2000000 in
theorem l91Member_any (S b : Nat) (p : Int) (v : Value) (D : List Rn) (w : World) (hr : IsRd w S b p) (hp : p ≤ 700000) (hD : RRingN b w v D) (hm : Mild D) :
    Calls Try.prog 38 #[.pointer (some ⟨b, 0, none⟩), v] w fun e w' => ∃ x q, e = .returned (.int .i64 x) ∧ (-1 ≤ x ∧ x ≤ 64) ∧ q ≤ p + 3 ∧ IsRd w' S b q ∧ w.grownBy w' (some b) := by
  have hp0 := hr.2.1
  have h10 := hm.1
  obtain ⟨a, cap, rfl, -, -⟩ := RRing.sl hD.reads
  have RD0 := Lib.hid hr; have KEEP := Lib.hid hD; have HM := Lib.hid hm
  clear hr hD hm
  go_enter Try.func38, Try.ntmps38
  go_wp2_with fail
  refine (pick_any S b p 10 _ RD0.out (by omega) (by omega) (by omega)).mono ?_
  rintro e w1 ⟨m1, rfl, ⟨hm1, hm1'⟩, r1, g1⟩
  have RD1 := Lib.hid r1; have G1 := Lib.hid g1
  clear r1 g1
  cases q1 : (m1 == 0) with
  | true =>
    go_wp2_with fail
    refine (l91Point_any S b (p + 1) _ RD1.out (by omega)).mono ?_
    rintro e w2 ⟨x2, rfl, hx2, r2, g2⟩
    have RD2 := Lib.hid r2; have G2 := Lib.hid (G1.out.trans g2)
    clear r2 g2
    go_wp2
    go_ret
    exact ⟨_, _, rfl, hx2, by omega, RD2.out, G2.out⟩
  | false =>
    by_cases h0 : D.length = 0
    · have q2 : ((D.length : Int) == 0) = true := by simp [h0]
      clear h0
      go_wp2_with fail
      refine (l91Point_any S b (p + 1) _ RD1.out (by omega)).mono ?_
      rintro e w2 ⟨x2, rfl, hx2, r2, g2⟩
      have RD2 := Lib.hid r2; have G2 := Lib.hid (G1.out.trans g2)
      clear r2 g2
      go_wp2
      go_ret
      exact ⟨_, _, rfl, hx2, by omega, RD2.out, G2.out⟩
    · have q2 : ((D.length : Int) == 0) = false := by simpa using h0
      have hD0 : 0 < D.length := by omega
      clear h0
      go_wp2_with fail
      refine (pick_any S b (p + 1) D.length _ RD1.out (by omega) (by omega) (by omega)).mono ?_
      rintro e w2 ⟨m2, rfl, ⟨hm2, hm2'⟩, r2, g2⟩
      obtain ⟨m2, rfl⟩ := Int.eq_ofNat_of_zero_le hm2
      have hk2 : m2 < D.length := by omega
      have RD2 := Lib.hid r2; have G2 := Lib.hid (G1.out.trans g2)
      obtain ⟨bb, off, s, c, rfl, hbb, x0, -, -, -⟩ := RRing.nd (KEEP.out.gr G2.out).reads m2 hk2
      have HX := Lib.hid (HM.out.2 _ (List.getElem_mem hk2)).1
      clear r2 g2
      generalize D[m2].1 = z at *
      go_wp2
      go_ret
      exact ⟨_, _, rfl, HX.out, by omega, RD2.out, G2.out⟩

set_option maxRecDepth 100000 in
set_option maxHeartbeats 2000000 in
theorem drawRingFail_any (v : Value) (zs : List Int) (w : World) (hr : RBytes w v zs) (hl : zs.length ≤ 1048576) :
    Calls Try.prog 23 #[v] w fun e w' => ∃ u x D, e = .returned (.tuple #[u, .int .i64 x]) ∧ RRing w' u D ∧ Mild D ∧ Below w.heap.size w w' := by
  obtain ⟨⟨a, cap, rfl, -, -, -⟩, -⟩ := id hr
  have HR := Lib.hid hr; clear hr
  go_enter Try.func23, Try.ntmps23
  go_wp2_with fail
  refine (l6Open_any _ zs _ HR.out hl).mono ?_
  rintro e w1 ⟨b, rfl, hb, r1, b1⟩
  have RD1 := Lib.hid r1; have B1 := Lib.hid b1
  clear r1 b1
  go_wp2_with fail
  refine (l91Spoilt_any w.heap.size b 0 _ RD1.out (by omega)).mono ?_
  rintro e w2 ⟨u2, D, q, rfl, r2, m2, hq, rd2, g2⟩
  have R2 := Lib.hid r2; have M2 := Lib.hid m2; have RD2 := Lib.hid rd2
  have c2 := Lib.hid (bGr B1.out g2 (fun k hk => by cases hk; exact hb))
  obtain ⟨a2, q2, rfl, -, -⟩ := RRing.sl r2.reads
  clear r2 m2 g2 rd2
  go_wp2_with fail
  refine (l91Member_any w.heap.size b q _ D _ RD2.out (by omega) R2.out M2.out).mono ?_
  rintro e w3 ⟨x3, q3, rfl, -, -, -, g3⟩
  have R3 := Lib.hid (R2.out.gr g3).reads
  have c3 := Lib.hid (bGr c2.out g3 (fun k hk => by cases hk; exact hb))
  clear g3
  go_wp2
  go_ret2
  exact ⟨_, _, D, rfl, R3.out, M2.out, c3.out⟩
end Go.Proofs.Ythgekfiodedelaa
