/- spec.l3Ideal, RingNew. -/
import Derived.Test.YthgekfiodedelaaNdW
import Derived.Deep.AppendLies
import Derived.Deep.RegionLaw
namespace Go.Proofs.Ythgekfiodedelaa
open Go.RowKit
set_option linter.unusedVariables false
set_option linter.unusedSimpArgs false

def idN (I : List Int) (i : Nat) : Nd := ⟨I.getD i 0, I.getD ((i + I.length - 1) % I.length) 0, I.getD ((i + 1) % I.length) 0, I.getD ((i + 2) % I.length) 0⟩
def idTo (I : List Int) (j : Nat) : List Nd := (List.range j).map (idN I)
theorem idTo_succ (I : List Int) (j : Nat) : idTo I (j + 1) = idTo I j ++ [idN I j] := by simp [idTo, List.range_succ]
theorem idTo_all (I : List Int) : idTo I I.length = idealS I := rfl
theorem idTo_len (I : List Int) (j : Nat) : (idTo I j).length = j := by simp [idTo]
theorem RInts.at {w : World} {b off n cap : Nat} {zs : List Int} (h : RInts w (.slice (some ⟨b, off, none⟩) n cap) zs) {i : Nat} (hi : i < zs.length) : w.cell? ⟨b, off + i, none⟩ = some (.int .i64 (zs.getD i 0)) := by
  obtain ⟨_, _, e, -, -, hc⟩ := h
  cases e
  obtain ⟨b', off', he, -, hx⟩ := hc i hi
  cases he
  rw [hx]; simp [List.getD, hi]

set_option maxRecDepth 100000 in
set_option maxHeartbeats 4000000 in
theorem l3Ideal_any (v : Value) (I : List Int) (w : World) (hl : I.length ≤ 10) (h0 : 0 < I.length) (hr : RInts w v I) :
    Calls Try.prog 105 #[v] w fun e w' => ∃ x, e = .returned x ∧ OwnRingS w' w.heap.size x (dats (idealS I)) ∧ Below w.heap.size w w' := by
  obtain ⟨i0, hi, hz0, hz1, hz2⟩ := info_parts infoNd4
  obtain ⟨b, off, cap, rfl, hc, hm, hr2, hcell⟩ := hr.shape rfl h0
  have hbw := (hcell 0 h0).1
  have HR := Lib.hid hr2; clear hr hr2 hcell
  go_enter Try.func105, Try.ntmps105
  go_wp2
  go_loopw [3, 5] (fun o i wr => ∃ j : Nat, j ≤ I.length ∧ i = .int .i64 j ∧ Hid (OwnRingS wr w.heap.size o (dats (idTo I j))) ∧ Hid (Below w.heap.size w wr)) (fun _ i _ => I.length - (intOf i).toNat)
  case atStart => exact ⟨0, Nat.zero_le _, rfl, Lib.hid (OwnRingS.empty w), Lib.hid (below_alloc w _)⟩
  case round =>
    obtain ⟨j, hj, rfl, HOW, BJ⟩ := hrel
    obtain ⟨vo, rfl⟩ : ∃ z, z = u3 := ⟨_, rfl⟩
    by_cases hlt : j < I.length
    · obtain ⟨P0, hP0⟩ : ∃ P, P = (j + I.length - 1) % I.length := ⟨_, rfl⟩
      obtain ⟨P1, hP1⟩ : ∃ P, P = (j + 1) % I.length := ⟨_, rfl⟩
      obtain ⟨P2, hP2⟩ : ∃ P, P = (j + 2) % I.length := ⟨_, rfl⟩
      have p0 : P0 < I.length := by rw [hP0]; exact Nat.mod_lt _ h0
      have p1 : P1 < I.length := by rw [hP1]; exact Nat.mod_lt _ h0
      have p2 : P2 < I.length := by rw [hP2]; exact Nat.mod_lt _ h0
      have HD : Hid (dats (idTo I (j + 1)) = dats (idTo I j) ++ [(I.getD j 0, I.getD P0 0, [I.getD P1 0, I.getD P2 0])]) := Lib.hid (by
        rw [idTo_succ, hP0, hP1, hP2]; simp [dats, dat, idN])
      have t0 : Int.tmod ((j : Int) + (I.length : Int) - 1) (I.length : Int) = (P0 : Int) := by
        rw [Int.tmod_eq_emod_of_nonneg (by omega), hP0, Int.natCast_emod]; congr 1; omega
      have t1 : Int.tmod ((j : Int) + 1) (I.length : Int) = (P1 : Int) := by
        rw [Int.tmod_eq_emod_of_nonneg (by omega), hP1, Int.natCast_emod]; congr 1
      have t2 : Int.tmod ((j : Int) + 2) (I.length : Int) = (P2 : Int) := by
        rw [Int.tmod_eq_emod_of_nonneg (by omega), hP2, Int.natCast_emod]; congr 1
      have r0 : ((j : Int) + (I.length : Int) - 1) % (I.length : Int) = (P0 : Int) := by rw [← Int.tmod_eq_emod_of_nonneg (by omega), t0]
      have r1 : ((j : Int) + 1) % (I.length : Int) = (P1 : Int) := by rw [← Int.tmod_eq_emod_of_nonneg (by omega), t1]
      have r2 : ((j : Int) + 2) % (I.length : Int) = (P2 : Int) := by rw [← Int.tmod_eq_emod_of_nonneg (by omega), t2]
      have e1 : IntKind.i64.wrap ((j : Int) + (I.length : Int)) = (j : Int) + (I.length : Int) := IntWalk.i64_in _ (by omega)
      have e2 : IntKind.i64.wrap ((j : Int) + (I.length : Int) - 1) = (j : Int) + (I.length : Int) - 1 := IntWalk.i64_in _ (by omega)
      have e3 : IntKind.i64.wrap ((j : Int) + 1) = (j : Int) + 1 := IntWalk.i64_in _ (by omega)
      have e4 : IntKind.i64.wrap ((j : Int) + 2) = (j : Int) + 2 := IntWalk.i64_in _ (by omega)
      have ez : ((I.length : Int) == 0) = false := by simpa using (show I.length ≠ 0 by omega)
      have ez2 : I ≠ [] := by intro e; rw [e] at h0; exact absurd h0 (by simp)
      have ez3 : ¬ ((I.length : Int) = 0) := by omega
      have ez1 : (j : Int) + (I.length : Int) - 1 ≥ 0 := by omega
      have RJ := HR.out.bl BJ.out
      have d0 := HR.out.at hlt
      have d1 := HR.out.at p0
      have d2 := HR.out.at p1
      have d3 := HR.out.at p2
      have c0 := RJ.at hlt
      have c1 := RJ.at p0
      have c2 := RJ.at p1
      have c3 := RJ.at p2
      obtain ⟨hs, hRS⟩ := HOW.out
      have HRS := Lib.hid hRS
      have hhl : hs.length = j := by have := hRS.len; rw [dats_len, idTo_len] at this; exact this
      clear hP0 hP1 hP2 RJ hRS HOW
      generalize I.getD j 0 = x at *
      generalize I.getD P0 0 = y at *
      generalize I.getD P1 0 = a0 at *
      generalize I.getD P2 0 = a1 at *
      go_wp2
      have kk0 := And.intro (show wr.drew.cell? _ = _ from c0) (And.intro (show wr.drew.cell? _ = _ from c1) (And.intro (show wr.drew.cell? _ = _ from c2) (show wr.drew.cell? _ = _ from c3)))
      have bA := below_alloc wr (.cells #[.int .i64 a0, .int .i64 a1] 3)
      have bB := bA.trans ((below_alloc (wr.alloc (.cells #[.int .i64 a0, .int .i64 a1] 3)) (.cells #[.int .i64 x, .int .i64 y, .slice (some ⟨wr.heap.size, 0, none⟩) 2 2] 37)).mono bA.size)
      have bC : Below wr.heap.size wr ((wr.alloc (.cells #[.int .i64 a0, .int .i64 a1] 3)).alloc (.cells #[.int .i64 x, .int .i64 y, .slice (some ⟨wr.heap.size, 0, none⟩) 2 2] 37)).drew := bB.drew
      have H9 := (HRS.out.bl bC).row
      have ho := World.ownsRow_lit wr (e := 3) (size := 1) #[.int .i64 a0, .int .i64 a1] 2 (Nat.le_refl _) (by unfold maxLen; omega) rfl
      have o9 : OwnInts ((wr.alloc (.cells #[.int .i64 a0, .int .i64 a1] 3)).alloc (.cells #[.int .i64 x, .int .i64 y, .slice (some ⟨wr.heap.size, 0, none⟩) 2 2] 37)).drew wr.heap.size (slV (some ⟨wr.heap.size, 0, none⟩, 2, 2)) [a0, a1] := (OwnInts.al (zs := [a0, a1]) ho _).d1
      have hbr : b < wr.heap.size := Nat.lt_of_lt_of_le hbw BJ.out.size
      have kk1 := And.intro (show (wr.alloc (.cells #[.int .i64 a0, .int .i64 a1] 3)).drew.cell? _ = _ from (bA.cell hbr).trans c0) (And.intro (show (wr.alloc (.cells #[.int .i64 a0, .int .i64 a1] 3)).drew.cell? _ = _ from (bA.cell hbr).trans c1) (And.intro (show (wr.alloc (.cells #[.int .i64 a0, .int .i64 a1] 3)).drew.cell? _ = _ from (bA.cell hbr).trans c2) (show (wr.alloc (.cells #[.int .i64 a0, .int .i64 a1] 3)).drew.cell? _ = _ from (bA.cell hbr).trans c3)))
      have kk2 := And.intro ((bC.cell hbr).trans c0) (And.intro ((bC.cell hbr).trans c1) (And.intro ((bC.cell hbr).trans c2) ((bC.cell hbr).trans c3)))
      have BB := Lib.hid bC; have O9 := Lib.hid o9
      have hsz := BJ.out.size
      clear bA bB bC ho o9
      go_region_held3 (fun w' => w'.cell? ⟨b, off + j, none⟩ = some (.int .i64 x) ∧ w'.cell? ⟨b, off + P0, none⟩ = some (.int .i64 y) ∧ w'.cell? ⟨b, off + P1, none⟩ = some (.int .i64 a0) ∧ w'.cell? ⟨b, off + P2, none⟩ = some (.int .i64 a1)) (first | with_reducible exact kk0 | with_reducible exact kk1 | with_reducible exact kk2 | with_reducible exact kk3 | fail) ((refine step_append_lies _ rfl _ _ 23 rfl w.heap.size 37 i0 (.agg #[.int .i64 0, .int .i64 0, .slice none 0 0]) 3 40 Try.underlying23 hi hz0 hz1 hz2 rfl (by decide) _ _ _ rfl H9 ⟨wr.heap.size + 1, 0, none⟩ 1 1 [.int .i64 x, .int .i64 y, .slice (some ⟨wr.heap.size, 0, none⟩) 2 2] rfl rfl (cells_nd _ x y (some ⟨wr.heap.size, 0, none⟩) 2 2 (by simp) _) (oneCell_nd _ _ _ _ _) (by omega) (by unfold maxLen; omega) (by omega) (by simp; omega) _ rfl ?_; intro g9 cap9 w10 hown10 hg10 _ hlt10; have hne10 : ∀ q, vo.ownBlock = some q → w.heap.size ≤ q := fun q hq => (HRS.out.row.lts q hq).1; have C10 := Lib.hid (bGr (bNext BJ.out BB.out) hg10 hne10); have kk3 := And.intro ((C10.out.cell hbw).trans d0) (And.intro ((C10.out.cell hbw).trans d1) (And.intro ((C10.out.cell hbw).trans d2) ((C10.out.cell hbw).trans d3)))))
      all_goals
        have HN : Hid (OwnRingS w10 w.heap.size (.slice (some ⟨g9, 0, none⟩) (hs.length + 1) cap9) (dats (idTo I (j + 1)))) := Lib.hid (by
          rw [HD.out]
          exact ⟨_, HRS.out.snoc (s := (some ⟨wr.heap.size, 0, none⟩, 2, 2)) BB.out O9.out (Nat.le_refl _) (by omega) hown10 rfl hg10⟩)
        clear d0 d1 d2 d3 c0 c1 c2 c3 kk0 kk1 kk2 kk3 hown10 hg10 H9
        rw [hhl] at HN ⊢
        go_wp2
        go_roundw
        case rel => exact ⟨j + 1, by omega, by go_num, HN, C10⟩
        case measure => simp [intOf]; omega
    · obtain rfl : j = I.length := by omega
      have HE := Lib.hid (congrArg dats (idTo_all I))
      go_wp2
      go_ret
      exact ⟨_, rfl, by rw [← HE.out]; exact HOW.out, BJ.out⟩
end Go.Proofs.Ythgekfiodedelaa
