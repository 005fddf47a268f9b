/- PlaceMoved of both sides. -/
import Derived.Test.YtfklkkelgpeccaaPo
namespace Go.Proofs.Ytfklkkelgpeccaa
open Go.RowKit
set_option linter.unusedVariables false
set_option linter.unusedSimpArgs false

/-- Those of the first j keys that two tables give to different nodes. -/
def mvTo (zs xs : List Tok) : Nat → List Int
  | 0 => []
  | j + 1 => if ownT zs j = ownT xs j then mvTo zs xs j else mvTo zs xs j ++ [(j : Int)]
theorem mvTo_len (zs xs : List Tok) (j : Nat) : (mvTo zs xs j).length ≤ j := by
  induction j with
  | zero => simp [mvTo]
  | succ j ih =>
    simp only [mvTo]; split
    · omega
    · simp; omega
def mvL (zs xs : List Tok) : List Int := if tvB zs && tvB xs then mvTo zs xs 64 else []
theorem mvL_len (zs xs : List Tok) : (mvL zs xs).length ≤ 64 := by
  unfold mvL; split
  · exact mvTo_len zs xs 64
  · simp
theorem mv_bad {zs xs : List Tok} (h : tvB zs = false ∨ tvB xs = false) : mvL zs xs = [] := by
  rcases h with h | h <;> simp [mvL, h]
theorem mv_good {zs xs : List Tok} (h1 : tvB zs = true) (h2 : tvB xs = true) : mvL zs xs = mvTo zs xs 64 := by simp [mvL, h1, h2]

set_option maxHeartbeats 2000000 in
theorem specPlaceMoved_any (v u : Value) (zs xs : List Tok) (w : World) (hl : zs.length ≤ 4194304) (hl2 : xs.length ≤ 4194304) (hr : RRow TL w v zs) (hr2 : RRow TL w u xs) :
    Calls Try.prog 21 #[v, u] w fun e w' => ∃ r, e = .returned r ∧ OwnInts w' w.heap.size r (mvL zs xs) ∧ Below w.heap.size w w' := by
  obtain ⟨i0, hi, hz0, hz1, hz2⟩ := info_parts infoInt
  obtain ⟨a, cap, rfl, -, -, -⟩ := id hr
  obtain ⟨a2, cap2, rfl, -, -, -⟩ := id hr2
  have HR := Lib.hid hr; clear hr
  have HX := Lib.hid hr2; clear hr2
  obtain ⟨M, hM⟩ : ∃ M, M = mvL zs xs := ⟨_, rfl⟩
  rw [← hM]
  have HM := Lib.hid hM; clear hM
  go_enter Try.func21, Try.ntmps21
  have c0 := below_alloc w (.cells #[] 3)
  have H0 := Lib.hid (own_empty w)
  go_wp2_with fail
  refine (l31Table_any _ zs _ hl (HR.out.bl c0)).mono ?_
  rintro e w1 ⟨rfl, d1⟩
  have c1 := bNext c0 d1.below
  have H1 := Lib.hid (H0.out.bl d1.below)
  cases hv : tvB zs with
  | false =>
    have HV := Lib.hid hv; clear hv
    go_wp2
    go_ret
    exact ⟨_, rfl, by rw [HM.out, mv_bad (.inl HV.out)]; exact H1.out, c1⟩
  | true =>
    have h0 := tvB_pos hv
    have HV := Lib.hid hv; clear hv
    go_wp2_with fail
    refine (l31Table_any _ xs _ hl2 (HX.out.bl c1)).mono ?_
    rintro e w2 ⟨rfl, d2⟩
    have c2 := bNext c1 d2.below
    have H2 := Lib.hid (H1.out.bl d2.below)
    cases hk : tvB xs with
    | false =>
      have HK := Lib.hid hk; clear hk
      go_wp2
      go_ret
      exact ⟨_, rfl, by rw [HM.out, mv_bad (.inr HK.out)]; exact H2.out, c2⟩
    | true =>
      have h1 := tvB_pos hk
      have HK := Lib.hid hk; clear hk
      go_wp2
      go_loopw [5, 6] (fun n i wr => ∃ j : Nat, j ≤ 64 ∧ i = .int .i64 j ∧ Hid (OwnInts wr w.heap.size n (mvTo zs xs j)) ∧ Below w.heap.size w wr) (fun _ i _ => 64 - (intOf i).toNat)
      case atStart => exact ⟨0, by omega, rfl, H2, c2⟩
      case round =>
        obtain ⟨j, hj, rfl, HOW, hB⟩ := hrel
        have hsz := hB.size
        by_cases hlt : j < 64
        · have q0 : decide ((j : Int) < 64) = true := decide_eq_true (by omega)
          have q0' : decide (j < 64) = true := decide_eq_true hlt
          obtain ⟨o, ho⟩ : ∃ o, o = ownT zs j := ⟨_, rfl⟩
          obtain ⟨p, hp⟩ : ∃ p, p = ownT xs j := ⟨_, rfl⟩
          have HS : Hid (mvTo zs xs (j + 1) = if o = p then mvTo zs xs j else mvTo zs xs j ++ [(j : Int)]) := Lib.hid (by rw [ho, hp]; rfl)
          have HO := Lib.hid ho; have HP := Lib.hid hp; clear ho hp
          have hlen := mvTo_len zs xs j
          go_wp2_with fail
          refine (l31Owner_any _ zs j _ hl h0 (HR.out.bl hB)).mono ?_
          rw [← HO.out]
          rintro e w3 ⟨rfl, rfl⟩
          go_wp2_with fail
          refine (l31Owner_any _ xs j _ hl2 h1 (HX.out.bl hB)).mono ?_
          rw [← HP.out]
          rintro e w3 ⟨rfl, rfl⟩
          by_cases hq : o = p
          · have q1 : (o != p) = false := by simp [hq]
            have HQ := Lib.hid hq; clear hq
            have HN : Hid (OwnInts wr w.heap.size _ (mvTo zs xs (j + 1))) := Lib.hid (by rw [HS.out, if_pos HQ.out]; exact HOW.out)
            clear HOW
            go_wp2
            go_roundw
            case rel => exact ⟨j + 1, by omega, by go_num, HN, hB⟩
            case measure => simp [intOf]; omega
          · have q1 : (o != p) = true := by simp [hq]
            have HQ := Lib.hid hq; clear hq
            go_wp2_with (at_builtin; refine wpList_append_own _ rfl _ _ 29 rfl w.heap.size 3 i0 (.int .i64 0) 1 8 Try.underlying29 hi hz0 hz1 hz2 rfl (by decide) _ _ _ rfl (World.ownsRow.alloc HOW.out _) ⟨wr.heap.size, 0, none⟩ 1 1 [.int .i64 j] rfl rfl (cell_one_new _ _ _) (oneCell_int _) ?c3 ?c4 ?c5 ?_)
            case c3 => (try simp); (try unfold maxLen); omega
            case c4 => (try simp); omega
            case c5 => simp; omega
            intro v' w7 hown' hgrow _
            have hown2 := Lib.hid (show OwnInts w7 w.heap.size v' (mvTo zs xs (j + 1)) by rw [HS.out, if_neg HQ.out]; exact own_snoc hown' (by simp))
            have hbel2 : Below w.heap.size w w7 := (hB.alloc (by omega) _).grown hgrow (by simp; omega) (fun j hj => by have := (ownsRow_lt HOW.out hj).1; omega)
            clear hown' hgrow HOW hB
            go_wp2
            go_roundw
            case rel => exact ⟨j + 1, by omega, by go_num, hown2, hbel2⟩
            case measure => simp [intOf]; omega
        · obtain rfl : j = 64 := by omega
          go_wp2
          go_ret
          exact ⟨_, rfl, by rw [HM.out, mv_good HV.out HK.out]; exact HOW.out, hB⟩

set_option maxHeartbeats 2000000 in
theorem implPlaceMoved_any (v u : Value) (zs xs : List Tok) (w : World) (hl : zs.length ≤ 4194304) (hl2 : xs.length ≤ 4194304) (hr : RRow TL w v zs) (hr2 : RRow TL w u xs) :
    Calls Try.prog 22 #[v, u] w fun e w' => ∃ r, e = .returned r ∧ OwnInts w' w.heap.size r (mvL zs xs) ∧ Below w.heap.size w w' := by
  obtain ⟨i0, hi, hz0, hz1, hz2⟩ := info_parts infoInt
  obtain ⟨a, cap, rfl, -, -, -⟩ := id hr
  obtain ⟨a2, cap2, rfl, -, -, -⟩ := id hr2
  have HR := Lib.hid hr; clear hr
  have HX := Lib.hid hr2; clear hr2
  obtain ⟨M, hM⟩ : ∃ M, M = mvL zs xs := ⟨_, rfl⟩
  rw [← hM]
  have HM := Lib.hid hM; clear hM
  go_enter Try.func22, Try.ntmps22
  have c0 := Below.refl w.heap.size w
  have H0 := Lib.hid (OwnInts.nil w w.heap.size)
  go_wp2_with fail
  refine (tableOk_any _ zs _ hl (HR.out.bl c0)).mono ?_
  rintro e w1 ⟨rfl, d1⟩
  have c1 := bNext c0 d1
  have H1 := Lib.hid (H0.out.bl d1)
  cases hv : tvB zs with
  | false =>
    have HV := Lib.hid hv; clear hv
    go_wp2
    go_ret
    exact ⟨_, rfl, by rw [HM.out, mv_bad (.inl HV.out)]; exact H1.out, c1⟩
  | true =>
    have h0 := tvB_pos hv
    have HV := Lib.hid hv; clear hv
    go_wp2_with fail
    refine (tableOk_any _ xs _ hl2 (HX.out.bl c1)).mono ?_
    rintro e w2 ⟨rfl, d2⟩
    have c2 := bNext c1 d2
    have H2 := Lib.hid (H1.out.bl d2)
    cases hk : tvB xs with
    | false =>
      have HK := Lib.hid hk; clear hk
      go_wp2
      go_ret
      exact ⟨_, rfl, by rw [HM.out, mv_bad (.inr HK.out)]; exact H2.out, c2⟩
    | true =>
      have h1 := tvB_pos hk
      have HK := Lib.hid hk; clear hk
      go_wp2_with fail
      refine (ownerIn_any _ _ _ _).mono ?_
      rintro e w3 ⟨rfl, hw3⟩
      have c3 := bAl c2 (.cells #[.slice a zs.length cap] 25)
      rw [← hw3] at c3
      have hs3 := (below_alloc w2 (.cells #[.slice a zs.length cap] 25)).size
      rw [← hw3] at hs3
      have HT0 : Hid (w3.cell? ⟨w2.heap.size, 0, none⟩ = some (.slice a zs.length cap)) := Lib.hid (by rw [hw3]; simp)
      have H3 := Lib.hid (H2.out.al (.cells #[.slice a zs.length cap] 25))
      rw [← hw3] at H3
      have HZ5 : Hid (w3.heap.size = w2.heap.size + 1) := Lib.hid (by rw [hw3]; simp)
      clear hw3
      have hv2 := HZ5.out
      have hlt2 : w2.heap.size < w3.heap.size := by omega
      clear hv2
      obtain ⟨ta, hta⟩ : ∃ ta, ta = w2.heap.size := ⟨_, rfl⟩
      rw [← hta] at hlt2 ⊢
      rw [← hta] at HT0
      clear hta HZ5
      go_wp2_with fail
      refine (ownerIn_any _ _ _ _).mono ?_
      rintro e w4 ⟨rfl, hw4⟩
      have c4 := bAl c3 (.cells #[.slice a2 xs.length cap2] 25)
      rw [← hw4] at c4
      have hs4 := (below_alloc w3 (.cells #[.slice a2 xs.length cap2] 25)).size
      rw [← hw4] at hs4
      have HT1 : Hid (w4.cell? ⟨w3.heap.size, 0, none⟩ = some (.slice a2 xs.length cap2)) := Lib.hid (by rw [hw4]; simp)
      have H4 := Lib.hid (H3.out.al (.cells #[.slice a2 xs.length cap2] 25))
      rw [← hw4] at H4
      have HZ6 : Hid (w4.heap.size = w3.heap.size + 1) := Lib.hid (by rw [hw4]; simp)
      have HT0 : Hid (w4.cell? ⟨ta, 0, none⟩ = some (.slice a zs.length cap)) := Lib.hid (by rw [hw4]; exact ((below_alloc w3 _).cell (p := ⟨ta, 0, none⟩) hlt2).trans HT0.out)
      clear hw4
      have hv3 := HZ6.out
      have hlt3 : w3.heap.size < w4.heap.size := by omega
      clear hv3
      obtain ⟨tb, htb⟩ : ∃ tb, tb = w3.heap.size := ⟨_, rfl⟩
      rw [← htb] at hlt3 ⊢
      rw [← htb] at HT1
      clear htb HZ6
      have hta2 : ta < w4.heap.size := by omega
      have htb2 : tb < w4.heap.size := hlt3
      go_wp2
      go_loopw [7, 8, 21] (fun n k i wr => ∃ j : Nat, j ≤ 64 ∧ i = .int .i64 j ∧ Hid (OwnInts wr w4.heap.size n (mvTo zs xs j)) ∧ Below w.heap.size w wr ∧ Below w4.heap.size w4 wr) (fun _ _ i _ => 64 - (intOf i).toNat)
      case atStart => exact ⟨0, by omega, rfl, Lib.hid (OwnInts.nil _ _), c4, Below.refl _ _⟩
      case round =>
        obtain ⟨j, hj, rfl, HOW, hB, hA⟩ := hrel
        have hsz := hB.size
        by_cases hlt : j < 64
        · have q0 : decide ((j : Int) < 64) = true := decide_eq_true (by omega)
          have q0' : decide (j < 64) = true := decide_eq_true hlt
          obtain ⟨o, ho⟩ : ∃ o, o = ownT zs j := ⟨_, rfl⟩
          obtain ⟨p, hp⟩ : ∃ p, p = ownT xs j := ⟨_, rfl⟩
          have HS : Hid (mvTo zs xs (j + 1) = if o = p then mvTo zs xs j else mvTo zs xs j ++ [(j : Int)]) := Lib.hid (by rw [ho, hp]; rfl)
          have HO := Lib.hid ho; have HP := Lib.hid hp; clear ho hp
          have hlen := mvTo_len zs xs j
          have HTA := Lib.hid ((hA.cell (p := ⟨ta, 0, none⟩) hta2).trans HT0.out)
          have HTB := Lib.hid ((hA.cell (p := ⟨tb, 0, none⟩) htb2).trans HT1.out)
          have hsa := hA.size
          go_wp2_with fail
          refine (ownerFn_any _ zs j ta _ hl h0 (HR.out.bl hB) HTA.out (by omega)).mono ?_
          rw [← HO.out]
          rintro e w5 ⟨rfl, b5⟩
          have HTB5 := Lib.hid ((b5.cell (p := ⟨tb, 0, none⟩) (by show tb < wr.heap.size; omega)).trans HTB.out)
          have hB5 := bNext hB b5
          have hA5 := bNext hA b5
          have HOW5 := Lib.hid (HOW.out.bl b5)
          have hs5 := b5.size
          go_wp2_with fail
          refine (ownerFn_any _ xs j tb _ hl2 h1 (HX.out.bl hB5) HTB5.out (by omega)).mono ?_
          rw [← HP.out]
          rintro e w6 ⟨rfl, b6⟩
          have hB6 := bNext hB5 b6
          have hA6 := bNext hA5 b6
          have HOW6 := Lib.hid (HOW5.out.bl b6)
          have hs6 := b6.size
          clear HOW HOW5 hB hB5 hA hA5 b5 b6 HTB HTB5 HTA
          rename Hid (OwnInts w6 w4.heap.size _ _) => HOW
          rename Below w.heap.size w w6 => hB
          rename Below w4.heap.size w4 w6 => hA
          have hsz6 := hB.size
          by_cases hq : o = p
          · have q1 : (o != p) = false := by simp [hq]
            have HQ := Lib.hid hq; clear hq
            have HN : Hid (OwnInts w6 w4.heap.size _ (mvTo zs xs (j + 1))) := Lib.hid (by rw [HS.out, if_pos HQ.out]; exact HOW.out)
            clear HOW
            go_wp2
            go_roundw
            case rel => exact ⟨j + 1, by omega, by go_num, HN, hB, hA⟩
            case measure => simp [intOf]; omega
          · have q1 : (o != p) = true := by simp [hq]
            have HQ := Lib.hid hq; clear hq
            go_wp2_with (at_builtin; refine wpList_append_own _ rfl _ _ 29 rfl w4.heap.size 3 i0 (.int .i64 0) 1 8 Try.underlying29 hi hz0 hz1 hz2 rfl (by decide) _ _ _ rfl (World.ownsRow.alloc HOW.out _) ⟨w6.heap.size, 0, none⟩ 1 1 [.int .i64 j] rfl rfl (cell_one_new _ _ _) (oneCell_int _) ?c3 ?c4 ?c5 ?_)
            case c3 => (try simp); (try unfold maxLen); omega
            case c4 => (try simp); omega
            case c5 => simp; omega
            intro v' w7 hown' hgrow _
            have hown2 := Lib.hid (show OwnInts w7 w4.heap.size v' (mvTo zs xs (j + 1)) by rw [HS.out, if_neg HQ.out]; exact own_snoc hown' (by simp))
            have hbel2 : Below w.heap.size w w7 := (hB.alloc (by omega) _).grown hgrow (by simp; omega) (fun j hj => by have := (ownsRow_lt HOW.out hj).1; have := c4.size; omega)
            have hbelA : Below w4.heap.size w4 w7 := (hA.alloc (by omega) _).grown hgrow (by simp; omega) (fun j hj => (ownsRow_lt HOW.out hj).1)
            clear hown' hgrow HOW hB
            go_wp2
            go_roundw
            case rel => exact ⟨j + 1, by omega, by go_num, hown2, hbel2, hbelA⟩
            case measure => simp [intOf]; omega
        · obtain rfl : j = 64 := by omega
          go_wp2
          go_ret
          exact ⟨_, rfl, by rw [HM.out, mv_good HV.out HK.out]; exact HOW.out.base c4.size, hB⟩
end Go.Proofs.Ytfklkkelgpeccaa
