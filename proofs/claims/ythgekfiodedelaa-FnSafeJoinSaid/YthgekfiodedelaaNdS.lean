/- spec.l3Principals, l3Safe, RingSafe. -/
import Derived.Test.YthgekfiodedelaaNdR
import Derived.Test.YthgekfiodedelaaGood
import Derived.Deep.RegionHeld3
namespace Go.Proofs.Ythgekfiodedelaa
open Go.RowKit
set_option linter.unusedVariables false
set_option linter.unusedSimpArgs false

theorem any_takeS {R : List Nd} {x : Int} {m : Nat} (h : m < R.length) : (R.take (m + 1)).any (fun n => skips n x) = ((R.take m).any (fun n => skips n x) || skips (nth R m) x) := by
  rw [List.take_succ_eq_append_getElem h, List.any_append]
  simp [nth, List.getD, h]
def prTo (R : List Nd) (j : Nat) : List Int := ((idsL R).take j).filter (prcB R)
theorem prTo_succ {R : List Nd} {j : Nat} (h : j < R.length) : prTo R (j + 1) = if prcB R (nth R j).id then prTo R j ++ [(nth R j).id] else prTo R j := by
  have h' : j < (idsL R).length := by simpa [idsL] using h
  unfold prTo
  rw [List.take_succ_eq_append_getElem h', List.filter_append, ids_get h]
  cases h2 : prcB R (nth R j).id <;> simp [h2]
theorem prTo_all (R : List Nd) : prTo R R.length = princ R := by
  unfold prTo princ
  rw [List.take_of_length_le (by simp [idsL])]
theorem prTo_len (R : List Nd) (j : Nat) : (prTo R j).length ≤ R.length := by
  unfold prTo
  refine Nat.le_trans (List.length_filter_le _ _) ?_
  simp [idsL]; omega

set_option maxRecDepth 100000 in
set_option maxHeartbeats 4000000 in
theorem l3Principals_any (v : Value) (R : List Nd) (w : World) (hl : R.length ≤ 4096) (hr : RR w v R) :
    Calls Try.prog 63 #[v] w fun e w' => ∃ x, e = .returned x ∧ OwnInts w' w.heap.size x (princ R) ∧ Below w.heap.size w w' := by
  obtain ⟨i0, hi, hz0, hz1, hz2⟩ := info_parts infoInt
  obtain ⟨a, cap, rfl, hc, hm⟩ := id hr.sl
  have HR := Lib.hid hr; clear hr
  go_enter Try.func63, Try.ntmps63
  go_wp2
  go_loopw [3, 4, 5, 6] (fun vo i s k wr => ∃ j : Nat, j ≤ R.length ∧ i = .int .i64 j ∧ Hid (OwnInts wr w.heap.size vo (prTo R j)) ∧ Below w.heap.size w wr) (fun _ i _ _ _ => R.length - (intOf i).toNat)
  case atStart => exact ⟨0, Nat.zero_le _, rfl, Lib.hid (own_empty w), below_alloc w _⟩
  case round =>
    obtain ⟨j, hj, rfl, HOW, hB⟩ := hrel
    obtain ⟨vo, rfl⟩ : ∃ v, v = u3 := ⟨_, rfl⟩
    by_cases hlt : j < R.length
    · obtain ⟨F, hF⟩ : ∃ F : Nat → Bool, F = fun m => (R.take m).any (fun n => skips n (nth R j).id) := ⟨_, rfl⟩
      have HF0 : Hid (F 0 = false) := Lib.hid (by rw [hF]; simp)
      have HFS : Hid (∀ m, m < R.length → F (m + 1) = (F m || skips (nth R m) (nth R j).id)) := Lib.hid (fun m h => by rw [hF]; exact any_takeS h)
      have HFE : Hid (prcB R (nth R j).id = !F R.length) := Lib.hid (by rw [hF]; simp [prcB])
      have HS := Lib.hid (prTo_succ hlt)
      have hlen := prTo_len R j
      have HB := Lib.hid hB
      clear hF hB
      go_wp2
      go_loopw [5, 6] (fun s k wr => ∃ m : Nat, m ≤ R.length ∧ k = .int .i64 m ∧ s = .bool (F m) ∧ Hid (OwnInts wr w.heap.size vo (prTo R j)) ∧ Hid (Below w.heap.size w wr)) (fun _ k _ => R.length - (intOf k).toNat)
      case atStart => exact ⟨0, Nat.zero_le _, rfl, by rw [HF0.out], HOW, HB⟩
      case round =>
        obtain ⟨m, hm, rfl, rfl, OJ, BJ⟩ := hrel
        clear HOW HB
        have RJ := Lib.hid (HR.out.bl BJ.out)
        by_cases hmt : m < R.length
        · have HFm := Lib.hid (HFS.out m hmt)
          cases hf : F m with
          | true =>
            have HF1 : Hid (F (m + 1) = true) := Lib.hid (by rw [HFm.out, hf]; rfl)
            clear hf HFm
            go_wp2
            go_quiet (fail)
            go_wp2
            go_roundw
            case rel => exact ⟨m + 1, by omega, by go_num, by rw [HF1.out], Lib.hid (OJ.out.dr _), Lib.hid (bDr BJ.out _)⟩
            case measure => simp [intOf]; omega
          | false =>
            have HF1 : Hid (F (m + 1) = skips (nth R m) (nth R j).id) := Lib.hid (by rw [HFm.out, hf]; rfl)
            clear hf HFm
            obtain ⟨b, off, bs, os, c, rfl, hb, hbs, x0, x1, x2, r3, y0, y1⟩ := RJ.out.nd m hmt
            obtain ⟨b', off', _, _, _, he, -, -, z0, -, -, -, -, -⟩ := RJ.out.nd j hlt
            simp only [Option.some.injEq, Addr.mk.injEq, and_true] at he
            obtain ⟨rfl, rfl⟩ := he
            clear y0 y1 hbs
            have R3 := Lib.hid r3; clear r3
            go_wp2_with fail
            have kk0 := And.intro (show wr.drew.cell? _ = _ from x0) (And.intro (show wr.drew.cell? _ = _ from x1) (And.intro (show wr.drew.cell? _ = _ from x2) (show wr.drew.cell? _ = _ from z0)))
            go_region_held3 (fun w' => w'.cell? ⟨b, off + m * 3, none⟩ = some (.int .i64 (nth R m).id) ∧ w'.cell? ⟨b, off + m * 3 + 1, none⟩ = some (.int .i64 (nth R m).bf) ∧ w'.cell? ⟨b, off + m * 3 + 2, none⟩ = some (.slice (some ⟨bs, os, none⟩) 2 c) ∧ w'.cell? ⟨b, off + j * 3, none⟩ = some (.int .i64 (nth R j).id)) (first | with_reducible exact kk0 | with_reducible exact kk5) ((go_at_call 90; refine (l3Skipped_any (nth R m) bs os c (nth R j).id _ R3.out.d1).mono ?_; rw [← HF1.out]; rintro e w5 ⟨rfl, b5⟩; have kk5 := And.intro ((b5.cell hb).trans kk0.1) (And.intro ((b5.cell hb).trans kk0.2.1) (And.intro ((b5.cell hb).trans kk0.2.2.1) ((b5.cell hb).trans kk0.2.2.2))); have O5 := Lib.hid (OJ.out.d1.bl b5); have c5 := Lib.hid (bNext (bD1 BJ.out) b5)))
            all_goals
              go_wp2
              go_roundw
              case rel => exact ⟨m + 1, by omega, by go_num, rfl, O5, c5⟩
              case measure => simp [intOf]; omega
        · obtain rfl : m = R.length := by omega
          have hsz := BJ.out.size
          cases hf : F R.length with
          | true =>
            have HN : Hid (OwnInts wr w.heap.size vo (prTo R (j + 1))) := Lib.hid (by rw [HS.out, HFE.out, hf]; exact OJ.out)
            clear hf
            go_wp2
            go_roundw
            case rel => exact ⟨j + 1, by omega, by go_num, HN, BJ.out⟩
            case measure => simp [intOf]; omega
          | false =>
            have HP : Hid (prTo R (j + 1) = prTo R j ++ [(nth R j).id]) := Lib.hid (by rw [HS.out, HFE.out, hf]; rfl)
            clear hf
            obtain ⟨b, off, bs, os, c, rfl, hb, hbs, z0, -, -, -, -, -⟩ := RJ.out.nd j hlt
            generalize (nth R j).id = x at *
            go_wp2_with (at_builtin; refine wpList_append_own _ rfl _ _ 30 rfl w.heap.size 3 i0 (.int .i64 0) 1 8 Try.underlying30 hi hz0 hz1 hz2 rfl (by decide) _ _ _ rfl (World.ownsRow.alloc OJ.out _) ⟨wr.heap.size, 0, none⟩ 1 1 [.int .i64 x] rfl rfl (cell_one_new _ _ _) (oneCell_int _) ?c3 ?c4 ?c5 ?_)
            case c3 => (try simp); (try unfold maxLen); omega
            case c4 => (try simp); omega
            case c5 => simp; omega
            intro v' w7 hown' hgrow _
            have hown2 := Lib.hid (show OwnInts w7 w.heap.size v' (prTo R (j + 1)) by rw [HP.out]; exact own_snoc hown' (by simp))
            have hbel2 : Below w.heap.size w w7 := (BJ.out.alloc (by omega) _).grown hgrow (by simp; omega) (fun j hj => by have := (ownsRow_lt OJ.out hj).1; omega)
            clear hown' hgrow OJ BJ
            go_wp2
            go_roundw
            case rel => exact ⟨j + 1, by omega, by go_num, hown2, hbel2⟩
            case measure => simp [intOf]; omega
    · obtain rfl : j = R.length := by omega
      have HE := Lib.hid (prTo_all R)
      go_wp2
      go_ret
      exact ⟨_, rfl, by rw [← HE.out]; exact HOW.out, hB⟩
theorem fdI_nonneg (R : List Nd) (x : Int) : decide (0 ≤ fdI R x) = liveR R x := by
  unfold fdI
  cases h : liveR R x with
  | true => simp
  | false => simp
def lvTo (R : List Nd) (n : Nd) : Nat → Bool
  | 0 => false
  | m + 1 => lvTo R n m || liveR R (seqN n (m + 1))
theorem lvTo_two (R : List Nd) (n : Nd) : lvTo R n 2 = (liveR R n.a0 || liveR R n.a1) := by simp [lvTo, seqN]

set_option maxRecDepth 100000 in
set_option maxHeartbeats 4000000 in
theorem l3Safe_any (v : Value) (R : List Nd) (w : World) (hl : R.length ≤ 4096) (hr : RR w v R) :
    Calls Try.prog 33 #[v] w fun e w' => e = .returned (.bool (safeL R)) ∧ Below w.heap.size w w' := by
  obtain ⟨a, cap, rfl, hc, hm⟩ := id hr.sl
  have HR := Lib.hid hr; clear hr
  go_enter Try.func33, Try.ntmps33
  go_wp2
  go_loop [3, 4, 5] (fun i _ _ => ∃ j : Nat, j ≤ R.length ∧ i = .int .i64 j ∧ Hid (∀ i, i < j → lvTo R (nth R i) 2 = true)) (fun i _ _ => R.length - (intOf i).toNat)
  case atStart => exact ⟨0, Nat.zero_le _, rfl, Lib.hid (fun i h => absurd h (by omega))⟩
  case round =>
    obtain ⟨j, hj, rfl, HJ⟩ := hrel
    by_cases hlt : j < R.length
    · obtain ⟨n, hn⟩ : ∃ n, n = nth R j := ⟨_, rfl⟩
      obtain ⟨b, off, bs, os, c, rfl, hb, hbs, x0, x1, x2, r3, y0, y1⟩ := HR.out.nd j hlt
      rw [← hn] at r3
      clear x0 x1 y0 y1
      have R3 := Lib.hid r3; clear r3
      have HN := Lib.hid hn; clear hn
      obtain ⟨F, hF⟩ : ∃ F, F = lvTo R n := ⟨_, rfl⟩
      have HF0 : Hid (F 0 = false) := Lib.hid (by rw [hF]; rfl)
      have HFS : Hid (∀ m, F (m + 1) = (F m || liveR R (seqN n (m + 1)))) := Lib.hid (fun m => by rw [hF]; rfl)
      have HF := Lib.hid hF; clear hF
      go_wp2
      go_loop [4, 5] (fun s k => ∃ m : Nat, m ≤ 2 ∧ k = .int .i64 m ∧ s = .bool (F m)) (fun _ k => 2 - (intOf k).toNat)
      case atStart => exact ⟨0, Nat.zero_le _, rfl, by rw [HF0.out]⟩
      case round =>
        obtain ⟨m, hm2, rfl, rfl⟩ := hrel
        by_cases hmt : m < 2
        · have HFm := Lib.hid (HFS.out m)
          have z0 := seq_cell R3.out hmt
          cases hf : F m with
          | true =>
            have HF1 : Hid (F (m + 1) = true) := Lib.hid (by rw [HFm.out, hf]; rfl)
            clear hf HFm
            go_wp2
            go_round
            case rel => exact ⟨m + 1, by omega, by go_num, by rw [HF1.out]⟩
            case measure => simp [intOf]; omega
          | false =>
            have HF1 : Hid (F (m + 1) = decide (0 ≤ fdI R (seqN n (m + 1)))) := Lib.hid (by rw [HFm.out, hf, fdI_nonneg]; rfl)
            clear hf HFm
            generalize seqN n (m + 1) = y at *
            go_wp2_with fail
            refine (l3Find_any _ R y _ (by omega) HR.out).mono ?_
            rintro e w9 ⟨rfl, rfl⟩
            generalize fdI R y = z at *
            go_wp2
            go_round
            case rel => exact ⟨m + 1, by omega, by go_num, by rw [HF1.out]⟩
            case measure => simp [intOf]; omega
        · obtain rfl : m = 2 := by omega
          have HL : Hid (F 2 = lvTo R (nth R j) 2) := Lib.hid (by rw [HF.out, HN.out])
          cases hf : F 2 with
          | true =>
            have HJ1 : Hid (∀ i, i < j + 1 → lvTo R (nth R i) 2 = true) := Lib.hid (fun i hi => by
              by_cases e : i = j
              · subst e; rw [← HL.out, hf]
              · exact HJ.out i (by omega))
            clear hf
            go_wp2
            go_round
            case rel => exact ⟨j + 1, by omega, by go_num, HJ1⟩
            case measure => simp [intOf]; omega
          | false =>
            have HE : Hid (safeL R = false) := Lib.hid (by
              have h1 : lvTo R (nth R j) 2 = false := by rw [← HL.out, hf]
              rw [lvTo_two] at h1
              rw [safeL, Bool.and_eq_false_iff]; left
              rw [List.all_eq_false]
              exact ⟨nth R j, nth_mem hlt, by simp [h1]⟩)
            clear hf
            go_wp2
            go_ret
            exact ⟨ret_bool HE.out.symm, Below.refl _ _⟩
    · obtain rfl : j = R.length := by omega
      have HE : Hid (safeL R = decide (3 ≤ (princ R).length)) := Lib.hid (by
        have h1 : R.all (fun n => liveR R n.a0 || liveR R n.a1) = true := by
          rw [List.all_eq_true]
          intro n hn
          obtain ⟨k, hk, rfl⟩ := mem_nth hn
          rw [← lvTo_two]; exact HJ.out k hk
        rw [safeL, h1]; rfl)
      go_wp2_with fail
      refine (l3Principals_any _ R _ (by omega) HR.out).mono ?_
      rintro e w9 ⟨u9, rfl, o9, b9⟩
      obtain ⟨a9, q9, rfl, -, -, -⟩ := o9.reads
      generalize (princ R).length = z at *
      go_wp2
      go_ret
      exact ⟨ret_bool (by rw [HE.out]; exact decide_eq_decide.2 (by omega)), b9⟩

def undat (D : List Rn) : List Nd := D.map fun e => ⟨e.1, e.2.1, e.2.2.getD 0 0, e.2.2.getD 1 0⟩
theorem undat_dats (R : List Nd) : undat (dats R) = R := by
  simp only [undat, dats, List.map_map]
  conv => rhs; rw [← List.map_id R]
  exact List.map_congr_left fun n _ => rfl
def sfD (D : List Rn) : Bool := vD D && safeL (undat D)
theorem sfD_of {D : List Rn} (h : sfD D = true) : ∃ R, D = dats R ∧ ValidL R ∧ safeL R = true := by
  simp only [sfD, Bool.and_eq_true] at h
  obtain ⟨R, rfl, hv⟩ := vD_of h.1
  exact ⟨R, rfl, hv, by rw [undat_dats] at h; exact h.2⟩
theorem sfD_dats {R : List Nd} (h : ValidL R) : sfD (dats R) = safeL R := by rw [sfD, vD_dats h, undat_dats]; rfl

set_option maxRecDepth 100000 in
set_option maxHeartbeats 4000000 in
theorem specRingSafe_any (v : Value) (D : List Rn) (w : World) (hl : D.length ≤ 4096) (hr : RRing w v D) :
    Calls Try.prog 12 #[v] w fun e w' => e = .returned (.bool (sfD D)) ∧ Below w.heap.size w w' := by
  cases hv : vD D with
  | false =>
    have HE : Hid (sfD D = false) := Lib.hid (by rw [sfD, hv]; rfl)
    have HR := Lib.hid hr; clear hr
    go_enter Try.func12, Try.ntmps12
    go_wp2_with fail
    refine (specRingValid_any v D _ (by omega) HR.out).mono ?_
    rw [hv]
    rintro e w1 ⟨rfl, b1⟩
    go_wp2
    go_ret
    exact ⟨ret_bool HE.out.symm, b1⟩
  | true =>
    have HV := Lib.hid hv
    obtain ⟨R, rfl, hR⟩ := vD_of hv
    have HE := Lib.hid (sfD_dats hR)
    have HR := Lib.hid (show RR w v R from hr)
    have h10 := hR.len
    clear hr hR hv
    go_enter Try.func12, Try.ntmps12
    go_wp2_with fail
    refine (specRingValid_any v (dats R) _ (by omega) HR.out).mono ?_
    rw [HV.out]
    rintro e w1 ⟨rfl, b1⟩
    go_wp2_with fail
    refine (l3Safe_any v R _ (by omega) (HR.out.bl b1)).mono ?_
    rw [← HE.out]
    rintro e w2 ⟨rfl, b2⟩
    have c2 := bNext b1 b2
    go_wp2
    go_ret
    exact ⟨rfl, c2⟩
end Go.Proofs.Ythgekfiodedelaa
