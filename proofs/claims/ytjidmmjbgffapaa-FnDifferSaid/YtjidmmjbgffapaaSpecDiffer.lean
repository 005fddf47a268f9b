/- The reference's SumsDiffer. -/
import Derived.Test.YtjidmmjbgffapaaDiff
import Derived.Test.YtjidmmjbgffapaaSpecTree
import Derived.Test.YtjidmmjbgffapaaDraw
namespace Go.Proofs.Ytjidmmjbgffapaa
open Go.RowKit
set_option linter.unusedVariables false
set_option linter.unusedSimpArgs false

theorem infoBool : (Try.prog.info? 4).map (fun i => (i.zero, i.size, i.bytes)) = some (some (.bool false), 1, 1) := by kernel_rfl

/-- The entry m of 'open' when the nodes before j have been looked at. -/
def opK (d : Nat → Bool) (j m : Nat) : Bool := m == 0 || (decide ((m - 1) / 2 < j) && (op d ((m - 1) / 2) && d ((m - 1) / 2)))
def opL (d : Nat → Bool) (j : Nat) : List Value := (List.range 31).map fun m => .bool (opK d j m)
@[simp] theorem length_opL (d : Nat → Bool) (j : Nat) : (opL d j).length = 31 := by simp [opL]
theorem opK_self (d : Nat → Bool) {i : Nat} (h : i < 31) : opK d i i = op d i := by
  cases i with
  | zero => rfl
  | succ i =>
    unfold opK
    rw [op_parent d (by omega)]
    have : i / 2 < i + 1 := by omega
    simp only [Nat.add_sub_cancel, this, decide_true, Bool.true_and]
    simp
theorem opL_get (d : Nat → Bool) (j : Nat) {i : Nat} (h : i < (opL d j).length) : (opL d j)[i] = .bool (opK d j i) := by simp [opL]
theorem opL_start (d : Nat → Bool) : opL d 0 = (List.replicate 31 (Value.bool false)).set 0 (.bool true) := by
  apply List.ext_getElem
  · simp
  · intro i h1 h2
    rw [opL_get]
    by_cases h : i = 0
    · subst h; rfl
    · rw [List.getElem_set_ne (by omega), List.getElem_replicate]
      simp [opK, h]
theorem opL_keep (d : Nat → Bool) {j : Nat} (h : (op d j && d j) = false ∨ 15 ≤ j) : opL d (j + 1) = opL d j := by
  unfold opL
  apply List.map_congr_left
  intro m hm
  have hm' : m < 31 := by simpa using hm
  congr 1
  unfold opK
  by_cases hp : (m - 1) / 2 = j
  · rcases h with h | h
    · rw [hp, h]; simp
    · have : m = 0 := by omega
      subst this
      simp
  · have : decide ((m - 1) / 2 < j + 1) = decide ((m - 1) / 2 < j) := by rw [Bool.eq_iff_iff]; simp; omega
    rw [this]
theorem opL_step (d : Nat → Bool) {j : Nat} (h : op d j = true) (h' : d j = true) (hj : j < 15) : opL d (j + 1) = ((opL d j).set (2 * j + 1) (.bool true)).set (2 * j + 2) (.bool true) := by
  apply List.ext_getElem
  · simp
  · intro i h1 h2
    rw [opL_get]
    by_cases e2 : i = 2 * j + 2
    · subst e2
      rw [List.getElem_set_self]
      have : (2 * j + 2 - 1) / 2 = j := by omega
      unfold opK
      rw [this]
      simp [h, h']
    · rw [List.getElem_set_ne (by omega)]
      by_cases e1 : i = 2 * j + 1
      · subst e1
        rw [List.getElem_set_self]
        have : (2 * j + 1 - 1) / 2 = j := by omega
        unfold opK
        rw [this]
        simp [h, h']
      · rw [List.getElem_set_ne (by omega), opL_get]
        congr 1
        unfold opK
        by_cases h0 : i = 0
        · subst h0; simp
        · have : decide ((i - 1) / 2 < j + 1) = decide ((i - 1) / 2 < j) := by rw [Bool.eq_iff_iff]; simp; omega
          rw [this]

theorem own_tag {w : World} {B B' e e' k k' n m : Nat} {v u : Value} {xs ys : List Value} (h : w.ownsRow B e k v n xs) (h' : w.ownsRow B' e' k' u m ys) (hne : e ≠ e') : v.ownBlock = none ∨ v.ownBlock ≠ u.ownBlock := by
  rcases h.2 with ⟨rfl, _⟩ | ⟨g, cap, cur, rfl, _, hg, _⟩
  · exact .inl rfl
  · rcases h'.2 with ⟨rfl, _⟩ | ⟨g', cap', cur', rfl, _, hg', _⟩
    · exact .inr (by simp [Value.ownBlock])
    · refine .inr fun he => ?_
      simp only [Value.ownBlock, Option.some.injEq] at he
      subst he
      rw [hg] at hg'
      simp only [Option.some.injEq, Obj.cells.injEq] at hg'
      exact hne hg'.2.1

def diffM (ls ms : List Int) : List Int × Int := if validM ls && validM ms then (diffL ls ms, diffN ls ms) else ([], -1)
theorem diffM_bad {ls ms : List Int} (h : validM ls = false ∨ validM ms = false) : diffM ls ms = ([], -1) := by
  unfold diffM; rcases h with h | h <;> simp [h]
theorem diffM_good {ls ms : List Int} (h : validM ls = true) (h' : validM ms = true) : diffM ls ms = (diffL ls ms, diffN ls ms) := by
  unfold diffM; simp [h, h']

set_option maxHeartbeats 2000000 in
theorem specSumsDiffer_any (v1 v2 : Value) (ls ms : List Int) (w : World) (hl1 : ls.length ≤ 4194304) (hl2 : ms.length ≤ 4194304) (hr1 : RInts w v1 ls) (hr2 : RInts w v2 ms) :
    Calls Try.prog 25 #[v1, v2] w fun e w' => ∃ u, e = .returned (.tuple #[u, .int .i64 (diffM ls ms).2]) ∧ OwnInts w' w.heap.size u (diffM ls ms).1 ∧ Below w.heap.size w w' := by
  have HR1 := Lib.hid hr1; clear hr1
  have HR2 := Lib.hid hr2; clear hr2
  obtain ⟨i0, hi0, hz0, hz1, hz2⟩ := info_parts infoInt
  obtain ⟨ib, hib, hb0, hb1, hb2⟩ := info_parts infoBool
  have ba := below_alloc w (.cells #[] 3)
  have o0 := own_empty w
  cases hv1 : validM ls with
  | false =>
    go_enter Try.func25, Try.ntmps25
    go_wp2_with fail
    refine (l21Tree_any _ ls _ hl1 (HR1.out.below ba)).mono ?_
    rw [hv1]
    rintro e w1 ⟨rfl, b1⟩
    go_wp2
    go_ret2
    rw [diffM_bad (.inl hv1)]
    exact ⟨_, rfl, o0.below b1, bNext ba b1⟩
  | true =>
    cases hv2 : validM ms with
    | false =>
      go_enter Try.func25, Try.ntmps25
      go_wp2_with fail
      refine (l21Tree_any _ ls _ hl1 (HR1.out.below ba)).mono ?_
      rw [hv1]
      rintro e w1 ⟨rfl, b1⟩
      go_wp2_with fail
      refine (l21Tree_any _ ms _ hl2 ((HR2.out.below ba).below b1)).mono ?_
      rw [hv2]
      rintro e w2 ⟨rfl, b2⟩
      go_wp2
      go_ret2
      rw [diffM_bad (.inr hv2)]
      exact ⟨_, rfl, (o0.below b1).below b2, bNext (bNext ba b1) b2⟩
    | true =>
      obtain ⟨ha31, -⟩ := validM_true hv1
      obtain ⟨hb31, -⟩ := validM_true hv2
      obtain ⟨ba1, offa, capa, rfl, hca, hma, hRa, hcella⟩ := HR1.out.shape ha31 (by omega)
      obtain ⟨bb1, offb, capb, rfl, hcb, hmb, hRb, hcellb⟩ := HR2.out.shape hb31 (by omega)
      obtain ⟨d, hd⟩ : ∃ d, d = dif ls ms := ⟨_, rfl⟩
      have hda : ∀ i, i < 31 → ∃ x y, w.cell? ⟨ba1, offa + i, none⟩ = some (.int .i64 x) ∧ w.cell? ⟨bb1, offb + i, none⟩ = some (.int .i64 y) ∧ d i = !decide (x = y) ∧ ba1 < w.heap.size ∧ bb1 < w.heap.size := by
        intro i hi
        obtain ⟨p1, p2⟩ := hcella i (by omega)
        obtain ⟨q1, q2⟩ := hcellb i (by omega)
        refine ⟨_, _, p2, q2, ?_, p1, q1⟩
        rw [hd]; unfold dif
        rw [List.getD_eq_getElem?_getD, List.getD_eq_getElem?_getD, List.getElem?_eq_getElem (by omega), List.getElem?_eq_getElem (by omega)]
        simp
      have HDA := Lib.hid hda
      have HM : Hid (diffM ls ms = (lvsTo d 31, ((cntTo d 31 : Nat) : Int))) := by unfold Hid; rw [diffM_good hv1 hv2, diffL, diffN, hd]
      clear hda hcella hcellb hd ha31 hb31 HR1 HR2
      have HRA := Lib.hid hRa; clear hRa
      have HRB := Lib.hid hRb; clear hRb
      go_enter Try.func25, Try.ntmps25
      go_wp2_with fail
      refine (l21Tree_any _ ls _ hl1 (HRA.out.below ba)).mono ?_
      rw [hv1]
      rintro e w1 ⟨rfl, b1⟩
      go_wp2_with fail
      refine (l21Tree_any _ ms _ hl2 ((HRB.out.below ba).below b1)).mono ?_
      rw [hv2]
      rintro e w2 ⟨rfl, b2⟩
      have o2 := (o0.below b1).below b2
      have c2 := bNext (bNext ba b1) b2
      clear o0 ba b1 b2 hl1 hl2
      go_wp2_with (at_make; refine wpList_make_full _ rfl _ _ 49 rfl w2.heap.size 4 ib (.bool false) 1 Try.underlying49 hib hb0 hb1 .i64 .i64 _ _ 31 rfl rfl rfl rfl ?c1 ?c2 ?c3 ?_)
      case c1 => rw [hb2]; omega
      case c2 => unfold maxLen; omega
      case c3 => exact Nat.le_refl _
      intro w3 hown3 hg3
      have e3 : (madeCells #[Value.bool false] 31).toList = List.replicate 31 (Value.bool false) := by simp [toList_madeCells_one]
      have r3 : w3.ownsRow w2.heap.size 4 1 (.slice (some ⟨w2.heap.size, 0, none⟩) 31 31) 31 (List.replicate 31 (Value.bool false)) := by rw [← e3]; exact hown3
      have b3 : Below w2.heap.size w2 w3 := below_of_grown hg3 (Nat.le_refl _) (fun j hj => by cases hj)
      have o3 := o2.below b3
      have c3 := bNext c2 b3
      clear hown3 hg3 e3 o2
      have hgs := c2.size
      obtain ⟨G, hG⟩ : ∃ G, G = w2.heap.size := ⟨_, rfl⟩
      rw [← hG] at r3 hgs ⊢
      clear hG b3 c2
      have hcz : w3.cell? ⟨G, 0, none⟩ = some (.bool false) := by rw [World.ownsRow.cellAt r3 0 (by omega)]; rfl
      have hfz := World.ownsRow.frozenAt r3 0
      obtain ⟨r4, g4⟩ := World.ownsRow.stored r3 0 (.bool true)
      rw [← opL_start d] at r4
      have o4 := World.ownsRow.kept o3 g4 (own_tag o3 r3 (by decide))
      have c4 := c3.grown g4 c3.size (fun j hj => by cases hj; exact hgs)
      have R4 := Lib.hid r4
      have O4 := Lib.hid o4
      have C4 := Lib.hid c4
      clear r4 o4 g4 c4 r3 o3 c3
      go_wp2
      go_loopw [6, 7, 9] (fun v n i wr => ∃ j : Nat, j ≤ 31 ∧ i = .int .i64 j ∧ n = .int .i64 (cntTo d j : Nat) ∧ OwnInts wr w.heap.size v (lvsTo d j) ∧ wr.ownsRow G 4 1 (.slice (some ⟨G, 0, none⟩) 31 31) 31 (opL d j) ∧ Below w.heap.size w wr) (fun _ _ i _ => 31 - (intOf i).toNat)
      case atStart => exact ⟨0, by omega, rfl, rfl, O4.out, R4.out, C4.out⟩
      case round =>
        obtain ⟨j, hj, rfl, rfl, hown, hrow, hbel⟩ := hrel
        have hcl := cntTo_le d j
        have hll := lvsTo_le d j
        by_cases hlt : j < 31
        · have hcell : wr.cell? ⟨G, j, none⟩ = some (.bool (op d j)) := by
            rw [World.ownsRow.cellAt hrow j (by omega), List.getElem?_eq_getElem (by simpa using hlt), opL_get, opK_self d hlt]
          have HCS := Lib.hid (cntTo_succ d j)
          have HLS := Lib.hid (lvsTo_succ d j)
          have HOWN := Lib.hid hown
          have HROW := Lib.hid hrow
          have HBEL := Lib.hid hbel
          clear hown hrow hbel
          cases hop : op d j with
          | false =>
            rw [hop] at hcell
            have HOP := Lib.hid hop; clear hop
            go_wp2
            go_roundw
            case rel => exact ⟨j + 1, by omega, by go_num, val_int (by rw [HCS.out, HOP.out]; rfl), by rw [HLS.out, HOP.out]; simpa using HOWN.out, by rw [opL_keep d (.inl (by rw [HOP.out]; rfl))]; exact HROW.out, HBEL.out⟩
            case measure => simp [intOf]; omega
          | true =>
            rw [hop] at hcell
            have HOP := Lib.hid hop; clear hop
            obtain ⟨x, y, hx, hy, hdj, p1, p2⟩ := HDA.out j hlt
            have hx' : wr.cell? ⟨ba1, offa + j, none⟩ = some (.int .i64 x) := by rw [HBEL.out.cell (p := ⟨ba1, offa + j, none⟩) p1]; exact hx
            have hy' : wr.cell? ⟨bb1, offb + j, none⟩ = some (.int .i64 y) := by rw [HBEL.out.cell (p := ⟨bb1, offb + j, none⟩) p2]; exact hy
            clear hx hy
            have HD := Lib.hid hdj; clear hdj
            by_cases hxy : x = y
            · have hxy' : (x == y) = true := by simp [hxy]
              have HDD : Hid (d j = false) := by unfold Hid; rw [HD.out]; simp [hxy]
              clear hxy HD
              go_wp2
              go_quiet (fail)
              go_wp2
              go_roundw
              case rel => exact ⟨j + 1, by omega, by go_num, val_int (by rw [HCS.out, HOP.out]; rfl), by rw [HLS.out, HDD.out]; simpa using HOWN.out.drewN _, by rw [opL_keep d (.inl (by rw [HDD.out]; simp))]; exact HROW.out, bNextD HBEL.out _⟩
              case measure => simp [intOf]; omega
            · have hxy' : (x == y) = false := by simp [hxy]
              have HDD : Hid (d j = true) := by unfold Hid; rw [HD.out]; simp [hxy]
              clear hxy HD
              by_cases h15 : 15 ≤ j
              · go_wp2
                go_quiet (fail)
                have hown := fun n => HOWN.out.drewN n
                have hj16 : ((j : Int) - 16 + 1) = (j : Int) - 15 := by omega
                have HJ := Lib.hid hj16; clear hj16
                have hsz := HBEL.out.size
                go_wp2_with (at_builtin; refine wpList_append_own _ rfl _ _ 22 rfl w.heap.size 3 i0 (.int .i64 0) 1 8 Try.underlying22 hi0 hz0 hz1 hz2 rfl (by decide) _ _ _ rfl (World.ownsRow.alloc (hown _) _) ⟨wr.heap.size, 0, none⟩ 1 1 [.int .i64 ((j : Int) - 16 + 1)] rfl rfl (cell_one_new _ _ _) (oneCell_int _) ?c3 ?c4 ?c5 ?_)
                case c3 => unfold maxLen; omega
                case c4 => omega
                case c5 => simp; omega
                intro v' w4 hown' hgr _
                rw [HJ.out] at hown'
                have o5 := own_snoc hown' rfl
                have HO : Hid (OwnInts w4 w.heap.size v' (lvsTo d (j + 1))) := by
                  unfold Hid; rw [HLS.out, if_pos ⟨h15, HOP.out, HDD.out⟩]; exact o5
                have HB : Hid (Below w.heap.size w w4) := by
                  refine (((bNextD HBEL.out _).alloc (by simpa using hsz) _).grown hgr (by simp; omega) (own_lt HOWN.out))
                have HRW : Hid (w4.ownsRow G 4 1 (.slice (some ⟨G, 0, none⟩) 31 31) 31 (opL d (j + 1))) := by
                  unfold Hid
                  rw [opL_keep d (.inr h15)]
                  refine World.ownsRow.kept (World.ownsRow.alloc (w := wr.drewN _) HROW.out _) hgr ?_
                  rcases own_tag HROW.out HOWN.out (by decide) with h | h
                  · exact .inl h
                  · exact .inr h
                clear hown' hgr o5 hown
                go_wp2
                go_roundw
                case rel => exact ⟨j + 1, by omega, by go_num, val_int (by rw [HCS.out, HOP.out]; rfl), HO.out, HRW.out, HB.out⟩
                case measure => simp [intOf]; omega
              · have hj15 : j < 15 := by omega
                have k1 : ∃ u, wr.cell? ⟨G, 2 * j + 1, none⟩ = some u := ⟨_, (World.ownsRow.cellAt HROW.out (2 * j + 1) (by omega)).trans (List.getElem?_eq_getElem (by simp; omega))⟩
                have k2 : ∃ u, wr.cell? ⟨G, 2 * j + 2, none⟩ = some u := ⟨_, (World.ownsRow.cellAt HROW.out (2 * j + 2) (by omega)).trans (List.getElem?_eq_getElem (by simp; omega))⟩
                obtain ⟨u1, k1⟩ := k1
                obtain ⟨u2, k2⟩ := k2
                have f1 := World.ownsRow.frozenAt HROW.out (2 * j + 1)
                have f2 := World.ownsRow.frozenAt HROW.out (2 * j + 2)
                obtain ⟨ra, ga⟩ := World.ownsRow.stored HROW.out (2 * j + 1) (.bool true)
                obtain ⟨rb, gb⟩ := World.ownsRow.stored ra (2 * j + 2) (.bool true)
                rw [← opL_step d HOP.out HDD.out hj15] at rb
                have HRB := Lib.hid rb
                have gab := ga.trans gb
                have HOB := Lib.hid (World.ownsRow.kept HOWN.out gab (own_tag HOWN.out HROW.out (by decide)))
                have HBB := Lib.hid (HBEL.out.grown gab HBEL.out.size (fun k hk => by cases hk; exact hgs))
                clear ra ga rb gb gab
                go_wp2
                go_quiet (fail)
                go_wp2
                go_roundw
                case rel => exact ⟨j + 1, by omega, by go_num, val_int (by rw [HCS.out, HOP.out]; rfl), by rw [HLS.out, if_neg (by omega), List.append_nil]; exact OwnInts.drewN HOB.out _, HRB.out, bNextD HBB.out _⟩
                case measure => simp [intOf]; omega
        · obtain rfl : j = 31 := by omega
          have HOWN := Lib.hid hown
          clear hown
          go_wp2
          go_ret2
          rw [HM.out]
          exact ⟨_, rfl, HOWN.out, hbel⟩
end Go.Proofs.Ytjidmmjbgffapaa
