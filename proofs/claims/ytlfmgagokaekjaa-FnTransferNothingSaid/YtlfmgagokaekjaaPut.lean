/- ChunkPut of both sides. -/
import Derived.Test.YtlfmgagokaekjaaChk0
import Derived.Handy
namespace Go.Proofs.Ytlfmgagokaekjaa
open Go.RowKit
set_option linter.unusedVariables false
set_option linter.unusedSimpArgs false

def okB (got zs : List Int) (a : Nat) : Bool := (List.range zs.length).all fun i => decide (a + i < got.length → got.getD (a + i) 0 = zs.getD i 0)
def okTo (got zs : List Int) (a j : Nat) : Prop := ∀ i, i < j → a + i < got.length → got.getD (a + i) 0 = zs.getD i 0
def putG (got : List Int) (n : Int) (zs : List Int) : Bool := itemsB got && chunkB n zs
def putL (got : List Int) (n : Int) (zs : List Int) : List Int := if putG got n zs then (if n.toNat ≤ got.length ∧ okB got zs n.toNat = true then got ++ zs.drop (got.length - n.toNat) else got) else []
def putT (got : List Int) (n : Int) (zs : List Int) : Bool := putG got n zs && (decide (n.toNat ≤ got.length) && okB got zs n.toNat)

theorem put_bad {got : List Int} {n : Int} {zs : List Int} (h : putG got n zs = false) : putL got n zs = [] ∧ putT got n zs = false := by simp [putL, putT, h]
theorem put_far {got : List Int} {a : Nat} {zs : List Int} (h : putG got a zs = true) (h2 : got.length < a) : putL got a zs = got ∧ putT got a zs = false := by
  have h3 : ¬ a ≤ got.length := by omega
  simp [putL, putT, h, h3]
theorem put_mis {got : List Int} {a : Nat} {zs : List Int} (h : putG got a zs = true) (h2 : okB got zs a = false) : putL got a zs = got ∧ putT got a zs = false := by
  simp [putL, putT, h, h2]
theorem put_ok {got : List Int} {a : Nat} {zs : List Int} (h : putG got a zs = true) (h1 : a ≤ got.length) (h2 : okB got zs a = true) : putL got a zs = got ++ zs.drop (got.length - a) ∧ putT got a zs = true := by
  simp [putL, putT, h, h1, h2]
theorem okB_of {got zs : List Int} {a : Nat} (h : okTo got zs a zs.length) : okB got zs a = true := by
  simp only [okB, List.all_eq_true, List.mem_range, decide_eq_true_eq]
  exact h
theorem okB_not {got zs : List Int} {a i : Nat} (hi : i < zs.length) (hg : a + i < got.length) (h : got[a + i] ≠ zs[i]) : okB got zs a = false := by
  rw [Bool.eq_false_iff]
  intro hb
  simp only [okB, List.all_eq_true, List.mem_range, decide_eq_true_eq] at hb
  have := hb i hi hg
  rw [List.getD_eq_getElem?_getD, List.getD_eq_getElem?_getD, List.getElem?_eq_getElem hi, List.getElem?_eq_getElem hg] at this
  exact h this
theorem okTo_zero (got zs : List Int) (a : Nat) : okTo got zs a 0 := fun i hi => absurd hi (by omega)
theorem okTo_succ {got zs : List Int} {a j : Nat} (h : okTo got zs a j) (hj : j < zs.length) (hg : a + j < got.length → ∀ h2 : a + j < got.length, got[a + j] = zs[j]) : okTo got zs a (j + 1) := by
  intro i hi h2
  by_cases e : i = j
  · subst e
    rw [List.getD_eq_getElem?_getD, List.getD_eq_getElem?_getD, List.getElem?_eq_getElem hj, List.getElem?_eq_getElem h2]
    exact hg h2 h2
  · exact h i (by omega) h2
/-- What has been put after j items. -/
def putTo (got zs : List Int) (a j : Nat) : List Int := got ++ (zs.take j).drop (got.length - a)
theorem putTo_zero (got zs : List Int) (a : Nat) : putTo got zs a 0 = got := by simp [putTo]
theorem putTo_low {got zs : List Int} {a j : Nat} (h : a + j < got.length) : putTo got zs a (j + 1) = putTo got zs a j := by
  simp only [putTo]
  rw [List.drop_of_length_le (by simp; omega), List.drop_of_length_le (by simp; omega)]
theorem putTo_high {got zs : List Int} {a j : Nat} (ha : a ≤ got.length) (h : got.length ≤ a + j) (hj : j < zs.length) : putTo got zs a (j + 1) = putTo got zs a j ++ [zs[j]] := by
  simp only [putTo]
  rw [List.take_succ_eq_append_getElem hj, List.drop_append_of_le_length (by simp; omega), List.append_assoc]
theorem putTo_len_low {got zs : List Int} {a j : Nat} (h : a + j ≤ got.length) : (putTo got zs a j).length = got.length := by
  simp [putTo]; omega
theorem putTo_len_high {got zs : List Int} {a j : Nat} (ha : a ≤ got.length) (h : got.length ≤ a + j) (hj : j ≤ zs.length) : (putTo got zs a j).length = a + j := by
  simp [putTo]; omega
theorem putTo_end {got zs : List Int} {a : Nat} : putTo got zs a zs.length = got ++ zs.drop (got.length - a) := by simp [putTo]
theorem putTo_get {got zs : List Int} {a j i : Nat} (h : i < got.length) (h2 : i < (putTo got zs a j).length) : (putTo got zs a j)[i] = got[i] := by
  simp [putTo, List.getElem_append_left h]
theorem putL_len (got : List Int) (n : Int) (zs : List Int) : (putL got n zs).length ≤ got.length + zs.length := by
  unfold putL; split
  · split
    · first | (simp; done) | (simp; omega)
    · omega
  · simp
theorem own_app {w wr w1 : World} {B : Nat} {v v' : Value} {xs : List Int} {y : Int} {o : Obj} {n : Nat}
    (hown : OwnInts wr B v xs) (hb : Below w.heap.size w wr) (hB : w.heap.size ≤ B)
    (hown' : w1.ownsRow B 3 1 v' n (ints xs ++ [.int .i64 y])) (hn : n = xs.length + 1) (hgr : (wr.alloc o).grownBy w1 v.ownBlock) :
    OwnInts w1 B v' (xs ++ [y]) ∧ Below w.heap.size w w1 :=
  ⟨own_snoc hown' hn, bGr (bAl hb o) hgr (fun k hk => Nat.le_trans hB (hown.lts k hk).1)⟩

theorem putG_parts {got : List Int} {n : Int} {zs : List Int} (h : putG got n zs = true) : itemsB got = true ∧ chunkB n zs = true ∧ got.length ≤ 20 ∧ 1 ≤ zs.length ∧ zs.length ≤ 4 ∧ 0 ≤ n ∧ n ≤ 20 := by
  simp only [putG, Bool.and_eq_true] at h
  obtain ⟨h1, h2⟩ := h
  have h3 := itemsB_len h1
  refine ⟨h1, h2, h3, ?_⟩
  simp [chunkB, inB] at h2
  omega

set_option maxRecDepth 100000 in
set_option maxHeartbeats 2000000 in
theorem implChunkPut_any (v : Value) (got : List Int) (u : Value) (n : Int) (zs : List Int) (w : World) (hl : got.length ≤ 4194304) (hl2 : zs.length ≤ 4194304) (hr : RInts w v got) (hr2 : RInts w u zs) :
    Calls Try.prog 14 #[v, chV n u] w fun e w' => ∃ u', e = .returned (.tuple #[u', .bool (putT got n zs)]) ∧ OwnInts w' w.heap.size u' (putL got n zs) ∧ Below w.heap.size w w' := by
  obtain ⟨ad, cap, rfl, hcap, hmax, hcell⟩ := id hr
  obtain ⟨ad2, cap2, rfl, hcap2, hmax2, hcell2⟩ := id hr2
  have HR := Lib.hid hr; clear hr
  have HR2 := Lib.hid hr2; clear hr2
  have HC2 := Lib.hid hcell2; clear hcell2 hcell
  obtain ⟨i0, hi0, hz0, hz1, hz2⟩ := info_parts infoInt
  unfold chV
  cases hg : putG got n zs with
  | false =>
    obtain ⟨e1, e2⟩ := put_bad hg
    rw [e1, e2]; clear e1 e2
    cases hi : itemsB got with
    | false =>
      have HI := Lib.hid hi; clear hi hg
      go_enter Try.func14, Try.ntmps14
      go_wp2_with fail
      refine (itemsOk20_any _ got _ hl (HR.out.al _)).mono ?_
      rw [HI.out]
      rintro e w1 ⟨rfl, rfl⟩
      go_wp2
      go_ret2
      exact ⟨_, rfl, OwnInts.nil _ _, below_alloc _ _⟩
    | true =>
      have hc : chunkB n zs = false := by rw [putG, hi] at hg; simpa using hg
      have HI := Lib.hid hi; clear hi hg
      have HK := Lib.hid hc; clear hc
      go_enter Try.func14, Try.ntmps14
      go_wp2_with fail
      refine (itemsOk20_any _ got _ hl (HR.out.al _)).mono ?_
      rw [HI.out]
      rintro e w1 ⟨rfl, rfl⟩
      go_wp2_with fail
      refine (implChunkOk_any _ n zs _ hl2 (HR2.out.al _)).mono ?_
      rw [HK.out]
      rintro e w2 ⟨rfl, b2⟩
      go_wp2
      go_ret2
      exact ⟨_, rfl, OwnInts.nil _ _, bNext (below_alloc _ _) b2⟩
  | true =>
    obtain ⟨hi, hc, g1, g2, g3, g4, g5⟩ := putG_parts hg
    obtain ⟨a, rfl⟩ := Int.eq_ofNat_of_zero_le g4
    have HF := Lib.hid (fun h2 => put_far (a := a) hg h2)
    have HM := Lib.hid (fun h2 => put_mis (a := a) hg h2)
    have HO := Lib.hid (fun h1 h2 => put_ok (a := a) hg h1 h2)
    have HI := Lib.hid hi; clear hi hg g4
    have HK := Lib.hid hc; clear hc
    have B0 := Blk.new w #[.int .i64 a, .slice ad2 zs.length cap2] 25
    by_cases hfar : got.length < a
    · obtain ⟨e1, e2⟩ := HF.out hfar
      rw [e1, e2]; clear e1 e2
      go_enter Try.func14, Try.ntmps14
      go_wp2_with fail
      refine (itemsOk20_any _ got _ hl (HR.out.al _)).mono ?_
      rw [HI.out]
      rintro e w1 ⟨rfl, rfl⟩
      go_wp2_with fail
      refine (implChunkOk_any _ a zs _ hl2 (HR2.out.al _)).mono ?_
      rw [HK.out]
      rintro e w2 ⟨rfl, b2⟩
      have c2 := bNext (below_alloc _ _) b2
      go_wp2_with fail
      refine (clone_any _ got _ hl (HR.out.bl c2)).mono ?_
      rintro e w3 ⟨u3, rfl, o3, b3⟩
      have c3 := bNext c2 b3
      obtain ⟨x0, x1⟩ := ((B0.bl b2).bl b3).get2
      have hd : decide ((got.length : Int) < (a : Int)) = true := decide_eq_true (by omega)
      have hd2 : decide (got.length < a) = true := decide_eq_true (by omega)
      go_wp2
      go_ret2
      exact ⟨_, rfl, o3.base c2.size, c3⟩
    · go_enter Try.func14, Try.ntmps14
      go_wp2_with fail
      refine (itemsOk20_any _ got _ hl (HR.out.al _)).mono ?_
      rw [HI.out]
      rintro e w1 ⟨rfl, rfl⟩
      go_wp2_with fail
      refine (implChunkOk_any _ a zs _ hl2 (HR2.out.al _)).mono ?_
      rw [HK.out]
      rintro e w2 ⟨rfl, b2⟩
      have c2 := bNext (below_alloc _ _) b2
      go_wp2_with fail
      refine (clone_any _ got _ hl (HR.out.bl c2)).mono ?_
      rintro e w3 ⟨u3, rfl, o3, b3⟩
      have c3 := bNext c2 b3
      have B3 := (B0.bl b2).bl b3
      obtain ⟨x0, x1⟩ := B3.get2
      have hd : decide ((got.length : Int) < (a : Int)) = false := decide_eq_false (by omega)
      have hd2 : decide (got.length < a) = false := decide_eq_false (by omega)
      go_wp2
      go_loopw [6, 29] (fun v6 i wr => ∃ (j : Nat) (xs : List Int), j ≤ zs.length ∧ i = .int .i64 j ∧ Hid (xs = putTo got zs a j) ∧ OwnInts wr (w.heap.size + 1) v6 xs ∧ Hid (okTo got zs a j) ∧ Blk wr w.heap.size #[.int .i64 a, .slice ad2 zs.length cap2] 25 ∧ Below w.heap.size w wr) (fun _ i _ => zs.length - (intOf i).toNat)
      case atStart => exact ⟨0, got, Nat.zero_le _, rfl, Lib.hid (putTo_zero _ _ _).symm, o3.base (by have := b2.size; simp at this; omega), Lib.hid (okTo_zero _ _ _), B3, c3⟩
      case round =>
        clear x0 x1
        obtain ⟨j, xs, hj, rfl, hx, own, ok, B, hb⟩ := hrel
        obtain ⟨x0, x1⟩ := B.get2
        by_cases hlt : j < zs.length
        · obtain ⟨b, off, rfl, hbl, hcj⟩ := HC2.out j hlt
          have hcj' : wr.cell? ⟨b, off + j, none⟩ = some (.int .i64 zs[j]) := by rw [hb.cell (p := ⟨b, off + j, none⟩) hbl]; exact hcj
          obtain ⟨z, hz⟩ : ∃ z, z = zs[j] := ⟨_, rfl⟩
          rw [← hz] at hcj'
          clear hcj
          by_cases hhi : got.length ≤ a + j
          · have hxl : xs.length = a + j := by rw [hx.out]; exact putTo_len_high (by omega) hhi hj
            have HS : Hid (putTo got zs a (j + 1) = xs ++ [z]) := Lib.hid (by rw [putTo_high (by omega) hhi hlt, ← hx.out, ← hz])
            have HK2 : Hid (okTo got zs a (j + 1)) := Lib.hid (okTo_succ ok.out hlt (fun h => absurd h (by omega)))
            have hq : ((a : Int) + (j : Int) == (xs.length : Int)) = true := by rw [hxl]; simp
            have hx1 : xs.length ≤ 100 := by omega
            have HXL := Lib.hid hxl; clear hxl hz
            obtain ⟨ax, capx, rfl, hnx, hcx, -⟩ := own.reads
            go_wp2_with (at_builtin; refine wpList_append_own _ rfl _ _ 23 rfl (w.heap.size + 1) 3 i0 (.int .i64 0) 1 8 Try.underlying23 hi0 hz0 hz1 hz2 rfl (by decide) _ _ _ rfl (World.ownsRow.alloc own _) ⟨wr.heap.size, 0, none⟩ 1 1 [.int .i64 z] rfl rfl (cell_one_new _ _ _) (oneCell_int _) ?c3 ?c4 ?c5 ?_)
            case c3 => unfold maxLen; omega
            case c4 => omega
            case c5 => have := B.lt; simp; omega
            intro v' w9 hown' hgr _
            obtain ⟨o9, b9⟩ := own_app own hb (by omega) hown' rfl hgr
            have B9 := (B.al (.cells #[.int .i64 z] 3)).gr hgr (fun k hk => by have := (own.lts k hk).1; omega)
            clear hown' hgr
            go_wp2
            go_roundw
            case rel => exact ⟨j + 1, xs ++ [z], by omega, by go_num, Lib.hid HS.out.symm, o9, HK2, B9, b9⟩
            case measure => simp [intOf]; omega
          · have hhi' : a + j < got.length := by omega
            have hxl : xs.length = got.length := by rw [hx.out]; exact putTo_len_low (by omega)
            have hlx : a + j < xs.length := by rw [hxl]; exact hhi'
            have hgx : xs[a + j]'hlx = got[a + j] := by
              have : ∀ (ys : List Int) (e : ys = putTo got zs a j) (h : a + j < ys.length), ys[a + j] = got[a + j] := by intro ys e h; subst e; exact putTo_get hhi' h
              exact this xs hx.out _
            have hq : ((a : Int) + (j : Int) == (xs.length : Int)) = false := by rw [beq_eq_false_iff_ne]; omega
            have hx1 : xs.length ≤ 100 := by omega
            rcases ownsRow_shape own with ⟨rfl, h0⟩ | ⟨g, capx, rfl, hBg, hgl, hnx, hcx⟩
            · omega
            have hcx2 := own.cellAt hlx
            obtain ⟨y, hy⟩ : ∃ y, y = xs[a + j] := ⟨_, rfl⟩
            rw [← hy] at hcx2
            have HXL := Lib.hid hxl; clear hxl
            by_cases hyz : y = z
            · have HS : Hid (putTo got zs a (j + 1) = xs) := Lib.hid (by rw [putTo_low hhi', ← hx.out])
              have HK2 : Hid (okTo got zs a (j + 1)) := Lib.hid (okTo_succ ok.out hlt (fun _ h => by rw [← hgx, ← hy, ← hz]; exact hyz))
              have hne : (y != z) = false := by simp [hyz]
              clear hyz hy hz hgx
              go_wp2
              go_roundw
              case rel => exact ⟨j + 1, xs, by omega, by go_num, Lib.hid HS.out.symm, own, HK2, B, hb⟩
              case measure => simp [intOf]; omega
            · obtain ⟨e1, e2⟩ := HM.out (okB_not hlt hhi' (by rw [← hgx, ← hy, ← hz]; exact hyz))
              have hne : (y != z) = true := by simp [hyz]
              have HE1 := Lib.hid e1; have HE2 := Lib.hid e2; clear e1 e2
              clear hyz hy hz hgx
              go_wp2_with fail
              refine (clone_any _ got _ hl (HR.out.bl hb)).mono ?_
              rintro e w9 ⟨u9, rfl, o9, b9⟩
              go_wp2
              go_ret2
              exact ⟨u9, by rw [HE2.out]; rfl, by rw [HE1.out]; exact o9.base hb.size, bNext hb b9⟩
        · obtain rfl : j = zs.length := by omega
          obtain ⟨e1, e2⟩ := HO.out (by omega) (okB_of ok.out)
          have HE1 := Lib.hid e1; have HE2 := Lib.hid e2; clear e1 e2
          go_wp2
          go_ret2
          exact ⟨u6, by rw [HE2.out]; rfl, by rw [HE1.out, ← putTo_end, ← hx.out]; exact own.base (by omega), hb⟩
end Go.Proofs.Ytlfmgagokaekjaa
