/- ChunkPut of the reference. -/
import Derived.Test.YtlfmgagokaekjaaPut
import Derived.IntWalk
namespace Go.Proofs.Ytlfmgagokaekjaa
open Go.RowKit
set_option linter.unusedVariables false
set_option linter.unusedSimpArgs false

set_option maxRecDepth 100000 in
set_option maxHeartbeats 2000000 in
theorem specChunkPut_any (v : Value) (got : List Int) (u : Value) (n : Int) (zs : List Int) (Bg : Nat) (w : World) (hl : got.length ≤ 4194304) (hl2 : zs.length ≤ 4194304) (hr : OwnInts w Bg v got) (hr2 : RInts w u zs) :
    Calls Try.prog 15 #[v, chV n u] w fun e w' => ∃ u', e = .returned (.tuple #[u', .bool (putT got n zs)]) ∧ OwnInts w' w.heap.size u' (putL got n zs) ∧ Below w.heap.size w w' := by
  obtain ⟨ad, cap, rfl, hcap, hmax, hcell⟩ := id hr.reads
  obtain ⟨ad2, cap2, rfl, hcap2, hmax2, hcell2⟩ := id hr2
  have HR := Lib.hid hr; clear hr
  have HR2 := Lib.hid hr2; clear hr2
  have HC2 := Lib.hid hcell2; clear hcell2 hcell
  obtain ⟨i0, hi0, hz0, hz1, hz2⟩ := info_parts infoInt
  unfold chV
  cases hg : putG got n zs with
  | false =>
    obtain ⟨e1, e2⟩ := put_bad hg
    rw [e1, e2]; clear e1 e2
    cases hi : itemsB got with
    | false =>
      have HI := Lib.hid hi; clear hi hg
      go_enter Try.func15, Try.ntmps15
      go_wp2_with fail
      refine (l22Items_any _ got _ hl (HR.out.al _).reads).mono ?_
      rw [HI.out]
      rintro e w1 ⟨rfl, rfl⟩
      go_wp2
      go_ret2
      exact ⟨_, rfl, own_empty' _ (by simp) (by simp), bAl (below_alloc _ _) _⟩
    | true =>
      have hc : chunkB n zs = false := by rw [putG, hi] at hg; simpa using hg
      have HI := Lib.hid hi; clear hi hg
      have HK := Lib.hid hc; clear hc
      go_enter Try.func15, Try.ntmps15
      go_wp2_with fail
      refine (l22Items_any _ got _ hl (HR.out.al _).reads).mono ?_
      rw [HI.out]
      rintro e w1 ⟨rfl, rfl⟩
      go_wp2_with fail
      refine (specChunkOk_any _ n zs _ hl2 (HR2.out.al _)).mono ?_
      rw [HK.out]
      rintro e w2 ⟨rfl, b2⟩
      have c2 := bNext (below_alloc _ _) b2
      go_wp2
      go_ret2
      exact ⟨_, rfl, (own_empty _).base c2.size, bAl c2 _⟩
  | true =>
    obtain ⟨hi, hc, g1, g2, g3, g4, g5⟩ := putG_parts hg
    obtain ⟨a, rfl⟩ := Int.eq_ofNat_of_zero_le g4
    have HF := Lib.hid (fun h2 => put_far (a := a) hg h2)
    have HM := Lib.hid (fun h2 => put_mis (a := a) hg h2)
    have HO := Lib.hid (fun h1 h2 => put_ok (a := a) hg h1 h2)
    have HI := Lib.hid hi; clear hi hg g4
    have HK := Lib.hid hc; clear hc
    have B0 := Blk.new w #[.int .i64 a, .slice ad2 zs.length cap2] 25
    by_cases hfar : got.length < a
    · obtain ⟨e1, e2⟩ := HF.out hfar
      rw [e1, e2]; clear e1 e2
      go_enter Try.func15, Try.ntmps15
      go_wp2_with fail
      refine (l22Items_any _ got _ hl (HR.out.al _).reads).mono ?_
      rw [HI.out]
      rintro e w1 ⟨rfl, rfl⟩
      go_wp2_with fail
      refine (specChunkOk_any _ a zs _ hl2 (HR2.out.al _)).mono ?_
      rw [HK.out]
      rintro e w2 ⟨rfl, b2⟩
      have c2 := bNext (below_alloc _ _) b2
      go_wp2_with (at_builtin; refine wpList_copyOwn _ rfl _ _ rfl _ rfl rfl _ rfl Bg got (HR.out.bl c2) hl ?_)
      intro u3 w3 o3 b3
      have c3 := bNext c2 b3
      obtain ⟨x0, x1⟩ := ((B0.bl b2).bl b3).get2
      have hd : decide ((got.length : Int) < (a : Int)) = true := decide_eq_true (by omega)
      have hd2 : decide (got.length < a) = true := decide_eq_true (by omega)
      go_wp2
      go_ret2
      exact ⟨_, rfl, o3.base c2.size, c3⟩
    · go_enter Try.func15, Try.ntmps15
      go_wp2_with fail
      refine (l22Items_any _ got _ hl (HR.out.al _).reads).mono ?_
      rw [HI.out]
      rintro e w1 ⟨rfl, rfl⟩
      go_wp2_with fail
      refine (specChunkOk_any _ a zs _ hl2 (HR2.out.al _)).mono ?_
      rw [HK.out]
      rintro e w2 ⟨rfl, b2⟩
      have c2 := bNext (below_alloc _ _) b2
      go_wp2_with (at_builtin; refine wpList_copyOwn _ rfl _ _ rfl _ rfl rfl _ rfl Bg got (HR.out.bl c2) hl ?_)
      intro u3 w3 o3 b3
      have c3 := bNext c2 b3
      have B3 := (B0.bl b2).bl b3
      obtain ⟨x0, x1⟩ := B3.get2
      have hd : decide ((got.length : Int) < (a : Int)) = false := decide_eq_false (by omega)
      have hd2 : decide (got.length < a) = false := decide_eq_false (by omega)
      go_wp2
      go_loopw [6, 7] (fun v6 i wr => ∃ (j : Nat) (xs : List Int), j ≤ zs.length ∧ i = .int .i64 j ∧ Hid (xs = putTo got zs a j) ∧ OwnInts wr (w.heap.size + 1) v6 xs ∧ Hid (okTo got zs a j) ∧ Blk wr w.heap.size #[.int .i64 a, .slice ad2 zs.length cap2] 25 ∧ Below w.heap.size w wr) (fun _ i _ => zs.length - (intOf i).toNat)
      case atStart => exact ⟨0, got, Nat.zero_le _, rfl, Lib.hid (putTo_zero _ _ _).symm, o3.base (by have := b2.size; simp at this; omega), Lib.hid (okTo_zero _ _ _), B3, c3⟩
      case round =>
        clear x0 x1
        obtain ⟨j, xs, hj, rfl, hx, own, ok, B, hb⟩ := hrel
        obtain ⟨x0, x1⟩ := B.get2
        by_cases hlt : j < zs.length
        · obtain ⟨b, off, rfl, hbl, hcj⟩ := HC2.out j hlt
          have hcj' : wr.cell? ⟨b, off + j, none⟩ = some (.int .i64 zs[j]) := by rw [hb.cell (p := ⟨b, off + j, none⟩) hbl]; exact hcj
          obtain ⟨z, hz⟩ : ∃ z, z = zs[j] := ⟨_, rfl⟩
          rw [← hz] at hcj'
          clear hcj
          by_cases hhi : got.length ≤ a + j
          · have hxl : xs.length = a + j := by rw [hx.out]; exact putTo_len_high (by omega) hhi hj
            have HS : Hid (putTo got zs a (j + 1) = xs ++ [z]) := Lib.hid (by rw [putTo_high (by omega) hhi hlt, ← hx.out, ← hz])
            have HK2 : Hid (okTo got zs a (j + 1)) := Lib.hid (okTo_succ ok.out hlt (fun h => absurd h (by omega)))
            have hq : decide ((a : Int) + (j : Int) < (got.length : Int)) = false := decide_eq_false (by omega)
            have hx1 : xs.length ≤ 100 := by omega
            have HXL := Lib.hid hxl; clear hxl hz
            obtain ⟨ax, capx, rfl, hnx, hcx, -⟩ := own.reads
            go_wp2_with (at_builtin; refine wpList_append_own _ rfl _ _ 23 rfl (w.heap.size + 1) 3 i0 (.int .i64 0) 1 8 Try.underlying23 hi0 hz0 hz1 hz2 rfl (by decide) _ _ _ rfl (World.ownsRow.alloc own _) ⟨wr.heap.size, 0, none⟩ 1 1 [.int .i64 z] rfl rfl (cell_one_new _ _ _) (oneCell_int _) ?c3 ?c4 ?c5 ?_)
            case c3 => unfold maxLen; omega
            case c4 => omega
            case c5 => have := B.lt; simp; omega
            intro v' w9 hown' hgr _
            obtain ⟨o9, b9⟩ := own_app own hb (by omega) hown' rfl hgr
            have B9 := (B.al (.cells #[.int .i64 z] 3)).gr hgr (fun k hk => by have := (own.lts k hk).1; omega)
            clear hown' hgr
            go_wp2
            go_roundw
            case rel => exact ⟨j + 1, xs ++ [z], by omega, by go_num, Lib.hid HS.out.symm, o9, HK2, B9, b9⟩
            case measure => simp [intOf]; omega
          · have hhi' : a + j < got.length := by omega
            have hq : decide ((a : Int) + (j : Int) < (got.length : Int)) = true := decide_eq_true (by omega)
            rcases ownsRow_shape HR.out with ⟨_, h0⟩ | ⟨g, capx, hsh, hBg, hgl, hnx, hcx⟩
            · omega
            simp only [Value.slice.injEq] at hsh
            obtain ⟨rfl, -, rfl⟩ := hsh
            have hcx2 := (HR.out.bl hb).cellAt hhi'
            obtain ⟨y, hy⟩ : ∃ y, y = got[a + j] := ⟨_, rfl⟩
            rw [← hy] at hcx2
            by_cases hyz : y = z
            · have HS : Hid (putTo got zs a (j + 1) = xs) := Lib.hid (by rw [putTo_low hhi', ← hx.out])
              have HK2 : Hid (okTo got zs a (j + 1)) := Lib.hid (okTo_succ ok.out hlt (fun _ h => by rw [← hy, ← hz]; exact hyz))
              have hne : (y != z) = false := by simp [hyz]
              clear hyz hy hz
              have e1 : IntKind.i64.wrap ((a : Int) + (j : Int)) = (a : Int) + (j : Int) := IntWalk.i64_in _ (by omega)
              have e2 : (0 : Int) ≤ (a : Int) + (j : Int) := by omega
              have e3 : ((a : Int) + (j : Int)).toNat = a + j := by omega
              go_wp2
              go_quiet (fail)
              clear e1 e3
              go_wp2
              go_roundw
              case rel => exact ⟨j + 1, xs, by omega, by go_num, Lib.hid HS.out.symm, own.dr _, HK2, B.dr _, bDr hb _⟩
              case measure => simp [intOf]; omega
            · obtain ⟨e1, e2⟩ := HM.out (okB_not hlt hhi' (by rw [← hy, ← hz]; exact hyz))
              have hne : (y != z) = true := by simp [hyz]
              have HE1 := Lib.hid e1; have HE2 := Lib.hid e2; clear e1 e2
              clear hyz hy hz
              have e1 : IntKind.i64.wrap ((a : Int) + (j : Int)) = (a : Int) + (j : Int) := IntWalk.i64_in _ (by omega)
              have e2 : (0 : Int) ≤ (a : Int) + (j : Int) := by omega
              have e3 : ((a : Int) + (j : Int)).toNat = a + j := by omega
              go_wp2
              go_quiet (fail)
              clear e1 e3
              go_wp2_with (at_builtin; refine wpList_copyOwn _ rfl _ _ rfl _ rfl rfl _ rfl Bg got ((HR.out.bl hb).dr _) hl ?_)
              intro u9 w9 o9 b9
              go_wp2
              go_ret2
              exact ⟨u9, by rw [HE2.out]; rfl, by rw [HE1.out]; exact o9.base hb.size, bNext (bDr hb _) b9⟩
        · obtain rfl : j = zs.length := by omega
          obtain ⟨e1, e2⟩ := HO.out (by omega) (okB_of ok.out)
          have HE1 := Lib.hid e1; have HE2 := Lib.hid e2; clear e1 e2
          go_wp2
          go_ret2
          exact ⟨u6, by rw [HE2.out]; rfl, by rw [HE1.out, ← putTo_end, ← hx.out]; exact own.base (by omega), hb⟩
end Go.Proofs.Ytlfmgagokaekjaa
