/- impl.skips, RingPrincipals. -/
import Derived.Test.YthgekfiodedelaaImB
import Derived.Test.YthgekfiodedelaaImV
namespace Go.Proofs.Ythgekfiodedelaa
open Go.RowKit
set_option linter.unusedVariables false
set_option linter.unusedSimpArgs false

theorem seq_in {n : Nd} (hv : NdV n) (m : Nat) : 0 ≤ seqN n m ∧ seqN n m < 64 := by
  match m with
  | 0 => exact hv.i0
  | 1 => exact hv.r0
  | _ + 2 => exact hv.r1

set_option maxRecDepth 100000 in
set_option maxHeartbeats 4000000 in
theorem implSkips_any (n : Nd) (bs os c : Nat) (x : Int) (w : World) (hv : NdV n) (hx : 0 ≤ x ∧ x < 64) (hr : RInts w (.slice (some ⟨bs, os, none⟩) 2 c) [n.a0, n.a1]) :
    Calls Try.prog 82 #[.agg #[.int .i64 n.id, .int .i64 n.bf, .slice (some ⟨bs, os, none⟩) 2 c], .int .i64 x] w fun e w' => e = .returned (.bool (skips n x)) ∧ Below w.heap.size w w' := by
  obtain ⟨W, hW⟩ : ∃ W, W = w.alloc (.cells #[.int .i64 n.id, .int .i64 n.bf, .slice (some ⟨bs, os, none⟩) 2 c] 37) := ⟨_, rfl⟩
  obtain ⟨G, hG⟩ : ∃ G, G = w.heap.size := ⟨_, rfl⟩
  have C1 : Hid (Below w.heap.size w W) := Lib.hid (by rw [hW]; exact bAl (Below.refl _ _) _)
  have R3 : Hid (RInts W (.slice (some ⟨bs, os, none⟩) 2 c) [n.a0, n.a1]) := Lib.hid (by rw [hW]; exact hr.al _)
  have BK : Hid (Blk W G #[.int .i64 n.id, .int .i64 n.bf, .slice (some ⟨bs, os, none⟩) 2 c] 37) := Lib.hid (by rw [hW, hG]; exact Blk.new _ _ _)
  have hGW : G < W.heap.size := by rw [hW, hG]; simp
  have HB : ∀ m w, Calls Try.prog 72 #[.int .i64 (seqN n m), .int .i64 x, .int .i64 (seqN n (m + 1))] w fun e w' => e = .returned (.bool (btw (seqN n m) x (seqN n (m + 1)))) ∧ Below w.heap.size w w' := fun m w => between_any _ _ _ w (seq_in hv m) hx (seq_in hv (m + 1))
  clear hr hv hx
  go_enter Try.func82, Try.ntmps82
  go_wp2
  rw [← hW, ← hG]
  have e0 : n.id = seqN n 0 := rfl
  rw [e0]
  clear hW hG
  obtain ⟨y0, y1, y2⟩ := BK.out.get3
  clear BK
  rw [e0] at y0
  clear e0
  go_loopw [5, 7, 13] (fun l _ k wr => ∃ m : Nat, m ≤ 2 ∧ k = .int .i64 m ∧ l = .int .i64 (seqN n m) ∧ Hid (∀ i, i < m → btw (seqN n i) x (seqN n (i + 1)) = false) ∧ Hid (Below W.heap.size W wr)) (fun _ _ k _ => 2 - (intOf k).toNat)
  case atStart => exact ⟨0, Nat.zero_le _, rfl, rfl, Lib.hid (fun i h => absurd h (by omega)), Lib.hid (Below.refl _ _)⟩
  case round =>
    obtain ⟨m, hm, rfl, rfl, HJ, BJ⟩ := hrel
    by_cases hmt : m < 2
    · have z0 := seq_cell (R3.out.bl BJ.out) hmt
      cases hb : btw (seqN n m) x (seqN n (m + 1)) with
      | true =>
        have HE : Hid (skips n x = true) := Lib.hid (skips_some hmt hb)
        go_wp2_with fail
        refine (HB m _).mono ?_
        rw [hb]
        rintro e w9 ⟨rfl, b9⟩
        have c9 := Lib.hid (bNext C1.out (bNext BJ.out b9))
        clear b9
        go_wp2
        go_ret
        exact ⟨ret_bool HE.out.symm, c9.out⟩
      | false =>
        have HN : Hid (∀ i, i < m + 1 → btw (seqN n i) x (seqN n (i + 1)) = false) := Lib.hid (fun i hi => by
          by_cases e : i = m
          · subst e; exact hb
          · exact HJ.out i (by omega))
        go_wp2_with fail
        refine (HB m _).mono ?_
        rw [hb]
        rintro e w9 ⟨rfl, b9⟩
        have c9 := Lib.hid (bNext BJ.out b9)
        clear b9
        go_wp2
        go_roundw
        case rel => exact ⟨m + 1, by omega, by go_num, rfl, HN, c9⟩
        case measure => simp [intOf]; omega
    · obtain rfl : m = 2 := by omega
      have HE : Hid (skips n x = false) := Lib.hid (skips_none HJ.out)
      have c9 := Lib.hid (bNext C1.out BJ.out)
      go_wp2
      go_ret
      exact ⟨ret_bool HE.out.symm, c9.out⟩

set_option maxRecDepth 100000 in
set_option maxHeartbeats 4000000 in
theorem principals1_any (n : Nd) (bs os c : Nat) (x : Int) (g : Nat) (w : World) (hv : NdV n) (hx : 0 ≤ x ∧ x < 64) (hr : RInts w (.slice (some ⟨bs, os, none⟩) 2 c) [n.a0, n.a1]) (hg : g < w.heap.size) (hc : w.cell? ⟨g, 0, none⟩ = some (.int .i64 x)) :
    Calls Try.prog 81 #[.agg #[.int .i64 n.id, .int .i64 n.bf, .slice (some ⟨bs, os, none⟩) 2 c], .pointer (some ⟨g, 0, none⟩)] w fun e w' => e = .returned (.bool (skips n x)) ∧ Below w.heap.size w w' := by
  have BK := Blk.new w #[.int .i64 n.id, .int .i64 n.bf, .slice (some ⟨bs, os, none⟩) 2 c] 37
  obtain ⟨y0, y1, y2⟩ := BK.get3
  have B1 := Lib.hid (below_alloc w (.cells #[.int .i64 n.id, .int .i64 n.bf, .slice (some ⟨bs, os, none⟩) 2 c] 37))
  have hc1 := (B1.out.cell (p := ⟨g, 0, none⟩) hg).trans hc
  have R1 := Lib.hid (hr.bl B1.out)
  have HK := Lib.hid (fun w (h : RInts w (.slice (some ⟨bs, os, none⟩) 2 c) [n.a0, n.a1]) => implSkips_any n bs os c x w hv hx h)
  clear BK hc hr hv hx
  generalize n.id = p at *
  generalize n.bf = q at *
  go_enter Try.func81, Try.ntmps81
  go_wp2_with fail
  refine (HK.out _ R1.out).mono ?_
  rintro e w2 ⟨rfl, b2⟩
  have c2 := Lib.hid (bNext B1.out b2)
  clear b2
  go_wp2
  go_ret
  exact ⟨rfl, c2.out⟩
theorem enters81 : ∀ (args : Array Value) (w : World), (callFunc 81 args).run Try.prog w = .ok (.enter 81 args) w := enters_of Try.func81 (by kernel_rfl) rfl

set_option maxRecDepth 100000 in
set_option maxHeartbeats 4000000 in
theorem implPrincipals_any (v : Value) (R : List Nd) (w : World) (hv : ValidL R) (hr : RR w v R) :
    Calls Try.prog 51 #[v] w fun e w' => ∃ x, e = .returned x ∧ OwnInts w' w.heap.size x (princ R) ∧ Below w.heap.size w w' := by
  obtain ⟨i0, hi, hz0, hz1, hz2⟩ := info_parts infoInt
  obtain ⟨a, cap, rfl, hc, hm⟩ := id hr.sl
  have h10 := hv.len
  have HV := Lib.hid (vD_dats hv)
  have HN : Hid (∀ i, i < R.length → NdV (nth R i)) := Lib.hid (fun i hi => hv.ok _ (nth_mem hi))
  have HR := Lib.hid hr; clear hr hv
  go_enter Try.func51, Try.ntmps51
  go_wp2_with fail
  refine (implRingValid_any _ (dats R) _ (by rw [dats_len]; omega) HR.out).mono ?_
  rw [HV.out]
  rintro e w1 ⟨rfl, b1⟩
  have B1 := Lib.hid b1; clear b1
  go_wp2
  go_loopw [3, 5, 11] (fun vo _ i wr => ∃ j : Nat, j ≤ R.length ∧ i = .int .i64 j ∧ Hid (OwnInts wr w.heap.size vo (prTo R j)) ∧ Hid (Below w.heap.size w wr)) (fun _ _ i _ => R.length - (intOf i).toNat)
  case atStart => exact ⟨0, Nat.zero_le _, rfl, Lib.hid (OwnInts.nil _ _), B1⟩
  case round =>
    obtain ⟨j, hj, rfl, HOW, BJ⟩ := hrel
    obtain ⟨vo, rfl⟩ : ∃ v, v = u3 := ⟨_, rfl⟩
    clear B1
    by_cases hlt : j < R.length
    · have RJ := HR.out.bl BJ.out
      obtain ⟨b, off, bs, os, c, rfl, hb, hbs, x0, x1, x2, r3, -, -⟩ := RJ.nd j hlt
      have HX := Lib.hid (HN.out j hlt).i0
      have HS := Lib.hid (prTo_succ hlt)
      have HP : Hid (prcB R (nth R j).id = !R.any (fun n => skips n (nth R j).id)) := Lib.hid rfl
      have hlen := prTo_len R j
      clear RJ r3
      generalize (nth R j).id = x at *
      generalize (nth R j).bf = y at *
      have BK := Blk.new wr #[.int .i64 x, .int .i64 y, .slice (some ⟨bs, os, none⟩) 2 c] 37
      have A1 := below_alloc wr (.cells #[.int .i64 x, .int .i64 y, .slice (some ⟨bs, os, none⟩) 2 c] 37)
      have C1 := Lib.hid (bNext BJ.out A1)
      have R1 := Lib.hid (HR.out.bl C1.out)
      have O1 := Lib.hid (HOW.out.bl A1)
      obtain ⟨W, hW⟩ : ∃ W, W = wr.alloc (.cells #[.int .i64 x, .int .i64 y, .slice (some ⟨bs, os, none⟩) 2 c] 37) := ⟨_, rfl⟩
      obtain ⟨G, hG⟩ : ∃ G, G = wr.heap.size := ⟨_, rfl⟩
      have hGW : G < W.heap.size := by rw [hW, hG]; simp
      go_wp2_with fail
      rw [← hW, ← hG]
      rw [← hW, ← hG] at BK
      rw [← hW] at C1 R1 O1
      obtain ⟨y0, y1, y2⟩ := BK.get3
      have SN : Hid (SaysN W 81 (.pointer (some ⟨G, 0, none⟩)) R (fun n => skips n x)) := Lib.hid ⟨enters81, fun i w' bs os c hi hb hr => principals1_any _ bs os c x G w' (HN.out i hi) HX.out hr (by have := hb.size; omega) (by rw [hb.cell (p := ⟨G, 0, none⟩) hGW]; exact y0)⟩
      clear hW hG x0 x1 x2 hb hbs BJ HOW A1
      refine (containsFuncN_any _ _ _ _ R _ (by omega) R1.out SN.out).mono ?_
      cases q : R.any (fun n => skips n x) with
      | true =>
        have HE : Hid (prTo R (j + 1) = prTo R j) := Lib.hid (by rw [HS.out, HP.out, q]; rfl)
        clear q
        rintro e w5 ⟨rfl, b5⟩
        have O5 := Lib.hid (show OwnInts w5 w.heap.size vo (prTo R (j + 1)) by rw [HE.out]; exact O1.out.bl b5)
        have c5 := Lib.hid (bNext C1.out b5)
        clear b5 BK
        go_wp2
        go_roundw
        case rel => exact ⟨j + 1, by omega, by go_num, O5, c5⟩
        case measure => simp [intOf]; omega
      | false =>
        have HE : Hid (prTo R (j + 1) = prTo R j ++ [x]) := Lib.hid (by rw [HS.out, HP.out, q]; rfl)
        clear q
        rintro e w5 ⟨rfl, b5⟩
        have O5 := O1.out.bl b5
        have c5 := Lib.hid (bNext C1.out b5)
        have y5 := (b5.cell (p := ⟨G, 0, none⟩) hGW).trans y0
        have hsz := b5.size
        have hsz2 := c5.out.size
        clear y0 y1 y2 b5 BK
        go_wp2_with (at_builtin; refine wpList_append_own _ rfl _ _ 30 rfl w.heap.size 3 i0 (.int .i64 0) 1 8 Try.underlying30 hi hz0 hz1 hz2 rfl (by decide) _ _ _ rfl (World.ownsRow.alloc O5 _) ⟨w5.heap.size, 0, none⟩ 1 1 [.int .i64 x] rfl rfl (cell_one_new _ _ _) (oneCell_int _) ?c3 ?c4 ?c5 ?_)
        case c3 => (try simp); (try unfold maxLen); omega
        case c4 => (try simp); omega
        case c5 => simp; omega
        intro v' w7 hown' hgrow _
        have hown2 := Lib.hid (show OwnInts w7 w.heap.size v' (prTo R (j + 1)) by rw [HE.out]; exact own_snoc hown' (by simp))
        have hbel2 : Hid (Below w.heap.size w w7) := Lib.hid ((c5.out.alloc (by omega) _).grown hgrow (by simp; omega) (fun k hk => by have := (ownsRow_lt O5 hk).1; omega))
        clear hown' hgrow O5
        go_wp2
        go_roundw
        case rel => exact ⟨j + 1, by omega, by go_num, hown2, hbel2⟩
        case measure => simp [intOf]; omega
    · obtain rfl : j = R.length := by omega
      have HE := Lib.hid (prTo_all R)
      go_wp2
      go_ret
      exact ⟨_, rfl, by rw [← HE.out]; exact HOW.out, BJ.out⟩
end Go.Proofs.Ythgekfiodedelaa
