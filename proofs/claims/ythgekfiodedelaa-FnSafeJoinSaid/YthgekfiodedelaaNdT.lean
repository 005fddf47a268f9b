/- spec.l4Notify, l4One. -/
import Derived.Test.YthgekfiodedelaaNdQ
namespace Go.Proofs.Ythgekfiodedelaa
open Go.RowKit
set_option linter.unusedVariables false
set_option linter.unusedSimpArgs false

set_option maxRecDepth 100000 in
set_option maxHeartbeats 4000000 in
theorem l4Notify_any (v : Value) (R : List Nd) (k : Nat) (o : Int) (w : World) (hl : R.length ≤ 4096) (hk : k < R.length) (hr : RR w v R) :
    Calls Try.prog 115 #[v, .int .i64 k, .int .i64 o] w fun e w' => ∃ x, e = .returned (.tuple #[x, .bool (notifyG R k o)]) ∧ OwnRingS w' w.heap.size x (dats (notifyS R k o)) ∧ Below w.heap.size w w' := by
  obtain ⟨a, cap, rfl, hc, hm⟩ := id hr.sl
  obtain ⟨b, off, bs, os, c, rfl, hb, hbs, x0, x1, x2, r3, v0, v1⟩ := hr.nd k hk
  have HSD : Hid (notifyS R k o = if notifyG R k o then R.set k ⟨(nth R k).id, o, (nth R k).a0, (nth R k).a1⟩ else R) := Lib.hid rfl
  have HGD : Hid (notifyG R k o = (liveR R o && o != (nth R k).id && !(decide (0 ≤ (nth R k).bf) && liveR R (nth R k).bf && !btw (nth R k).bf o (nth R k).id))) := Lib.hid rfl
  generalize nth R k = n at *
  have HR := Lib.hid (hr.al (.cells #[.int .i64 n.id, .int .i64 n.bf, .slice (some ⟨bs, os, none⟩) 2 c] 37))
  have R3 := Lib.hid (r3.al (.cells #[.int .i64 n.id, .int .i64 n.bf, .slice (some ⟨bs, os, none⟩) 2 c] 37))
  have HR0 := Lib.hid hr; have R30 := Lib.hid r3; clear hr r3
  have BK := Lib.hid (Blk.new w #[.int .i64 n.id, .int .i64 n.bf, .slice (some ⟨bs, os, none⟩) 2 c] 37)
  have BA := Lib.hid (below_alloc w (.cells #[.int .i64 n.id, .int .i64 n.bf, .slice (some ⟨bs, os, none⟩) 2 c] 37))
  clear v0 v1
  go_enter Try.func115, Try.ntmps115
  go_wp2_with fail
  clear x0 x1 x2
  obtain ⟨W, hW⟩ : ∃ W, W = w.alloc (.cells #[.int .i64 n.id, .int .i64 n.bf, .slice (some ⟨bs, os, none⟩) 2 c] 37) := ⟨_, rfl⟩
  obtain ⟨G, hG⟩ : ∃ G, G = w.heap.size := ⟨_, rfl⟩
  have hWs : W.heap.size = w.heap.size + 1 := by rw [hW]; simp
  have HG := Lib.hid hG
  rw [← hW, ← hG] at BK
  rw [← hW] at BA HR R3
  rw [← hW, ← hG]
  obtain ⟨y0, y1, y2⟩ := BK.out.get3
  obtain ⟨f0, f1, f2⟩ := BK.out.fr3
  have hGW : G < W.heap.size := by omega
  have HWs := Lib.hid hWs
  clear hW hG hWs
  have HBAD : Hid (notifyG R k o = false → notifyS R k o = R) := Lib.hid (fun h => by rw [HSD.out, h]; rfl)
  refine (l3Find_any _ R o _ (by omega) HR.out).mono ?_
  rintro e w1 ⟨rfl, rfl⟩
  have done_bad : notifyG R k o = false → True := fun _ => trivial
  clear done_bad
  cases hlv : liveR R o with
  | false =>
    have d0 : decide (fdI R o < 0) = true := by rw [fdI_lt, hlv]; rfl
    have HGF : Hid (notifyG R k o = false) := Lib.hid (by rw [HGD.out, hlv]; rfl)
    have HS := Lib.hid (HBAD.out HGF.out)
    generalize fdI R o = z at *
    clear hlv
    go_wp2_with fail
    refine (l3Copy_any _ R _ (by omega) HR.out).mono ?_
    rintro e w2 ⟨u2, rfl, o2, b2⟩
    have c2 := bNext BA.out b2
    have o3 := o2.base (B' := w.heap.size) BA.out.size
    go_wp2
    go_ret2
    exact ⟨_, by rw [HGF.out]; rfl, by rw [HS.out]; exact o3, c2⟩
  | true =>
    have d0 : decide (fdI R o < 0) = false := by rw [fdI_lt, hlv]; rfl
    generalize fdI R o = z at *
    by_cases hid : o = n.id
    · have d1 : (o == n.id) = true := by simp [hid]
      have HGF : Hid (notifyG R k o = false) := Lib.hid (by rw [HGD.out]; simp [hid])
      have HS := Lib.hid (HBAD.out HGF.out)
      clear hlv hid
      go_wp2_with fail
      refine (l3Copy_any _ R _ (by omega) HR.out).mono ?_
      rintro e w2 ⟨u2, rfl, o2, b2⟩
      have c2 := bNext BA.out b2
      have o3 := o2.base (B' := w.heap.size) BA.out.size
      go_wp2
      go_ret2
      exact ⟨_, by rw [HGF.out]; rfl, by rw [HS.out]; exact o3, c2⟩
    · have d1 : (o == n.id) = false := by simp [hid]
      have HG2 : Hid (notifyG R k o = !(decide (0 ≤ n.bf) && liveR R n.bf && !btw n.bf o n.id)) := Lib.hid (by
        rw [HGD.out, hlv]
        have : (o != n.id) = true := by simp [hid]
        rw [this]; rfl)
      clear hlv hid
      -- the store and the copy
      have fin : Hid (notifyG R k o = true → notifyS R k o = R.set k ⟨n.id, o, n.a0, n.a1⟩) := Lib.hid (fun h => by rw [HSD.out, h]; rfl)
      have B5 := Lib.hid (BK.out.s31 (.int .i64 o))
      have C5 : Hid (Below w.heap.size w (W.setCell ⟨G, 1, none⟩ (.int .i64 o))) := Lib.hid (bSc BA.out (by rw [HG.out]; exact Nat.le_refl _) 1 _)
      have HR5 := Lib.hid (HR0.out.bl C5.out)
      have R5 : Hid (RInts (W.setCell ⟨G, 1, none⟩ (.int .i64 o)) (.slice (some ⟨bs, os, none⟩) 2 c) [n.a0, n.a1]) := Lib.hid (R30.out.bl C5.out)
      obtain ⟨s0, s1, s2⟩ := B5.out.get3
      cases d2 : decide (0 ≤ n.bf) with
      | false =>
        have HGT : Hid (notifyG R k o = true) := Lib.hid (by rw [HG2.out, d2]; rfl)
        have HS := Lib.hid (fin.out HGT.out)
        go_wp2_with fail
        refine (l4Set_any _ R k ⟨n.id, o, n.a0, n.a1⟩ bs os c _ (by omega) hk HR5.out R5.out).mono ?_
        rintro e w5 ⟨u5, rfl, o5, b5⟩
        have c5 := bNext C5.out b5
        have o6 := o5.base (B' := w.heap.size) C5.out.size
        go_wp2
        go_ret2
        exact ⟨_, by rw [HGT.out]; rfl, by rw [HS.out]; exact o6, c5⟩
      | true =>
        go_wp2_with fail
        refine (l3Find_any _ R n.bf _ (by omega) HR.out).mono ?_
        rintro e w1 ⟨rfl, rfl⟩
        cases hlb : liveR R n.bf with
        | false =>
          have d3 : decide (0 ≤ fdI R n.bf) = false := by rw [fdI_nonneg, hlb]
          have HGT : Hid (notifyG R k o = true) := Lib.hid (by rw [HG2.out, d2, hlb]; rfl)
          have HS := Lib.hid (fin.out HGT.out)
          generalize fdI R n.bf = z2 at *
          clear hlb
          go_wp2_with fail
          refine (l4Set_any _ R k ⟨n.id, o, n.a0, n.a1⟩ bs os c _ (by omega) hk HR5.out R5.out).mono ?_
          rintro e w5 ⟨u5, rfl, o5, b5⟩
          have c5 := bNext C5.out b5
          have o6 := o5.base (B' := w.heap.size) C5.out.size
          go_wp2
          go_ret2
          exact ⟨_, by rw [HGT.out]; rfl, by rw [HS.out]; exact o6, c5⟩
        | true =>
          have d3 : decide (0 ≤ fdI R n.bf) = true := by rw [fdI_nonneg, hlb]
          generalize fdI R n.bf = z2 at *
          cases hbt : btw n.bf o n.id with
          | true =>
            have HGT : Hid (notifyG R k o = true) := Lib.hid (by rw [HG2.out, d2, hlb, hbt]; rfl)
            have HS := Lib.hid (fin.out HGT.out)
            clear hlb
            go_wp2_with fail
            refine (l1Between_any _ _ _ _).mono ?_
            rw [hbt]
            rintro e w2 ⟨rfl, rfl⟩
            go_wp2_with fail
            refine (l4Set_any _ R k ⟨n.id, o, n.a0, n.a1⟩ bs os c _ (by omega) hk HR5.out R5.out).mono ?_
            rintro e w5 ⟨u5, rfl, o5, b5⟩
            have c5 := bNext C5.out b5
            have o6 := o5.base (B' := w.heap.size) C5.out.size
            go_wp2
            go_ret2
            exact ⟨_, by rw [HGT.out]; rfl, by rw [HS.out]; exact o6, c5⟩
          | false =>
            have HGF : Hid (notifyG R k o = false) := Lib.hid (by rw [HG2.out, d2, hlb, hbt]; rfl)
            have HS := Lib.hid (HBAD.out HGF.out)
            clear hlb
            go_wp2_with fail
            refine (l1Between_any _ _ _ _).mono ?_
            rw [hbt]
            rintro e w2 ⟨rfl, rfl⟩
            go_wp2_with fail
            refine (l3Copy_any _ R _ (by omega) HR.out).mono ?_
            rintro e w2 ⟨u2, rfl, o2, b2⟩
            have c2 := bNext BA.out b2
            have o3 := o2.base (B' := w.heap.size) BA.out.size
            go_wp2
            go_ret2
            exact ⟨_, by rw [HGF.out]; rfl, by rw [HS.out]; exact o3, c2⟩
end Go.Proofs.Ythgekfiodedelaa
