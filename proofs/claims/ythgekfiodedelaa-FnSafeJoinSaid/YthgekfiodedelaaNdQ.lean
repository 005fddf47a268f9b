/- spec.l4Adopt, l4Closer, l4Notify. -/
import Derived.Test.YthgekfiodedelaaNdO
namespace Go.Proofs.Ythgekfiodedelaa
open Go.RowKit
set_option linter.unusedVariables false
set_option linter.unusedSimpArgs false

theorem fdI_live {R : List Nd} {x : Int} (h : liveR R x = true) : fdI R x = (fnd R x : Int) ∧ fnd R x < R.length := ⟨by rw [fdI, if_pos h], fnd_lt ((live_iff R x).1 h)⟩
theorem fdI_dead {R : List Nd} {x : Int} (h : liveR R x = false) : fdI R x = -1 := by rw [fdI, h]; rfl

set_option maxRecDepth 100000 in
set_option maxHeartbeats 4000000 in
theorem l4Adopt_any (v : Value) (R : List Nd) (k : Nat) (w : World) (hl : R.length ≤ 4096) (hk : k < R.length) (hr : RR w v R) :
    Calls Try.prog 113 #[v, .int .i64 k] w fun e w' => ∃ x, e = .returned (.tuple #[x, .bool (liveR R (nth R k).a0)]) ∧ OwnRingS w' w.heap.size x (dats (adoptS R k)) ∧ Below w.heap.size w w' := by
  obtain ⟨a, cap, rfl, hc, hm⟩ := id hr.sl
  obtain ⟨b, off, bs, os, c, rfl, hb, hbs, x0, x1, x2, r3, v0, v1⟩ := hr.nd k hk
  have HR := Lib.hid hr; clear hr
  have HS : Hid (adoptS R k = if liveR R (nth R k).a0 then followS R k (fnd R (nth R k).a0) else R) := Lib.hid rfl
  generalize (nth R k).a0 = y at *
  clear x0 x1 r3 v1
  go_enter Try.func113, Try.ntmps113
  go_wp2_with fail
  refine (l3Find_any _ R y _ (by omega) HR.out).mono ?_
  rintro e w1 ⟨rfl, rfl⟩
  cases hlv : liveR R y with
  | true =>
    obtain ⟨h1, h2⟩ := fdI_live hlv
    rw [h1]
    have HS1 : Hid (adoptS R k = followS R k (fnd R y)) := Lib.hid (by rw [HS.out, hlv]; rfl)
    have HLV := Lib.hid hlv
    generalize fnd R y = s at *
    clear hlv h1
    go_wp2_with fail
    refine (l4Follow_any _ R k s _ (by omega) hk h2 HR.out).mono ?_
    rintro e w5 ⟨u5, rfl, o5, b5⟩
    go_wp2
    go_ret2
    exact ⟨_, by rw [HLV.out]; rfl, by rw [HS1.out]; exact o5, b5⟩
  | false =>
    have h1 := fdI_dead hlv
    rw [h1]
    have HS1 : Hid (adoptS R k = R) := Lib.hid (by rw [HS.out, hlv]; rfl)
    have HLV := Lib.hid hlv
    clear hlv h1
    go_wp2_with fail
    refine (l3Copy_any _ R _ (by omega) HR.out).mono ?_
    rintro e w5 ⟨u5, rfl, o5, b5⟩
    go_wp2
    go_ret2
    exact ⟨_, by rw [HLV.out]; rfl, by rw [HS1.out]; exact o5, b5⟩

set_option maxRecDepth 100000 in
set_option maxHeartbeats 4000000 in
theorem l4Closer_any (v : Value) (R : List Nd) (k : Nat) (o : Int) (w : World) (hl : R.length ≤ 4096) (hk : k < R.length) (hr : RR w v R) :
    Calls Try.prog 114 #[v, .int .i64 k, .int .i64 o] w fun e w' => ∃ x, e = .returned (.tuple #[x, .bool (closerG R k o)]) ∧ OwnRingS w' w.heap.size x (dats (closerS R k o)) ∧ Below w.heap.size w w' := by
  obtain ⟨a, cap, rfl, hc, hm⟩ := id hr.sl
  obtain ⟨b, off, bs, os, c, rfl, hb, hbs, x0, x1, x2, r3, v0, v1⟩ := hr.nd k hk
  have HR := Lib.hid hr; clear hr
  have HS : Hid (closerS R k o = if closerG R k o then followS R k (fnd R o) else R) := Lib.hid rfl
  have HG : Hid (closerG R k o = (liveR R o && btw (nth R k).id o (nth R k).a0)) := Lib.hid rfl
  generalize (nth R k).a0 = y at *
  generalize (nth R k).id = x at *
  clear x1 r3 v1
  go_enter Try.func114, Try.ntmps114
  go_wp2_with fail
  refine (l3Find_any _ R o _ (by omega) HR.out).mono ?_
  rintro e w1 ⟨rfl, rfl⟩
  cases hlv : liveR R o with
  | true =>
    obtain ⟨h1, h2⟩ := fdI_live hlv
    rw [h1]
    have d0 : decide ((fnd R o : Int) < 0) = false := decide_eq_false (by omega)
    cases hbt : btw x o y with
    | true =>
      have HLV : Hid (closerG R k o = true) := Lib.hid (by rw [HG.out, hlv, hbt]; rfl)
      have HS1 : Hid (closerS R k o = followS R k (fnd R o)) := Lib.hid (by rw [HS.out, HLV.out]; rfl)
      have HB : ∀ n, Calls Try.prog 46 #[.int .i64 x, .int .i64 o, .int .i64 y] (w.drewN n) fun e w2 => e = .returned (.bool true) ∧ w.drewN n = w2 := fun n => (l1Between_any x o y _).mono (fun e w2 h => ⟨by rw [h.1, hbt], h.2⟩)
      generalize fnd R o = s at *
      clear hlv h1 hbt
      go_wp2
      go_quiet ((go_at_call 46; exact quiet_l (HB _)))
      go_wp2_with fail
      refine (l4Follow_any _ R k s _ (by omega) hk h2 (HR.out.dr _)).mono ?_
      rintro e w5 ⟨u5, rfl, o5, b5⟩
      have c5 := bNext (bDr (Below.refl _ _) _) b5
      go_wp2
      go_ret2
      exact ⟨_, by rw [HLV.out]; rfl, by rw [HS1.out]; exact o5, c5⟩
    | false =>
      have HLV : Hid (closerG R k o = false) := Lib.hid (by rw [HG.out, hlv, hbt]; rfl)
      have HS1 : Hid (closerS R k o = R) := Lib.hid (by rw [HS.out, HLV.out]; rfl)
      have HB : ∀ n, Calls Try.prog 46 #[.int .i64 x, .int .i64 o, .int .i64 y] (w.drewN n) fun e w2 => e = .returned (.bool false) ∧ w.drewN n = w2 := fun n => (l1Between_any x o y _).mono (fun e w2 h => ⟨by rw [h.1, hbt], h.2⟩)
      generalize fnd R o = s at *
      clear hlv h1 hbt
      go_wp2
      go_quiet ((go_at_call 46; exact quiet_l (HB _)))
      go_wp2_with fail
      refine (l3Copy_any _ R _ (by omega) (HR.out.dr _)).mono ?_
      rintro e w5 ⟨u5, rfl, o5, b5⟩
      have c5 := bNext (bDr (Below.refl _ _) _) b5
      go_wp2
      go_ret2
      exact ⟨_, by rw [HLV.out]; rfl, by rw [HS1.out]; exact o5, c5⟩
  | false =>
    have h1 := fdI_dead hlv
    rw [h1]
    have HLV : Hid (closerG R k o = false) := Lib.hid (by rw [HG.out, hlv]; rfl)
    have HS1 : Hid (closerS R k o = R) := Lib.hid (by rw [HS.out, HLV.out]; rfl)
    clear hlv h1
    go_wp2
    go_quiet (fail)
    go_wp2_with fail
    refine (l3Copy_any _ R _ (by omega) (HR.out.dr _)).mono ?_
    rintro e w5 ⟨u5, rfl, o5, b5⟩
    have c5 := bNext (bDr (Below.refl _ _) _) b5
    go_wp2
    go_ret2
    exact ⟨_, by rw [HLV.out]; rfl, by rw [HS1.out]; exact o5, c5⟩
end Go.Proofs.Ythgekfiodedelaa
