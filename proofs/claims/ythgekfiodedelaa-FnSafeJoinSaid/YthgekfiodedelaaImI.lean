/- impl.RingDrop, RingAdopt, RingCloser, RingNotify at a safe ring's member. -/
import Derived.Test.YthgekfiodedelaaImG
import Derived.Test.YthgekfiodedelaaImH
import Derived.Test.YthgekfiodedelaaNdU
namespace Go.Proofs.Ythgekfiodedelaa
open Go.RowKit
set_option linter.unusedVariables false
set_option linter.unusedSimpArgs false

theorem enters_ringDrop : ∀ (args : Array Value) (w : World), (callFunc 93 args).run Try.prog w = .ok (.enter 93 args) w := enters_of Try.func93 (by kernel_rfl) rfl
set_option maxRecDepth 100000 in
set_option maxHeartbeats 2000000 in
theorem ringDrop_F (w0 : World) (R : List Nd) (id o : Int) (c : Nat) (hv : ValidL R) (hx : liveR R id = true)  (hc : c < w0.heap.size) (hcell : w0.cell? ⟨c, 0, none⟩ = some (.int .i64 id)) : StepF w0 93 #[.pointer (some ⟨c, 0, none⟩)] R (dropS R (fnd R id)) (!liveR R (nth R (fnd R id)).a0) := by
  refine ⟨enters_ringDrop, fun W gS x hS => ?_⟩
  have HC := Lib.hid (dropM_any w0 W gS x R id 0 hv hx  hS)
  have x0 := (hS.bl.cell (p := ⟨c, 0, none⟩) hc).trans hcell
  show Calls Try.prog 93 #[.pointer (some ⟨gS, 0, none⟩), .pointer (some ⟨c, 0, none⟩)] W _
  clear hcell
  go_enter Try.func93, Try.ntmps93
  go_wp2_with fail
  refine HC.out.mono ?_
  rintro e W' ⟨rfl, b, h⟩
  have B := Lib.hid b; have H := Lib.hid h; clear b h
  go_wp2
  go_ret
  exact ⟨rfl, B.out, H.out⟩
theorem take_ringDrop (R : List Nd) (id o : Int)  : takeR R (dropS R (fnd R id)) (!liveR R (nth R (fnd R id)).a0) = dropS R (fnd R id) := by
  unfold takeR dropS
  cases liveR R (nth R (fnd R id)).a0 <;> rfl
set_option maxRecDepth 100000 in
set_option maxHeartbeats 2000000 in
theorem implRingDrop_ok (v : Value) (R : List Nd) (id o : Int) (w : World) (hv : ValidL R) (hs : safeL R = true) (hx : liveR R id = true)  (hr : RR w v R) :
    Calls Try.prog 68 #[v, .int .i64 id] w fun e w' => ∃ x, e = .returned (.tuple #[x, .bool (!liveR R (nth R (fnd R id)).a0)]) ∧ OwnRingS w' w.heap.size x (dats (dropS R (fnd R id))) ∧ Below w.heap.size w w' := by
  have B2 : Hid (Below w.heap.size w ((w.alloc (.cells #[.int .i64 id] 3)).alloc (.cells #[.int .i64 id] 3))) := Lib.hid (bAl (bAl (Below.refl _ _) _) _)
  have x0 : ((w.alloc (.cells #[.int .i64 id] 3)).alloc (.cells #[.int .i64 id] 3)).cell? ⟨w.heap.size, 0, none⟩ = some (.int .i64 id) := (((Blk.new w #[.int .i64 id] 3).al _)).get1
  have HA : Hid (RInts ((w.alloc (.cells #[.int .i64 id] 3)).alloc (.cells #[.int .i64 id] 3)) (.slice (some ⟨w.heap.size + 1, 0, none⟩) 1 1) [id]) := Lib.hid (by have h := lit_reads (w.alloc (.cells #[.int .i64 id] 3)) [id] (by unfold maxLen; simp); rw [World.size_alloc] at h; exact h)
  have HP : Hid ([id].all ptB = true) := Lib.hid (by simp [hv.pt hx])
  have HL : Hid ([id].length ≤ 4096) := Lib.hid (by simp)
  have HF := Lib.hid (ringDrop_F ((w.alloc (.cells #[.int .i64 id] 3)).alloc (.cells #[.int .i64 id] 3)) R id 0 w.heap.size hv hx  (by simp; omega) x0)
  have HR := Lib.hid (hr.bl B2.out)
  have HT := Lib.hid (take_ringDrop R id o)
  have HCT := Lib.hid (take1_ok 93 _ v _ [id] R _ _ ((w.alloc (.cells #[.int .i64 id] 3)).alloc (.cells #[.int .i64 id] 3)) hv hs HR.out HL.out HA.out HP.out HF.out)
  rw [HT.out] at HCT
  clear x0
  clear hs hv hx hr
  go_enter Try.func68, Try.ntmps68
  go_wp2_with fail
  refine HCT.out.mono ?_
  rintro e w5 ⟨x5, rfl, o5, b5⟩
  have c5 := Lib.hid (bNext B2.out b5)
  have O5 := Lib.hid (OwnRingS.base o5 B2.out.size)
  clear o5 b5
  go_wp2
  go_ret2
  exact ⟨_, rfl, O5.out, c5.out⟩

theorem enters_ringAdopt : ∀ (args : Array Value) (w : World), (callFunc 95 args).run Try.prog w = .ok (.enter 95 args) w := enters_of Try.func95 (by kernel_rfl) rfl
set_option maxRecDepth 100000 in
set_option maxHeartbeats 2000000 in
theorem ringAdopt_F (w0 : World) (R : List Nd) (id o : Int) (c : Nat) (hv : ValidL R) (hx : liveR R id = true)  (hc : c < w0.heap.size) (hcell : w0.cell? ⟨c, 0, none⟩ = some (.int .i64 id)) : StepF w0 95 #[.pointer (some ⟨c, 0, none⟩)] R (adoptS R (fnd R id)) (liveR R (nth R (fnd R id)).a0) := by
  refine ⟨enters_ringAdopt, fun W gS x hS => ?_⟩
  have HC := Lib.hid (adoptM_any w0 W gS x R id 0 hv hx  hS)
  have x0 := (hS.bl.cell (p := ⟨c, 0, none⟩) hc).trans hcell
  show Calls Try.prog 95 #[.pointer (some ⟨gS, 0, none⟩), .pointer (some ⟨c, 0, none⟩)] W _
  clear hcell
  go_enter Try.func95, Try.ntmps95
  go_wp2_with fail
  refine HC.out.mono ?_
  rintro e W' ⟨rfl, b, h⟩
  have B := Lib.hid b; have H := Lib.hid h; clear b h
  go_wp2
  go_ret
  exact ⟨rfl, B.out, H.out⟩
theorem take_ringAdopt (R : List Nd) (id o : Int)  : takeR R (adoptS R (fnd R id)) (liveR R (nth R (fnd R id)).a0) = adoptS R (fnd R id) := by
  unfold takeR adoptS
  cases liveR R (nth R (fnd R id)).a0 <;> rfl
set_option maxRecDepth 100000 in
set_option maxHeartbeats 2000000 in
theorem implRingAdopt_ok (v : Value) (R : List Nd) (id o : Int) (w : World) (hv : ValidL R) (hs : safeL R = true) (hx : liveR R id = true)  (hr : RR w v R) :
    Calls Try.prog 69 #[v, .int .i64 id] w fun e w' => ∃ x, e = .returned (.tuple #[x, .bool (liveR R (nth R (fnd R id)).a0)]) ∧ OwnRingS w' w.heap.size x (dats (adoptS R (fnd R id))) ∧ Below w.heap.size w w' := by
  have B2 : Hid (Below w.heap.size w ((w.alloc (.cells #[.int .i64 id] 3)).alloc (.cells #[.int .i64 id] 3))) := Lib.hid (bAl (bAl (Below.refl _ _) _) _)
  have x0 : ((w.alloc (.cells #[.int .i64 id] 3)).alloc (.cells #[.int .i64 id] 3)).cell? ⟨w.heap.size, 0, none⟩ = some (.int .i64 id) := (((Blk.new w #[.int .i64 id] 3).al _)).get1
  have HA : Hid (RInts ((w.alloc (.cells #[.int .i64 id] 3)).alloc (.cells #[.int .i64 id] 3)) (.slice (some ⟨w.heap.size + 1, 0, none⟩) 1 1) [id]) := Lib.hid (by have h := lit_reads (w.alloc (.cells #[.int .i64 id] 3)) [id] (by unfold maxLen; simp); rw [World.size_alloc] at h; exact h)
  have HP : Hid ([id].all ptB = true) := Lib.hid (by simp [hv.pt hx])
  have HL : Hid ([id].length ≤ 4096) := Lib.hid (by simp)
  have HF := Lib.hid (ringAdopt_F ((w.alloc (.cells #[.int .i64 id] 3)).alloc (.cells #[.int .i64 id] 3)) R id 0 w.heap.size hv hx  (by simp; omega) x0)
  have HR := Lib.hid (hr.bl B2.out)
  have HT := Lib.hid (take_ringAdopt R id o)
  have HCT := Lib.hid (take1_ok 95 _ v _ [id] R _ _ ((w.alloc (.cells #[.int .i64 id] 3)).alloc (.cells #[.int .i64 id] 3)) hv hs HR.out HL.out HA.out HP.out HF.out)
  rw [HT.out] at HCT
  clear x0
  clear hs hv hx hr
  go_enter Try.func69, Try.ntmps69
  go_wp2_with fail
  refine HCT.out.mono ?_
  rintro e w5 ⟨x5, rfl, o5, b5⟩
  have c5 := Lib.hid (bNext B2.out b5)
  have O5 := Lib.hid (OwnRingS.base o5 B2.out.size)
  clear o5 b5
  go_wp2
  go_ret2
  exact ⟨_, rfl, O5.out, c5.out⟩

theorem enters_ringCloser : ∀ (args : Array Value) (w : World), (callFunc 97 args).run Try.prog w = .ok (.enter 97 args) w := enters_of Try.func97 (by kernel_rfl) rfl
set_option maxRecDepth 100000 in
set_option maxHeartbeats 2000000 in
theorem ringCloser_F (w0 : World) (R : List Nd) (id o : Int) (c d : Nat) (hv : ValidL R) (hx : liveR R id = true) (ho : 0 ≤ o ∧ o < 64) (hc : c < w0.heap.size) (hcell : w0.cell? ⟨c, 0, none⟩ = some (.int .i64 id)) (hd : d < w0.heap.size) (hcelld : w0.cell? ⟨d, 0, none⟩ = some (.int .i64 o)) : StepF w0 97 #[.pointer (some ⟨c, 0, none⟩), .pointer (some ⟨d, 0, none⟩)] R (closerS R (fnd R id) o) (closerG R (fnd R id) o) := by
  refine ⟨enters_ringCloser, fun W gS x hS => ?_⟩
  have HC := Lib.hid (closerM_any w0 W gS x R id o hv hx ho hS)
  have x0 := (hS.bl.cell (p := ⟨c, 0, none⟩) hc).trans hcell
  have x1 := (hS.bl.cell (p := ⟨d, 0, none⟩) hd).trans hcelld
  show Calls Try.prog 97 #[.pointer (some ⟨gS, 0, none⟩), .pointer (some ⟨c, 0, none⟩), .pointer (some ⟨d, 0, none⟩)] W _
  clear hcell hcelld
  go_enter Try.func97, Try.ntmps97
  go_wp2_with fail
  refine HC.out.mono ?_
  rintro e W' ⟨rfl, b, h⟩
  have B := Lib.hid b; have H := Lib.hid h; clear b h
  go_wp2
  go_ret
  exact ⟨rfl, B.out, H.out⟩
theorem take_ringCloser (R : List Nd) (id o : Int)  : takeR R (closerS R (fnd R id) o) (closerG R (fnd R id) o) = closerS R (fnd R id) o := by
  unfold takeR closerS
  cases closerG R (fnd R id) o <;> rfl
set_option maxRecDepth 100000 in
set_option maxHeartbeats 2000000 in
theorem implRingCloser_ok (v : Value) (R : List Nd) (id o : Int) (w : World) (hv : ValidL R) (hs : safeL R = true) (hx : liveR R id = true) (ho : 0 ≤ o ∧ o < 64) (hr : RR w v R) :
    Calls Try.prog 70 #[v, .int .i64 id, .int .i64 o] w fun e w' => ∃ x, e = .returned (.tuple #[x, .bool (closerG R (fnd R id) o)]) ∧ OwnRingS w' w.heap.size x (dats (closerS R (fnd R id) o)) ∧ Below w.heap.size w w' := by
  have B2 : Hid (Below w.heap.size w (((w.alloc (.cells #[.int .i64 id] 3)).alloc (.cells #[.int .i64 o] 3)).alloc (.cells #[.int .i64 id, .int .i64 o] 3))) := Lib.hid (bAl (bAl (bAl (Below.refl _ _) _) _) _)
  have x0 : (((w.alloc (.cells #[.int .i64 id] 3)).alloc (.cells #[.int .i64 o] 3)).alloc (.cells #[.int .i64 id, .int .i64 o] 3)).cell? ⟨w.heap.size, 0, none⟩ = some (.int .i64 id) := (((Blk.new w #[.int .i64 id] 3).al _).al _).get1
  have x1 : (((w.alloc (.cells #[.int .i64 id] 3)).alloc (.cells #[.int .i64 o] 3)).alloc (.cells #[.int .i64 id, .int .i64 o] 3)).cell? ⟨w.heap.size + 1, 0, none⟩ = some (.int .i64 o) := by have h := (((Blk.new (w.alloc (.cells #[.int .i64 id] 3)) #[.int .i64 o] 3).al (.cells #[.int .i64 id, .int .i64 o] 3))).get1; simpa using h
  have HA : Hid (RInts (((w.alloc (.cells #[.int .i64 id] 3)).alloc (.cells #[.int .i64 o] 3)).alloc (.cells #[.int .i64 id, .int .i64 o] 3)) (.slice (some ⟨w.heap.size + 1 + 1, 0, none⟩) 2 2) [id, o]) := Lib.hid (by have h := lit_reads ((w.alloc (.cells #[.int .i64 id] 3)).alloc (.cells #[.int .i64 o] 3)) [id, o] (by unfold maxLen; simp); rw [World.size_alloc, World.size_alloc] at h; exact h)
  have HP : Hid ([id, o].all ptB = true) := Lib.hid (by simp [hv.pt hx, ptB_of (show 0 ≤ o ∧ o ≤ 63 by have := ho; omega)])
  have HL : Hid ([id, o].length ≤ 4096) := Lib.hid (by simp)
  have HF := Lib.hid (ringCloser_F (((w.alloc (.cells #[.int .i64 id] 3)).alloc (.cells #[.int .i64 o] 3)).alloc (.cells #[.int .i64 id, .int .i64 o] 3)) R id o w.heap.size (w.heap.size + 1) hv hx ho (by simp; omega) x0 (by simp) x1)
  have HR := Lib.hid (hr.bl B2.out)
  have HT := Lib.hid (take_ringCloser R id o)
  have HCT := Lib.hid (take2_ok 97 _ _ v _ [id, o] R _ _ (((w.alloc (.cells #[.int .i64 id] 3)).alloc (.cells #[.int .i64 o] 3)).alloc (.cells #[.int .i64 id, .int .i64 o] 3)) hv hs HR.out HL.out HA.out HP.out HF.out)
  rw [HT.out] at HCT
  clear x0 x1
  clear hs hv hx hr
  go_enter Try.func70, Try.ntmps70
  go_wp2_with fail
  refine HCT.out.mono ?_
  rintro e w5 ⟨x5, rfl, o5, b5⟩
  have c5 := Lib.hid (bNext B2.out b5)
  have O5 := Lib.hid (OwnRingS.base o5 B2.out.size)
  clear o5 b5
  go_wp2
  go_ret2
  exact ⟨_, rfl, O5.out, c5.out⟩

theorem enters_ringNotify : ∀ (args : Array Value) (w : World), (callFunc 99 args).run Try.prog w = .ok (.enter 99 args) w := enters_of Try.func99 (by kernel_rfl) rfl
set_option maxRecDepth 100000 in
set_option maxHeartbeats 2000000 in
theorem ringNotify_F (w0 : World) (R : List Nd) (id o : Int) (c d : Nat) (hv : ValidL R) (hx : liveR R id = true) (hlo : liveR R o = true) (hne : o ≠ id) (hc : c < w0.heap.size) (hcell : w0.cell? ⟨c, 0, none⟩ = some (.int .i64 id)) (hd : d < w0.heap.size) (hcelld : w0.cell? ⟨d, 0, none⟩ = some (.int .i64 o)) : StepF w0 99 #[.pointer (some ⟨c, 0, none⟩), .pointer (some ⟨d, 0, none⟩)] R (notifyS R (fnd R id) o) (notifyG R (fnd R id) o) := by
  refine ⟨enters_ringNotify, fun W gS x hS => ?_⟩
  have HC := Lib.hid (notifyM_any w0 W gS x R id o hv hx hlo hne hS)
  have x0 := (hS.bl.cell (p := ⟨c, 0, none⟩) hc).trans hcell
  have x1 := (hS.bl.cell (p := ⟨d, 0, none⟩) hd).trans hcelld
  show Calls Try.prog 99 #[.pointer (some ⟨gS, 0, none⟩), .pointer (some ⟨c, 0, none⟩), .pointer (some ⟨d, 0, none⟩)] W _
  clear hcell hcelld
  go_enter Try.func99, Try.ntmps99
  go_wp2_with fail
  refine HC.out.mono ?_
  rintro e W' ⟨rfl, b, h⟩
  have B := Lib.hid b; have H := Lib.hid h; clear b h
  go_wp2
  go_ret
  exact ⟨rfl, B.out, H.out⟩
theorem take_ringNotify (R : List Nd) (id o : Int)  : takeR R (notifyS R (fnd R id) o) (notifyG R (fnd R id) o) = notifyS R (fnd R id) o := by
  unfold takeR notifyS
  cases notifyG R (fnd R id) o <;> rfl
set_option maxRecDepth 100000 in
set_option maxHeartbeats 2000000 in
theorem implRingNotify_ok (v : Value) (R : List Nd) (id o : Int) (w : World) (hv : ValidL R) (hs : safeL R = true) (hx : liveR R id = true) (hlo : liveR R o = true) (hne : o ≠ id) (hr : RR w v R) :
    Calls Try.prog 71 #[v, .int .i64 id, .int .i64 o] w fun e w' => ∃ x, e = .returned (.tuple #[x, .bool (notifyG R (fnd R id) o)]) ∧ OwnRingS w' w.heap.size x (dats (notifyS R (fnd R id) o)) ∧ Below w.heap.size w w' := by
  have B2 : Hid (Below w.heap.size w (((w.alloc (.cells #[.int .i64 id] 3)).alloc (.cells #[.int .i64 o] 3)).alloc (.cells #[.int .i64 id, .int .i64 o] 3))) := Lib.hid (bAl (bAl (bAl (Below.refl _ _) _) _) _)
  have x0 : (((w.alloc (.cells #[.int .i64 id] 3)).alloc (.cells #[.int .i64 o] 3)).alloc (.cells #[.int .i64 id, .int .i64 o] 3)).cell? ⟨w.heap.size, 0, none⟩ = some (.int .i64 id) := (((Blk.new w #[.int .i64 id] 3).al _).al _).get1
  have x1 : (((w.alloc (.cells #[.int .i64 id] 3)).alloc (.cells #[.int .i64 o] 3)).alloc (.cells #[.int .i64 id, .int .i64 o] 3)).cell? ⟨w.heap.size + 1, 0, none⟩ = some (.int .i64 o) := by have h := (((Blk.new (w.alloc (.cells #[.int .i64 id] 3)) #[.int .i64 o] 3).al (.cells #[.int .i64 id, .int .i64 o] 3))).get1; simpa using h
  have HA : Hid (RInts (((w.alloc (.cells #[.int .i64 id] 3)).alloc (.cells #[.int .i64 o] 3)).alloc (.cells #[.int .i64 id, .int .i64 o] 3)) (.slice (some ⟨w.heap.size + 1 + 1, 0, none⟩) 2 2) [id, o]) := Lib.hid (by have h := lit_reads ((w.alloc (.cells #[.int .i64 id] 3)).alloc (.cells #[.int .i64 o] 3)) [id, o] (by unfold maxLen; simp); rw [World.size_alloc, World.size_alloc] at h; exact h)
  have HP : Hid ([id, o].all ptB = true) := Lib.hid (by simp [hv.pt hx, ptB_of (show 0 ≤ o ∧ o ≤ 63 by have := hv.ascI.2 o ((live_iff R o).1 hlo); omega)])
  have HL : Hid ([id, o].length ≤ 4096) := Lib.hid (by simp)
  have HF := Lib.hid (ringNotify_F (((w.alloc (.cells #[.int .i64 id] 3)).alloc (.cells #[.int .i64 o] 3)).alloc (.cells #[.int .i64 id, .int .i64 o] 3)) R id o w.heap.size (w.heap.size + 1) hv hx hlo hne (by simp; omega) x0 (by simp) x1)
  have HR := Lib.hid (hr.bl B2.out)
  have HT := Lib.hid (take_ringNotify R id o)
  have HCT := Lib.hid (take2_ok 99 _ _ v _ [id, o] R _ _ (((w.alloc (.cells #[.int .i64 id] 3)).alloc (.cells #[.int .i64 o] 3)).alloc (.cells #[.int .i64 id, .int .i64 o] 3)) hv hs HR.out HL.out HA.out HP.out HF.out)
  rw [HT.out] at HCT
  clear x0 x1
  clear hs hv hx hr
  go_enter Try.func71, Try.ntmps71
  go_wp2_with fail
  refine HCT.out.mono ?_
  rintro e w5 ⟨x5, rfl, o5, b5⟩
  have c5 := Lib.hid (bNext B2.out b5)
  have O5 := Lib.hid (OwnRingS.base o5 B2.out.size)
  clear o5 b5
  go_wp2
  go_ret2
  exact ⟨_, rfl, O5.out, c5.out⟩

end Go.Proofs.Ythgekfiodedelaa
