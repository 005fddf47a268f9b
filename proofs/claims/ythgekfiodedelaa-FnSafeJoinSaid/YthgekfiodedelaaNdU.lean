/- spec.l4One and the four steps at a safe ring's member (as the draws use them). -/
import Derived.Test.YthgekfiodedelaaNdT
namespace Go.Proofs.Ythgekfiodedelaa
open Go.RowKit
set_option linter.unusedVariables false
set_option linter.unusedSimpArgs false

theorem ValidL.pt {R : List Nd} (h : ValidL R) {x : Int} (hx : liveR R x = true) : ptB x = true := by
  have := h.ascI.2 x ((live_iff R x).1 hx); exact ptB_of (by omega)

set_option maxRecDepth 100000 in
set_option maxHeartbeats 4000000 in
theorem l4One_ok (v : Value) (R : List Nd) (x : Int) (w : World) (hv : ValidL R) (hs : safeL R = true) (hx : liveR R x = true) (hr : RR w v R) :
    Calls Try.prog 119 #[v, .int .i64 x] w fun e w' => e = .returned (.tuple #[.int .i64 (fnd R x), .bool true]) ∧ Below w.heap.size w w' := by
  have HR := Lib.hid hr; clear hr
  have HS : Hid (sfD (dats R) = true) := Lib.hid (by rw [sfD_dats hv]; exact hs)
  have HP := Lib.hid (hv.pt hx)
  have HF := Lib.hid (fdI_live hx).1
  have h10 := hv.len
  clear hs hv hx
  go_enter Try.func119, Try.ntmps119
  go_wp2_with fail
  refine (specRingSafe_any v (dats R) _ (by rw [dats_len]; omega) HR.out).mono ?_
  rw [HS.out]
  rintro e w1 ⟨rfl, b1⟩
  go_wp2_with fail
  refine (l1Point_any x _).mono ?_
  rw [HP.out]
  rintro e w2 ⟨rfl, rfl⟩
  go_wp2_with fail
  refine (l3Find_any v R x _ (by omega) (HR.out.bl b1)).mono ?_
  rw [HF.out]
  rintro e w2 ⟨rfl, rfl⟩
  go_wp2
  go_ret2
  exact ⟨rfl, b1⟩

set_option maxRecDepth 100000 in
set_option maxHeartbeats 4000000 in
theorem specRingDrop_ok (v : Value) (R : List Nd) (x : Int) (w : World) (hv : ValidL R) (hs : safeL R = true) (hx : liveR R x = true) (hr : RR w v R) :
    Calls Try.prog 107 #[v, .int .i64 x] w fun e w' => ∃ u t, e = .returned (.tuple #[u, .bool t]) ∧ OwnRingS w' w.heap.size u (dats (dropS R (fnd R x))) ∧ Below w.heap.size w w' := by
  have HR := Lib.hid hr
  have h1 := (fdI_live hx).2
  have h10 := hv.len
  have hr1 := (hv.ok _ (nth_mem h1)).r1
  go_enter Try.func107, Try.ntmps107
  go_wp2_with fail
  refine (l4One_ok v R x _ hv hs hx HR.out).mono ?_
  rintro e w1 ⟨rfl, b1⟩
  clear hs hv hx hr
  generalize hk : fnd R x = k at *
  have HK := Lib.hid hk; clear hk
  go_wp2_with fail
  refine (l4Drop_any v R k _ (by omega) h1 hr1 (HR.out.bl b1)).mono ?_
  rintro e w2 ⟨u, rfl, o2, b2⟩
  have c2 := bNext b1 b2
  have o3 := o2.base (B' := w.heap.size) b1.size
  go_wp2
  go_ret2
  exact ⟨u, _, rfl, by rw [HK.out]; exact o3, c2⟩
set_option maxRecDepth 100000 in
set_option maxHeartbeats 4000000 in
theorem specRingAdopt_ok (v : Value) (R : List Nd) (x : Int) (w : World) (hv : ValidL R) (hs : safeL R = true) (hx : liveR R x = true) (hr : RR w v R) :
    Calls Try.prog 108 #[v, .int .i64 x] w fun e w' => ∃ u t, e = .returned (.tuple #[u, .bool t]) ∧ OwnRingS w' w.heap.size u (dats (adoptS R (fnd R x))) ∧ Below w.heap.size w w' := by
  have HR := Lib.hid hr
  have h1 := (fdI_live hx).2
  have h10 := hv.len
  have hr1 := (hv.ok _ (nth_mem h1)).r1
  go_enter Try.func108, Try.ntmps108
  go_wp2_with fail
  refine (l4One_ok v R x _ hv hs hx HR.out).mono ?_
  rintro e w1 ⟨rfl, b1⟩
  clear hs hv hx hr
  generalize hk : fnd R x = k at *
  have HK := Lib.hid hk; clear hk
  go_wp2_with fail
  refine (l4Adopt_any v R k _ (by omega) h1 (HR.out.bl b1)).mono ?_
  rintro e w2 ⟨u, rfl, o2, b2⟩
  have c2 := bNext b1 b2
  have o3 := o2.base (B' := w.heap.size) b1.size
  go_wp2
  go_ret2
  exact ⟨u, _, rfl, by rw [HK.out]; exact o3, c2⟩
set_option maxRecDepth 100000 in
set_option maxHeartbeats 4000000 in
theorem specRingCloser_ok (v : Value) (R : List Nd) (x o : Int) (w : World) (hv : ValidL R) (hs : safeL R = true) (hx : liveR R x = true) (ho : ptB o = true) (hr : RR w v R) :
    Calls Try.prog 109 #[v, .int .i64 x, .int .i64 o] w fun e w' => ∃ u t, e = .returned (.tuple #[u, .bool t]) ∧ OwnRingS w' w.heap.size u (dats (closerS R (fnd R x) o)) ∧ Below w.heap.size w w' := by
  have HR := Lib.hid hr
  have h1 := (fdI_live hx).2
  have h10 := hv.len
  have hr1 := (hv.ok _ (nth_mem h1)).r1
  go_enter Try.func109, Try.ntmps109
  go_wp2_with fail
  refine (l4One_ok v R x _ hv hs hx HR.out).mono ?_
  rintro e w1 ⟨rfl, b1⟩
  clear hs hv hx hr
  generalize hk : fnd R x = k at *
  have HK := Lib.hid hk; clear hk
  go_wp2_with fail
  refine (l1Point_any o _).mono ?_
  rw [ho]
  rintro e w2 ⟨rfl, rfl⟩
  go_wp2_with fail
  refine (l4Closer_any v R k o _ (by omega) h1 (HR.out.bl b1)).mono ?_
  rintro e w2 ⟨u, rfl, o2, b2⟩
  have c2 := bNext b1 b2
  have o3 := o2.base (B' := w.heap.size) b1.size
  go_wp2
  go_ret2
  exact ⟨u, _, rfl, by rw [HK.out]; exact o3, c2⟩
set_option maxRecDepth 100000 in
set_option maxHeartbeats 4000000 in
theorem specRingNotify_ok (v : Value) (R : List Nd) (x o : Int) (w : World) (hv : ValidL R) (hs : safeL R = true) (hx : liveR R x = true) (ho : ptB o = true) (hr : RR w v R) :
    Calls Try.prog 110 #[v, .int .i64 x, .int .i64 o] w fun e w' => ∃ u t, e = .returned (.tuple #[u, .bool t]) ∧ OwnRingS w' w.heap.size u (dats (notifyS R (fnd R x) o)) ∧ Below w.heap.size w w' := by
  have HR := Lib.hid hr
  have h1 := (fdI_live hx).2
  have h10 := hv.len
  have hr1 := (hv.ok _ (nth_mem h1)).r1
  go_enter Try.func110, Try.ntmps110
  go_wp2_with fail
  refine (l4One_ok v R x _ hv hs hx HR.out).mono ?_
  rintro e w1 ⟨rfl, b1⟩
  clear hs hv hx hr
  generalize hk : fnd R x = k at *
  have HK := Lib.hid hk; clear hk
  go_wp2_with fail
  refine (l1Point_any o _).mono ?_
  rw [ho]
  rintro e w2 ⟨rfl, rfl⟩
  go_wp2_with fail
  refine (l4Notify_any v R k o _ (by omega) h1 (HR.out.bl b1)).mono ?_
  rintro e w2 ⟨u, rfl, o2, b2⟩
  have c2 := bNext b1 b2
  have o3 := o2.base (B' := w.heap.size) b1.size
  go_wp2
  go_ret2
  exact ⟨u, _, rfl, by rw [HK.out]; exact o3, c2⟩
end Go.Proofs.Ythgekfiodedelaa
