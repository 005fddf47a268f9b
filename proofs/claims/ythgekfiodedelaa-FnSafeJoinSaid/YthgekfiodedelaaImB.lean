/- slices.IndexFunc and ContainsFunc at nodes; impl.nodeAt. -/
import Derived.Test.YthgekfiodedelaaImA
import Derived.Test.YthgekfiodedelaaNdQ
import Derived.Shelf.Abstract
namespace Go.Proofs.Ythgekfiodedelaa
open Go.RowKit
set_option linter.unusedVariables false
set_option linter.unusedSimpArgs false

/-- The first node at which p holds, or -1. -/
def fstI (p : Nd → Bool) : Nat → List Nd → Int
  | _, [] => -1
  | i, n :: R => if p n then (i : Int) else fstI p (i + 1) R
theorem nth_drop1 {R : List Nd} {j : Nat} (h : j < R.length) : R.drop j = nth R j :: R.drop (j + 1) := by
  rw [List.drop_eq_getElem_cons h]; simp [nth, List.getD, h]
theorem fstI_any (p : Nd → Bool) (R : List Nd) : ∀ i, decide (0 ≤ fstI p i R) = R.any p := by
  induction R with
  | nil => intro i; rfl
  | cons n R ih =>
    intro i
    cases h : p n with
    | true => simp [fstI, h]
    | false => simp only [fstI, h, List.any_cons, Bool.false_or]; exact ih (i + 1)
theorem fstI_none {p : Nd → Bool} {R : List Nd} (h : R.any p = false) : ∀ i, fstI p i R = -1 := by
  induction R with
  | nil => intro i; rfl
  | cons n R ih =>
    intro i
    simp only [List.any_cons, Bool.or_eq_false_iff] at h
    simp only [fstI, h.1]
    exact ih h.2 (i + 1)
theorem fstI_at {p : Nd → Bool} {R : List Nd} {j : Nat} (hj : j < R.length) (h : ∀ i, i < j → p (nth R i) = false) (h2 : p (nth R j) = true) : fstI p 0 R = j := by
  have key : ∀ k, k ≤ j → fstI p 0 R = fstI p k (R.drop k) := by
    intro k
    induction k with
    | zero => intro _; rfl
    | succ k ih =>
      intro hk
      rw [ih (by omega), nth_drop1 (by omega), fstI, h k (by omega)]; simp
  rw [key j (Nat.le_refl _), nth_drop1 hj, fstI, h2]; simp
theorem fstI_id (R : List Nd) (x : Int) : fstI (fun n => n.id == x) 0 R = fdI R x := by
  cases h : liveR R x with
  | false =>
    rw [fdI_dead h]
    refine fstI_none ?_ 0
    rw [List.any_eq_false]
    intro n hn e
    have : x ∈ idsL R := by rw [← (beq_iff_eq.1 e)]; exact List.mem_map_of_mem hn
    rw [(live_iff R x).2 this] at h; cases h
  | true =>
    obtain ⟨h1, h2⟩ := fdI_live h
    rw [h1]
    have hm := (live_iff R x).1 h
    refine fstI_at h2 (fun i hi => ?_) (by simp [fnd_id hm])
    have hl : i < R.length := by omega
    have := List.not_of_lt_findIdx (p := (· == x)) (xs := idsL R) hi
    rw [ids_get hl] at this
    simpa using this

/-- The function value g over the cell cp says p of every node of R, in every world that keeps W. -/
def SaysN (W : World) (g : Nat) (cp : Value) (R : List Nd) (p : Nd → Bool) : Prop :=
  (∀ (args : Array Value) (w : World), (callFunc g args).run Try.prog w = .ok (.enter g args) w) ∧
  ∀ (i : Nat) (w : World) (bs os c : Nat), i < R.length → Below W.heap.size W w → RInts w (.slice (some ⟨bs, os, none⟩) 2 c) [(nth R i).a0, (nth R i).a1] →
    Calls Try.prog g #[.agg #[.int .i64 (nth R i).id, .int .i64 (nth R i).bf, .slice (some ⟨bs, os, none⟩) 2 c], cp] w fun e w' => e = .returned (.bool (p (nth R i))) ∧ Below w.heap.size w w'

set_option maxRecDepth 100000 in
set_option maxHeartbeats 4000000 in
theorem indexFuncN_any (g : Nat) (cp : Value) (p : Nd → Bool) (v : Value) (R : List Nd) (w : World) (hl : R.length ≤ 4096) (hr : RR w v R) (hp : SaysN w g cp R p) :
    Calls Try.prog 77 #[v, .func (.func g) #[] #[cp]] w fun e w' => e = .returned (.int .i64 (fstI p 0 R)) ∧ Below w.heap.size w w' := by
  obtain ⟨a, cap, rfl, hc, hm⟩ := id hr.sl
  have HR := Lib.hid hr; clear hr
  obtain ⟨eg, hp⟩ := hp
  have HP := Lib.hid hp; clear hp
  go_enter Try.func77, Try.ntmps77
  go_wp2
  go_loopw [5, 8] (fun _ i wr => ∃ j : Nat, j ≤ R.length ∧ i = .int .i64 j ∧ Hid (fstI p 0 R = fstI p j (R.drop j)) ∧ Hid (Below w.heap.size w wr)) (fun _ i _ => R.length - (intOf i).toNat)
  case atStart => exact ⟨0, Nat.zero_le _, rfl, Lib.hid rfl, Lib.hid (Below.refl _ _)⟩
  case round =>
    obtain ⟨j, hj, rfl, hH, BJ⟩ := hrel
    by_cases hlt : j < R.length
    · have RJ := HR.out.bl BJ.out
      obtain ⟨b, off, bs, os, c, rfl, hb, hbs, x0, x1, x2, r3, -, -⟩ := RJ.nd j hlt
      have HC := Lib.hid (HP.out j wr bs os c hlt BJ.out r3)
      have hD := Lib.hid (nth_drop1 hlt)
      clear r3 RJ
      generalize nth R j = n at *
      cases q : p n with
      | true =>
        have Q := Lib.hid q; clear q
        go_wp2_with fail
        refine HC.out.mono ?_
        rw [Q.out]
        rintro e w1 ⟨rfl, b1⟩
        have c1 := Lib.hid (bNext BJ.out b1)
        clear b1
        go_wp2
        go_ret
        exact ⟨ret_int (by rw [hH.out, hD.out, fstI, Q.out]; rfl), c1.out⟩
      | false =>
        have Q := Lib.hid q; clear q
        go_wp2_with fail
        refine HC.out.mono ?_
        rw [Q.out]
        rintro e w1 ⟨rfl, b1⟩
        have c1 := Lib.hid (bNext BJ.out b1)
        clear b1
        go_wp2
        go_roundw
        case rel => exact ⟨j + 1, by omega, by go_num, Lib.hid (by rw [hH.out, hD.out, fstI, Q.out]; rfl), c1⟩
        case measure => simp [intOf]; omega
    · go_wp2
      go_ret
      exact ⟨ret_int (by rw [hH.out, List.drop_of_length_le (by omega)]; rfl), BJ.out⟩

set_option maxHeartbeats 1000000 in
theorem containsFuncN_any (g : Nat) (cp : Value) (p : Nd → Bool) (v : Value) (R : List Nd) (w : World) (hl : R.length ≤ 4096) (hr : RR w v R) (hp : SaysN w g cp R p) :
    Calls Try.prog 80 #[v, .func (.func g) #[] #[cp]] w fun e w' => e = .returned (.bool (R.any p)) ∧ Below w.heap.size w w' := by
  have HP := Lib.hid hp; clear hp
  have HR := Lib.hid hr; clear hr
  have HA := Lib.hid (fstI_any p R 0)
  go_enter Try.func80, Try.ntmps80
  go_wp2_with fail
  refine (indexFuncN_any g cp p v R _ hl HR.out HP.out).mono ?_
  rintro e w' ⟨rfl, b1⟩
  generalize fstI p 0 R = q at *
  go_wp2
  go_ret
  exact ⟨ret_bool HA.out, b1⟩

set_option maxHeartbeats 1000000 in
theorem nodeAt1_any (x y z : Int) (s : Value) (g : Nat) (w : World) (hg : g < w.heap.size) (hc : w.cell? ⟨g, 0, none⟩ = some (.int .i64 z)) :
    Calls Try.prog 78 #[.agg #[.int .i64 x, .int .i64 y, s], .pointer (some ⟨g, 0, none⟩)] w fun e w' => e = .returned (.bool (x == z)) ∧ Below w.heap.size w w' := by
  have BK := Blk.new w #[.int .i64 x, .int .i64 y, s] 37
  obtain ⟨y0, y1, y2⟩ := BK.get3
  have B1 := Lib.hid (below_alloc w (.cells #[.int .i64 x, .int .i64 y, s] 37))
  have hc1 := (B1.out.cell (p := ⟨g, 0, none⟩) hg).trans hc
  clear BK hc
  go_enter Try.func78, Try.ntmps78
  go_wp2
  go_ret
  exact ⟨rfl, B1.out⟩

theorem enters78 : ∀ (args : Array Value) (w : World), (callFunc 78 args).run Try.prog w = .ok (.enter 78 args) w := enters_of Try.func78 (by kernel_rfl) rfl

/-- A pointer to the node at a position, or none. -/
def ptrAt (v : Value) (R : List Nd) (x : Int) : Value := if liveR R x then (match v with | .slice (some ⟨b, off, none⟩) _ _ => .pointer (some ⟨b, off + fnd R x * 3, none⟩) | _ => .pointer none) else .pointer none

set_option maxRecDepth 100000 in
set_option maxHeartbeats 4000000 in
theorem nodeAt_any (v : Value) (R : List Nd) (x : Int) (w : World) (hl : R.length ≤ 4096) (hr : RR w v R) :
    Calls Try.prog 49 #[v, .int .i64 x] w fun e w' => e = .returned (ptrAt v R x) ∧ Below w.heap.size w w' := by
  obtain ⟨a, cap, rfl, hc, hm⟩ := id hr.sl
  have B1 := Lib.hid (below_alloc w (.cells #[.int .i64 x] 3))
  have HR := Lib.hid (hr.bl B1.out)
  have hx : (w.alloc (.cells #[.int .i64 x] 3)).cell? ⟨w.heap.size, 0, none⟩ = some (.int .i64 x) := (Blk.new w #[.int .i64 x] 3).get1
  have HS : Hid (SaysN (w.alloc (.cells #[.int .i64 x] 3)) 78 (.pointer (some ⟨w.heap.size, 0, none⟩)) R (fun n => n.id == x)) := Lib.hid ⟨enters78, fun i w' bs os c hi hb hr => by
    refine nodeAt1_any _ _ x _ _ w' (by have := hb.size; simp at this; omega) ?_
    rw [hb.cell (p := ⟨w.heap.size, 0, none⟩) (by simp)]; exact hx⟩
  have HF := Lib.hid (fstI_id R x)
  cases hlv : liveR R x with
  | true =>
    obtain ⟨h1, h2⟩ := fdI_live hlv
    obtain ⟨b, off, bs, os, c, rfl, hb, -⟩ := hr.nd _ h2
    have HE : Hid (ptrAt (.slice (some ⟨b, off, none⟩) R.length cap) R x = .pointer (some ⟨b, off + fnd R x * 3, none⟩)) := Lib.hid (by rw [ptrAt, hlv]; rfl)
    rw [HE.out]
    rw [h1] at HF
    generalize fnd R x = k at *
    clear hr hx h1 hlv
    go_enter Try.func49, Try.ntmps49
    go_wp2_with fail
    refine (indexFuncN_any _ _ _ _ R _ hl HR.out HS.out).mono ?_
    rw [HF.out]
    rintro e w1 ⟨rfl, b1⟩
    have c1 := Lib.hid (bNext B1.out b1)
    clear b1
    go_wp2
    go_ret
    exact ⟨rfl, c1.out⟩
  | false =>
    have h1 := fdI_dead hlv
    have HE : Hid (ptrAt (.slice a R.length cap) R x = .pointer none) := Lib.hid (by unfold ptrAt; rw [if_neg (by rw [hlv]; exact Bool.false_ne_true)])
    rw [HE.out]
    rw [h1] at HF
    clear hr hx h1 hlv
    go_enter Try.func49, Try.ntmps49
    go_wp2_with fail
    refine (indexFuncN_any _ _ _ _ R _ hl HR.out HS.out).mono ?_
    rw [HF.out]
    rintro e w1 ⟨rfl, b1⟩
    have c1 := Lib.hid (bNext B1.out b1)
    clear b1
    go_wp2
    go_ret
    exact ⟨rfl, c1.out⟩
end Go.Proofs.Ythgekfiodedelaa
