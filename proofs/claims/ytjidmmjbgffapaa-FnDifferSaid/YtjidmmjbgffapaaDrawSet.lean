/- What DrawSumsSet draws. -/
import Derived.Test.YtjidmmjbgffapaaDrawSums
import Derived.Deep.RegionWith
namespace Go.Proofs.Ytjidmmjbgffapaa
open Go.RowKit
set_option linter.unusedVariables false
set_option linter.unusedSimpArgs false

def litGet (l : List Int) (m : Int) : Int := l.getD m.toNat 0
theorem lit6 (w3 : World) (z1 z2 z3 z4 z5 z6 m : Int) (h0 : 0 ≤ m) (h1 : m < 6) :
    (w3.alloc (.cells #[.int .i64 z1, .int .i64 z2, .int .i64 z3, .int .i64 z4, .int .i64 z5, .int .i64 z6] 3)).cell? ⟨w3.heap.size, m.toNat, none⟩ = some (.int .i64 (litGet [z1, z2, z3, z4, z5, z6] m)) := by
  rw [cell_of_row _ _ _ _ _ (0, 0) (heap_alloc_new _ _)]
  have : m = 0 ∨ m = 1 ∨ m = 2 ∨ m = 3 ∨ m = 4 ∨ m = 5 := by omega
  rcases this with rfl | rfl | rfl | rfl | rfl | rfl <;> rfl
theorem lit6_after {w3 wn : World} {S b : Nat} {p z1 z2 z3 z4 z5 z6 m : Int} (h : IsRd w3 S b p)
    (hg : (w3.alloc (.cells #[.int .i64 z1, .int .i64 z2, .int .i64 z3, .int .i64 z4, .int .i64 z5, .int .i64 z6] 3)).grownBy wn (some b)) (h0 : 0 ≤ m) (h1 : m < 6) :
    wn.cell? ⟨w3.heap.size, m.toNat, none⟩ = some (.int .i64 (litGet [z1, z2, z3, z4, z5, z6] m)) :=
  hg.cell (lit6 w3 z1 z2 z3 z4 z5 z6 m h0 h1) (by have := h.lt; simp; omega)

theorem gDrew {w wi : World} {b : Nat} (h : w.grownBy wi (some b)) : w.grownBy wi.drew (some b) := h.trans (grown_drewN _ 1 _)
theorem set_close {w w1 w5 we : World} {b : Nat} {u : Value} {xs : List Int} {leaf value : Int} (o5 : OwnInts w5 w1.heap.size u xs) (hbl : b < w1.heap.size) (G5 : w1.grownBy w5 (some b)) (b1 : Below w.heap.size w w1) (hb : w.heap.size ≤ b) (hl2 : xs.length ≤ 31)
    (h : w5.grownBy we (some b)) :
    ∃ u' xs' leaf' value', Ending.returned (.tuple #[u, .int .i64 leaf, .int .i64 value]) = .returned (.tuple #[u', .int .i64 leaf', .int .i64 value']) ∧ OwnInts we w.heap.size u' xs' ∧ xs'.length ≤ 31 ∧ Below w.heap.size w we :=
  ⟨u, xs, leaf, value, rfl, (o5.rd hbl h).base b1.size, hl2, b1.grown (G5.trans h) b1.size (fun j hj => by cases hj; exact hb)⟩

set_option maxHeartbeats 1000000 in
theorem drawSumsSet_any (v : Value) (zs : List Int) (w : World) (hr : RBytes w v zs) (hl : zs.length ≤ 1048576) :
    Calls Try.prog 27 #[v] w fun e w' => ∃ u xs leaf value, e = .returned (.tuple #[u, .int .i64 leaf, .int .i64 value]) ∧ OwnInts w' w.heap.size u xs ∧ xs.length ≤ 31 ∧ Below w.heap.size w w' := by
  go_enter Try.func27, Try.ntmps27
  go_wp2_with fail
  refine (l6Open_any v zs _ hr hl).mono ?_
  rintro e w1 ⟨b, rfl, hb, r1, b1⟩
  go_wp2_with fail
  refine (l92Sums_any _ b 0 _ r1 (by omega)).mono ?_
  rintro e w2 ⟨u, xs, rfl, o2, hl2, ⟨q, hq, r2⟩, g2⟩
  have hbl := r1.lt
  have o2' : OwnInts w2 w1.heap.size u xs := o2
  go_wp2_with fail
  refine (pick_any _ b _ 16 _ r2 (by omega) (by omega) (by omega)).mono ?_
  rintro e w3 ⟨m3, rfl, ⟨p3, p3'⟩, r3, g3⟩
  go_wp2_with fail
  refine (pick_any _ b _ 20 _ r3 (by omega) (by omega) (by omega)).mono ?_
  rintro e w4 ⟨m4, rfl, ⟨p4, p4'⟩, r4, g4⟩
  go_wp2_with fail
  refine (pick_any _ b _ 3 _ r4 (by omega) (by omega) (by omega)).mono ?_
  rintro e w5 ⟨m5, rfl, ⟨p5, p5'⟩, r5, g5⟩
  have hprod : -1 ≤ m4 / 19 * (m5 - 1) ∧ m4 / 19 * (m5 - 1) ≤ 1 := by
    have : m4 / 19 = 0 ∨ m4 / 19 = 1 := by omega
    rcases this with h | h <;> rw [h] <;> omega
  obtain ⟨hp1, hp2⟩ := hprod
  have o5 := ((o2'.rd hbl g3).rd hbl g4).rd hbl g5
  have G5 := ((g2.trans g3).trans g4).trans g5
  clear o2 o2' g2 g3 g4 g5 r1 r2 r3 r4
  obtain ⟨a5, cap5, rfl, -, -, -⟩ := o5.reads
  go_wp2
  have hL6 := lit6
  go_region_with (first | (go_at_call 44; refine (pick_any _ b _ _ _ (by first | exact r5 | assumption | (apply IsRd.alloc; assumption)) (by omega) (by omega) (by omega)).mono ?_; rintro e wn ⟨mn, rfl, ⟨pn, pn'⟩, rn, gn⟩; try (have hl6 := lit6_after (by assumption) gn pn pn')))
  all_goals
    go_wp2
    go_ret3
    refine set_close o5 hbl G5 b1 hb hl2 ?_
    repeat (first | exact grown_refl _ _ | assumption | apply gAlloc | apply gDrew | refine World.grownBy.trans ?_ (by assumption))
end Go.Proofs.Ytjidmmjbgffapaa
