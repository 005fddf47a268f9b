/- What DrawCachePut draws. -/
import Derived.Test.YtcahemedlmagdaaDrawCa
namespace Go.Proofs.Ytcahemedlmagdaa
open Go.RowKit
set_option linter.unusedVariables false
set_option linter.unusedSimpArgs false

set_option maxHeartbeats 1000000 in
theorem drawCachePut_any (v : Value) (zs : List Int) (w : World) (hr : RBytes w v zs) (hl : zs.length ≤ 1048576) :
    Calls Try.prog 10 #[v] w fun e w' => ∃ u xs key value now, e = .returned (.tuple #[u, .int .i64 key, .int .i64 value, .int .i64 now]) ∧ OwnRow EL entT w' w.heap.size u xs ∧ xs.length ≤ 20 ∧ (25 ≤ now ∧ now ≤ 54) ∧ Below w.heap.size w w' := by
  go_enter Try.func10, Try.ntmps10
  go_wp2_with fail
  refine (l6Open_any v zs _ hr hl).mono ?_
  rintro e w1 ⟨b, rfl, hb, r1, b1⟩
  have hbl := r1.lt
  go_wp2_with fail
  refine (l92Cache_any _ b 0 _ r1 (by omega)).mono ?_
  rintro e w2 ⟨u, xs, rfl, o2, hl2, ⟨q, hq, r2⟩, g2⟩
  have G2 := g2
  have hs1 := b1.size
  obtain ⟨au, capu, rfl, -, -, -⟩ := o2.reads
  go_wp2_with fail
  refine (pick_any _ b _ 10 _ r2 (by omega) (by omega) (by omega)).mono ?_
  rintro e w3 ⟨m3, rfl, ⟨hm3, hn3⟩, r3, g3⟩
  have o3 := o2.gr g3 (ap_ne fun k hk => by have := (o2.lts k hk).1; omega)
  have G3 := G2.trans g3
  go_wp2_with fail
  refine (pick_any _ b _ 20 _ r3 (by omega) (by omega) (by omega)).mono ?_
  rintro e w4 ⟨m4, rfl, ⟨hm4, hn4⟩, r4, g4⟩
  have o4 := o3.gr g4 (ap_ne fun k hk => by have := (o3.lts k hk).1; omega)
  have G4 := G3.trans g4
  go_wp2_with fail
  refine (pick_any _ b _ 102 _ r4 (by omega) (by omega) (by omega)).mono ?_
  rintro e w5 ⟨m5, rfl, ⟨hm5, hn5⟩, r5, g5⟩
  have o5 := o4.gr g5 (ap_ne fun k hk => by have := (o4.lts k hk).1; omega)
  have G5 := G4.trans g5
  go_wp2_with fail
  refine (pick_any _ b _ 30 _ r5 (by omega) (by omega) (by omega)).mono ?_
  rintro e w6 ⟨m6, rfl, ⟨hm6, hn6⟩, r6, g6⟩
  have o6 := o5.gr g6 (ap_ne fun k hk => by have := (o5.lts k hk).1; omega)
  have G6 := G5.trans g6
  go_wp2
  refine bodyPost_ret (v := .tuple #[.slice au xs.length capu, .int .i64 (m3 + m4 / 19 * 60), .int .i64 (m5 - 1), .int .i64 (25 + m6)]) ?_ rfl ⟨_, xs, _, _, _, rfl, o6.base hs1, hl2, ⟨by omega, by omega⟩, b1.grown G6 hs1 (fun j hj => by cases hj; exact hb)⟩
  simp [results, Try.results10, go_sem]
end Go.Proofs.Ytcahemedlmagdaa
