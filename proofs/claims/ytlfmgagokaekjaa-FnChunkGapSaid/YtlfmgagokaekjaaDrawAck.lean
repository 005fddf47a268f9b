/- What DrawTransferAck draws. -/
import Derived.Test.YtlfmgagokaekjaaDrawTr
import Derived.Test.YtlfmgagokaekjaaTrAck
import Derived.Deep.RegionHeld3
namespace Go.Proofs.Ytlfmgagokaekjaa
open Go.RowKit
set_option linter.unusedVariables false
set_option linter.unusedSimpArgs false

theorem run_max2 {P : Program} (w : World) (ts : Array TypeId) (t : TypeId) (x y E : Int) (h : max x y = E) : (Builtin.max_ ts t #[.int .i64 x, .int .i64 y]).run P w = .ok (.int .i64 E) w := by
  have e : (if y < x then x else y) = E := by rw [← h]; split <;> omega
  have e' : (if x < y then y else x) = E := by rw [← h]; split <;> omega
  first | (rw [← e]; simp [Builtin.max_, Builtin.max2]; done) | (rw [← e']; simp [Builtin.max_, Builtin.max2]; done)

set_option maxHeartbeats 1000000 in
theorem drawTransferAck_any (v : Value) (zs : List Int) (w : World) (hr : RBytes w v zs) (hl : zs.length ≤ 1048576) :
    Calls Try.prog 17 #[v] w fun e w' => ∃ u xs n k m, e = .returned (.tuple #[trV u n k, .int .i64 m]) ∧ OwnInts w' w.heap.size u xs ∧ xs.length ≤ 21 ∧ (-9 ≤ n ∧ n ≤ 99) ∧ (-9 ≤ k ∧ k ≤ 99) ∧ (-1 ≤ m ∧ m ≤ 120) ∧ Below w.heap.size w w' := by
  obtain ⟨⟨a, cap, rfl, g1, g2, -⟩, -⟩ := id hr
  have HR := Lib.hid hr; clear hr
  have a0 := below_alloc w (.cells #[.slice none 0 0, .int .i64 0, .int .i64 0] 33)
  have B0 := Blk.new w #[.slice none 0 0, .int .i64 0, .int .i64 0] 33
  go_enter Try.func17, Try.ntmps17
  go_wp2_with fail
  refine (l6Open_any _ zs _ (HR.out.below a0) hl).mono ?_
  rintro e w1 ⟨b, rfl, hb, r1, b1⟩
  have B1 := B0.bl b1
  have c1 := bNext a0 b1
  simp only [World.size_alloc] at hb
  have hlt := r1.lt
  go_wp2_with fail
  refine (l92Transfer_any _ b 0 _ r1 (by omega)).mono ?_
  unfold trV
  rintro e w2 ⟨u, xs, n, k, rfl, o2, hl2, ⟨hn0, hn1⟩, ⟨hk0, hk1⟩, ⟨q, hq, r2⟩, g2⟩
  obtain ⟨a2, q2, rfl, -, -, -⟩ := o2.reads
  have B2 := B1.gr g2 (fun j hj => by cases hj; omega)
  have c2 := bGr c1 g2 (fun j hj => by cases hj; omega)
  have h1 := c1.size
  have h2 := g2.size
  have hB := B1.lt
  have hB2 := B2.lt
  have B5 := (Blk.new w2 #[.slice a2 xs.length q2, .int .i64 n, .int .i64 k] 33).d1
  have B6 := (B2.al (.cells #[.slice a2 xs.length q2, .int .i64 n, .int .i64 k] 33)).d1
  have o6 := (o2.al (.cells #[.slice a2 xs.length q2, .int .i64 n, .int .i64 k] 33)).d1
  have r6 := (r2.alloc (.cells #[.slice a2 xs.length q2, .int .i64 n, .int .i64 k] 33)).drew
  have c6 := bD1 (bAl c2 (.cells #[.slice a2 xs.length q2, .int .i64 n, .int .i64 k] 33))
  have kk1 := B5.get3
  obtain ⟨y0, y1, y2⟩ := B6.get3; obtain ⟨yf0, yf1, yf2⟩ := B6.fr3
  have kk1' := (B5.po3 w.heap.size (.slice a2 xs.length q2) (.int .i64 n) (.int .i64 k) (by omega)).get3
  have ew : IntKind.i64.wrap (n + 3) = n + 3 := IntWalk.i64_in _ (by omega)
  obtain ⟨M, hM, hM1, hM2⟩ : ∃ M, max (n + 3) 1 = M ∧ 1 ≤ M ∧ M ≤ 102 := ⟨_, rfl, by omega, by omega⟩
  have hmx := fun w ts t => run_max2 (P := Try.prog) w ts t (n + 3) 1 M hM
  clear hM
  go_wp2_with fail
  go_region_held3 (fun w' => w'.cell? ⟨w2.heap.size, 0, none⟩ = some (.slice a2 xs.length q2) ∧ w'.cell? ⟨w2.heap.size, 1, none⟩ = some (.int .i64 n) ∧ w'.cell? ⟨w2.heap.size, 2, none⟩ = some (.int .i64 k)) (first | exact kk1 | exact kk1' | exact kk2 | exact kk3) (first | (go_at_call 41; first | (refine (pick_any _ b q _ _ r6 (by omega) (by omega) (by omega)).mono ?_; rintro e w3 ⟨m, rfl, ⟨hm, hm'⟩, r3, g3⟩; have ew2 : IntKind.i64.wrap (m - 1) = m - 1 := IntWalk.i64_in _ (by omega); have B7 := B6.gr g3 (fun j hj => by cases hj; omega); obtain ⟨z0, z1, z2⟩ := B7.get3; obtain ⟨zf0, zf1, zf2⟩ := B7.fr3; have kk2 := (B5.gr g3 (fun j hj => by cases hj; omega)).get3; have kk3 := ((B5.gr g3 (fun j hj => by cases hj; omega)).po3 w.heap.size (.slice a2 xs.length q2) (.int .i64 n) (.int .i64 k) (by omega)).get3; have o7 := o6.gr g3 (ap_ne fun x hx => by have := (o6.lts x hx).1; omega); have c7 := bGr c6 g3 (fun j hj => by cases hj; omega)) | (refine (pick_any _ b q _ _ (((r6.so _ _ _ (by omega) (by omega)).so _ _ _ (by omega) (by omega)).so _ _ _ (by omega) (by omega)) (by omega) (by omega) (by omega)).mono ?_; rintro e w3 ⟨m, rfl, ⟨hm, hm'⟩, r3, g3⟩; have B7 := (B6.put3 (.slice a2 xs.length q2) (.int .i64 n) (.int .i64 k)).gr g3 (fun j hj => by cases hj; omega); have kk2 := ((B5.po3 w.heap.size (.slice a2 xs.length q2) (.int .i64 n) (.int .i64 k) (by omega)).gr g3 (fun j hj => by cases hj; omega)).get3; have o7 := (o6.p3 (g := w.heap.size) (by omega) (.slice a2 xs.length q2) (.int .i64 n) (.int .i64 k)).gr g3 (ap_ne fun x hx => by have := ((o6.p3 (g := w.heap.size) (by omega) (.slice a2 xs.length q2) (.int .i64 n) (.int .i64 k)).lts x hx).1; omega); have c7 := bGr (bP3 c6 (Nat.le_refl _) (.slice a2 xs.length q2) (.int .i64 n) (.int .i64 k)) g3 (fun j hj => by cases hj; omega))))
  all_goals go_wp2
  all_goals refine bodyPost_ret (results_cellrow_tmp rfl _ _ w.heap.size 33 #[.slice a2 xs.length q2, .int .i64 n, .int .i64 k] (0, 0) _ rfl (B7.put3 _ _ _).h Try.underlying33 rfl infoTr) rfl ⟨_, xs, n, k, m - 1, rfl, (o7.p3 (g := w.heap.size) (by omega) _ _ _).base (by omega), hl2, ⟨by omega, by omega⟩, ⟨by omega, by omega⟩, ⟨by omega, by omega⟩, bP3 c7 (Nat.le_refl _) _ _ _⟩
end Go.Proofs.Ytlfmgagokaekjaa
