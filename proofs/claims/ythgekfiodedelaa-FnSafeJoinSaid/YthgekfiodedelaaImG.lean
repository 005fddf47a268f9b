/- ringStep's drop, adopt. -/
import Derived.Test.YthgekfiodedelaaImF
namespace Go.Proofs.Ythgekfiodedelaa
open Go.RowKit
set_option linter.unusedVariables false
set_option linter.unusedSimpArgs false

set_option maxRecDepth 100000 in
set_option maxHeartbeats 8000000 in
theorem dropM_any (w0 W : World) (gS : Nat) (x : Value) (R : List Nd) (id o : Int) (hv : ValidL R) (hx : liveR R id = true) (hS : SS w0 W gS x R) :
    Calls Try.prog 94 #[.pointer (some ⟨gS, 0, none⟩), .int .i64 id, .int .i64 o] W fun e W' => e = .returned (.bool (!liveR R (nth R (fnd R id)).a0)) ∧ Below w0.heap.size w0 W' ∧ ((!liveR R (nth R (fnd R id)).a0) = true → ∃ x', SS w0 W' gS x' (dropS R (fnd R id))) := by
  have h10 := hv.len
  have hk := (fdI_live hx).2
  have hr1 := (hv.ok _ (nth_mem hk)).r1
  obtain ⟨g, cap, rfl, hg0, hgW, hne1, hne2, hc1, hc2⟩ := hS.shape (by omega)
  have HPT := Lib.hid (ptrAt_own (g := g) (n := R.length) (cap := cap) hx)
  have HD0 : Hid (dropS R (fnd R id) = if liveR R (nth R (fnd R id)).a0 then R else R.set (fnd R id) ⟨(nth R (fnd R id)).id, (nth R (fnd R id)).bf, (nth R (fnd R id)).a1, ((nth R (fnd R id)).a1 + 1) % 64⟩) := Lib.hid rfl
  generalize fnd R id = k at *
  have c0 := hS.c
  have S0 := Lib.hid hS
  clear hv hx hS
  go_enter Try.func94, Try.ntmps94
  go_wp2_with fail
  refine (nodeAt_any _ R id _ (by omega) S0.out.rr).mono ?_
  rw [HPT.out]
  rintro e w1 ⟨rfl, b1⟩
  have S1 := Lib.hid (S0.out.nx b1)
  clear c0 b1 S0
  obtain ⟨bs, os, c, hbs, x0, x1, x2, -, v0, v1⟩ := S1.out.nd hk
  have c1 := S1.out.c
  have lS := S1.out.lt
  have lg : g < w1.heap.size := (S1.out.ow.elim fun hs h => (h.row.lts g rfl).2)
  have AF := Lib.hid (fun V (h : SS w0 V gS (.slice (some ⟨g, 0, none⟩) R.length cap) R) => h.af hk (nth R k).a1 (((nth R k).a1 + 1) % 64))
  generalize hn : nth R k = n at *
  have HN := Lib.hid hn; clear hn
  go_wp2
  have kk0 := And.intro (show w1.drew.cell? _ = _ from c1) (And.intro (show w1.drew.cell? _ = _ from x2) (show w1.drew.cell? _ = _ from v0))
  have RA := S1.out.rr.d1
  cases q : liveR R n.a0 with
  | true =>
    obtain ⟨p, hp⟩ := ptrAt_live RA q
    have HP := Lib.hid hp; clear hp
    have Q : Hid (liveR R (nth R k).a0 = true) := Lib.hid (by rw [HN.out]; exact q)
    clear q
    go_region_held3 (fun w' => w'.cell? ⟨gS, 0, none⟩ = some (.slice (some ⟨g, 0, none⟩) R.length cap) ∧ w'.cell? ⟨g, k * 3 + 2, none⟩ = some (.slice (some ⟨bs, os, none⟩) 2 c) ∧ w'.cell? ⟨bs, os, none⟩ = some (.int .i64 n.a0)) (first | with_reducible exact kk0 | with_reducible exact kk5) ((go_at_call 49; refine (nodeAt_any _ R n.a0 _ (by omega) RA).mono ?_; rw [HP.out]; rintro e w5 ⟨rfl, b5⟩; have kk5 := And.intro ((b5.cell lS).trans kk0.1) (And.intro ((b5.cell lg).trans kk0.2.1) ((b5.cell hbs).trans kk0.2.2)); have S5 := Lib.hid (S1.out.d1.nx b5)))
    all_goals
      go_wp2
      go_ret
      exact ⟨ret_bool (by rw [Q.out]; rfl), S5.out.bl, fun h => by rw [Q.out] at h; cases h⟩
  | false =>
    have hp := ptrAt_dead (v := .slice (some ⟨g, 0, none⟩) R.length cap) q
    have HP := Lib.hid hp; clear hp
    have Q : Hid (liveR R (nth R k).a0 = false) := Lib.hid (by rw [HN.out]; exact q)
    clear q
    have HD : Hid (dropS R k = R.set k ⟨n.id, n.bf, n.a1, (n.a1 + 1) % 64⟩) := Lib.hid (by rw [HD0.out, ← HN.out, Q.out]; rfl)
    have e1 : IntKind.i64.wrap (n.a1 + 1) = n.a1 + 1 := IntWalk.i64_in _ (by omega)
    have e2 : Int.tmod (n.a1 + 1) 64 = (n.a1 + 1) % 64 := Int.tmod_eq_emod_of_nonneg (by omega)
    have e3 : (0 : Int) ≤ n.a1 + 1 := by omega
    clear HD0 hr1
    go_region_held3 (fun w' => w'.cell? ⟨gS, 0, none⟩ = some (.slice (some ⟨g, 0, none⟩) R.length cap) ∧ w'.cell? ⟨g, k * 3 + 2, none⟩ = some (.slice (some ⟨bs, os, none⟩) 2 c) ∧ w'.cell? ⟨bs, os, none⟩ = some (.int .i64 n.a0)) (first | with_reducible exact kk0 | with_reducible exact kk5) ((go_at_call 49; refine (nodeAt_any _ R n.a0 _ (by omega) RA).mono ?_; rw [HP.out]; rintro e w5 ⟨rfl, b5⟩; have kk5 := And.intro ((b5.cell lS).trans kk0.1) (And.intro ((b5.cell lg).trans kk0.2.1) ((b5.cell hbs).trans kk0.2.2)); have S5 := Lib.hid (S1.out.d1.nx b5); have y1 : w5.cell? ⟨bs, os + 1, none⟩ = some (.int .i64 n.a1) := (b5.cell (w := w1.drew) hbs).trans v1; have y2 := kk5.2.1; have y3 := S5.out.frz (k * 3 + 2); have lg5 : g < w5.heap.size := Nat.lt_of_lt_of_le lg b5.size; have lb5 : bs < w5.heap.size := Nat.lt_of_lt_of_le hbs b5.size))
    all_goals
      clear x0 x1 x2 v0 v1 c1 kk0 kk5
      go_wp2
      go_region
      have S6 := Lib.hid ((AF.out w5 S5.out).d1)
      clear y1 y2 y3
      go_wp2
      go_ret
      exact ⟨ret_bool (by rw [Q.out]; rfl), S6.out.bl, fun _ => ⟨_, by rw [HD.out]; exact S6.out⟩⟩

set_option maxRecDepth 100000 in
set_option maxHeartbeats 8000000 in
theorem adoptM_any (w0 W : World) (gS : Nat) (x : Value) (R : List Nd) (id o : Int) (hv : ValidL R) (hx : liveR R id = true) (hS : SS w0 W gS x R) :
    Calls Try.prog 96 #[.pointer (some ⟨gS, 0, none⟩), .int .i64 id, .int .i64 o] W fun e W' => e = .returned (.bool (liveR R (nth R (fnd R id)).a0)) ∧ Below w0.heap.size w0 W' ∧ (liveR R (nth R (fnd R id)).a0 = true → ∃ x', SS w0 W' gS x' (adoptS R (fnd R id))) := by
  have h10 := hv.len
  have hk := (fdI_live hx).2
  obtain ⟨g, cap, rfl, hg0, hgW, hne1, hne2, hc1, hc2⟩ := hS.shape (by omega)
  have HPT := Lib.hid (ptrAt_own (g := g) (n := R.length) (cap := cap) hx)
  generalize fnd R id = k at *
  have HD0 : Hid (adoptS R k = if liveR R (nth R k).a0 then followS R k (fnd R (nth R k).a0) else R) := Lib.hid rfl
  have c0 := hS.c
  have S0 := Lib.hid hS
  clear hv hx hS
  go_enter Try.func96, Try.ntmps96
  go_wp2_with fail
  refine (nodeAt_any _ R id _ (by omega) S0.out.rr).mono ?_
  rw [HPT.out]
  rintro e w1 ⟨rfl, b1⟩
  have S1 := Lib.hid (S0.out.nx b1)
  clear c0 b1 S0
  obtain ⟨bs, os, c, hbs, x0, x1, x2, -, v0, v1⟩ := S1.out.nd hk
  have c1 := S1.out.c
  have lS := S1.out.lt
  have lg : g < w1.heap.size := (S1.out.ow.elim fun hs h => (h.row.lts g rfl).2)
  go_wp2
  have kk0 := And.intro (show w1.drew.cell? _ = _ from c1) (And.intro (show w1.drew.cell? _ = _ from x2) (show w1.drew.cell? _ = _ from v0))
  have RA := S1.out.rr.d1
  cases q : liveR R (nth R k).a0 with
  | false =>
    have hp := ptrAt_dead (v := .slice (some ⟨g, 0, none⟩) R.length cap) q
    have HP := Lib.hid hp; clear hp
    have Q := Lib.hid q; clear q
    generalize hy : (nth R k).a0 = y at *
    have HY := Lib.hid hy; clear hy
    have Q2 : Hid (liveR R (nth R k).a0 = false) := Lib.hid (by rw [HY.out]; exact Q.out)
    go_region_held3 (fun w' => w'.cell? ⟨gS, 0, none⟩ = some (.slice (some ⟨g, 0, none⟩) R.length cap) ∧ w'.cell? ⟨g, k * 3 + 2, none⟩ = some (.slice (some ⟨bs, os, none⟩) 2 c) ∧ w'.cell? ⟨bs, os, none⟩ = some (.int .i64 y)) (first | with_reducible exact kk0 | with_reducible exact kk5) ((go_at_call 49; refine (nodeAt_any _ R y _ (by omega) RA).mono ?_; rw [HP.out]; rintro e w5 ⟨rfl, b5⟩; have kk5 := And.intro ((b5.cell lS).trans kk0.1) (And.intro ((b5.cell lg).trans kk0.2.1) ((b5.cell hbs).trans kk0.2.2)); have S5 := Lib.hid (S1.out.d1.nx b5)))
    all_goals
      go_wp2
      go_ret
      exact ⟨ret_bool Q2.out.symm, S5.out.bl, fun h => by rw [Q2.out] at h; cases h⟩
  | true =>
    have hp := ptrAt_own (g := g) (n := R.length) (cap := cap) q
    have HP := Lib.hid hp; clear hp
    have Q := Lib.hid q
    obtain ⟨h1, hs⟩ := fdI_live q
    have HD : Hid (adoptS R k = R.set k ⟨(nth R k).id, (nth R k).bf, (nth R (fnd R (nth R k).a0)).id, (nth R (fnd R (nth R k).a0)).a0⟩) := Lib.hid (by rw [HD0.out, q]; rfl)
    clear q h1 HD0
    generalize hs0 : fnd R (nth R k).a0 = s at *
    have AF := Lib.hid (fun V (h : SS w0 V gS (.slice (some ⟨g, 0, none⟩) R.length cap) R) => h.af hk (nth R s).id (nth R s).a0)
    have ND := Lib.hid (fun V (h : SS w0 V gS (.slice (some ⟨g, 0, none⟩) R.length cap) R) => h.nd hs)
    clear hs0
    generalize hy : (nth R k).a0 = y at *
    have HY := Lib.hid hy; clear hy
    have Q2 : Hid (liveR R (nth R k).a0 = true) := Lib.hid (by rw [HY.out]; exact Q.out)
    go_region_held3 (fun w' => w'.cell? ⟨gS, 0, none⟩ = some (.slice (some ⟨g, 0, none⟩) R.length cap) ∧ w'.cell? ⟨g, k * 3 + 2, none⟩ = some (.slice (some ⟨bs, os, none⟩) 2 c) ∧ w'.cell? ⟨bs, os, none⟩ = some (.int .i64 y)) (first | with_reducible exact kk0 | with_reducible exact kk5) ((go_at_call 49; refine (nodeAt_any _ R y _ (by omega) RA).mono ?_; rw [HP.out]; rintro e w5 ⟨rfl, b5⟩; have kk5 := And.intro ((b5.cell lS).trans kk0.1) (And.intro ((b5.cell lg).trans kk0.2.1) ((b5.cell hbs).trans kk0.2.2)); have S5 := Lib.hid (S1.out.d1.nx b5); have y2 := kk5.2.1; have y3 := S5.out.frz (k * 3 + 2); have lg5 : g < w5.heap.size := Nat.lt_of_lt_of_le lg b5.size))
    all_goals
      clear x0 x1 x2 v0 v1 c1 kk0 kk5
      obtain ⟨bt, ot, ct, lb5, z0, z1, z2, -, z3, -⟩ := ND.out w5 S5.out
      have S6 := Lib.hid ((AF.out w5 S5.out).d1)
      clear z1
      generalize (nth R s).id = m at *
      generalize (nth R s).a0 = p at *
      go_wp2
      go_region
      clear y2 y3 z0 z2 z3
      go_wp2
      go_ret
      exact ⟨ret_bool Q2.out.symm, S6.out.bl, fun _ => ⟨_, by rw [HD.out]; exact S6.out⟩⟩
end Go.Proofs.Ythgekfiodedelaa
