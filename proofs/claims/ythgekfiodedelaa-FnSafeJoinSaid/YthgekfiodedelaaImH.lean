/- ringStep's closer, notify. -/
import Derived.Test.YthgekfiodedelaaImF
import Derived.Test.YthgekfiodedelaaReg
namespace Go.Proofs.Ythgekfiodedelaa
open Go.RowKit
set_option linter.unusedVariables false
set_option linter.unusedSimpArgs false

/-- A call by its contract inside a drawn region, its guard decided. -/
theorem step_callG {P : Program} {ops : Array Oper} {o : Oper} {a : Act} {w : World} {K : Act → World → Prop} {Q : Exit → Act → World → Prop} {E : Prop} {f : FuncId} {args : Array Value} {R : Ending → World → Prop} (hw : Region.wanted o (yielded ops a.tmps) = true)
    (hr : (execOp a.eval o).run P w = .ok (.enter f args) w) (hc : Calls P f args w R)
    (h : ∀ e w', R e w' → ∃ v, e = .returned v ∧ K (a.put o.dst v) w') : if Region.wanted o (yielded ops a.tmps) = true then Oper.wp P o a w K Q else E := by
  rw [if_pos hw, Oper.wp, hr, Oper.upon_enter]
  refine hc.mono ?_
  rintro e w' hR
  obtain ⟨v, rfl, hK⟩ := h e w' hR
  exact hK

theorem neq_nn : ∀ w, (binOp .neq 57 (.pointer none) (.pointer none)).run Try.prog w = .ok (.bool false) w := fun _ => by kernel_rfl

set_option maxRecDepth 100000 in
set_option maxHeartbeats 8000000 in
theorem closerM_any (w0 W : World) (gS : Nat) (x : Value) (R : List Nd) (id o : Int) (hv : ValidL R) (hx : liveR R id = true) (ho : 0 ≤ o ∧ o < 64) (hS : SS w0 W gS x R) :
    Calls Try.prog 98 #[.pointer (some ⟨gS, 0, none⟩), .int .i64 id, .int .i64 o] W fun e W' => e = .returned (.bool (closerG R (fnd R id) o)) ∧ Below w0.heap.size w0 W' ∧ (closerG R (fnd R id) o = true → ∃ x', SS w0 W' gS x' (closerS R (fnd R id) o)) := by
  have h10 := hv.len
  have hk := (fdI_live hx).2
  have hm := (live_iff R id).1 hx
  have hid := hv.ascI.2 id hm
  have ha0 := (hv.ok _ (nth_mem hk)).r0
  obtain ⟨g, cap, rfl, hg0, hgW, hne1, hne2, hc1, hc2⟩ := hS.shape (by omega)
  have HPT := Lib.hid (ptrAt_own (g := g) (n := R.length) (cap := cap) hx)
  have HG : Hid (closerG R (fnd R id) o = (liveR R o && btw id o (nth R (fnd R id)).a0)) := Lib.hid (by rw [closerG, fnd_id hm])
  have HSD : Hid (closerS R (fnd R id) o = if closerG R (fnd R id) o then followS R (fnd R id) (fnd R o) else R) := Lib.hid rfl
  generalize fnd R id = k at *
  have HB := Lib.hid (fun w => between_any id o (nth R k).a0 w hid ho ha0)
  have c0 : W.drew.cell? ⟨gS, 0, none⟩ = some (.slice (some ⟨g, 0, none⟩) R.length cap) := hS.c
  have S0 := Lib.hid hS
  have RA := hS.rr.d1
  have HO := Lib.hid ho
  clear hv hx hS hm hid ha0 ho
  go_enter Try.func98, Try.ntmps98
  go_wp2
  cases q : liveR R o with
  | false =>
    have HP := Lib.hid (ptrAt_dead (v := .slice (some ⟨g, 0, none⟩) R.length cap) q)
    have HF : Hid (closerG R k o = false) := Lib.hid (by rw [HG.out, q]; rfl)
    clear q
    go_region_held3 (fun w' => w'.cell? ⟨gS, 0, none⟩ = some (.slice (some ⟨g, 0, none⟩) R.length cap)) (first | with_reducible exact c0 | with_reducible exact kk5 | with_reducible exact kk6) ((go_at_call 49; first | ((with_reducible refine (nodeAt_any _ R id _ ?_ RA).mono ?_); (· omega); rw [HPT.out]; rintro e w5 ⟨rfl, b5⟩; have S5 := Lib.hid (S0.out.d1.nx b5); have R5 := S5.out.rr; have kk5 := S5.out.c) | ((with_reducible refine (nodeAt_any _ R o _ ?_ RA).mono ?_); (· omega); rw [HP.out]; rintro e w5 ⟨rfl, b5⟩; have S5 := Lib.hid (S0.out.d1.nx b5); have R5 := S5.out.rr; have kk5 := S5.out.c) | ((with_reducible refine (nodeAt_any _ R id _ ?_ R5).mono ?_); (· omega); rw [HPT.out]; rintro e w6 ⟨rfl, b6⟩; have S6 := Lib.hid (S5.out.nx b6); have kk6 := S6.out.c) | ((with_reducible refine (nodeAt_any _ R o _ ?_ R5).mono ?_); (· omega); rw [HP.out]; rintro e w6 ⟨rfl, b6⟩; have S6 := Lib.hid (S5.out.nx b6); have kk6 := S6.out.c)))
    all_goals
      clear c0 kk5 kk6 R5 RA
      go_wp2
      go_ret
      exact ⟨ret_bool HF.out.symm, S6.out.bl, fun h => by rw [HF.out] at h; cases h⟩
  | true =>
    have HP := Lib.hid (ptrAt_own (g := g) (n := R.length) (cap := cap) q)
    obtain ⟨h1, hs⟩ := fdI_live q
    have hfo := fnd_id ((live_iff R o).1 q)
    have HFO : Hid ((nth R (fnd R o)).id = o) := Lib.hid hfo
    have HG2 : Hid (closerG R k o = btw id o (nth R k).a0) := Lib.hid (by rw [HG.out, q]; rfl)
    have HD : Hid (closerG R k o = true → closerS R k o = R.set k ⟨(nth R k).id, (nth R k).bf, o, (nth R (fnd R o)).a0⟩) := Lib.hid (fun h => by rw [HSD.out, h, if_pos rfl, followS, HFO.out])
    clear q h1 hfo HFO HG HSD
    generalize fnd R o = s at *
    have AF := Lib.hid (fun V (h : SS w0 V gS (.slice (some ⟨g, 0, none⟩) R.length cap) R) => h.af hk o (nth R s).a0)
    have ND := Lib.hid (fun V (h : SS w0 V gS (.slice (some ⟨g, 0, none⟩) R.length cap) R) => h.nd hs)
    have NK := Lib.hid (fun V (h : SS w0 V gS (.slice (some ⟨g, 0, none⟩) R.length cap) R) => h.nd hk)
    go_region_held3 (fun w' => w'.cell? ⟨gS, 0, none⟩ = some (.slice (some ⟨g, 0, none⟩) R.length cap)) (first | with_reducible exact c0 | with_reducible exact kk5 | with_reducible exact kk6) ((go_at_call 49; first | ((with_reducible refine (nodeAt_any _ R id _ ?_ RA).mono ?_); (· omega); rw [HPT.out]; rintro e w5 ⟨rfl, b5⟩; have S5 := Lib.hid (S0.out.d1.nx b5); have R5 := S5.out.rr; have kk5 := S5.out.c) | ((with_reducible refine (nodeAt_any _ R o _ ?_ RA).mono ?_); (· omega); rw [HP.out]; rintro e w5 ⟨rfl, b5⟩; have S5 := Lib.hid (S0.out.d1.nx b5); have R5 := S5.out.rr; have kk5 := S5.out.c) | ((with_reducible refine (nodeAt_any _ R id _ ?_ R5).mono ?_); (· omega); rw [HPT.out]; rintro e w6 ⟨rfl, b6⟩; have S6 := Lib.hid (S5.out.nx b6); have kk6 := S6.out.c) | ((with_reducible refine (nodeAt_any _ R o _ ?_ R5).mono ?_); (· omega); rw [HP.out]; rintro e w6 ⟨rfl, b6⟩; have S6 := Lib.hid (S5.out.nx b6); have kk6 := S6.out.c)))
    all_goals
      clear c0 kk5 kk6 R5 RA
      obtain ⟨bs, os, c, hbs, x0, x1, x2, -, v0, v1⟩ := NK.out w6 S6.out
      generalize hy : (nth R k).a0 = y at *
      have HY := Lib.hid hy; clear hy
      cases q2 : btw id o y with
      | false =>
        have HF : Hid (closerG R k o = false) := Lib.hid (by rw [HG2.out, ← q2])
        rw [q2] at HB
        go_wp2_with fail
        refine (HB.out _).mono ?_
        rintro e w7 ⟨rfl, b7⟩
        have S7 := Lib.hid (S6.out.nx b7)
        go_wp2
        go_ret
        exact ⟨ret_bool HF.out.symm, S7.out.bl, fun h => by rw [HF.out] at h; cases h⟩
      | true =>
        have HF : Hid (closerG R k o = true) := Lib.hid (by rw [HG2.out, ← q2])
        rw [q2] at HB
        have HD1 := Lib.hid (HD.out HF.out)
        clear HD
        go_wp2_with fail
        refine (HB.out _).mono ?_
        rintro e w7 ⟨rfl, b7⟩
        have S7 := Lib.hid (S6.out.nx b7)
        clear x0 x1 x2 v0 v1 b7 q2
        obtain ⟨bk, ok, ck, -, -, -, xk, -, -, -⟩ := NK.out w7 S7.out
        obtain ⟨bt, ot, ct, lb5, z0, z1, z2, -, z3, -⟩ := ND.out w7 S7.out
        have y3 := S7.out.frz (k * 3 + 2)
        have lg7 : g < w7.heap.size := (S7.out.ow.elim fun hs h => (h.row.lts g rfl).2)
        have S8 := Lib.hid (AF.out w7 S7.out)
        clear z0 z1
        generalize (nth R s).a0 = p at *
        go_wp2
        go_ret
        exact ⟨ret_bool HF.out.symm, S8.out.bl, fun _ => ⟨_, by rw [HD1.out]; exact S8.out⟩⟩

set_option maxRecDepth 100000 in
set_option maxHeartbeats 8000000 in
theorem notifyM_any (w0 W : World) (gS : Nat) (x : Value) (R : List Nd) (id o : Int) (hv : ValidL R) (hx : liveR R id = true) (hlo : liveR R o = true) (hne : o ≠ id) (hS : SS w0 W gS x R) :
    Calls Try.prog 100 #[.pointer (some ⟨gS, 0, none⟩), .int .i64 id, .int .i64 o] W fun e W' => e = .returned (.bool (notifyG R (fnd R id) o)) ∧ Below w0.heap.size w0 W' ∧ (notifyG R (fnd R id) o = true → ∃ x', SS w0 W' gS x' (notifyS R (fnd R id) o)) := by
  have h10 := hv.len
  have hk := (fdI_live hx).2
  have hm := (live_iff R id).1 hx
  have hid := hv.ascI.2 id hm
  have ho := hv.ascI.2 o ((live_iff R o).1 hlo)
  have hb0 := (hv.ok _ (nth_mem hk)).b0
  obtain ⟨g, cap, rfl, hg0, hgW, hne1, hne2, hc1, hc2⟩ := hS.shape (by omega)
  have HPT := Lib.hid (ptrAt_own (g := g) (n := R.length) (cap := cap) hx)
  obtain ⟨po, hpo⟩ := ptrAt_live hS.rr hlo
  have HPO := Lib.hid hpo; clear hpo
  have HG : Hid (notifyG R (fnd R id) o = !(decide (0 ≤ (nth R (fnd R id)).bf) && liveR R (nth R (fnd R id)).bf && !btw (nth R (fnd R id)).bf o id)) := Lib.hid (by
    rw [notifyG, fnd_id hm, hlo]; simp [hne])
  have HSD : Hid (notifyS R (fnd R id) o = if notifyG R (fnd R id) o then R.set (fnd R id) ⟨(nth R (fnd R id)).id, o, (nth R (fnd R id)).a0, (nth R (fnd R id)).a1⟩ else R) := Lib.hid rfl
  generalize fnd R id = k at *
  have c0 := hS.c
  have S0 := Lib.hid hS
  have dne : (o == id) = false := by simp [hne]
  have HB : Hid (0 ≤ (nth R k).bf → (nth R k).bf < 64 → ∀ w, Calls Try.prog 72 #[.int .i64 (nth R k).bf, .int .i64 o, .int .i64 id] w fun e w' => e = .returned (.bool (btw (nth R k).bf o id)) ∧ Below w.heap.size w w') := Lib.hid (fun h1 h2 w => between_any _ o id w ⟨h1, h2⟩ ho hid)
  have BF := Lib.hid (fun V (h : SS w0 V gS (.slice (some ⟨g, 0, none⟩) R.length cap) R) => h.bf hk o)
  have NK := Lib.hid (fun V (h : SS w0 V gS (.slice (some ⟨g, 0, none⟩) R.length cap) R) => h.nd hk)
  clear hv hx hS hm hid ho hlo hne
  go_enter Try.func100, Try.ntmps100
  go_wp2_with fail
  refine (nodeAt_any _ R id _ (by omega) S0.out.rr).mono ?_
  rw [HPT.out]
  rintro e w1 ⟨rfl, b1⟩
  have S1 := Lib.hid (S0.out.nx b1)
  clear c0 b1 S0
  have c1 := S1.out.c
  go_wp2_with fail
  refine (nodeAt_any _ R o _ (by omega) S1.out.rr).mono ?_
  rw [HPO.out]
  rintro e w2 ⟨rfl, b2⟩
  have S2 := Lib.hid (S1.out.nx b2)
  clear c1 b2 S1
  have c2 := S2.out.c
  have lS := S2.out.lt
  have lg : g < w2.heap.size := (S2.out.ow.elim fun hs h => (h.row.lts g rfl).2)
  obtain ⟨bs, os, c, hbs, x0, x1, x2, -, -, -⟩ := NK.out w2 S2.out
  have hfz := S2.out.frz (k * 3 + 1)
  clear x0 x2 hbs
  generalize hy : (nth R k).bf = y at *
  have HY := Lib.hid hy; clear hy
  have HG1 : Hid (notifyG R k o = !(decide (0 ≤ y) && liveR R y && !btw y o id)) := HG
  go_wp2
  clear dne
  by_cases qy : y = -1
  · have d1 : (y != -1) = false := by simp [qy]
    have HT : Hid (notifyG R k o = true) := Lib.hid (by rw [HG1.out, qy]; rfl)
    have HD : Hid (notifyS R k o = R.set k ⟨(nth R k).id, o, (nth R k).a0, (nth R k).a1⟩) := Lib.hid (by rw [HSD.out, HT.out]; rfl)
    have S3 := Lib.hid (BF.out _ (S2.out.dr 1))
    clear qy hb0 HB HG HG1
    go_quiet (fail)
    have S4 := Lib.hid (fun n => BF.out _ (S2.out.dr n))
    have hfz4 := fun n => (S2.out.dr n).frz (k * 3 + 1)
    go_wp2
    go_ret
    exact ⟨ret_bool HT.out.symm, (S4.out _).bl, fun _ => ⟨_, by rw [HD.out]; exact S4.out _⟩⟩
  · have d1 : (y != -1) = true := by simp [qy]
    have hy0 : 0 ≤ y ∧ y < 64 := by rcases hb0 with h | h; exact absurd h qy; exact h
    have HBY := Lib.hid (HB.out hy0.1 hy0.2)
    have D0 : Hid (decide (0 ≤ y) = true) := Lib.hid (decide_eq_true hy0.1)
    clear qy hb0 HB HG hy0
    have kk0 := And.intro (show w2.drew.cell? _ = _ from c2) (show w2.drew.cell? _ = _ from x1)
    have RA := S2.out.rr.d1
    cases q : liveR R y with
    | false =>
      have HP := Lib.hid (ptrAt_dead (v := .slice (some ⟨g, 0, none⟩) R.length cap) q)
      have HT : Hid (notifyG R k o = true) := Lib.hid (by rw [HG1.out, q, D0.out]; rfl)
      have HD : Hid (notifyS R k o = R.set k ⟨(nth R k).id, o, (nth R k).a0, (nth R k).a1⟩) := Lib.hid (by rw [HSD.out, HT.out]; rfl)
      clear q HG1
      have hnn := neq_nn
      have NK1 : Hid (∀ V, SS w0 V gS (.slice (some ⟨g, 0, none⟩) R.length cap) R → V.cell? ⟨g, k * 3 + 1, none⟩ = some (.int .i64 y)) := Lib.hid (fun V h => by
        obtain ⟨_, _, _, -, -, h1, -⟩ := NK.out V h
        exact h1)
      clear c2 x1 kk0 hfz RA
      refine wp_region_facts [[], [0], [1], [2], [3], [4], [5], [6, 5], [7, 5], [8, 5], [5], [10, 5], [11, 5], [12, 5], [9, 13, 5], [14, 5], [5, 15], [16], [17], [18, 17], [19, 17], [20, 17], [17], [17], [21, 22, 23, 17], [24, 17], [17, 25]] (fun _ w => SS w0 w gS (.slice (some ⟨g, 0, none⟩) R.length cap) R) (fun q0 v w => match q0 with | 0 => v = .pointer (some ⟨g, k * 3, none⟩) | 1 => v = .pointer (some ⟨g, k * 3, none⟩) | 2 => v = .pointer (some ⟨g, k * 3 + 1, none⟩) | 3 => v = .int .i64 y | 4 => v = .bool true | 5 => v = .bool true | 6 => v = .pointer (some ⟨gS, 0, none⟩) | 7 => v = .pointer (some ⟨gS, 0, none⟩) | 8 => v = .pointer (some ⟨gS, 0, none⟩) | 9 => v = .slice (some ⟨g, 0, none⟩) R.length cap | 10 => v = .pointer (some ⟨g, k * 3, none⟩) | 11 => v = .pointer (some ⟨g, k * 3, none⟩) | 12 => v = .pointer (some ⟨g, k * 3 + 1, none⟩) | 13 => v = .int .i64 y | 14 => v = .pointer none | 15 => v = .bool false | 16 => v = .bool false | 17 => v = .bool false | 26 => v = .bool false | _ => True) (fun _ _ => True) (by kernel_rfl) (by kernel_rfl) (fun _ _ _ _ _ h => h) S2.out.d1 ?_ ?_
      · refine ⟨?_, ?_, ?_, ?_, ?_, ?_, ?_, ?_, ?_, ?_, ?_, ?_, ?_, ?_, ?_, ?_, ?_, ?_, ?_, ?_, ?_, ?_, ?_, ?_, ?_, ?_, ?_, trivial⟩
        · intro a wq vs L hW hL hN hO hk hd K hK
          have p7 := hO 7 (by decide)
          clear hN hO hL hk hd
          go_simp
          exact hK _ _ hW trivial rfl
        · intro a wq vs L hW hL hN hO hk hd K hK
          have d0 := hd 0 30 (by decide) rfl
          rw [show vs 0 = .pointer (some ⟨g, k * 3, none⟩) from (hk 0 (by decide)).2] at d0
          clear hN hO hL hk hd
          go_simp
          exact hK _ _ hW trivial rfl
        · intro a wq vs L hW hL hN hO hk hd K hK
          have d1 := hd 1 31 (by decide) rfl
          rw [show vs 1 = .pointer (some ⟨g, k * 3, none⟩) from (hk 1 (by decide)).2] at d1
          clear hN hO hL hk hd
          go_simp
          exact hK _ _ hW trivial rfl
        · intro a wq vs L hW hL hN hO hk hd K hK
          have d2 := hd 2 32 (by decide) rfl
          rw [show vs 2 = .pointer (some ⟨g, k * 3 + 1, none⟩) from (hk 2 (by decide)).2] at d2
          have hx1 := NK1.out _ hW
          clear hN hO hL hk hd
          go_simp
          exact hK _ _ hW trivial rfl
        · intro a wq vs L hW hL hN hO hk hd K hK
          have d3 := hd 3 33 (by decide) rfl
          rw [show vs 3 = .int .i64 y from (hk 3 (by decide)).2] at d3
          clear hN hO hL hk hd
          go_simp
          exact hK _ _ hW trivial rfl
        · intro a wq vs L hW hL hN hO hk hd K hK
          have d4 := hd 4 34 (by decide) rfl
          rw [show vs 4 = .bool true from (hk 4 (by decide)).2] at d4
          clear hN hO hL hk hd
          go_simp
          exact hK _ _ hW trivial rfl
        · intro a wq vs L hW hL hN hO hk hd K hK
          have p0 := hO 0 (by decide)
          have d5 := hd 5 35 (by decide) rfl
          rw [show vs 5 = .bool true from (hk 5 (by decide)).2] at d5
          clear hN hO hL hk hd
          go_simp
          exact hK _ _ hW trivial rfl
        · intro a wq vs L hW hL hN hO hk hd K hK
          have d6 := hd 6 36 (by decide) rfl
          rw [show vs 6 = .pointer (some ⟨gS, 0, none⟩) from (hk 6 (by decide)).2] at d6
          have d5 := hd 5 35 (by decide) rfl
          rw [show vs 5 = .bool true from (hk 5 (by decide)).2] at d5
          clear hN hO hL hk hd
          go_simp
          exact hK _ _ hW trivial rfl
        · intro a wq vs L hW hL hN hO hk hd K hK
          have d7 := hd 7 37 (by decide) rfl
          rw [show vs 7 = .pointer (some ⟨gS, 0, none⟩) from (hk 7 (by decide)).2] at d7
          have d5 := hd 5 35 (by decide) rfl
          rw [show vs 5 = .bool true from (hk 5 (by decide)).2] at d5
          clear hN hO hL hk hd
          go_simp
          exact hK _ _ hW trivial rfl
        · intro a wq vs L hW hL hN hO hk hd K hK
          have d8 := hd 8 38 (by decide) rfl
          rw [show vs 8 = .pointer (some ⟨gS, 0, none⟩) from (hk 8 (by decide)).2] at d8
          have d5 := hd 5 35 (by decide) rfl
          rw [show vs 5 = .bool true from (hk 5 (by decide)).2] at d5
          have hc := hW.c
          clear hN hO hL hk hd
          go_simp
          exact hK _ _ hW trivial rfl
        · intro a wq vs L hW hL hN hO hk hd K hK
          have p7 := hO 7 (by decide)
          have d5 := hd 5 35 (by decide) rfl
          rw [show vs 5 = .bool true from (hk 5 (by decide)).2] at d5
          clear hN hO hL hk hd
          go_simp
          exact hK _ _ hW trivial rfl
        · intro a wq vs L hW hL hN hO hk hd K hK
          have d10 := hd 10 40 (by decide) rfl
          rw [show vs 10 = .pointer (some ⟨g, k * 3, none⟩) from (hk 10 (by decide)).2] at d10
          have d5 := hd 5 35 (by decide) rfl
          rw [show vs 5 = .bool true from (hk 5 (by decide)).2] at d5
          clear hN hO hL hk hd
          go_simp
          exact hK _ _ hW trivial rfl
        · intro a wq vs L hW hL hN hO hk hd K hK
          have d11 := hd 11 41 (by decide) rfl
          rw [show vs 11 = .pointer (some ⟨g, k * 3, none⟩) from (hk 11 (by decide)).2] at d11
          have d5 := hd 5 35 (by decide) rfl
          rw [show vs 5 = .bool true from (hk 5 (by decide)).2] at d5
          clear hN hO hL hk hd
          go_simp
          exact hK _ _ hW trivial rfl
        · intro a wq vs L hW hL hN hO hk hd K hK
          have d12 := hd 12 42 (by decide) rfl
          rw [show vs 12 = .pointer (some ⟨g, k * 3 + 1, none⟩) from (hk 12 (by decide)).2] at d12
          have d5 := hd 5 35 (by decide) rfl
          rw [show vs 5 = .bool true from (hk 5 (by decide)).2] at d5
          have hx1 := NK1.out _ hW
          clear hN hO hL hk hd
          go_simp
          exact hK _ _ hW trivial rfl
        · intro a wq vs L hW hL hN hO hk hd K hK
          have d9 := hd 9 39 (by decide) rfl
          rw [show vs 9 = .slice (some ⟨g, 0, none⟩) R.length cap from (hk 9 (by decide)).2] at d9
          have d13 := hd 13 43 (by decide) rfl
          rw [show vs 13 = .int .i64 y from (hk 13 (by decide)).2] at d13
          have d5 := hd 5 35 (by decide) rfl
          rw [show vs 5 = .bool true from (hk 5 (by decide)).2] at d5
          refine step_callG (by simp [Region.wanted, yielded, d5]) (f := 49) (args := #[.slice (some ⟨g, 0, none⟩) R.length cap, .int .i64 y]) (by simp [execOp, Act.eval, Act.put, go_sem, d9, d13]) (nodeAt_any _ R y _ (by omega) hW.rr) ?_
          rw [HP.out]
          rintro e w5 ⟨rfl, b5⟩
          exact ⟨_, rfl, hK _ _ (hW.nx b5) trivial rfl⟩
        · intro a wq vs L hW hL hN hO hk hd K hK
          have d14 := hd 14 44 (by decide) rfl
          rw [show vs 14 = .pointer none from (hk 14 (by decide)).2] at d14
          have d5 := hd 5 35 (by decide) rfl
          rw [show vs 5 = .bool true from (hk 5 (by decide)).2] at d5
          clear hN hO hL hk hd
          go_simp
          exact hK _ _ hW trivial rfl
        · intro a wq vs L hW hL hN hO hk hd K hK
          have d5 := hd 5 35 (by decide) rfl
          rw [show vs 5 = .bool true from (hk 5 (by decide)).2] at d5
          have d15 := hd 15 45 (by decide) rfl
          rw [show vs 15 = .bool false from (hk 15 (by decide)).2] at d15
          clear hN hO hL hk hd
          go_simp
          exact hK _ _ hW trivial rfl
        · intro a wq vs L hW hL hN hO hk hd K hK
          have d16 := hd 16 46 (by decide) rfl
          rw [show vs 16 = .bool false from (hk 16 (by decide)).2] at d16
          clear hN hO hL hk hd
          go_simp
          exact hK _ _ hW trivial rfl
        · intro a wq vs L hW hL hN hO hk hd K hK
          have p7 := hO 7 (by decide)
          have d17 := hd 17 47 (by decide) rfl
          rw [show vs 17 = .bool false from (hk 17 (by decide)).2] at d17
          clear hN hO hL hk hd
          go_simp
          exact hK undef _ hW trivial trivial
        · intro a wq vs L hW hL hN hO hk hd K hK
          have d18 := hd 18 48 (by decide) rfl
          have d17 := hd 17 47 (by decide) rfl
          rw [show vs 17 = .bool false from (hk 17 (by decide)).2] at d17
          clear hN hO hL hk hd
          go_simp
          exact hK undef _ hW trivial trivial
        · intro a wq vs L hW hL hN hO hk hd K hK
          have d19 := hd 19 49 (by decide) rfl
          have d17 := hd 17 47 (by decide) rfl
          rw [show vs 17 = .bool false from (hk 17 (by decide)).2] at d17
          clear hN hO hL hk hd
          go_simp
          exact hK undef _ hW trivial trivial
        · intro a wq vs L hW hL hN hO hk hd K hK
          have d20 := hd 20 50 (by decide) rfl
          have d17 := hd 17 47 (by decide) rfl
          rw [show vs 17 = .bool false from (hk 17 (by decide)).2] at d17
          clear hN hO hL hk hd
          go_simp
          exact hK undef _ hW trivial trivial
        · intro a wq vs L hW hL hN hO hk hd K hK
          have p2 := hO 2 (by decide)
          have d17 := hd 17 47 (by decide) rfl
          rw [show vs 17 = .bool false from (hk 17 (by decide)).2] at d17
          clear hN hO hL hk hd
          go_simp
          exact hK undef _ hW trivial trivial
        · intro a wq vs L hW hL hN hO hk hd K hK
          have p1 := hO 1 (by decide)
          have d17 := hd 17 47 (by decide) rfl
          rw [show vs 17 = .bool false from (hk 17 (by decide)).2] at d17
          clear hN hO hL hk hd
          go_simp
          exact hK undef _ hW trivial trivial
        · intro a wq vs L hW hL hN hO hk hd K hK
          have d21 := hd 21 51 (by decide) rfl
          have d22 := hd 22 52 (by decide) rfl
          have d23 := hd 23 53 (by decide) rfl
          have d17 := hd 17 47 (by decide) rfl
          rw [show vs 17 = .bool false from (hk 17 (by decide)).2] at d17
          clear hN hO hL hk hd
          go_simp
          exact hK undef _ hW trivial trivial
        · intro a wq vs L hW hL hN hO hk hd K hK
          have d24 := hd 24 54 (by decide) rfl
          have d17 := hd 17 47 (by decide) rfl
          rw [show vs 17 = .bool false from (hk 17 (by decide)).2] at d17
          clear hN hO hL hk hd
          go_simp
          exact hK undef _ hW trivial trivial
        · intro a wq vs L hW hL hN hO hk hd K hK
          have d17 := hd 17 47 (by decide) rfl
          rw [show vs 17 = .bool false from (hk 17 (by decide)).2] at d17
          have d25 := hd 25 55 (by decide) rfl
          clear hN hO hL hk hd
          go_simp
          exact hK _ _ hW trivial rfl
      · intro vs wq hW hG
        have g26 : vs 26 = .bool false := hG 26 (by decide)
        clear hG
        simp only [putAll, Act.put, Nat.zero_add, Nat.reduceAdd]
        rw [g26]
        generalize vs 0 = y0
        generalize vs 1 = y1
        generalize vs 2 = y2
        generalize vs 3 = y3
        generalize vs 4 = y4
        generalize vs 5 = y5
        generalize vs 6 = y6
        generalize vs 7 = y7
        generalize vs 8 = y8
        generalize vs 9 = y9
        generalize vs 10 = y10
        generalize vs 11 = y11
        generalize vs 12 = y12
        generalize vs 13 = y13
        generalize vs 14 = y14
        generalize vs 15 = y15
        generalize vs 16 = y16
        generalize vs 17 = y17
        generalize vs 18 = y18
        generalize vs 19 = y19
        generalize vs 20 = y20
        generalize vs 21 = y21
        generalize vs 22 = y22
        generalize vs 23 = y23
        generalize vs 24 = y24
        generalize vs 25 = y25
        simp only [List.setIfInBounds_toArray, List.set_cons_succ, List.set_cons_zero]
        have S6 := Lib.hid (BF.out _ hW)
        have hf5 := hW.frz (k * 3 + 1)
        have x5 := NK1.out _ hW
        clear hW
        go_wp2
        go_ret
        exact ⟨ret_bool HT.out.symm, S6.out.bl, fun _ => ⟨_, by rw [HD.out]; exact S6.out⟩⟩
    | true =>
      obtain ⟨py, hpy⟩ := ptrAt_live RA q
      have HP := Lib.hid hpy; clear hpy
      cases q2 : btw y o id with
      | true =>
        rw [q2] at HBY
        have HT : Hid (notifyG R k o = true) := Lib.hid (by rw [HG1.out, q2]; simp)
        have HD : Hid (notifyS R k o = R.set k ⟨(nth R k).id, o, (nth R k).a0, (nth R k).a1⟩) := Lib.hid (by rw [HSD.out, HT.out]; rfl)
        clear q q2 HG1
        go_region_held3 (fun w' => w'.cell? ⟨gS, 0, none⟩ = some (.slice (some ⟨g, 0, none⟩) R.length cap) ∧ w'.cell? ⟨g, k * 3 + 1, none⟩ = some (.int .i64 y)) (first | with_reducible exact kk0 | with_reducible exact kk5 | with_reducible exact kk6) (first | (go_at_call 49; refine (nodeAt_any _ R y _ (by omega) RA).mono ?_; rw [HP.out]; rintro e w5 ⟨rfl, b5⟩; have kk5 := And.intro ((b5.cell lS).trans kk0.1) ((b5.cell lg).trans kk0.2); have S5 := Lib.hid (S2.out.d1.nx b5)) | (go_at_call 72; refine (HBY.out w5).mono ?_; rintro e w6 ⟨rfl, b6⟩; have kk6 := And.intro ((b6.cell (Nat.lt_of_lt_of_le lS b5.size)).trans kk5.1) ((b6.cell (Nat.lt_of_lt_of_le lg b5.size)).trans kk5.2); have S6 := Lib.hid (S5.out.nx b6); have hf6 := S6.out.frz (k * 3 + 1); have x6 := kk6.2))
        all_goals
          clear c2 x1 kk0 kk5 kk6 hfz
          have S7 := Lib.hid (BF.out _ S6.out)
          go_wp2
          go_ret
          exact ⟨ret_bool HT.out.symm, S7.out.bl, fun _ => ⟨_, by rw [HD.out]; exact S7.out⟩⟩
      | false =>
        rw [q2] at HBY
        have HT : Hid (notifyG R k o = false) := Lib.hid (by rw [HG1.out, q, q2, D0.out]; rfl)
        clear q q2 HG1
        go_region_held3 (fun w' => w'.cell? ⟨gS, 0, none⟩ = some (.slice (some ⟨g, 0, none⟩) R.length cap) ∧ w'.cell? ⟨g, k * 3 + 1, none⟩ = some (.int .i64 y)) (first | with_reducible exact kk0 | with_reducible exact kk5 | with_reducible exact kk6) (first | (go_at_call 49; refine (nodeAt_any _ R y _ (by omega) RA).mono ?_; rw [HP.out]; rintro e w5 ⟨rfl, b5⟩; have kk5 := And.intro ((b5.cell lS).trans kk0.1) ((b5.cell lg).trans kk0.2); have S5 := Lib.hid (S2.out.d1.nx b5)) | (go_at_call 72; refine (HBY.out w5).mono ?_; rintro e w6 ⟨rfl, b6⟩; have kk6 := And.intro ((b6.cell (Nat.lt_of_lt_of_le lS b5.size)).trans kk5.1) ((b6.cell (Nat.lt_of_lt_of_le lg b5.size)).trans kk5.2); have S6 := Lib.hid (S5.out.nx b6)))
        all_goals
          go_wp2
          go_ret
          exact ⟨ret_bool HT.out.symm, S6.out.bl, fun h => by rw [HT.out] at h; cases h⟩
end Go.Proofs.Ythgekfiodedelaa
