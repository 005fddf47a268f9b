/- laws.nodeAt; slices.Insert and BinarySearchFunc at nodes; ringStep's join; impl.RingJoin. -/
import Derived.Test.YthgekfiodedelaaImI
import Derived.Test.YthgekfiodedelaaIns0
import Derived.Test.YthgekfiodedelaaSpK
import Derived.Deep.RegionLaw
namespace Go.Proofs.Ythgekfiodedelaa
open Go.RowKit
set_option linter.unusedVariables false
set_option linter.unusedSimpArgs false

theorem live_at {R : List Nd} {j : Nat} (h : j < R.length) {x : Int} (e : (nth R j).id = x) : liveR R x = true := (live_iff R x).2 (by rw [← e]; exact List.mem_map_of_mem (nth_mem h))
theorem live_not {R : List Nd} {x : Int} (h : ∀ i, i < R.length → (nth R i).id ≠ x) : liveR R x = false := by
  cases q : liveR R x with
  | false => rfl
  | true =>
    obtain ⟨h1, h2⟩ := fdI_live q
    exact absurd (fnd_id ((live_iff R x).1 q)) (h _ h2)

/-- The position that laws.nodeAt answers with. -/
def atI (R : List Nd) (x : Int) : Int := if liveR R x then x else -1
theorem infoNdL : (Try.prog.info? 37).map (·.size) = some 3 := by kernel_rfl
set_option maxRecDepth 100000 in
set_option maxHeartbeats 4000000 in
theorem lawNodeAt_any (v : Value) (R : List Nd) (x : Int) (w : World) (hl : R.length ≤ 4096) (hr : RR w v R) :
    Calls Try.prog 20 #[v, .int .i64 x] w fun e w' => ∃ (y : Int) (s : Option Addr) (n c : Nat), e = .returned (.agg #[.int .i64 (atI R x), .int .i64 y, .slice s n c]) ∧ Below w.heap.size w w' := by
  obtain ⟨a, cap, rfl, hc, hm⟩ := id hr.sl
  have B1 := Lib.hid (below_alloc w (.cells #[.int .i64 0, .int .i64 0, .slice none 0 0] 37))
  have HR := Lib.hid (hr.bl B1.out)
  have K1 := Blk.new w #[.int .i64 0, .int .i64 0, .slice none 0 0] 37
  obtain ⟨W0, hW0⟩ : ∃ W0, W0 = w.alloc (.cells #[.int .i64 0, .int .i64 0, .slice none 0 0] 37) := ⟨_, rfl⟩
  have HW := Lib.hid hW0
  rw [← hW0] at B1 HR K1
  obtain ⟨k0, k1, k2⟩ := K1.get3
  obtain ⟨f0, f1, f2⟩ := K1.fr3
  have KK := Lib.hid K1
  clear hr hW0 K1
  go_enter Try.func20, Try.ntmps20
  go_wp2
  go_loopw [5] (fun i wr => ∃ j : Nat, j ≤ R.length ∧ i = .int .i64 j ∧ Hid (∀ i, i < j → (nth R i).id ≠ x) ∧ Hid (wr = W0)) (fun i _ => R.length - (intOf i).toNat)
  case atStart => exact ⟨0, Nat.zero_le _, rfl, Lib.hid (fun i h => absurd h (by omega)), Lib.hid HW.out.symm⟩
  case round =>
    obtain ⟨j, hj, rfl, hH, hw⟩ := hrel
    obtain rfl := hw.out
    clear hw
    by_cases hlt : j < R.length
    · obtain ⟨b, off, bs, os, c, rfl, hb, hbs, x0, x1, x2, r3, -, -⟩ := HR.out.nd j hlt
      by_cases he : (nth R j).id = x
      · have HQ : Hid (atI R x = x) := Lib.hid (by rw [atI, live_at hlt he]; rfl)
        have q : ((nth R j).id == x) = true := by rw [he]; simp
        have G0 := Lib.hid (bGr B1.out (grown_put3 wr w.heap.size (.int .i64 (nth R j).id) (.int .i64 (nth R j).bf) (.slice (some ⟨bs, os, none⟩) 2 c)) (fun k hk => by cases hk; exact Nat.le_refl _))
        have HE := Lib.hid he
        clear r3 he
        generalize nth R j = n at *
        go_wp2
        refine bodyPost_ret (results_cell_row rfl _ _ w.heap.size 37 #[.int .i64 n.id, .int .i64 n.bf, .slice (some ⟨bs, os, none⟩) 2 c] (0, 0) _ rfl (KK.out.put3 _ _ _).h Try.underlying37 rfl infoNdL) rfl ⟨_, _, _, _, by rw [HQ.out, ← HE.out], G0.out⟩
      · have q : ((nth R j).id == x) = false := by rw [beq_eq_false_iff_ne]; exact he
        have HE := Lib.hid he
        clear r3 he
        generalize hn : nth R j = n at *
        have HN := Lib.hid hn
        clear hn
        go_wp2
        go_roundw
        case rel => exact ⟨j + 1, by omega, by go_num, Lib.hid (fun i h => by
          by_cases e : i = j
          · subst e; rw [HN.out]; exact HE.out
          · exact hH.out i (by omega)), trivial⟩
        case measure => simp [intOf]; omega
    · have HQ : Hid (atI R x = -1) := Lib.hid (by rw [atI, live_not (fun i hi => hH.out i (by omega))]; rfl)
      have hlt0 := KK.out.lt
      have G0 := Lib.hid (bAl (bGr B1.out (grown_put3 wr w.heap.size (.int .i64 (-1)) (.int .i64 0) (.slice (some ⟨wr.heap.size, 0, none⟩) 2 2)) (fun k hk => by cases hk; exact Nat.le_refl _)) (.cells #[.int .i64 (-1), .int .i64 (-1)] 3))
      go_wp2
      refine bodyPost_ret (results_cell_row rfl _ _ w.heap.size 37 #[.int .i64 (-1), .int .i64 0, .slice (some ⟨wr.heap.size, 0, none⟩) 2 2] (0, 0) _ rfl ((KK.out.put3 _ _ _).al _).h Try.underlying37 rfl infoNdL) rfl ⟨_, _, _, _, by rw [HQ.out], G0.out⟩
theorem run_field_nd (x y : Int) (s : Option Addr) (n c : Nat) (w : World) : (Instr.field 37 (.agg #[.int .i64 x, .int .i64 y, .slice s n c]) 0).run Try.prog w = .ok (.int .i64 x) w := by kernel_rfl
/-- The operation 'copy(d, s)' where its run is known by an equation. -/
theorem wp_copyR {P : Program} (w : World) {o : Oper} {a : Act} {K : Act → World → Prop} {Q : Exit → Act → World → Prop} (d s : Operand) (t t' : TypeId)
    (ho : o.op = .call { callee := .builtin .copy, args := #[d, s], argTypes := #[t, t'] }) (v u : Value) (hd : a.eval d = v) (hs : a.eval s = u) {v' : Value} {w' : World}
    (hr : (Builtin.copy_ #[t, t'] o.type #[v, u]).run P w = .ok v' w') (h : K (a.put o.dst v') w') : o.wp P a w K Q := by
  unfold Oper.wp execOp
  simp only [ho, resolve, invoke, builtin, Sem.run_bind, Sem.run_pure, Result.andThen_ok, List.map_toArray, List.map_cons, List.map_nil, hd, hs, hr]
  exact h
theorem wpList_copyR {P : Program} (w : World) {ops : Array Oper} {rest : List Oper} {o : Oper} {a : Act} {Q : Exit → Act → World → Prop} (hgd : o.guard = none) (d s : Operand) (t t' : TypeId)
    (ho : o.op = .call { callee := .builtin .copy, args := #[d, s], argTypes := #[t, t'] }) (v u : Value) (hd : a.eval d = v) (hs : a.eval s = u) {v' : Value} {w' : World}
    (hr : (Builtin.copy_ #[t, t'] o.type #[v, u]).run P w = .ok v' w') (h : wpList P ops Q rest (a.put o.dst v') w') : wpList P ops Q (o :: rest) a w :=
  wpList_plain hgd fun _ hK => wp_copyR w d s t t' ho v u hd hs hr (hK _ _ h)
theorem step_copyR {P : Program} {ops : Array Oper} {o : Oper} {a : Act} {w : World} {K : Act → World → Prop} {Q : Exit → Act → World → Prop} {E : Prop}
    (hg : o.guard = none) (d x : Operand) (dT sT : TypeId) (hop : o.op = Op.call { callee := Callee.builtin Builtin.copy, args := #[d, x], argTypes := #[dT, sT] })
    (v u : Value) (hd : a.eval d = v) (hx : a.eval x = u) {v' : Value} {w' : World} (hr : (Builtin.copy_ #[dT, sT] o.type #[v, u]).run P w = .ok v' w') (hK : K (a.put o.dst v') w') :
    if Region.wanted o (yielded ops a.tmps) = true then Oper.wp P o a w K Q else E := by
  have hw : Region.wanted o (yielded ops a.tmps) = true := by simp [Region.wanted, hg]
  rw [if_pos hw]
  unfold Oper.wp
  simp [execOp, hop, resolve, invoke, builtin, hd, hx, hr, Result.andThen]
  exact hK
theorem isSome_cells (b : Nat) (vs : List Value) (o : Nat) (w : World) (h : ∀ j, j < vs.length → (w.cell? ⟨b, o + j, none⟩).isSome = true) (k : Nat) (hk : (w.cell? ⟨b, k, none⟩).isSome = true) : ((w.setCells b o vs).cell? ⟨b, k, none⟩).isSome = true := by
  by_cases hin : o ≤ k ∧ k < o + vs.length
  · have := World.cell?_setCells_in b vs o w h (k - o) (by omega)
    rw [show o + (k - o) = k by omega] at this
    rw [this]; rfl
  · rw [World.cell?_setCells_out b vs o w ⟨b, k, none⟩ (fun _ _ => by show k < o ∨ o + vs.length ≤ k; omega)]
    exact hk
theorem shape_of {w : World} {b : Nat} {cs : Array Value} {t : TypeId} (h : w.heap[b]? = some (.cells cs t (0, 0))) : w.shape? b = some (t, cs.size) := by
  simp [World.shape?, h]

set_option maxRecDepth 1000000 in
set_option maxHeartbeats 4000000 in
theorem insShiftN_any (g cap i : Nat) (zs : List Hd) (x y : Int) (sa : Option Addr) (sn sc : Nat) (vb : Nat) (tB : TypeId) (B : Nat) (w : World) (hl : zs.length ≤ 1000) (hi : i < zs.length) (hroom : zs.length + 1 ≤ cap) (ho : OwnRow HL 37 w B (.slice (some ⟨g, 0, none⟩) zs.length cap) zs) (hb : Blk w vb #[.int .i64 x, .int .i64 y, .slice sa sn sc] tB) (hvb : vb ≠ g) :
    Calls Try.prog 75 #[.slice (some ⟨g, 0, none⟩) zs.length cap, .int .i64 i, .slice (some ⟨vb, 0, none⟩) 1 1] w
      fun e w' => e = .returned (.slice (some ⟨g, 0, none⟩) (zs.length + 1) cap) ∧ OwnRow HL 37 w' B (.slice (some ⟨g, 0, none⟩) (zs.length + 1) cap) (insAt zs i (x, y, (sa, sn, sc))) ∧ w.grownBy w' (some g) := by
  have hsz : (Try.prog.info? 37).map (·.size) = some 3 := infoNdL
  have hz3 : ∀ w, (Go.sizeOf 37).run Try.prog w = .ok 3 w := fun w => by kernel_rfl
  obtain ⟨W2o, W2g⟩ := own_shift ho.d1 (i := i) (by omega) hroom (x, y, (sa, sn, sc))
  obtain ⟨_, -, hcap, hmax⟩ : True ∧ True ∧ zs.length ≤ cap ∧ cap ≤ maxLen := by obtain ⟨_, _, hv, h1, h2, _⟩ := ho.reads; simp only [Value.slice.injEq, true_and] at hv; exact ⟨trivial, trivial, by omega, by omega⟩
  unfold maxLen at hmax
  obtain ⟨X, hX, hw⟩ := own_wide ho (zs.length + 1) (by omega) hroom
  have hk3 : HL.k = 3 := rfl
  rw [hk3, show zs.length + 1 - zs.length = 1 by omega] at hX
  have hfl : (flat HL zs).length = zs.length * 3 := flat_len HL zs
  have hsp : ∀ j, j < (zs.length + 1) * 3 → (w.cell? ⟨g, j, none⟩).isSome = true := fun j hj => by rw [own_cell hw j (by simp [hfl, hX]; omega)]; rfl
  have hcs : ∀ j v, (flat HL zs)[j]? = some v → w.cell? ⟨g, j, none⟩ = some v := fun j v hj => by
    have hjl := (List.getElem?_eq_some_iff.1 hj).1
    rw [own_cell hw j (by rw [List.length_append]; omega), List.getElem_append_left hjl, ← List.getElem?_eq_getElem hjl, hj]
  have hfz : ∀ j, w.frozen? ⟨g, j, none⟩ = false := fun j => ho.frozenAt j
  obtain ⟨tG, kG, hsG, hkG⟩ : ∃ tG kG, w.shape? g = some (tG, kG) ∧ kG ≠ 0 := by
    obtain ⟨-, h⟩ := ho
    rcases h with ⟨h, -⟩ | ⟨g', cap', cur, hv, hB, hg, hn, hc, hz, ht⟩
    · cases h
    · simp only [Value.slice.injEq, Option.some.injEq, Addr.mk.injEq, and_true] at hv
      obtain ⟨rfl, -, rfl⟩ := hv
      exact ⟨_, _, shape_of hg, by rw [hz]; show cap * 3 ≠ 0; omega⟩
  have hsV := shape_of hb.h
  have hov : ∀ lb cb, (callFunc 102 #[.slice (some ⟨vb, 0, none⟩) 1 1, .slice (some ⟨g, (i + 1) * 3, none⟩) lb cb]).run Try.prog w = .ok (.value (.bool false)) w := fun lb cb => by
    rw [run_callFunc_extern Try.func102 (by kernel_rfl) (by kernel_rfl) (by kernel_rfl) (e := Extern.SlicesOverlaps.overlaps #[23, 23] #[4]) (by kernel_rfl),
      Lib.run_overlaps_apart w 23 4 37 Try.underlying23 3 hz3 ⟨vb, 0, none⟩ ⟨g, (i + 1) * 3, none⟩ 1 1 lb cb hvb tB tG 3 kG hsV hsG hkG (hb.f 0) (hb.f 3)]
    rfl
  have hnl : (flat HL (zs.drop i)).length = (zs.length - i) * 3 := by rw [flat_len]; simp [hk3]
  have hcp1 : ∀ ty dc sc, (Builtin.copy_ #[23, 23] ty #[.slice (some ⟨g, (i + 1) * 3, none⟩) (zs.length - i) dc, .slice (some ⟨g, i * 3, none⟩) (zs.length + 1 - i) sc]).run Try.prog w.drew = .ok (goInt (zs.length - i : Nat)) (w.drew.setCells g ((i + 1) * 3) (flat HL (zs.drop i))) := fun ty dc sc =>
    run_copy_rows w.drew _ _ ty 37 3 g ((i + 1) * 3) (zs.length - i) dc ⟨g, i * 3, none⟩ (zs.length + 1 - i) sc (zs.length - i) (flat HL (zs.drop i)) Try.underlying23 hsz (by simp only [Nat.min_def]; split <;> omega) hnl
      (fun j v hj => by rw [Addr.add_mid]; exact hcs (i * 3 + j) v (by rwa [flat_drop, List.getElem?_drop] at hj))
      (fun j hj => hsp _ (by omega)) (fun j hj => hfz _) (flat_one HL _)
  obtain ⟨W1, hW1⟩ : ∃ W1, W1 = w.drew.setCells g ((i + 1) * 3) (flat HL (zs.drop i)) := ⟨_, rfl⟩
  have hsp1 : ∀ k, k < (zs.length + 1) * 3 → (W1.cell? ⟨g, k, none⟩).isSome = true := fun k hk => by
    rw [hW1]
    exact isSome_cells g _ ((i + 1) * 3) w.drew (fun j hj => hsp _ (by rw [hnl] at hj; omega)) _ (hsp k hk)
  have hcp2 : ∀ ty dc, (Builtin.copy_ #[23, 23] ty #[.slice (some ⟨g, i * 3, none⟩) (zs.length + 1 - i) dc, .slice (some ⟨vb, 0, none⟩) 1 1]).run Try.prog W1 = .ok (goInt (1 : Nat)) (W1.setCells g (i * 3) (HL.c (x, y, (sa, sn, sc)))) := fun ty dc =>
    run_copy_rows W1 _ _ ty 37 3 g (i * 3) (zs.length + 1 - i) dc ⟨vb, 0, none⟩ 1 1 1 (HL.c (x, y, (sa, sn, sc))) Try.underlying23 hsz (by simp only [Nat.min_def]; split <;> omega) rfl
      (fun j v hj => by
        rw [Addr.add_mid, hW1, World.cell?_setCells_out g _ _ _ _ (fun h _ => absurd h hvb), Nat.zero_add]
        exact hb.c j (by rw [← Array.getElem?_toList]; exact hj))
      (fun j hj => hsp1 _ (by have : j < 3 := hj; omega)) (fun j hj => by rw [hW1, World.frozen?_setCells]; exact hfz _) (HL.one _)
  obtain ⟨W2, hW2⟩ : ∃ W2, W2 = W1.setCells g (i * 3) (HL.c (x, y, (sa, sn, sc))) := ⟨_, rfl⟩
  rw [hk3, ← hW1, ← hW2] at W2o W2g
  rw [← hW1] at hcp1
  rw [← hW2] at hcp2
  have O := Lib.hid W2o
  have G := Lib.hid ((grown_draws0 w g).trans W2g)
  have hz2 : ((i : Int) == (zs.length : Int)) = false := by rw [beq_eq_false_iff_ne]; omega
  have hz2' : ¬ ((i : Int) = (zs.length : Int)) := by omega
  have hw1 : IntKind.i64.wrap ((i : Int) + 1) = (i : Int) + 1 := IntWalk.i64_in _ (by omega)
  have hw2 : IntKind.i64.wrap ((zs.length : Int) + 1) = (zs.length : Int) + 1 := IntWalk.i64_in _ (by omega)
  have hb1 : (0 : Int) ≤ (i : Int) + 1 := by omega
  have hb0 : (0 : Int) ≤ (zs.length : Int) + 1 := by omega
  have hbc : (zs.length : Int) + 1 ≤ (cap : Int) := by omega
  have hq : decide ((cap : Int) < (zs.length : Int) + 1) = false := decide_eq_false (by omega)
  have htn : ((i : Int) + 1).toNat = i + 1 := by omega
  have htn2 : ((zs.length : Int) + 1).toNat = zs.length + 1 := by omega
  have hin : (i : Int) + 1 ≤ (zs.length : Int) + 1 := by omega
  have hin0 : (i : Int) ≤ (zs.length : Int) + 1 := by omega
  have hb2 : ¬ (cap = i + 1) := by omega
  have hb4 : ¬ (cap = i) := by omega
  clear hW1 hW2 W2o W2g hsp hsp1 hcs hfz hsG hsV hw hX ho hb hnl hfl
  go_enter Try.func75, Try.ntmps75
  go_wp2_with (simp only [hov])
  go_region_law (refine step_copyR rfl (.tmp 73) (.tmp 76) 23 23 rfl _ _ (by simp [Act.eval, Act.put]) (by simp [Act.eval, Act.put]) (hcp1 _ _ _) ?_)
  go_wp2_with (at_builtin; refine wpList_copyR _ rfl (.tmp 80) (.tmp 81) 23 23 rfl _ _ rfl rfl (hcp2 _ _) ?_)
  go_ret
  exact ⟨rfl, O.out, G.out⟩

/-- The operation 'append(d, s...)' where its run is known by an equation. -/
theorem wp_appR {P : Program} (w : World) {o : Oper} {a : Act} {K : Act → World → Prop} {Q : Exit → Act → World → Prop} (d s : Operand) (t t' : TypeId)
    (ho : o.op = .call { callee := .builtin .append, args := #[d, s], argTypes := #[t, t'] }) (v u : Value) (hd : a.eval d = v) (hs : a.eval s = u) {v' : Value} {w' : World}
    (hr : (Builtin.append_ #[t, t'] o.type #[v, u]).run P w = .ok v' w') (h : K (a.put o.dst v') w') : o.wp P a w K Q := by
  unfold Oper.wp execOp
  simp only [ho, resolve, invoke, builtin, Sem.run_bind, Sem.run_pure, Result.andThen_ok, List.map_toArray, List.map_cons, List.map_nil, hd, hs, hr]
  exact h
theorem wpList_appR {P : Program} (w : World) {ops : Array Oper} {rest : List Oper} {o : Oper} {a : Act} {Q : Exit → Act → World → Prop} (hgd : o.guard = none) (d s : Operand) (t t' : TypeId)
    (ho : o.op = .call { callee := .builtin .append, args := #[d, s], argTypes := #[t, t'] }) (v u : Value) (hd : a.eval d = v) (hs : a.eval s = u) {v' : Value} {w' : World}
    (hr : (Builtin.append_ #[t, t'] o.type #[v, u]).run P w = .ok v' w') (h : wpList P ops Q rest (a.put o.dst v') w') : wpList P ops Q (o :: rest) a w :=
  wpList_plain hgd fun _ hK => wp_appR w d s t t' ho v u hd hs hr (hK _ _ h)
theorem blk_row {w : World} {vb : Nat} {x y : Int} {sa : Option Addr} {sn sc : Nat} {tB : TypeId} (hb : Blk w vb #[.int .i64 x, .int .i64 y, .slice sa sn sc] tB) : RRow HL w (.slice (some ⟨vb, 0, none⟩) 1 1) [(x, y, (sa, sn, sc))] := by
  refine ⟨some ⟨vb, 0, none⟩, 1, rfl, by simp, by unfold maxLen; omega, fun i hi => ?_⟩
  obtain rfl : i = 0 := by simpa using hi
  refine ⟨vb, 0, rfl, hb.lt, fun j u hu => ?_⟩
  obtain ⟨h0, h1, h2⟩ := hb.get3
  have hu' : [Value.int .i64 x, .int .i64 y, .slice sa sn sc][j]? = some u := hu
  rw [show 0 + 0 * HL.k + j = j by rw [Nat.zero_mul]; omega]
  exact hb.c j (by rw [← Array.getElem?_toList]; exact hu')
set_option maxRecDepth 1000000 in
set_option maxHeartbeats 1000000 in
/-- At the end: an append. -/
theorem insEndN_any (g cap : Nat) (zs : List Hd) (x y : Int) (sa : Option Addr) (sn sc : Nat) (vb : Nat) (tB : TypeId) (B : Nat) (w : World) (hl : zs.length ≤ 1000) (ho : OwnRow HL 37 w B (.slice (some ⟨g, 0, none⟩) zs.length cap) zs) (hb : Blk w vb #[.int .i64 x, .int .i64 y, .slice sa sn sc] tB) (hB : B ≤ w.heap.size) :
    ∃ a n q, Calls Try.prog 75 #[.slice (some ⟨g, 0, none⟩) zs.length cap, .int .i64 zs.length, .slice (some ⟨vb, 0, none⟩) 1 1] w
      fun e w' => e = .returned (.slice a n q) ∧ OwnRow HL 37 w' B (.slice a n q) (zs ++ [(x, y, (sa, sn, sc))]) ∧ w.grownBy w' (some g) := by
  obtain ⟨_, _, hv, hcap, hmax, -⟩ := id ho.reads
  simp only [Value.slice.injEq, true_and] at hv
  obtain ⟨-, rfl⟩ := hv
  unfold maxLen at hmax
  obtain ⟨v', w', h0, h1, h2⟩ := run_appH w B _ zs ho ⟨vb, 0, none⟩ 1 1 _ (blk_row hb) (by simp; omega) hB
  obtain ⟨a', q', rfl, -, -, -⟩ := id h1.reads
  obtain ⟨n', hn'⟩ : ∃ n', n' = (zs ++ [((x, y, (sa, sn, sc)) : Hd)]).length := ⟨_, rfl⟩
  rw [← hn'] at h0 h1
  clear hn'
  have O := Lib.hid h1; have G := Lib.hid h2
  have hzz : ((zs.length : Int) == (zs.length : Int)) = true := by simp
  refine ⟨a', n', q', ?_⟩
  clear h1 h2 ho hb
  go_enter Try.func75, Try.ntmps75
  go_wp2_with (at_builtin; refine wpList_appR _ rfl _ _ 23 23 rfl _ _ rfl rfl h0 ?_)
  all_goals
    go_wp2
    go_ret
    exact ⟨rfl, O.out, G.out⟩

set_option maxRecDepth 1000000 in
set_option maxHeartbeats 4000000 in
/-- No room: a new row. -/
theorem insGrowN_any (g i : Nat) (zs : List Hd) (x y : Int) (sa : Option Addr) (sn sc : Nat) (vb : Nat) (tB : TypeId) (B : Nat) (w : World) (hl : zs.length ≤ 1000) (hi : i < zs.length) (ho : OwnRow HL 37 w B (.slice (some ⟨g, 0, none⟩) zs.length zs.length) zs) (hb : Blk w vb #[.int .i64 x, .int .i64 y, .slice sa sn sc] tB) :
    ∃ a n q, Calls Try.prog 75 #[.slice (some ⟨g, 0, none⟩) zs.length zs.length, .int .i64 i, .slice (some ⟨vb, 0, none⟩) 1 1] w
      fun e w' => e = .returned (.slice a n q) ∧ OwnRow HL 37 w' w.heap.size (.slice a n q) (insAt zs i (x, y, (sa, sn, sc))) ∧ Below w.heap.size w w' := by
  obtain ⟨i0, hi0, hz0, hz1, hz2⟩ := info_parts infoNd4
  have hsz : (Try.prog.info? 37).map (·.size) = some 3 := infoNdL
  have hk3 : HL.k = 3 := rfl
  have hgw : g < w.heap.size := (ho.lts g rfl).2
  have hvw : vb < w.heap.size := hb.lt
  have hcs : ∀ j v, (flat HL zs)[j]? = some v → w.cell? ⟨g, j, none⟩ = some v := fun j v hj => by
    have := (ho.reads.addr.2 j v hj).2
    rwa [Addr.add_mid, Nat.zero_add] at this
  have hold : (Builtin.firstCells i0.size i (.slice (some ⟨g, 0, none⟩) i zs.length)).run Try.prog w.drew = .ok (flat HL (zs.take i)).toArray w.drew := by
    rw [hz1]
    exact run_firstCells_some w.drew 3 i ⟨g, 0, none⟩ i zs.length (flat HL (zs.take i)) (by rw [flat_len, List.length_take, Nat.min_eq_left (by omega)]; rfl) (fun j v hj => by
      rw [Addr.add_mid, Nat.zero_add]
      rw [flat_take, List.getElem?_take] at hj
      split at hj
      · exact hcs j v hj
      · cases hj)
  obtain ⟨G, hG⟩ : ∃ G, G = grownCap w (zs.length + 1) zs.length 37 := ⟨_, rfl⟩
  have hGn : zs.length + 1 ≤ G := by rw [hG]; exact grownCap_ge w _ _ _
  have hG63 : G ≤ maxLen := by rw [hG]; exact grownCap_le_maxLen w (zs.length + 1) zs.length 37 (by unfold maxLen; omega)
  have hrz : ∀ ty, (Builtin.append_ #[23, 3] ty #[.slice (some ⟨g, 0, none⟩) i zs.length, .int .i64 ((zs.length : Int) + 1 - (i : Int))]).run Try.prog w =
      .ok (.slice (some ⟨w.heap.size, 0, none⟩) (zs.length + 1) G) (w.drew.alloc (.cells ((flat HL (zs.take i)).toArray ++ Builtin.zeroCells (Value.agg #[.int .i64 0, .int .i64 0, .slice none 0 0]).cells (zs.length + 1 - i) ++ Builtin.zeroCells (Value.agg #[.int .i64 0, .int .i64 0, .slice none 0 0]).cells (G - (zs.length + 1))) 37)) := fun ty => by
    have h := Lib.run_append_grow_zeros w 23 3 ty 37 i0 _ .i64 .i64 Try.underlying23 Try.underlying3 hi0 hz0 (some ⟨g, 0, none⟩) i zs.length (flat HL (zs.take i)) hold (zs.length + 1 - i) (by omega) (by omega) (by omega) (by omega) (by rw [hz2]; omega) (by rw [hz2, show i + (zs.length + 1 - i) = zs.length + 1 by omega]; exact growslice_fits (by omega) (by omega))
    rw [show i + (zs.length + 1 - i) = zs.length + 1 by omega, ← hG] at h
    rw [show (zs.length : Int) + 1 - (i : Int) = ((zs.length + 1 - i : Nat) : Int) by omega]
    exact h
  have hE : OwnRow HL 37 (w.drew.alloc (.cells ((flat HL (zs.take i)).toArray ++ Builtin.zeroCells (Value.agg #[.int .i64 0, .int .i64 0, .slice none 0 0]).cells (zs.length + 1 - i) ++ Builtin.zeroCells (Value.agg #[.int .i64 0, .int .i64 0, .slice none 0 0]).cells (G - (zs.length + 1))) 37)) w.heap.size (.slice (some ⟨w.heap.size, 0, none⟩) (zs.length + 1) G) (zs.take i ++ List.replicate (zs.length + 1 - i) ((0, 0, (none, 0, 0)) : Hd)) :=
    own_zeros w.drew _ (0, 0, (none, 0, 0)) rfl zs i (zs.length + 1) G (by omega) (by omega) hGn hG63
  obtain ⟨O, hO⟩ : ∃ O : Obj, O = .cells ((flat HL (zs.take i)).toArray ++ Builtin.zeroCells (Value.agg #[.int .i64 0, .int .i64 0, .slice none 0 0]).cells (zs.length + 1 - i) ++ Builtin.zeroCells (Value.agg #[.int .i64 0, .int .i64 0, .slice none 0 0]).cells (G - (zs.length + 1))) 37 := ⟨_, rfl⟩
  rw [← hO] at hrz hE
  clear hO hold hG
  obtain ⟨W1, hW1⟩ : ∃ W1, W1 = w.drew.alloc O := ⟨_, rfl⟩
  have hB1 : Below w.heap.size w W1 := by rw [hW1]; exact (Below.refl _ w).drew.alloc (Nat.le_refl _) O
  rw [← hW1] at hrz hE
  have hLl : (zs.take i ++ List.replicate (zs.length + 1 - i) ((0, 0, (none, 0, 0)) : Hd)).length = zs.length + 1 := by simp; omega
  have hcell1 : ∀ {W : World} {es : List Hd}, OwnRow HL 37 W w.heap.size (.slice (some ⟨w.heap.size, 0, none⟩) (zs.length + 1) G) es → ∀ j, j < (zs.length + 1) * 3 → (W.cell? ⟨w.heap.size, j, none⟩).isSome = true := fun {W es} h j hj => by
    have hl := h.len
    have hjl : j < (flat HL es).length := by rw [flat_len, ← hl]; exact hj
    have := (h.reads.addr.2 _ _ (List.getElem?_eq_getElem hjl)).2
    rw [Addr.add_mid, Nat.zero_add] at this
    rw [this]; rfl
  obtain ⟨h2, g2⟩ := OwnRow.setRun hE i [(x, y, (sa, sn, sc))] (by rw [hLl]; simp; omega)
  have ef : flat HL [(x, y, (sa, sn, sc))] = HL.c (x, y, (sa, sn, sc)) := by rw [flat_cons, flat_nil, List.append_nil]
  rw [ef, hk3] at h2 g2
  have hcpA : ∀ ty dc, (Builtin.copy_ #[23, 23] ty #[.slice (some ⟨w.heap.size, i * 3, none⟩) (zs.length + 1 - i) dc, .slice (some ⟨vb, 0, none⟩) 1 1]).run Try.prog W1 = .ok (goInt (1 : Nat)) (W1.setCells w.heap.size (i * 3) (HL.c (x, y, (sa, sn, sc)))) := fun ty dc =>
    run_copy_rows W1 _ _ ty 37 3 w.heap.size (i * 3) (zs.length + 1 - i) dc ⟨vb, 0, none⟩ 1 1 1 (HL.c (x, y, (sa, sn, sc))) Try.underlying23 hsz (by simp only [Nat.min_def]; split <;> omega) rfl
      (fun j v hj => by rw [Addr.add_mid, Nat.zero_add]; exact (hb.bl hB1).c j (by rw [← Array.getElem?_toList]; exact hj))
      (fun j hj => hcell1 hE _ (by have : j < 3 := hj; omega)) (fun j hj => hE.frozenAt _) (HL.one _)
  obtain ⟨W2, hW2⟩ : ∃ W2, W2 = W1.setCells w.heap.size (i * 3) (HL.c (x, y, (sa, sn, sc))) := ⟨_, rfl⟩
  rw [← hW2] at h2 g2 hcpA
  have hB2 : Below w.heap.size w W2 := bGr hB1 g2 (fun k hk => by cases hk; exact Nat.le_refl _)
  have hl2 : (List.take i (zs.take i ++ List.replicate (zs.length + 1 - i) ((0, 0, (none, 0, 0)) : Hd)) ++ [(x, y, (sa, sn, sc))] ++ List.drop (i + [((x, y, (sa, sn, sc)) : Hd)].length) (zs.take i ++ List.replicate (zs.length + 1 - i) ((0, 0, (none, 0, 0)) : Hd))).length = zs.length + 1 := by simp; omega
  obtain ⟨h3, g3⟩ := OwnRow.setRun h2.d1 (i + 1) (zs.drop i) (by rw [hl2]; simp; omega)
  rw [hk3] at h3 g3
  have hnl : (flat HL (zs.drop i)).length = (zs.length - i) * 3 := by rw [flat_len]; simp [hk3]
  have hcpB : ∀ ty dc sc, (Builtin.copy_ #[23, 23] ty #[.slice (some ⟨w.heap.size, (i + 1) * 3, none⟩) (zs.length - i) dc, .slice (some ⟨g, i * 3, none⟩) (zs.length - i) sc]).run Try.prog W2.drew = .ok (goInt (zs.length - i : Nat)) (W2.drew.setCells w.heap.size ((i + 1) * 3) (flat HL (zs.drop i))) := fun ty dc sc =>
    run_copy_rows W2.drew _ _ ty 37 3 w.heap.size ((i + 1) * 3) (zs.length - i) dc ⟨g, i * 3, none⟩ (zs.length - i) sc (zs.length - i) (flat HL (zs.drop i)) Try.underlying23 hsz (by simp only [Nat.min_def]; split <;> omega) hnl
      (fun j v hj => by
        rw [Addr.add_mid]
        show W2.cell? _ = _
        rw [hB2.cell (p := ⟨g, i * 3 + j, none⟩) hgw]
        exact hcs (i * 3 + j) v (by rwa [flat_drop, List.getElem?_drop] at hj))
      (fun j hj => hcell1 h2.d1 _ (by omega)) (fun j hj => h2.d1.frozenAt _) (flat_one HL _)
  obtain ⟨W3, hW3⟩ : ∃ W3, W3 = W2.drew.setCells w.heap.size ((i + 1) * 3) (flat HL (zs.drop i)) := ⟨_, rfl⟩
  rw [← hW3] at h3 g3 hcpB
  have hB3 : Below w.heap.size w W3 := bGr hB2.drew g3 (fun k hk => by cases hk; exact Nat.le_refl _)
  have ht1 : (zs.take i).length = i := by simp; omega
  have hfin : List.take (i + 1) (List.take i (zs.take i ++ List.replicate (zs.length + 1 - i) ((0, 0, (none, 0, 0)) : Hd)) ++ [(x, y, (sa, sn, sc))] ++ List.drop (i + [((x, y, (sa, sn, sc)) : Hd)].length) (zs.take i ++ List.replicate (zs.length + 1 - i) ((0, 0, (none, 0, 0)) : Hd))) ++ zs.drop i ++ List.drop (i + 1 + (zs.drop i).length) (List.take i (zs.take i ++ List.replicate (zs.length + 1 - i) ((0, 0, (none, 0, 0)) : Hd)) ++ [(x, y, (sa, sn, sc))] ++ List.drop (i + [((x, y, (sa, sn, sc)) : Hd)].length) (zs.take i ++ List.replicate (zs.length + 1 - i) ((0, 0, (none, 0, 0)) : Hd))) = insAt zs i (x, y, (sa, sn, sc)) := by
    have e1 : List.take i (zs.take i ++ List.replicate (zs.length + 1 - i) ((0, 0, (none, 0, 0)) : Hd)) = zs.take i := by
      rw [List.take_append_of_le_length (by omega), List.take_take, Nat.min_self]
    have e3 : List.drop (i + 1 + (zs.drop i).length) (List.take i (zs.take i ++ List.replicate (zs.length + 1 - i) ((0, 0, (none, 0, 0)) : Hd)) ++ [(x, y, (sa, sn, sc))] ++ List.drop (i + [((x, y, (sa, sn, sc)) : Hd)].length) (zs.take i ++ List.replicate (zs.length + 1 - i) ((0, 0, (none, 0, 0)) : Hd))) = [] := List.drop_of_length_le (by rw [hl2]; simp; omega)
    have e4 : (zs.take i ++ [((x, y, (sa, sn, sc)) : Hd)]).length = i + 1 := by simp; omega
    rw [e3, List.append_nil, e1, List.take_append_of_le_length (by omega), ← e4, List.take_length]
    rfl
  rw [hfin] at h3
  have O3 := Lib.hid h3; have G3 := Lib.hid hB3
  have hz2 : ((i : Int) == (zs.length : Int)) = false := by rw [beq_eq_false_iff_ne]; omega
  have hz2' : ¬ ((i : Int) = (zs.length : Int)) := by omega
  have hw1 : IntKind.i64.wrap ((i : Int) + 1) = (i : Int) + 1 := IntWalk.i64_in _ (by omega)
  have hw2 : IntKind.i64.wrap ((zs.length : Int) + 1) = (zs.length : Int) + 1 := IntWalk.i64_in _ (by omega)
  have hw3 : IntKind.i64.wrap ((zs.length : Int) + 1 - (i : Int)) = (zs.length : Int) + 1 - (i : Int) := IntWalk.i64_in _ (by omega)
  have hb1 : (0 : Int) ≤ (i : Int) + 1 := by omega
  have hq : decide ((zs.length : Int) < (zs.length : Int) + 1) = true := decide_eq_true (by omega)
  have htn : ((i : Int) + 1).toNat = i + 1 := by omega
  have hin : (i : Int) ≤ (zs.length : Int) := by omega
  have hin1 : (i : Int) + 1 ≤ (zs.length : Int) + 1 := by omega
  have hin0 : (i : Int) ≤ (zs.length : Int) + 1 := by omega
  have hGi : ¬ (G = i) := by omega
  have hGim : ¬ (G = i + 1) := by omega
  have hni : ¬ (zs.length = i) := by omega
  unfold maxLen at hG63
  clear hW1 hW2 hW3 h2 g2 h3 g3 hB1 hB2 hB3 hfin hl2 ht1 hcell1 hE hcs hb ho hnl ef hLl
  refine ⟨some ⟨w.heap.size, 0, none⟩, zs.length + 1, G, ?_⟩
  go_enter Try.func75, Try.ntmps75
  go_wp2_with (first | (at_builtin; refine Lib.wpList_append_run _ rfl (.tmp 34) (.tmp 39) 23 3 rfl _ _ rfl rfl _ _ (hrz _) ?_) | (at_builtin; refine wpList_copyR _ rfl (.tmp 43) (.tmp 44) 23 23 rfl _ _ rfl rfl (hcpA _ _) ?_))
  go_region_law (refine step_copyR rfl (.tmp 50) (.tmp 53) 23 23 rfl _ _ (by simp [Act.eval, Act.put]) (by simp [Act.eval, Act.put]) (hcpB _ _ _) ?_)
  go_wp2
  go_ret
  exact ⟨rfl, O3.out, G3.out⟩

/-- One more node at place i: what is handed back is known ahead. -/
theorem insN_any (g cap i : Nat) (zs : List Hd) (x y : Int) (sa : Option Addr) (sn sc : Nat) (vb : Nat) (tB : TypeId) (B : Nat) (w : World) (hl : zs.length ≤ 1000) (hi : i ≤ zs.length) (ho : OwnRow HL 37 w B (.slice (some ⟨g, 0, none⟩) zs.length cap) zs) (hb : Blk w vb #[.int .i64 x, .int .i64 y, .slice sa sn sc] tB) (hvb : vb ≠ g) (hB : B ≤ w.heap.size) :
    ∃ a n q, Calls Try.prog 75 #[.slice (some ⟨g, 0, none⟩) zs.length cap, .int .i64 i, .slice (some ⟨vb, 0, none⟩) 1 1] w
      fun e w' => e = .returned (.slice a n q) ∧ OwnRow HL 37 w' B (.slice a n q) (insAt zs i (x, y, (sa, sn, sc))) ∧ w.grownBy w' (some g) := by
  have hcap : zs.length ≤ cap := by
    obtain ⟨_, _, hv, hcap, hmax, -⟩ := id ho.reads
    simp only [Value.slice.injEq, true_and] at hv
    obtain ⟨-, rfl⟩ := hv
    exact hcap
  by_cases h1 : i = zs.length
  · subst h1
    obtain ⟨a, n, q, h⟩ := insEndN_any g cap zs x y sa sn sc vb tB B w hl ho hb hB
    refine ⟨a, n, q, h.mono ?_⟩
    rintro e w' ⟨rfl, o, gr⟩
    refine ⟨rfl, ?_, gr⟩
    unfold insAt
    rw [List.take_length, List.drop_length, List.append_nil]; exact o
  · by_cases h2 : zs.length + 1 ≤ cap
    · exact ⟨_, _, _, insShiftN_any g cap i zs x y sa sn sc vb tB B w hl (by omega) h2 ho hb hvb⟩
    · obtain rfl : cap = zs.length := by omega
      obtain ⟨a, n, q, h⟩ := insGrowN_any g i zs x y sa sn sc vb tB B w hl (by omega) ho hb
      refine ⟨a, n, q, h.mono ?_⟩
      rintro e w' ⟨rfl, o, b⟩
      exact ⟨rfl, o.base hB, ⟨b.os, b.tape, b.output, b.size, fun k hk _ => b.block k hk⟩⟩
set_option maxHeartbeats 400000 in
theorem joinF1_any (x y key : Int) (s : Option Addr) (n c : Nat) (w : World) (hx : 0 ≤ x ∧ x < 64) (hk : 0 ≤ key ∧ key ≤ 63) :
    Calls Try.prog 74 #[.agg #[.int .i64 x, .int .i64 y, .slice s n c], .int .i64 key] w fun e w' => e = .returned (.int .i64 (x - key)) ∧ Below w.heap.size w w' := by
  obtain ⟨x0, x1⟩ := hx; obtain ⟨k0, k1⟩ := hk
  have e1 : IntKind.i64.wrap (x - key) = x - key := IntWalk.i64_in _ (by omega)
  go_enter Try.func74, Try.ntmps74
  go_wp2
  go_ret
  exact ⟨rfl, below_alloc _ _⟩
theorem enters74 : ∀ (args : Array Value) (w : World), (callFunc 74 args).run Try.prog w = .ok (.enter 74 args) w := enters_of Try.func74 (by kernel_rfl) rfl
theorem asc_lt {R : List Nd} (hv : ValidL R) {i j : Nat} (hj : j < R.length) (h : i < j) : (nth R i).id < (nth R j).id := by
  have hp := List.pairwise_iff_getElem.1 hv.asc
  have := hp i j (by simp [idsL]; omega) (by simp [idsL]; omega) h
  rwa [ids_get (by omega), ids_get hj] at this

set_option maxRecDepth 100000 in
set_option maxHeartbeats 4000000 in
theorem searchN_any (v : Value) (R : List Nd) (key : Int) (w : World) (hv : ValidL R) (hk : 0 ≤ key ∧ key ≤ 63) (hr : RR w v R) :
    Calls Try.prog 73 #[v, .int .i64 key, .func (.func 74) #[] #[]] w fun e w' => ∃ t, e = .returned (.tuple #[.int .i64 (place R key), .bool t]) ∧ Below w.heap.size w w' := by
  obtain ⟨a, cap, rfl, hc, hm⟩ := id hr.sl
  have HR := Lib.hid hr; clear hr
  have HC := Lib.hid hv
  have hl := hv.len
  have eg := enters74
  clear hv
  go_enter Try.func73, Try.ntmps73
  go_wp2
  go_loopw [9, 10] (fun i j wr => ∃ a b : Nat, a ≤ b ∧ b ≤ R.length ∧ i = .int .i64 a ∧ j = .int .i64 b ∧ Hid (∀ k, k < a → (nth R k).id < key) ∧ Hid (∀ k, k < R.length → b ≤ k → key ≤ (nth R k).id) ∧ Hid (Below w.heap.size w wr)) (fun i j _ => (intOf j).toNat - (intOf i).toNat)
  case atStart => exact ⟨0, R.length, Nat.zero_le _, Nat.le_refl _, rfl, rfl, Lib.hid (fun k hk => by omega), Lib.hid (fun k h hk => by omega), Lib.hid (Below.refl _ _)⟩
  case round =>
    obtain ⟨a', b', hab, hb', rfl, rfl, H1, H2, hB⟩ := hrel
    by_cases hlt : a' < b'
    · obtain ⟨m, hm1⟩ : ∃ m, m = (a' + b') / 2 := ⟨_, rfl⟩
      have em : ((a' : Int) + b') / 2 = m := by omega
      have hma : a' ≤ m := by omega
      have hmb : m < b' := by omega
      have hml : m < R.length := by omega
      clear hm1
      obtain ⟨b, off, bs, os, c, rfl, hbl, hbs, r0, r1, r2, r3, -, -⟩ := (HR.out.bl hB.out).nd m hml
      have HI := Lib.hid (HC.out.ok _ (nth_mem hml)).i0
      have HLT := Lib.hid (fun k (h : k < m) => asc_lt HC.out hml h)
      have HGT := Lib.hid (fun k (h : k < R.length) (h2 : m < k) => asc_lt HC.out h h2)
      clear r3
      generalize hn : nth R m = n at *
      have HN := Lib.hid hn
      clear hn
      by_cases hxk : n.id < key
      · have hd : decide (n.id - key < 0) = true := decide_eq_true (by omega)
        have HXK := Lib.hid hxk; clear hxk
        go_wp2_with fail
        refine (joinF1_any _ _ _ _ _ _ _ HI.out hk).mono ?_
        rintro e w2 ⟨rfl, b2⟩
        have c2 := Lib.hid (bNext hB.out b2)
        clear b2
        go_wp2
        go_roundw
        case rel => exact ⟨m + 1, b', by omega, hb', by go_num, rfl, Lib.hid (fun k hk' => by
          by_cases hkm : k < m
          · have := HLT.out k hkm; have := HXK.out; omega
          · obtain rfl : k = m := by omega
            rw [HN.out]; exact HXK.out), H2, c2⟩
        case measure => simp [intOf]; omega
      · have hd : decide (n.id - key < 0) = false := decide_eq_false (by omega)
        have HXK := Lib.hid hxk; clear hxk
        go_wp2_with fail
        refine (joinF1_any _ _ _ _ _ _ _ HI.out hk).mono ?_
        rintro e w2 ⟨rfl, b2⟩
        have c2 := Lib.hid (bNext hB.out b2)
        clear b2
        go_wp2
        go_roundw
        case rel => exact ⟨a', m, hma, by omega, rfl, rfl, H1, Lib.hid (fun k h hk' => by
          by_cases hkm : m < k
          · have := HGT.out k h hkm; have := HXK.out; omega
          · obtain rfl : k = m := by omega
            rw [HN.out]; have := HXK.out; omega), c2⟩
        case measure => simp [intOf]; omega
    · obtain rfl : a' = b' := by omega
      have HP : Hid (place R key = a') := Lib.hid (place_of hb' (fun k hk' => H1.out k hk') (fun h => H2.out a' h (Nat.le_refl _)))
      by_cases hend : a' < R.length
      · have hde : decide ((a' : Int) < R.length) = true := decide_eq_true (by omega)
        have hde' : decide (a' < R.length) = true := decide_eq_true hend
        obtain ⟨b, off, bs, os, c, rfl, hbl, hbs, r0, r1, r2, r3, -, -⟩ := (HR.out.bl hB.out).nd a' hend
        have HI := Lib.hid (HC.out.ok _ (nth_mem hend)).i0
        clear r3
        generalize nth R a' = n at *
        go_wp2_with fail
        refine (joinF1_any _ _ _ _ _ _ _ HI.out hk).mono ?_
        rintro e w2 ⟨rfl, b2⟩
        have c2 := Lib.hid (bNext hB.out b2)
        clear b2
        go_wp2
        go_ret2
        exact ⟨_, by rw [HP.out]; rfl, c2.out⟩
      · have hde : decide ((a' : Int) < R.length) = false := decide_eq_false (by omega)
        have hde' : decide (a' < R.length) = false := decide_eq_false hend
        go_wp2
        go_ret2
        exact ⟨_, by rw [HP.out]; rfl, hB.out⟩

theorem ins_get {α : Type} (xs : List α) (k i : Nat) (e : α) (h : i < (insAt xs k e).length) (hk : k ≤ xs.length) :
    (i = k ∧ (insAt xs k e)[i] = e) ∨ (i ≠ k ∧ ∃ h' : (if i < k then i else i - 1) < xs.length, (insAt xs k e)[i] = xs[if i < k then i else i - 1]) := by
  have hl : (xs.take k).length = k := by simp; omega
  have hlen := insAt_len e hk
  have h0 := h
  rw [hlen] at h0
  have hL : insAt xs k e = xs.take k ++ ([e] ++ xs.drop k) := by simp [insAt]
  by_cases h1 : i = k
  · refine .inl ⟨h1, Option.some.inj ?_⟩
    rw [← List.getElem?_eq_getElem h, hL, List.getElem?_append_right (by omega), hl, h1]
    simp
  · refine .inr ⟨h1, ?_⟩
    by_cases hi : i < k
    · refine ⟨by rw [if_pos hi]; omega, Option.some.inj ?_⟩
      simp only [if_pos hi]
      rw [← List.getElem?_eq_getElem h, hL, List.getElem?_append_left (by omega), List.getElem?_take, if_pos hi, List.getElem?_eq_getElem (by omega)]
    · refine ⟨by rw [if_neg hi]; omega, Option.some.inj ?_⟩
      simp only [if_neg hi]
      rw [← List.getElem?_eq_getElem h, hL, List.getElem?_append_right (by omega), List.getElem?_append_right (by simp; omega), List.getElem?_drop, show k + (i - (xs.take k).length - [e].length) = i - 1 by simp only [hl, List.length_singleton]; omega, List.getElem?_eq_getElem (by omega)]
/-- A ring of the call's own with one more node. -/
theorem RS.ins {w w' : World} {B S : Nat} {v u : Value} {hs : List Hd} {D : List Rn} {x y : Int} {s : Sl} {zs : List Int} (h : RS w B v hs D) {k : Nat} (hk : k ≤ hs.length) (ho : OwnRow HL 37 w' B u (insAt hs k (x, y, s))) (hg : w.grownBy w' v.ownBlock)
    (hz : OwnInts w S (slV s) zs) (hBS : B ≤ S) (hfar : ∀ i (hi : i < hs.length) q, (slV hs[i].2.2).ownBlock = some q → q < S) :
    RS w' B u (insAt hs k (x, y, s)) (insAt D k (x, y, zs)) := by
  have hl := h.len
  have hnew : ∀ q, (slV s).ownBlock = some q → S ≤ q := fun q hq => (hz.lts q hq).1
  refine ⟨ho, by rw [insAt_len _ hk, insAt_len _ (by omega), hl], fun i h1 h2 => ?_, fun i j hi hj hij => ?_⟩
  · rcases ins_get hs k i _ h1 hk with ⟨e, e1⟩ | ⟨ne, p1, e1⟩
    · rcases ins_get D k i _ h2 (by omega) with ⟨-, e2⟩ | ⟨ne2, -⟩
      · rw [e1, e2]
        exact ⟨rfl, rfl, ownsRow_base (hz.gr hg (own_types hz h.row ne_nd_int)) hBS⟩
      · exact absurd e ne2
    · rcases ins_get D k i _ h2 (by omega) with ⟨e, -⟩ | ⟨-, p2, e2⟩
      · exact absurd e ne
      · rw [e1, e2]
        obtain ⟨a, b, c⟩ := h.nd _ p1 p2
        exact ⟨a, b, c.gr hg (own_types c h.row ne_nd_int)⟩
  · rcases ins_get hs k i _ hi hk with ⟨e, e1⟩ | ⟨ne, p1, e1⟩
    · rcases ins_get hs k j _ hj hk with ⟨e', -⟩ | ⟨-, p2, e2⟩
      · omega
      · rw [e1, e2]
        cases hb : (slV s).ownBlock with
        | none => exact .inl rfl
        | some q => exact .inr fun e3 => by have h3 := hfar _ p2 q e3.symm; have h4 := hnew q hb; omega
    · rcases ins_get hs k j _ hj hk with ⟨e', e2⟩ | ⟨ne2, p2, e2⟩
      · rw [e1, e2]
        cases hb : (slV hs[if i < k then i else i - 1].2.2).ownBlock with
        | none => exact .inl rfl
        | some q => exact .inr fun e3 => by have h3 := hfar _ p1 q hb; have h4 := hnew q e3.symm; omega
      · rw [e1, e2]
        exact h.ap _ _ p1 p2 (by split <;> split <;> omega)

theorem neq_pn (a : Addr) : ∀ w, (binOp .neq 57 (.pointer (some a)) (.pointer none)).run Try.prog w = .ok (.bool true) w := fun _ => by kernel_rfl
theorem ins_dats (R : List Nd) (k : Nat) (n : Nd) : insAt (dats R) k (n.id, n.bf, [n.a0, n.a1]) = dats (insS R k n) := by rw [dats_ins]; simp [insAt, dat]
set_option maxRecDepth 100000 in
set_option maxHeartbeats 8000000 in
theorem joinM_any (w0 W : World) (gS : Nat) (x : Value) (R : List Nd) (x0 y0 : Int) (hv : ValidL R) (h3 : 0 < R.length) (hx : ptB x0 = true) (hy : ptB y0 = true) (hS : SS w0 W gS x R) :
    Calls Try.prog 43 #[.pointer (some ⟨gS, 0, none⟩), .int .i64 x0, .int .i64 y0] W fun e W' => e = .returned (.bool (joinG R x0 y0)) ∧ Below w0.heap.size w0 W' ∧ (joinG R x0 y0 = true → ∃ x', SS w0 W' gS x' (insS R (place R x0) (newNd R x0 y0))) := by
  have h10 := hv.len
  obtain ⟨hx1, hx2⟩ := ptB_true hx
  obtain ⟨hy1, hy2⟩ := ptB_true hy
  obtain ⟨g, cap, rfl, hg0, hgW, hne1, hne2, hc1, hc2⟩ := hS.shape h3
  have HG0 : Hid (joinG R x0 y0 = (liveR R y0 && !liveR R x0 && decide (R.length < 10) && btw y0 x0 (nth R (fnd R y0)).a0)) := Lib.hid rfl
  have HNW : Hid (newNd R x0 y0 = ⟨x0, y0, (nth R (fnd R y0)).a0, (nth R (fnd R y0)).a1⟩) := Lib.hid rfl
  have S0 := Lib.hid hS
  have HV := Lib.hid hv
  have c0 := hS.c
  have hnn := neq_nn
  have hpn := neq_pn
  clear hS hv hx hy
  go_enter Try.func43, Try.ntmps43
  cases qa : liveR R y0 with
  | false =>
    have HP := Lib.hid (ptrAt_dead (v := .slice (some ⟨g, 0, none⟩) R.length cap) qa)
    have HG : Hid (joinG R x0 y0 = false) := Lib.hid (by rw [HG0.out, qa]; rfl)
    clear qa HG0 HNW
    go_wp2_with fail
    refine (nodeAt_any _ R y0 _ (by omega) S0.out.rr).mono ?_
    rw [HP.out]
    rintro e w1 ⟨rfl, b1⟩
    have S1 := Lib.hid (S0.out.nx b1)
    have c1 := S1.out.c
    clear b1 c0
    cases qi : liveR R x0 with
    | true =>
      obtain ⟨p, hp⟩ := ptrAt_live S1.out.rr qi
      have HP2 := Lib.hid hp; clear hp qi
      go_wp2_with fail
      refine (nodeAt_any _ R x0 _ (by omega) S1.out.rr).mono ?_
      rw [HP2.out]
      rintro e w2 ⟨rfl, b2⟩
      have S2 := Lib.hid (S1.out.nx b2); clear b2
      go_wp2
      go_ret
      exact ⟨ret_bool (by rw [HG.out]), S2.out.bl, fun h => by rw [HG.out] at h; cases h⟩
    | false =>
      have HP2 := Lib.hid (ptrAt_dead (v := .slice (some ⟨g, 0, none⟩) R.length cap) qi)
      clear qi
      go_wp2_with fail
      refine (nodeAt_any _ R x0 _ (by omega) S1.out.rr).mono ?_
      rw [HP2.out]
      rintro e w2 ⟨rfl, b2⟩
      have S2 := Lib.hid (S1.out.nx b2); clear b2
      go_wp2
      go_ret
      exact ⟨ret_bool (by rw [HG.out]), S2.out.bl, fun h => by rw [HG.out] at h; cases h⟩
  | true =>
    have hk := (fdI_live qa).2
    have HP := Lib.hid (ptrAt_own (g := g) (n := R.length) (cap := cap) qa)
    rw [qa] at HG0
    clear qa
    have HR1 := Lib.hid (HV.out.ok _ (nth_mem hk)).r0
    generalize fnd R y0 = k at *
    go_wp2_with fail
    refine (nodeAt_any _ R y0 _ (by omega) S0.out.rr).mono ?_
    rw [HP.out]
    rintro e w1 ⟨rfl, b1⟩
    have S1 := Lib.hid (S0.out.nx b1)
    have c1 := S1.out.c
    clear b1 c0
    cases qi : liveR R x0 with
    | true =>
      have HG : Hid (joinG R x0 y0 = false) := Lib.hid (by rw [HG0.out, qi]; rfl)
      obtain ⟨p, hp⟩ := ptrAt_live S1.out.rr qi
      have HP2 := Lib.hid hp; clear hp qi HG0 HNW
      go_wp2_with fail
      refine (nodeAt_any _ R x0 _ (by omega) S1.out.rr).mono ?_
      rw [HP2.out]
      rintro e w2 ⟨rfl, b2⟩
      have S2 := Lib.hid (S1.out.nx b2); clear b2
      go_wp2
      go_ret
      exact ⟨ret_bool (by rw [HG.out]), S2.out.bl, fun h => by rw [HG.out] at h; cases h⟩
    | false =>
      have HP2 := Lib.hid (ptrAt_dead (v := .slice (some ⟨g, 0, none⟩) R.length cap) qi)
      rw [qi] at HG0
      clear qi
      by_cases hten : R.length = 10
      · have HG : Hid (joinG R x0 y0 = false) := Lib.hid (by rw [HG0.out, hten]; rfl)
        have ht : ((R.length : Int) == 10) = true := by rw [beq_iff_eq]; omega
        clear HG0 HNW hten
        go_wp2_with fail
        refine (nodeAt_any _ R x0 _ (by omega) S1.out.rr).mono ?_
        rw [HP2.out]
        rintro e w2 ⟨rfl, b2⟩
        have S2 := Lib.hid (S1.out.nx b2); clear b2
        have c2 := S2.out.c
        go_wp2
        go_ret
        exact ⟨ret_bool (by rw [HG.out]), S2.out.bl, fun h => by rw [HG.out] at h; cases h⟩
      · have ht : ((R.length : Int) == 10) = false := by rw [beq_eq_false_iff_ne]; omega
        have hlt10 : R.length < 10 := by omega
        have HG1 : Hid (joinG R x0 y0 = btw y0 x0 (nth R k).a0) := Lib.hid (by rw [HG0.out, decide_eq_true hlt10]; rfl)
        clear HG0 hten
        go_wp2_with fail
        refine (nodeAt_any _ R x0 _ (by omega) S1.out.rr).mono ?_
        rw [HP2.out]
        rintro e w2 ⟨rfl, b2⟩
        have S2 := Lib.hid (S1.out.nx b2); clear b2
        have c2 := S2.out.c
        obtain ⟨bs, os, c, hbs, z0, z1, z2, r2, v0, v1⟩ := S2.out.nd hk
        have hgw2 : g < w2.heap.size := S2.out.ow.elim fun hs h => (h.row.lts g rfl).2
        have RI2 := Lib.hid r2
        have V1 := Lib.hid v1
        clear r2 c1 v1 z0 z1
        generalize hn : nth R k = n at *
        have HN := Lib.hid hn; clear hn
        have HB := Lib.hid (fun W => between_any y0 x0 n.a0 W ⟨hy1, by omega⟩ ⟨hx1, by omega⟩ HR1.out)
        cases qb : btw y0 x0 n.a0 with
        | false =>
          have HG : Hid (joinG R x0 y0 = false) := Lib.hid (by rw [HG1.out, qb])
          rw [qb] at HB
          clear qb HG1 HNW
          go_wp2_with fail
          refine (HB.out _).mono ?_
          rintro e w3 ⟨rfl, b3⟩
          have S3 := Lib.hid (S2.out.nx b3); clear b3
          go_wp2
          go_ret
          exact ⟨ret_bool (by rw [HG.out]), S3.out.bl, fun h => by rw [HG.out] at h; cases h⟩
        | true =>
          have HG : Hid (joinG R x0 y0 = true) := Lib.hid (by rw [HG1.out, qb])
          rw [qb] at HB
          clear qb HG1
          go_wp2_with fail
          refine (HB.out _).mono ?_
          rintro e w3 ⟨rfl, b3⟩
          have S3 := Lib.hid (S2.out.nx b3)
          have RI3 := Lib.hid (RI2.out.bl b3)
          obtain ⟨hs, hr3⟩ := id S3.out.ow
          have HFAR : Hid (∀ i (hi : i < hs.length) q, (slV hs[i].2.2).ownBlock = some q → q < w3.heap.size) := Lib.hid (fun i hi q hq => hr3.far i hi q hq)
          have HR3 := Lib.hid hr3
          clear hr3
          have z3 : w3.cell? ⟨g, k * 3 + 2, none⟩ = some (.slice (some ⟨bs, os, none⟩) 2 c) := (b3.cell (w := w2) hgw2).trans z2
          clear b3 c2 z2 v0 V1 HB
          go_wp2_with fail
          refine (clone_any _ [n.a0, n.a1] _ (by simp) RI3.out).mono ?_
          rintro e w4 ⟨u4, rfl, o4, b4⟩
          have hs34 := b4.size
          have HS3 := Lib.hid hs34
          obtain ⟨a4, q4, rfl, -, -, -⟩ := id o4.reads
          have S4 := Lib.hid ((S3.out.nx b4).nx (below_alloc w4 (.cells #[.int .i64 x0, .int .i64 y0, .slice a4 2 q4] 37)))
          have K4 := Lib.hid (Blk.new w4 #[.int .i64 x0, .int .i64 y0, .slice a4 2 q4] 37)
          have O4 : Hid (OwnInts (w4.alloc (.cells #[.int .i64 x0, .int .i64 y0, .slice a4 2 q4] 37)) w3.heap.size (slV (a4, 2, q4)) [n.a0, n.a1]) := Lib.hid (OwnInts.bl (v := slV (a4, 2, q4)) o4 (below_alloc _ _))
          have HR4 := Lib.hid ((HR3.out.bl b4).bl (below_alloc w4 (.cells #[.int .i64 x0, .int .i64 y0, .slice a4 2 q4] 37)))
          have c4 := S4.out.c
          clear b4 o4 z3 hs34
          go_wp2_with fail
          refine (searchN_any _ R x0 _ HV.out ⟨hx1, hx2⟩ S4.out.rr).mono ?_
          rintro e w6 ⟨t6, rfl, b6⟩
          have S6 := Lib.hid (S4.out.nx b6)
          have K6 := Lib.hid (K4.out.bl b6)
          have O6 := Lib.hid (O4.out.bl b6)
          have hr := HR4.out.bl b6
          have HSZ : Hid (w0.heap.size ≤ w3.heap.size) := Lib.hid S3.out.bl.size
          have hpl := place_le R x0
          clear b6 c4
          generalize hkp : place R x0 = k2 at *
          have HKP := Lib.hid hkp
          clear hkp
          have hlen : hs.length = R.length := by rw [hr.len, dats_len]
          obtain ⟨A2, hA2⟩ : ∃ A2, A2 = w6.drew.alloc (.cells #[.int .i64 x0, .int .i64 y0, .slice a4 2 q4] 37) := ⟨_, rfl⟩
          have bA : Below w6.heap.size w6 A2 := by rw [hA2]; exact (Below.refl _ _).drew.trans ((below_alloc _ _).mono (Nat.le_refl _))
          have HA2 := Lib.hid hA2
          have HR6 := Lib.hid (hr.bl bA)
          have S7 := Lib.hid (S6.out.nx bA)
          have KV : Hid (Blk A2 w6.heap.size #[.int .i64 x0, .int .i64 y0, .slice a4 2 q4] 37) := Lib.hid (by rw [hA2]; exact Blk.new w6.drew _ _)
          have O7 := Lib.hid (O6.out.bl bA)
          have Y2 : Hid (w6.drew.cell? ⟨gS, 0, none⟩ = some (.slice (some ⟨g, 0, none⟩) R.length cap) ∧ A2.cell? ⟨gS, 0, none⟩ = some (.slice (some ⟨g, 0, none⟩) R.length cap)) := Lib.hid ⟨S6.out.c, S7.out.c⟩
          have hgw6 : g < w6.heap.size := (hr.row.lts g rfl).2
          obtain ⟨a7, n7, q7, hc7⟩ := insN_any g cap k2 hs x0 y0 a4 2 q4 w6.heap.size _ w0.heap.size A2 (by omega) (by omega) (by rw [hlen]; exact HR6.out.row) KV.out (by omega) (Nat.le_trans S6.out.bl.size bA.size)
          rw [hlen] at hc7
          have HC := Lib.hid hc7
          have HLE := Lib.hid hlen
          have HDI := Lib.hid (ins_dats R k2 ⟨x0, y0, n.a0, n.a1⟩)
          have k60 : w6.drew.cell? ⟨w4.heap.size, 0, none⟩ = some (.int .i64 x0) := K6.out.get3.1
          have k61 : w6.drew.cell? ⟨w4.heap.size, 1, none⟩ = some (.int .i64 y0) := K6.out.get3.2.1
          have k62 : w6.drew.cell? ⟨w4.heap.size, 2, none⟩ = some (.slice a4 2 q4) := K6.out.get3.2.2
          clear hr bA hc7 hlen hA2
          go_wp2
          refine wp_region_facts [[], [], [1], [2, 1], [3, 2, 1], [], [], [6], [4, 5, 7, 3, 2, 1, 6], [0], [9, 0], [10, 8, 9, 0, 4, 5, 7, 3, 2, 1, 6]] (PW 7 8 11 (fun w' => w' = w6.drew) (fun w' => w' = A2) (fun w' => RS w' w0.heap.size (.slice a7 n7 q7) (insAt hs k2 (x0, y0, (a4, 2, q4))) (insAt (dats R) k2 (x0, y0, [n.a0, n.a1])) ∧ Blk w' gS #[.slice (some ⟨g, 0, none⟩) R.length cap] 71 ∧ Below w0.heap.size w0 w') (fun w' => SS w0 w' gS (.slice a7 n7 q7) (insS R k2 ⟨x0, y0, n.a0, n.a1⟩))) (fun q0 v w => match q0 with | 0 => v = .pointer (some ⟨gS, 0, none⟩) | 1 => v = .pointer (some ⟨gS, 0, none⟩) | 2 => v = .pointer (some ⟨gS, 0, none⟩) | 3 => v = .pointer (some ⟨gS, 0, none⟩) | 4 => v = .slice (some ⟨g, 0, none⟩) R.length cap | 5 => v = .int .i64 k2 | 6 => v = .agg #[.int .i64 x0, .int .i64 y0, .slice a4 2 q4] | 7 => v = .slice (some ⟨w6.heap.size, 0, none⟩) 1 1 | 8 => v = .slice a7 n7 q7 | 9 => v = .pointer (some ⟨gS, 0, none⟩) | 10 => v = .pointer (some ⟨gS, 0, none⟩) | _ => True) (fun _ _ => True) (by kernel_rfl) (by kernel_rfl) (fun _ _ _ _ _ h => h) (PW.start rfl) ?_ ?_
          · refine ⟨?_, ?_, ?_, ?_, ?_, ?_, ?_, ?_, ?_, ?_, ?_, ?_, trivial⟩
            · intro a wq vs L hW hL hN hO hk hd K hK
              have p0 := hO 0 (by decide)
              clear hN hO hL hk hd
              go_simp
              exact hK _ _ (hW.skip (by decide) (by decide) (by decide)) trivial rfl
            · intro a wq vs L hW hL hN hO hk hd K hK
              have p0 := hO 0 (by decide)
              clear hN hO hL hk hd
              go_simp
              exact hK _ _ (hW.skip (by decide) (by decide) (by decide)) trivial rfl
            · intro a wq vs L hW hL hN hO hk hd K hK
              have d1 := hd 1 66 (by decide) rfl
              rw [show vs 1 = .pointer (some ⟨gS, 0, none⟩) from (hk 1 (by decide)).2] at d1
              clear hN hO hL hk hd
              go_simp
              exact hK _ _ (hW.skip (by decide) (by decide) (by decide)) trivial rfl
            · intro a wq vs L hW hL hN hO hk hd K hK
              have d2 := hd 2 67 (by decide) rfl
              rw [show vs 2 = .pointer (some ⟨gS, 0, none⟩) from (hk 2 (by decide)).2] at d2
              clear hN hO hL hk hd
              go_simp
              exact hK _ _ (hW.skip (by decide) (by decide) (by decide)) trivial rfl
            · intro a wq vs L hW hL hN hO hk hd K hK
              have d3 := hd 3 68 (by decide) rfl
              rw [show vs 3 = .pointer (some ⟨gS, 0, none⟩) from (hk 3 (by decide)).2] at d3
              have h8 := hN 8 (by decide)
              have hc : wq.cell? ⟨gS, 0, none⟩ = some (.slice (some ⟨g, 0, none⟩) R.length cap) := by
                cases h7 : L 7 with
                | false => rw [hW.a h7]; exact Y2.out.1
                | true => rw [hW.b h7 h8]; exact Y2.out.2
              clear hN hO hL hk hd
              go_simp
              exact hK _ _ (hW.skip (by decide) (by decide) (by decide)) trivial rfl
            · intro a wq vs L hW hL hN hO hk hd K hK
              have p9 := hO 9 (by decide)
              clear hN hO hL hk hd
              go_simp
              exact hK _ _ (hW.skip (by decide) (by decide) (by decide)) trivial rfl
            · intro a wq vs L hW hL hN hO hk hd K hK
              have p8 := hO 8 (by decide)
              have ha := hW.a (hN 7 (by decide))
              have y0c : wq.cell? ⟨w4.heap.size, 0, none⟩ = some (.int .i64 x0) := by rw [ha]; exact k60
              have y1c : wq.cell? ⟨w4.heap.size, 1, none⟩ = some (.int .i64 y0) := by rw [ha]; exact k61
              have y2c : wq.cell? ⟨w4.heap.size, 2, none⟩ = some (.slice a4 2 q4) := by rw [ha]; exact k62
              clear ha
              clear hN hO hL hk hd
              go_simp
              exact hK _ _ (hW.skip (by decide) (by decide) (by decide)) trivial rfl
            · intro a wq vs L hW hL hN hO hk hd K hK
              have d6 := hd 6 71 (by decide) rfl
              rw [show vs 6 = .agg #[.int .i64 x0, .int .i64 y0, .slice a4 2 q4] from (hk 6 (by decide)).2] at d6
              have ha := hW.a hL
              have h8 := hN 8 (by decide)
              have h11 := hN 11 (by decide)
              subst ha
              clear hN hO hL hk hd
              go_simp
              exact hK _ _ (PW.to2 h8 h11 (by decide) (by decide) HA2.out.symm) trivial rfl
            · intro a wq vs L hW hL hN hO hk hd K hK
              have d4 := hd 4 69 (by decide) rfl
              rw [show vs 4 = .slice (some ⟨g, 0, none⟩) R.length cap from (hk 4 (by decide)).2] at d4
              have d5 := hd 5 70 (by decide) rfl
              rw [show vs 5 = .int .i64 k2 from (hk 5 (by decide)).2] at d5
              have d7 := hd 7 72 (by decide) rfl
              rw [show vs 7 = .slice (some ⟨w6.heap.size, 0, none⟩) 1 1 from (hk 7 (by decide)).2] at d7
              have h7 := (hk 7 (by decide)).1
              have hb := hW.b h7 hL
              have h11 := hN 11 (by decide)
              subst hb
              refine step_callG (by simp [Region.wanted, yielded]) (f := 75) (args := #[.slice (some ⟨g, 0, none⟩) R.length cap, .int .i64 k2, .slice (some ⟨w6.heap.size, 0, none⟩) 1 1]) (by simp [execOp, Act.eval, Act.put, go_sem, d4, d5, d7]) HC.out ?_
              rintro e w7 ⟨rfl, o7, g7⟩
              exact ⟨_, rfl, hK _ _ (PW.to3 h7 h11 (by decide) (by decide) ⟨HR6.out.ins (by rw [HLE.out]; exact hpl) o7 g7 O7.out HSZ.out HFAR.out, S7.out.bk.gr g7 (fun k e => by cases e; exact hne2), bGr S7.out.bl g7 (fun k e => by cases e; exact hg0)⟩) trivial rfl⟩
            · intro a wq vs L hW hL hN hO hk hd K hK
              have d0 := hd 0 65 (by decide) rfl
              rw [show vs 0 = .pointer (some ⟨gS, 0, none⟩) from (hk 0 (by decide)).2] at d0
              clear hN hO hL hk hd
              go_simp
              exact hK _ _ (hW.skip (by decide) (by decide) (by decide)) trivial rfl
            · intro a wq vs L hW hL hN hO hk hd K hK
              have d9 := hd 9 74 (by decide) rfl
              rw [show vs 9 = .pointer (some ⟨gS, 0, none⟩) from (hk 9 (by decide)).2] at d9
              clear hN hO hL hk hd
              go_simp
              exact hK _ _ (hW.skip (by decide) (by decide) (by decide)) trivial rfl
            · intro a wq vs L hW hL hN hO hk hd K hK
              have d8 := hd 8 73 (by decide) rfl
              rw [show vs 8 = .slice a7 n7 q7 from (hk 8 (by decide)).2] at d8
              have d10 := hd 10 75 (by decide) rfl
              rw [show vs 10 = .pointer (some ⟨gS, 0, none⟩) from (hk 10 (by decide)).2] at d10
              have h7 := (hk 7 (by decide)).1
              have h8 := (hk 8 (by decide)).1
              obtain ⟨r8, bk8, b8⟩ := hW.c h8 hL
              have hc8 := bk8.get1
              have hf8 := bk8.f 0
              have hl8 := bk8.lt
              rw [HDI.out] at r8
              have hE : SS w0 (wq.setCell ⟨gS, 0, none⟩ (.slice a7 n7 q7)) gS (.slice a7 n7 q7) (insS R k2 ⟨x0, y0, n.a0, n.a1⟩) := ⟨bGr b8 (grown_set wq gS 0 _) (fun k hk => by cases hk; exact S7.out.ge), S7.out.ge, bk8.set 0 _, _, r8.scT bk8 ne_nd_rs ne_int_rs 0 _⟩
              have HE := Lib.hid hE
              clear hN hO hk hd hL r8 bk8 b8 hE hW
              go_simp
              exact hK undef _ (PW.to4 h7 h8 (by decide) (by decide) HE.out) trivial trivial
          · intro vs wq hW hG
            clear hG
            simp only [putAll, Act.put, Nat.zero_add, Nat.reduceAdd]
            generalize vs 0 = y0
            generalize vs 1 = y1
            generalize vs 2 = y2
            generalize vs 3 = y3
            generalize vs 4 = y4
            generalize vs 5 = y5
            generalize vs 6 = y6
            generalize vs 7 = y7
            generalize vs 8 = y8
            generalize vs 9 = y9
            generalize vs 10 = y10
            simp only [List.setIfInBounds_toArray, List.set_cons_succ, List.set_cons_zero]
            have s8 := hW.e (by decide)
            have S8 := Lib.hid s8
            clear hW s8
            go_wp2
            go_ret
            exact ⟨ret_bool (by rw [HG.out]), S8.out.bl, fun _ => ⟨.slice a7 n7 q7, by rw [HNW.out, HKP.out]; exact S8.out⟩⟩

theorem enters_ringJoin : ∀ (args : Array Value) (w : World), (callFunc 42 args).run Try.prog w = .ok (.enter 42 args) w := enters_of Try.func42 (by kernel_rfl) rfl
set_option maxRecDepth 100000 in
set_option maxHeartbeats 2000000 in
theorem ringJoin_F (w0 : World) (R : List Nd) (x0 y0 : Int) (c d : Nat) (hv : ValidL R) (h3 : 0 < R.length) (hx : ptB x0 = true) (hy : ptB y0 = true) (hc : c < w0.heap.size) (hcell : w0.cell? ⟨c, 0, none⟩ = some (.int .i64 x0)) (hd : d < w0.heap.size) (hcelld : w0.cell? ⟨d, 0, none⟩ = some (.int .i64 y0)) : StepF w0 42 #[.pointer (some ⟨c, 0, none⟩), .pointer (some ⟨d, 0, none⟩)] R (insS R (place R x0) (newNd R x0 y0)) (joinG R x0 y0) := by
  refine ⟨enters_ringJoin, fun W gS x hS => ?_⟩
  have HC := Lib.hid (joinM_any w0 W gS x R x0 y0 hv h3 hx hy hS)
  have y0c := (hS.bl.cell (p := ⟨c, 0, none⟩) hc).trans hcell
  have y1c := (hS.bl.cell (p := ⟨d, 0, none⟩) hd).trans hcelld
  show Calls Try.prog 42 #[.pointer (some ⟨gS, 0, none⟩), .pointer (some ⟨c, 0, none⟩), .pointer (some ⟨d, 0, none⟩)] W _
  clear hcell hcelld
  generalize insS R (place R x0) (newNd R x0 y0) = R' at *
  generalize joinG R x0 y0 = t at *
  go_enter Try.func42, Try.ntmps42
  go_wp2_with fail
  refine HC.out.mono ?_
  rintro e W' ⟨rfl, b, h⟩
  have B := Lib.hid b; have H := Lib.hid h; clear b h
  go_wp2
  go_ret
  exact ⟨rfl, B.out, H.out⟩
theorem take_ringJoin (R : List Nd) (x0 y0 : Int) : takeR R (insS R (place R x0) (newNd R x0 y0)) (joinG R x0 y0) = joinS R x0 y0 := by
  unfold takeR joinS
  cases joinG R x0 y0 <;> rfl
set_option maxRecDepth 100000 in
set_option maxHeartbeats 2000000 in
theorem implRingJoin_ok (v : Value) (R : List Nd) (x0 y0 : Int) (w : World) (hv : ValidL R) (hs : safeL R = true) (hx : ptB x0 = true) (hy : ptB y0 = true) (hr : RR w v R) :
    Calls Try.prog 18 #[v, .int .i64 x0, .int .i64 y0] w fun e w' => ∃ x, e = .returned (.tuple #[x, .bool (joinG R x0 y0)]) ∧ OwnRingS w' w.heap.size x (dats (joinS R x0 y0)) ∧ Below w.heap.size w w' := by
  have h3 := three_of hs
  obtain ⟨W2, hW2⟩ : ∃ W2, W2 = (w.alloc (.cells #[.int .i64 x0] 3)).alloc (.cells #[.int .i64 y0] 3) := ⟨_, rfl⟩
  have hz2 : W2.heap.size = w.heap.size + 1 + 1 := by rw [hW2]; simp
  have b2 : Below w.heap.size w W2 := by rw [hW2]; exact bAl (bAl (Below.refl _ _) _) _
  have k0 : Blk W2 w.heap.size #[.int .i64 x0] 3 := by rw [hW2]; exact (Blk.new w #[.int .i64 x0] 3).al _
  have k1 : Blk W2 (w.heap.size + 1) #[.int .i64 y0] 3 := by
    have h := Blk.new (w.alloc (.cells #[.int .i64 x0] 3)) #[.int .i64 y0] 3
    rw [World.size_alloc] at h; rw [hW2]; exact h
  have B3 : Hid (Below w.heap.size w (W2.alloc (.cells #[.int .i64 x0, .int .i64 y0] 3))) := Lib.hid (bAl b2 _)
  have y0c : (W2.alloc (.cells #[.int .i64 x0, .int .i64 y0] 3)).cell? ⟨w.heap.size, 0, none⟩ = some (.int .i64 x0) := (k0.al _).get1
  have y1c : (W2.alloc (.cells #[.int .i64 x0, .int .i64 y0] 3)).cell? ⟨w.heap.size + 1, 0, none⟩ = some (.int .i64 y0) := (k1.al _).get1
  have HA : Hid (RInts (W2.alloc (.cells #[.int .i64 x0, .int .i64 y0] 3)) (.slice (some ⟨w.heap.size + 1 + 1, 0, none⟩) 2 2) [x0, y0]) := Lib.hid (by have h := lit_reads W2 [x0, y0] (by unfold maxLen; simp); rw [hz2] at h; exact h)
  have HP : Hid ([x0, y0].all ptB = true) := Lib.hid (by simp [hx, hy])
  have HL : Hid ([x0, y0].length ≤ 4096) := Lib.hid (by simp)
  have HF := Lib.hid (ringJoin_F (W2.alloc (.cells #[.int .i64 x0, .int .i64 y0] 3)) R x0 y0 w.heap.size (w.heap.size + 1) hv (by omega) hx hy (by simp; omega) y0c (by simp; omega) y1c)
  have HR := Lib.hid (hr.bl B3.out)
  have HT := Lib.hid (take_ringJoin R x0 y0)
  have HCT := Lib.hid (take2_ok 42 _ _ v _ [x0, y0] R _ _ (W2.alloc (.cells #[.int .i64 x0, .int .i64 y0] 3)) hv hs HR.out HL.out HA.out HP.out HF.out)
  rw [HT.out] at HCT
  have x0c := k0.get1; have x1c := k1.get1
  subst hW2
  clear y0c y1c k0 k1 b2 hz2 hs hv hx hy hr
  generalize joinG R x0 y0 = t at *
  go_enter Try.func18, Try.ntmps18
  go_wp2_with fail
  refine HCT.out.mono ?_
  rintro e w5 ⟨x5, rfl, o5, b5⟩
  have c5 := Lib.hid (bNext B3.out b5)
  have O5 := Lib.hid (OwnRingS.base o5 B3.out.size)
  clear o5 b5
  go_wp2
  go_ret2
  exact ⟨_, rfl, O5.out, c5.out⟩
set_option maxRecDepth 100000 in
set_option maxHeartbeats 2000000 in
theorem implRingJoin_bad (v : Value) (D : List Rn) (x0 y0 : Int) (w : World) (hl : D.length ≤ 4096) (hbad : (sfD D && (ptB x0 && ptB y0)) = false) (hr : RRing w v D) :
    Calls Try.prog 18 #[v, .int .i64 x0, .int .i64 y0] w fun e w' => e = .returned (.tuple #[.slice none 0 0, .bool false]) ∧ Below w.heap.size w w' := by
  obtain ⟨W2, hW2⟩ : ∃ W2, W2 = (w.alloc (.cells #[.int .i64 x0] 3)).alloc (.cells #[.int .i64 y0] 3) := ⟨_, rfl⟩
  have hz2 : W2.heap.size = w.heap.size + 1 + 1 := by rw [hW2]; simp
  have b2 : Below w.heap.size w W2 := by rw [hW2]; exact bAl (bAl (Below.refl _ _) _) _
  have k0 : Blk W2 w.heap.size #[.int .i64 x0] 3 := by rw [hW2]; exact (Blk.new w #[.int .i64 x0] 3).al _
  have k1 : Blk W2 (w.heap.size + 1) #[.int .i64 y0] 3 := by
    have h := Blk.new (w.alloc (.cells #[.int .i64 x0] 3)) #[.int .i64 y0] 3
    rw [World.size_alloc] at h; rw [hW2]; exact h
  have B3 : Hid (Below w.heap.size w (W2.alloc (.cells #[.int .i64 x0, .int .i64 y0] 3))) := Lib.hid (bAl b2 _)
  have HA : Hid (RInts (W2.alloc (.cells #[.int .i64 x0, .int .i64 y0] 3)) (.slice (some ⟨w.heap.size + 1 + 1, 0, none⟩) 2 2) [x0, y0]) := Lib.hid (by have h := lit_reads W2 [x0, y0] (by unfold maxLen; simp); rw [hz2] at h; exact h)
  have HCT := Lib.hid (take2_bad 42 (.pointer (some ⟨w.heap.size, 0, none⟩)) (.pointer (some ⟨w.heap.size + 1, 0, none⟩)) v _ [x0, y0] D (W2.alloc (.cells #[.int .i64 x0, .int .i64 y0] 3)) hl (hr.bl B3.out) (by simp) HA.out (by simpa using hbad))
  have x0c := k0.get1; have x1c := k1.get1
  subst hW2
  clear k0 k1 b2 hz2 hbad hr HA
  go_enter Try.func18, Try.ntmps18
  go_wp2_with fail
  refine HCT.out.mono ?_
  rintro e w5 ⟨rfl, b5⟩
  have c5 := Lib.hid (bNext B3.out b5)
  clear b5
  go_wp2
  go_ret2
  exact ⟨rfl, c5.out⟩
end Go.Proofs.Ythgekfiodedelaa
