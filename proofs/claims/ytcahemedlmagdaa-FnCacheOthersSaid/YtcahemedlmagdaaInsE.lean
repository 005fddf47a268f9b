/- slices.Insert at entries: one more entry. -/
import Derived.Test.YtcahemedlmagdaaIns0
import Derived.Test.YtcahemedlmagdaaDel
import Derived.Deep.RegionLaw
namespace Go.Proofs.Ytcahemedlmagdaa
open Go.RowKit
set_option linter.unusedVariables false
set_option linter.unusedSimpArgs false

/-- The operation 'copy(d, s)' where its run is known by an equation. -/
theorem wp_copyR {P : Program} (w : World) {o : Oper} {a : Act} {K : Act → World → Prop} {Q : Exit → Act → World → Prop} (d s : Operand) (t t' : TypeId)
    (ho : o.op = .call { callee := .builtin .copy, args := #[d, s], argTypes := #[t, t'] }) (v u : Value) (hd : a.eval d = v) (hs : a.eval s = u) {v' : Value} {w' : World}
    (hr : (Builtin.copy_ #[t, t'] o.type #[v, u]).run P w = .ok v' w') (h : K (a.put o.dst v') w') : o.wp P a w K Q := by
  unfold Oper.wp execOp
  simp only [ho, resolve, invoke, builtin, Sem.run_bind, Sem.run_pure, Result.andThen_ok, List.map_toArray, List.map_cons, List.map_nil, hd, hs, hr]
  exact h
theorem wpList_copyR {P : Program} (w : World) {ops : Array Oper} {rest : List Oper} {o : Oper} {a : Act} {Q : Exit → Act → World → Prop} (hgd : o.guard = none) (d s : Operand) (t t' : TypeId)
    (ho : o.op = .call { callee := .builtin .copy, args := #[d, s], argTypes := #[t, t'] }) (v u : Value) (hd : a.eval d = v) (hs : a.eval s = u) {v' : Value} {w' : World}
    (hr : (Builtin.copy_ #[t, t'] o.type #[v, u]).run P w = .ok v' w') (h : wpList P ops Q rest (a.put o.dst v') w') : wpList P ops Q (o :: rest) a w :=
  wpList_plain hgd fun _ hK => wp_copyR w d s t t' ho v u hd hs hr (hK _ _ h)
theorem step_copyR {P : Program} {ops : Array Oper} {o : Oper} {a : Act} {w : World} {K : Act → World → Prop} {Q : Exit → Act → World → Prop} {E : Prop}
    (hg : o.guard = none) (d x : Operand) (dT sT : TypeId) (hop : o.op = Op.call { callee := Callee.builtin Builtin.copy, args := #[d, x], argTypes := #[dT, sT] })
    (v u : Value) (hd : a.eval d = v) (hx : a.eval x = u) {v' : Value} {w' : World} (hr : (Builtin.copy_ #[dT, sT] o.type #[v, u]).run P w = .ok v' w') (hK : K (a.put o.dst v') w') :
    if Region.wanted o (yielded ops a.tmps) = true then Oper.wp P o a w K Q else E := by
  have hw : Region.wanted o (yielded ops a.tmps) = true := by simp [Region.wanted, hg]
  rw [if_pos hw]
  unfold Oper.wp
  simp [execOp, hop, resolve, invoke, builtin, hd, hx, hr, Result.andThen]
  exact hK
theorem isSome_cells (b : Nat) (vs : List Value) (o : Nat) (w : World) (h : ∀ j, j < vs.length → (w.cell? ⟨b, o + j, none⟩).isSome = true) (k : Nat) (hk : (w.cell? ⟨b, k, none⟩).isSome = true) : ((w.setCells b o vs).cell? ⟨b, k, none⟩).isSome = true := by
  by_cases hin : o ≤ k ∧ k < o + vs.length
  · have := World.cell?_setCells_in b vs o w h (k - o) (by omega)
    rw [show o + (k - o) = k by omega] at this
    rw [this]; rfl
  · rw [World.cell?_setCells_out b vs o w ⟨b, k, none⟩ (fun _ _ => by show k < o ∨ o + vs.length ≤ k; omega)]
    exact hk
theorem shape_of {w : World} {b : Nat} {cs : Array Value} {t : TypeId} (h : w.heap[b]? = some (.cells cs t (0, 0))) : w.shape? b = some (t, cs.size) := by
  simp [World.shape?, h]

set_option maxRecDepth 1000000 in
set_option maxHeartbeats 4000000 in
theorem insShift_any (g cap i : Nat) (zs : List Ent) (x y z : Int) (vb : Nat) (tB : TypeId) (B : Nat) (w : World) (hl : zs.length ≤ 1000) (hi : i < zs.length) (hroom : zs.length + 1 ≤ cap) (ho : OwnRow EL entT w B (.slice (some ⟨g, 0, none⟩) zs.length cap) zs) (hb : Blk w vb #[.int .i64 x, .int .i64 y, .int .i64 z] tB) (hvb : vb ≠ g) :
    Calls Try.prog 30 #[.slice (some ⟨g, 0, none⟩) zs.length cap, .int .i64 i, .slice (some ⟨vb, 0, none⟩) 1 1] w
      fun e w' => ∃ u, e = .returned u ∧ OwnRow EL entT w' B u (insAt zs i (x, y, z)) ∧ w.grownBy w' (some g) := by
  have hsz : (Try.prog.info? 30).map (·.size) = some 3 := infoEn
  have hz3 : ∀ w, (Go.sizeOf 30).run Try.prog w = .ok 3 w := fun w => by kernel_rfl
  obtain ⟨W2o, W2g⟩ := own_shift ho.d1 (i := i) (by omega) hroom (x, y, z)
  obtain ⟨_, -, hcap, hmax⟩ : True ∧ True ∧ zs.length ≤ cap ∧ cap ≤ maxLen := by obtain ⟨_, _, hv, h1, h2, _⟩ := ho.reads; simp only [Value.slice.injEq, true_and] at hv; exact ⟨trivial, trivial, by omega, by omega⟩
  unfold maxLen at hmax
  obtain ⟨X, hX, hw⟩ := own_wide ho (zs.length + 1) (by omega) hroom
  have hk3 : EL.k = 3 := rfl
  rw [hk3, show zs.length + 1 - zs.length = 1 by omega] at hX
  have hfl : (flat EL zs).length = zs.length * 3 := flat_len EL zs
  have hsp : ∀ j, j < (zs.length + 1) * 3 → (w.cell? ⟨g, j, none⟩).isSome = true := fun j hj => by rw [own_cell hw j (by simp [hfl, hX]; omega)]; rfl
  have hcs : ∀ j v, (flat EL zs)[j]? = some v → w.cell? ⟨g, j, none⟩ = some v := fun j v hj => by
    have hjl := (List.getElem?_eq_some_iff.1 hj).1
    rw [own_cell hw j (by rw [List.length_append]; omega), List.getElem_append_left hjl, ← List.getElem?_eq_getElem hjl, hj]
  have hfz : ∀ j, w.frozen? ⟨g, j, none⟩ = false := fun j => ho.frozenAt j
  obtain ⟨tG, kG, hsG, hkG⟩ : ∃ tG kG, w.shape? g = some (tG, kG) ∧ kG ≠ 0 := by
    obtain ⟨-, h⟩ := ho
    rcases h with ⟨h, -⟩ | ⟨g', cap', cur, hv, hB, hg, hn, hc, hz, ht⟩
    · cases h
    · simp only [Value.slice.injEq, Option.some.injEq, Addr.mk.injEq, and_true] at hv
      obtain ⟨rfl, -, rfl⟩ := hv
      exact ⟨_, _, shape_of hg, by rw [hz]; show cap * 3 ≠ 0; omega⟩
  have hsV := shape_of hb.h
  have hov : ∀ lb cb, (callFunc 49 #[.slice (some ⟨vb, 0, none⟩) 1 1, .slice (some ⟨g, (i + 1) * 3, none⟩) lb cb]).run Try.prog w = .ok (.value (.bool false)) w := fun lb cb => by
    rw [run_callFunc_extern Try.func49 (by kernel_rfl) (by kernel_rfl) (by kernel_rfl) (e := Extern.SlicesOverlaps.overlaps #[23, 23] #[4]) (by kernel_rfl),
      Lib.run_overlaps_apart w 23 4 30 Try.underlying23 3 hz3 ⟨vb, 0, none⟩ ⟨g, (i + 1) * 3, none⟩ 1 1 lb cb hvb tB tG 3 kG hsV hsG hkG (hb.f 0) (hb.f 3)]
    rfl
  have hnl : (flat EL (zs.drop i)).length = (zs.length - i) * 3 := by rw [flat_len]; simp [hk3]
  have hcp1 : ∀ ty dc sc, (Builtin.copy_ #[23, 23] ty #[.slice (some ⟨g, (i + 1) * 3, none⟩) (zs.length - i) dc, .slice (some ⟨g, i * 3, none⟩) (zs.length + 1 - i) sc]).run Try.prog w.drew = .ok (goInt (zs.length - i : Nat)) (w.drew.setCells g ((i + 1) * 3) (flat EL (zs.drop i))) := fun ty dc sc =>
    run_copy_rows w.drew _ _ ty 30 3 g ((i + 1) * 3) (zs.length - i) dc ⟨g, i * 3, none⟩ (zs.length + 1 - i) sc (zs.length - i) (flat EL (zs.drop i)) Try.underlying23 hsz (by simp only [Nat.min_def]; split <;> omega) hnl
      (fun j v hj => by rw [Addr.add_mid]; exact hcs (i * 3 + j) v (by rwa [flat_drop, List.getElem?_drop] at hj))
      (fun j hj => hsp _ (by omega)) (fun j hj => hfz _) (flat_one EL _)
  obtain ⟨W1, hW1⟩ : ∃ W1, W1 = w.drew.setCells g ((i + 1) * 3) (flat EL (zs.drop i)) := ⟨_, rfl⟩
  have hsp1 : ∀ k, k < (zs.length + 1) * 3 → (W1.cell? ⟨g, k, none⟩).isSome = true := fun k hk => by
    rw [hW1]
    exact isSome_cells g _ ((i + 1) * 3) w.drew (fun j hj => hsp _ (by rw [hnl] at hj; omega)) _ (hsp k hk)
  have hcp2 : ∀ ty dc, (Builtin.copy_ #[23, 23] ty #[.slice (some ⟨g, i * 3, none⟩) (zs.length + 1 - i) dc, .slice (some ⟨vb, 0, none⟩) 1 1]).run Try.prog W1 = .ok (goInt (1 : Nat)) (W1.setCells g (i * 3) (EL.c (x, y, z))) := fun ty dc =>
    run_copy_rows W1 _ _ ty 30 3 g (i * 3) (zs.length + 1 - i) dc ⟨vb, 0, none⟩ 1 1 1 (EL.c (x, y, z)) Try.underlying23 hsz (by simp only [Nat.min_def]; split <;> omega) rfl
      (fun j v hj => by
        rw [Addr.add_mid, hW1, World.cell?_setCells_out g _ _ _ _ (fun h _ => absurd h hvb), Nat.zero_add]
        exact hb.c j (by rw [← Array.getElem?_toList]; exact hj))
      (fun j hj => hsp1 _ (by have : j < 3 := hj; omega)) (fun j hj => by rw [hW1, World.frozen?_setCells]; exact hfz _) (EL.one _)
  obtain ⟨W2, hW2⟩ : ∃ W2, W2 = W1.setCells g (i * 3) (EL.c (x, y, z)) := ⟨_, rfl⟩
  rw [hk3, ← hW1, ← hW2] at W2o W2g
  rw [← hW1] at hcp1
  rw [← hW2] at hcp2
  have O := Lib.hid W2o
  have G := Lib.hid ((grown_draws0 w g).trans W2g)
  have hz2 : ((i : Int) == (zs.length : Int)) = false := by rw [beq_eq_false_iff_ne]; omega
  have hz2' : ¬ ((i : Int) = (zs.length : Int)) := by omega
  have hw1 : IntKind.i64.wrap ((i : Int) + 1) = (i : Int) + 1 := IntWalk.i64_in _ (by omega)
  have hw2 : IntKind.i64.wrap ((zs.length : Int) + 1) = (zs.length : Int) + 1 := IntWalk.i64_in _ (by omega)
  have hb1 : (0 : Int) ≤ (i : Int) + 1 := by omega
  have hb0 : (0 : Int) ≤ (zs.length : Int) + 1 := by omega
  have hbc : (zs.length : Int) + 1 ≤ (cap : Int) := by omega
  have hq : decide ((cap : Int) < (zs.length : Int) + 1) = false := decide_eq_false (by omega)
  have htn : ((i : Int) + 1).toNat = i + 1 := by omega
  have htn2 : ((zs.length : Int) + 1).toNat = zs.length + 1 := by omega
  have hin : (i : Int) + 1 ≤ (zs.length : Int) + 1 := by omega
  have hin0 : (i : Int) ≤ (zs.length : Int) + 1 := by omega
  have hb2 : ¬ (cap = i + 1) := by omega
  have hb4 : ¬ (cap = i) := by omega
  clear hW1 hW2 W2o W2g hsp hsp1 hcs hfz hsG hsV hw hX ho hb hnl hfl
  go_enter Try.func30, Try.ntmps30
  go_wp2_with (simp only [hov])
  go_region_law (refine step_copyR rfl (.tmp 73) (.tmp 76) 23 23 rfl _ _ (by simp [Act.eval, Act.put]) (by simp [Act.eval, Act.put]) (hcp1 _ _ _) ?_)
  go_wp2_with (at_builtin; refine wpList_copyR _ rfl (.tmp 80) (.tmp 81) 23 23 rfl _ _ rfl rfl (hcp2 _ _) ?_)
  go_ret
  exact ⟨_, rfl, O.out, G.out⟩

set_option maxRecDepth 1000000 in
set_option maxHeartbeats 1000000 in
/-- At the end: an append. -/
theorem insEnd_any (v : Value) (zs : List Ent) (x y z : Int) (vb : Nat) (tB : TypeId) (B : Nat) (w : World) (hl : zs.length ≤ 1000) (ho : OwnRow EL entT w B v zs) (hb : Blk w vb #[.int .i64 x, .int .i64 y, .int .i64 z] tB) (hB : B ≤ w.heap.size) :
    Calls Try.prog 30 #[v, .int .i64 zs.length, .slice (some ⟨vb, 0, none⟩) 1 1] w
      fun e w' => ∃ u, e = .returned u ∧ OwnRow EL entT w' B u (zs ++ [(x, y, z)]) ∧ w.grownBy w' v.ownBlock := by
  obtain ⟨i0, hi, hz0, hz1, hz2⟩ := info_parts infoEn4
  obtain ⟨a, cap, rfl, hcap, hmax, -⟩ := ho.reads
  unfold maxLen at hmax
  have hcell : ∀ j u, ([.int .i64 x, .int .i64 y, .int .i64 z] : List Value)[j]? = some u → w.cell? ((⟨vb, 0, none⟩ : Addr).add j) = some u := fun j u h => by
    rw [Addr.add_mid, Nat.zero_add]; exact hb.c j (by rw [← Array.getElem?_toList]; exact h)
  have hone : ∀ u ∈ ([.int .i64 x, .int .i64 y, .int .i64 z] : List Value), u.oneCell' = true := EL.one (x, y, z)
  have hzz : ((zs.length : Int) == (zs.length : Int)) = true := by simp
  have HO := Lib.hid ho
  clear ho hb
  go_enter Try.func30, Try.ntmps30
  cases a with
  | none =>
    obtain ⟨rfl, -⟩ := HO.out.reads.nil
    go_wp2_with (at_builtin; refine wpList_append_own _ rfl _ _ 23 rfl B 30 i0 (.agg #[.int .i64 0, .int .i64 0, .int .i64 0]) 3 24 Try.underlying23 hi hz0 hz1 hz2 rfl (by decide) _ _ _ rfl HO.out ⟨vb, 0, none⟩ 1 1 [.int .i64 x, .int .i64 y, .int .i64 z] rfl rfl hcell hone ?c3 ?c4 ?c5 ?_)
    case c3 => unfold maxLen; simp
    case c4 => simp
    case c5 => exact hB
    intro v' w4 hown4 hg4 _
    have o4 := Lib.hid (OwnRow.snoc (L := EL) (y := (x, y, z)) hown4 rfl rfl)
    clear hown4
    go_wp2
    go_ret
    exact ⟨_, rfl, o4.out, hg4⟩
  | some ad =>
    go_wp2_with (at_builtin; refine wpList_append_own _ rfl _ _ 23 rfl B 30 i0 (.agg #[.int .i64 0, .int .i64 0, .int .i64 0]) 3 24 Try.underlying23 hi hz0 hz1 hz2 rfl (by decide) _ _ _ rfl HO.out ⟨vb, 0, none⟩ 1 1 [.int .i64 x, .int .i64 y, .int .i64 z] rfl rfl hcell hone (by unfold maxLen; omega) (by omega) hB ?_)
    all_goals
      intro v' w4 hown4 hg4 _
      have o4 := Lib.hid (OwnRow.snoc (L := EL) (y := (x, y, z)) hown4 rfl rfl)
      clear hown4
      go_wp2
      go_ret
      exact ⟨_, rfl, o4.out, hg4⟩

set_option maxRecDepth 1000000 in
set_option maxHeartbeats 4000000 in
/-- No room: a new row. -/
theorem insGrow_any (g i : Nat) (zs : List Ent) (x y z : Int) (vb : Nat) (tB : TypeId) (B : Nat) (w : World) (hl : zs.length ≤ 1000) (hi : i < zs.length) (ho : OwnRow EL entT w B (.slice (some ⟨g, 0, none⟩) zs.length zs.length) zs) (hb : Blk w vb #[.int .i64 x, .int .i64 y, .int .i64 z] tB) :
    Calls Try.prog 30 #[.slice (some ⟨g, 0, none⟩) zs.length zs.length, .int .i64 i, .slice (some ⟨vb, 0, none⟩) 1 1] w
      fun e w' => ∃ u, e = .returned u ∧ OwnRow EL entT w' w.heap.size u (insAt zs i (x, y, z)) ∧ Below w.heap.size w w' := by
  obtain ⟨i0, hi0, hz0, hz1, hz2⟩ := info_parts infoEn4
  have hsz : (Try.prog.info? 30).map (·.size) = some 3 := infoEn
  have hk3 : EL.k = 3 := rfl
  have hgw : g < w.heap.size := (ho.lts g rfl).2
  have hvw : vb < w.heap.size := hb.lt
  have hcs : ∀ j v, (flat EL zs)[j]? = some v → w.cell? ⟨g, j, none⟩ = some v := fun j v hj => by
    have := (ho.reads.addr.2 j v hj).2
    rwa [Addr.add_mid, Nat.zero_add] at this
  have hold : (Builtin.firstCells i0.size i (.slice (some ⟨g, 0, none⟩) i zs.length)).run Try.prog w.drew = .ok (flat EL (zs.take i)).toArray w.drew := by
    rw [hz1]
    exact run_firstCells_some w.drew 3 i ⟨g, 0, none⟩ i zs.length (flat EL (zs.take i)) (by rw [flat_len, List.length_take, Nat.min_eq_left (by omega)]; rfl) (fun j v hj => by
      rw [Addr.add_mid, Nat.zero_add]
      rw [flat_take, List.getElem?_take] at hj
      split at hj
      · exact hcs j v hj
      · cases hj)
  obtain ⟨G, hG⟩ : ∃ G, G = grownCap w (zs.length + 1) zs.length entT := ⟨_, rfl⟩
  have hGn : zs.length + 1 ≤ G := by rw [hG]; exact grownCap_ge w _ _ _
  have hG63 : G ≤ maxLen := by rw [hG]; exact grownCap_le_maxLen w (zs.length + 1) zs.length entT (by unfold maxLen; omega)
  have hrz : ∀ ty, (Builtin.append_ #[23, 3] ty #[.slice (some ⟨g, 0, none⟩) i zs.length, .int .i64 ((zs.length : Int) + 1 - (i : Int))]).run Try.prog w =
      .ok (.slice (some ⟨w.heap.size, 0, none⟩) (zs.length + 1) G) (w.drew.alloc (.cells ((flat EL (zs.take i)).toArray ++ Builtin.zeroCells (Value.agg #[.int .i64 0, .int .i64 0, .int .i64 0]).cells (zs.length + 1 - i) ++ Builtin.zeroCells (Value.agg #[.int .i64 0, .int .i64 0, .int .i64 0]).cells (G - (zs.length + 1))) entT)) := fun ty => by
    have h := Lib.run_append_grow_zeros w 23 3 ty 30 i0 _ .i64 .i64 Try.underlying23 Try.underlying3 hi0 hz0 (some ⟨g, 0, none⟩) i zs.length (flat EL (zs.take i)) hold (zs.length + 1 - i) (by omega) (by omega) (by omega) (by omega) (by rw [hz2]; omega) (by rw [hz2, show i + (zs.length + 1 - i) = zs.length + 1 by omega]; exact growslice_fits (by omega) (by omega))
    rw [show i + (zs.length + 1 - i) = zs.length + 1 by omega, ← hG] at h
    rw [show (zs.length : Int) + 1 - (i : Int) = ((zs.length + 1 - i : Nat) : Int) by omega]
    exact h
  have hE : OwnRow EL entT (w.drew.alloc (.cells ((flat EL (zs.take i)).toArray ++ Builtin.zeroCells (Value.agg #[.int .i64 0, .int .i64 0, .int .i64 0]).cells (zs.length + 1 - i) ++ Builtin.zeroCells (Value.agg #[.int .i64 0, .int .i64 0, .int .i64 0]).cells (G - (zs.length + 1))) entT)) w.heap.size (.slice (some ⟨w.heap.size, 0, none⟩) (zs.length + 1) G) (zs.take i ++ List.replicate (zs.length + 1 - i) ((0, 0, 0) : Ent)) :=
    own_zeros w.drew _ (0, 0, 0) rfl zs i (zs.length + 1) G (by omega) (by omega) hGn hG63
  obtain ⟨O, hO⟩ : ∃ O : Obj, O = .cells ((flat EL (zs.take i)).toArray ++ Builtin.zeroCells (Value.agg #[.int .i64 0, .int .i64 0, .int .i64 0]).cells (zs.length + 1 - i) ++ Builtin.zeroCells (Value.agg #[.int .i64 0, .int .i64 0, .int .i64 0]).cells (G - (zs.length + 1))) entT := ⟨_, rfl⟩
  rw [← hO] at hrz hE
  clear hO hold hG
  obtain ⟨W1, hW1⟩ : ∃ W1, W1 = w.drew.alloc O := ⟨_, rfl⟩
  have hB1 : Below w.heap.size w W1 := by rw [hW1]; exact (Below.refl _ w).drew.alloc (Nat.le_refl _) O
  rw [← hW1] at hrz hE
  have hLl : (zs.take i ++ List.replicate (zs.length + 1 - i) ((0, 0, 0) : Ent)).length = zs.length + 1 := by simp; omega
  have hcell1 : ∀ {W : World} {es : List Ent}, OwnRow EL entT W w.heap.size (.slice (some ⟨w.heap.size, 0, none⟩) (zs.length + 1) G) es → ∀ j, j < (zs.length + 1) * 3 → (W.cell? ⟨w.heap.size, j, none⟩).isSome = true := fun {W es} h j hj => by
    have hl := h.len
    have hjl : j < (flat EL es).length := by rw [flat_len, ← hl]; exact hj
    have := (h.reads.addr.2 _ _ (List.getElem?_eq_getElem hjl)).2
    rw [Addr.add_mid, Nat.zero_add] at this
    rw [this]; rfl
  obtain ⟨h2, g2⟩ := OwnRow.setRun hE i [(x, y, z)] (by rw [hLl]; simp; omega)
  have ef : flat EL [(x, y, z)] = EL.c (x, y, z) := by rw [flat_cons, flat_nil, List.append_nil]
  rw [ef, hk3] at h2 g2
  have hcpA : ∀ ty dc, (Builtin.copy_ #[23, 23] ty #[.slice (some ⟨w.heap.size, i * 3, none⟩) (zs.length + 1 - i) dc, .slice (some ⟨vb, 0, none⟩) 1 1]).run Try.prog W1 = .ok (goInt (1 : Nat)) (W1.setCells w.heap.size (i * 3) (EL.c (x, y, z))) := fun ty dc =>
    run_copy_rows W1 _ _ ty 30 3 w.heap.size (i * 3) (zs.length + 1 - i) dc ⟨vb, 0, none⟩ 1 1 1 (EL.c (x, y, z)) Try.underlying23 hsz (by simp only [Nat.min_def]; split <;> omega) rfl
      (fun j v hj => by rw [Addr.add_mid, Nat.zero_add]; exact (hb.bl hB1).c j (by rw [← Array.getElem?_toList]; exact hj))
      (fun j hj => hcell1 hE _ (by have : j < 3 := hj; omega)) (fun j hj => hE.frozenAt _) (EL.one _)
  obtain ⟨W2, hW2⟩ : ∃ W2, W2 = W1.setCells w.heap.size (i * 3) (EL.c (x, y, z)) := ⟨_, rfl⟩
  rw [← hW2] at h2 g2 hcpA
  have hB2 : Below w.heap.size w W2 := bGr hB1 g2 (fun k hk => by cases hk; exact Nat.le_refl _)
  have hl2 : (List.take i (zs.take i ++ List.replicate (zs.length + 1 - i) ((0, 0, 0) : Ent)) ++ [(x, y, z)] ++ List.drop (i + [((x, y, z) : Ent)].length) (zs.take i ++ List.replicate (zs.length + 1 - i) ((0, 0, 0) : Ent))).length = zs.length + 1 := by simp; omega
  obtain ⟨h3, g3⟩ := OwnRow.setRun h2.d1 (i + 1) (zs.drop i) (by rw [hl2]; simp; omega)
  rw [hk3] at h3 g3
  have hnl : (flat EL (zs.drop i)).length = (zs.length - i) * 3 := by rw [flat_len]; simp [hk3]
  have hcpB : ∀ ty dc sc, (Builtin.copy_ #[23, 23] ty #[.slice (some ⟨w.heap.size, (i + 1) * 3, none⟩) (zs.length - i) dc, .slice (some ⟨g, i * 3, none⟩) (zs.length - i) sc]).run Try.prog W2.drew = .ok (goInt (zs.length - i : Nat)) (W2.drew.setCells w.heap.size ((i + 1) * 3) (flat EL (zs.drop i))) := fun ty dc sc =>
    run_copy_rows W2.drew _ _ ty 30 3 w.heap.size ((i + 1) * 3) (zs.length - i) dc ⟨g, i * 3, none⟩ (zs.length - i) sc (zs.length - i) (flat EL (zs.drop i)) Try.underlying23 hsz (by simp only [Nat.min_def]; split <;> omega) hnl
      (fun j v hj => by
        rw [Addr.add_mid]
        show W2.cell? _ = _
        rw [hB2.cell (p := ⟨g, i * 3 + j, none⟩) hgw]
        exact hcs (i * 3 + j) v (by rwa [flat_drop, List.getElem?_drop] at hj))
      (fun j hj => hcell1 h2.d1 _ (by omega)) (fun j hj => h2.d1.frozenAt _) (flat_one EL _)
  obtain ⟨W3, hW3⟩ : ∃ W3, W3 = W2.drew.setCells w.heap.size ((i + 1) * 3) (flat EL (zs.drop i)) := ⟨_, rfl⟩
  rw [← hW3] at h3 g3 hcpB
  have hB3 : Below w.heap.size w W3 := bGr hB2.drew g3 (fun k hk => by cases hk; exact Nat.le_refl _)
  have ht1 : (zs.take i).length = i := by simp; omega
  have hfin : List.take (i + 1) (List.take i (zs.take i ++ List.replicate (zs.length + 1 - i) ((0, 0, 0) : Ent)) ++ [(x, y, z)] ++ List.drop (i + [((x, y, z) : Ent)].length) (zs.take i ++ List.replicate (zs.length + 1 - i) ((0, 0, 0) : Ent))) ++ zs.drop i ++ List.drop (i + 1 + (zs.drop i).length) (List.take i (zs.take i ++ List.replicate (zs.length + 1 - i) ((0, 0, 0) : Ent)) ++ [(x, y, z)] ++ List.drop (i + [((x, y, z) : Ent)].length) (zs.take i ++ List.replicate (zs.length + 1 - i) ((0, 0, 0) : Ent))) = insAt zs i (x, y, z) := by
    have e1 : List.take i (zs.take i ++ List.replicate (zs.length + 1 - i) ((0, 0, 0) : Ent)) = zs.take i := by
      rw [List.take_append_of_le_length (by omega), List.take_take, Nat.min_self]
    have e3 : List.drop (i + 1 + (zs.drop i).length) (List.take i (zs.take i ++ List.replicate (zs.length + 1 - i) ((0, 0, 0) : Ent)) ++ [(x, y, z)] ++ List.drop (i + [((x, y, z) : Ent)].length) (zs.take i ++ List.replicate (zs.length + 1 - i) ((0, 0, 0) : Ent))) = [] := List.drop_of_length_le (by rw [hl2]; simp; omega)
    have e4 : (zs.take i ++ [((x, y, z) : Ent)]).length = i + 1 := by simp; omega
    rw [e3, List.append_nil, e1, List.take_append_of_le_length (by omega), ← e4, List.take_length]
    rfl
  rw [hfin] at h3
  have O3 := Lib.hid h3; have G3 := Lib.hid hB3
  have hz2 : ((i : Int) == (zs.length : Int)) = false := by rw [beq_eq_false_iff_ne]; omega
  have hz2' : ¬ ((i : Int) = (zs.length : Int)) := by omega
  have hw1 : IntKind.i64.wrap ((i : Int) + 1) = (i : Int) + 1 := IntWalk.i64_in _ (by omega)
  have hw2 : IntKind.i64.wrap ((zs.length : Int) + 1) = (zs.length : Int) + 1 := IntWalk.i64_in _ (by omega)
  have hw3 : IntKind.i64.wrap ((zs.length : Int) + 1 - (i : Int)) = (zs.length : Int) + 1 - (i : Int) := IntWalk.i64_in _ (by omega)
  have hb1 : (0 : Int) ≤ (i : Int) + 1 := by omega
  have hq : decide ((zs.length : Int) < (zs.length : Int) + 1) = true := decide_eq_true (by omega)
  have htn : ((i : Int) + 1).toNat = i + 1 := by omega
  have hin : (i : Int) ≤ (zs.length : Int) := by omega
  have hin1 : (i : Int) + 1 ≤ (zs.length : Int) + 1 := by omega
  have hin0 : (i : Int) ≤ (zs.length : Int) + 1 := by omega
  have hGi : ¬ (G = i) := by omega
  have hGim : ¬ (G = i + 1) := by omega
  have hni : ¬ (zs.length = i) := by omega
  unfold maxLen at hG63
  clear hW1 hW2 hW3 h2 g2 h3 g3 hB1 hB2 hB3 hfin hl2 ht1 hcell1 hE hcs hb ho hnl ef hLl
  go_enter Try.func30, Try.ntmps30
  go_wp2_with (first | (at_builtin; refine Lib.wpList_append_run _ rfl (.tmp 34) (.tmp 39) 23 3 rfl _ _ rfl rfl _ _ (hrz _) ?_) | (at_builtin; refine wpList_copyR _ rfl (.tmp 43) (.tmp 44) 23 23 rfl _ _ rfl rfl (hcpA _ _) ?_))
  go_region_law (refine step_copyR rfl (.tmp 50) (.tmp 53) 23 23 rfl _ _ (by simp [Act.eval, Act.put]) (by simp [Act.eval, Act.put]) (hcpB _ _ _) ?_)
  go_wp2
  go_ret
  exact ⟨_, rfl, O3.out, G3.out⟩
end Go.Proofs.Ytcahemedlmagdaa
