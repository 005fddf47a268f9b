/- TransferNew of the program and of the reference. -/
import Derived.Test.YtlfmgagokaekjaaTr
import Derived.Test.YtlfmgagokaekjaaCopyOwn
import Derived.Laws.Rows
import Derived.Laws.Tables
import Derived.Laws.CopyOwn
namespace Go.Proofs.Ytlfmgagokaekjaa
open Go.RowKit
set_option linter.unusedVariables false
set_option linter.unusedSimpArgs false

theorem results_cellrow_tmp {P : Program} {fn : Func} {p u : Tmp} {ty : TypeId} (h : fn.results = #[.cell p ty, .tmp u]) (tmps : Array Value) (w : World) (g : Nat) (t : TypeId) (cs : Array Value) (fr : Nat × Nat) (d : TypeDesc)
    (hp : tmps.getD p undef = .pointer (some ⟨g, 0, none⟩)) (hg : w.heap[g]? = some (.cells cs t fr))
    (hu : P.underlying ty = some d) (hd : (match d with | .struct _ | .array _ _ => true | _ => false) = true) (hi : (P.info? ty).map (·.size) = some cs.size) :
    (results fn tmps).run P w = .ok (.tuple #[.agg cs, tmps.getD u undef]) w := by
  have hp' : tmps[p]?.getD undef = .pointer (some ⟨g, 0, none⟩) := by simpa using hp
  simp [results, h, hp', asAddr, run_loadVar_row w g t ty cs fr d hg hu hd hi]

theorem grown_setRow (w : World) (g : Nat) (cs : Array Value) : w.grownBy (w.setRow g cs) (some g) :=
  ⟨rfl, rfl, rfl, by simp [World.setRow], fun k _ hk => setRow_other w g k cs (fun e => hk (by rw [e]))⟩
theorem own_setRow {w : World} {B g : Nat} {v : Value} {zs : List Int} (h : OwnInts w B v zs) (hg : g < B) (cs : Array Value) : OwnInts (w.setRow g cs) B v zs :=
  h.kept (grown_setRow w g cs) (by
    cases hb : v.ownBlock with
    | none => exact .inl rfl
    | some x => exact .inr (fun e => by cases e; have := (ownsRow_lt h hb).1; omega))
theorem block_setCell {w : World} {g j : Nat} {cs : Array Value} {t : TypeId} {fr : Nat × Nat} (h : w.heap[g]? = some (.cells cs t fr)) (v : Value) : (w.setCell ⟨g, j, none⟩ v).heap[g]? = some (.cells (cs.setIfInBounds j v) t fr) := by
  simp [World.setCell, Array.getElem?_modify, h]
theorem grown_setCell (w : World) (g j : Nat) (v : Value) : w.grownBy (w.setCell ⟨g, j, none⟩ v) (some g) :=
  ⟨rfl, rfl, rfl, by simp [World.setCell], fun k _ hk => Below.heap_setCell _ _ _ _ (fun e => hk (by rw [e]))⟩
/-- A block known whole, and the same block with three cells stored. -/
structure Blk3 (w : World) (g : Nat) (a b c : Value) (t : TypeId) : Prop where
  h : w.heap[g]? = some (.cells #[a, b, c] t (0, 0))
theorem Blk3.c0 {w g a b c t} (h : Blk3 w g a b c t) : w.cell? ⟨g, 0, none⟩ = some a := cell_of_row _ _ 0 _ _ (0, 0) h.h
theorem Blk3.c1 {w g a b c t} (h : Blk3 w g a b c t) : w.cell? ⟨g, 1, none⟩ = some b := cell_of_row _ _ 1 _ _ (0, 0) h.h
theorem Blk3.c2 {w g a b c t} (h : Blk3 w g a b c t) : w.cell? ⟨g, 2, none⟩ = some c := cell_of_row _ _ 2 _ _ (0, 0) h.h
theorem Blk3.f {w g a b c t} (h : Blk3 w g a b c t) (j : Nat) : w.frozen? ⟨g, j, none⟩ = false := frozen_of_row _ _ j _ _ h.h
theorem Blk3.s0 {w g a b c t} (h : Blk3 w g a b c t) (v : Value) : Blk3 (w.setCell ⟨g, 0, none⟩ v) g v b c t := ⟨block_setCell h.h v⟩
theorem Blk3.s1 {w g a b c t} (h : Blk3 w g a b c t) (v : Value) : Blk3 (w.setCell ⟨g, 1, none⟩ v) g a v c t := ⟨block_setCell h.h v⟩
theorem Blk3.s2 {w g a b c t} (h : Blk3 w g a b c t) (v : Value) : Blk3 (w.setCell ⟨g, 2, none⟩ v) g a b v t := ⟨block_setCell h.h v⟩
theorem Blk3.below {w w' B g a b c t} (h : Blk3 w g a b c t) (hb : Below B w w') (hg : g < B) : Blk3 w' g a b c t := ⟨(hb.block g hg).trans h.h⟩
theorem Blk3.new (w : World) (a b c : Value) (t : TypeId) : Blk3 (w.alloc (.cells #[a, b, c] t)) w.heap.size a b c t := ⟨heap_alloc_new _ _⟩
def set3 (w : World) (g : Nat) (a b c : Value) : World := ((w.setCell ⟨g, 0, none⟩ a).setCell ⟨g, 1, none⟩ b).setCell ⟨g, 2, none⟩ c
theorem Blk3.set {w g a b c t} (h : Blk3 w g a b c t) (x y z : Value) : Blk3 (set3 w g x y z) g x y z t := ((h.s0 x).s1 y).s2 z
theorem grown_set3 (w : World) (g : Nat) (a b c : Value) : w.grownBy (set3 w g a b c) (some g) := ((grown_setCell _ _ _ _).trans (grown_setCell _ _ _ _)).trans (grown_setCell _ _ _ _)
theorem below_set3 {B g : Nat} {w0 w : World} (hb : Below B w0 w) (hg : B ≤ g) (hw : B ≤ w.heap.size) (a b c : Value) : Below B w0 (set3 w g a b c) := hb.grown (grown_set3 w g a b c) hw (fun j hj => by cases hj; exact hg)
theorem own_set3 {w : World} {B g : Nat} {v : Value} {zs : List Int} (h : OwnInts w B v zs) (hg : g < B) (a b c : Value) : OwnInts (set3 w g a b c) B v zs :=
  h.kept (grown_set3 w g a b c) (by
    cases hb : v.ownBlock with
    | none => exact .inl rfl
    | some x => exact .inr (fun e => by cases e; have := (ownsRow_lt h hb).1; omega))
theorem infoTr : (Try.prog.info? 33).map (·.size) = some 3 := by kernel_rfl
def trC (u : Value) (n k : Int) : Array Value := #[u, .int .i64 n, .int .i64 k]
def tr0 : Array Value := #[.slice none 0 0, .int .i64 0, .int .i64 0]

def trV (u : Value) (n k : Int) : Value := .agg #[u, .int .i64 n, .int .i64 k]
def newL (zs : List Int) : List Int := if itemsB zs then zs else []

theorem itemsOk20_any (v : Value) (zs : List Int) (w : World) (hl : zs.length ≤ 4194304) (hr : RInts w v zs) :
    Calls Try.prog 42 #[v, .int .i64 20] w fun e w' => e = .returned (.bool (itemsB zs)) ∧ w = w' := itemsOk_any v zs 20 w hl hr

set_option maxHeartbeats 400000 in
theorem implTransferNew_any (v : Value) (zs : List Int) (w : World) (hl : zs.length ≤ 4194304) (hr : RInts w v zs) :
    Calls Try.prog 24 #[v] w fun e w' => ∃ u, e = .returned (.tuple #[trV u 0 0, .bool (itemsB zs)]) ∧ OwnInts w' w.heap.size u (newL zs) ∧ Below w.heap.size w w' := by
  cases hb : itemsB zs with
  | false =>
    have HB := Lib.hid hb; clear hb
    have hn : newL zs = [] := by rw [newL, HB.out]; rfl
    rw [hn]; clear hn
    go_enter Try.func24, Try.ntmps24
    go_wp2_with fail
    refine (itemsOk20_any _ zs _ hl (hr.below (below_alloc _ _))).mono ?_
    rw [HB.out]
    rintro e w' ⟨rfl, rfl⟩
    go_wp2_with (refine wpList_store_row (o := ⟨none, .store _ _ _, _, _, _, _⟩) rfl 33 (.tmp 2) (.tmp 7) rfl w.heap.size #[.slice none 0 0, .int .i64 0, .int .i64 0] rfl rfl 33 #[.slice none 0 0, .int .i64 0, .int .i64 0] (heap_alloc_new _ _) infoTr rfl rfl ?_)
    refine bodyPost_ret (results_cellrow_tmp rfl _ _ w.heap.size 33 #[.slice none 0 0, .int .i64 0, .int .i64 0] (0, 0) _ rfl (heap_alloc_new _ _) Try.underlying33 rfl infoTr) rfl ⟨_, rfl, OwnInts.nil _ _, below_alloc _ _⟩
  | true =>
    have HB := Lib.hid hb; clear hb
    have hn : newL zs = zs := by rw [newL, HB.out]; rfl
    rw [hn]; clear hn
    go_enter Try.func24, Try.ntmps24
    go_wp2_with fail
    refine (itemsOk20_any _ zs _ hl (hr.below (below_alloc _ _))).mono ?_
    rw [HB.out]
    rintro e w' ⟨rfl, rfl⟩
    go_wp2_with fail
    refine (clone_any _ zs _ hl (hr.below (below_alloc _ _))).mono ?_
    rintro e w2 ⟨u, rfl, o2, b2⟩
    obtain ⟨a2, cap2, rfl, -, -, -⟩ := o2.reads
    have B3 := (Blk3.new w (.slice none 0 0) (.int .i64 0) (.int .i64 0) 33).below b2 (by simp)
    have hsz : w.heap.size ≤ w2.heap.size := Nat.le_trans (by simp) b2.size
    have hc0 := B3.c0; have hc1 := B3.c1; have hc2 := B3.c2
    have hf0 := B3.f 0; have hf1 := B3.f 1; have hf2 := B3.f 2
    go_wp2
    refine bodyPost_ret (results_cellrow_tmp rfl _ _ w.heap.size 33 #[.slice a2 zs.length cap2, .int .i64 0, .int .i64 0] (0, 0) _ rfl (B3.set _ _ _).h Try.underlying33 rfl infoTr) rfl ⟨_, rfl, (own_set3 o2 (by simp) _ _ _).base (by simp), below_set3 ((below_alloc _ _).trans (b2.mono (by simp))) (Nat.le_refl _) hsz _ _ _⟩

set_option maxHeartbeats 400000 in
theorem specTransferNew_any (v : Value) (zs : List Int) (B : Nat) (w : World) (hl : zs.length ≤ 4194304) (ho : OwnInts w B v zs) :
    Calls Try.prog 25 #[v] w fun e w' => ∃ u, e = .returned (.tuple #[trV u 0 0, .bool (itemsB zs)]) ∧ OwnInts w' w.heap.size u (newL zs) ∧ Below w.heap.size w w' := by
  cases hb : itemsB zs with
  | false =>
    have HB := Lib.hid hb; clear hb
    have hn : newL zs = [] := by rw [newL, HB.out]; rfl
    rw [hn]; clear hn
    go_enter Try.func25, Try.ntmps25
    go_wp2_with fail
    refine (l22Items_any _ zs _ hl (ho.reads.below (below_alloc _ _))).mono ?_
    rw [HB.out]
    rintro e w' ⟨rfl, rfl⟩
    go_wp2
    refine bodyPost_ret (results_cellrow_tmp rfl _ _ w.heap.size 33 #[.slice none 0 0, .int .i64 0, .int .i64 0] (0, 0) _ rfl (heap_alloc_new _ _) Try.underlying33 rfl infoTr) rfl ⟨_, rfl, OwnInts.nil _ _, below_alloc _ _⟩
  | true =>
    have HB := Lib.hid hb; clear hb
    have hn : newL zs = zs := by rw [newL, HB.out]; rfl
    rw [hn]; clear hn
    go_enter Try.func25, Try.ntmps25
    go_wp2_with fail
    refine (l22Items_any _ zs _ hl (ho.reads.below (below_alloc _ _))).mono ?_
    rw [HB.out]
    rintro e w' ⟨rfl, rfl⟩
    go_wp2_with (at_builtin; refine wpList_copyOwn _ rfl _ _ rfl _ rfl (by simp) _ rfl B zs (ho.below (below_alloc _ _)) hl ?_)
    intro u w2 o2 b2
    obtain ⟨a2, cap2, rfl, -, -, -⟩ := o2.reads
    have B3 := (Blk3.new w (.slice none 0 0) (.int .i64 0) (.int .i64 0) 33).below b2 (by simp)
    have hsz : w.heap.size ≤ w2.heap.size := Nat.le_trans (by simp) b2.size
    have hc0 := B3.c0; have hc1 := B3.c1; have hc2 := B3.c2
    have hf0 := B3.f 0; have hf1 := B3.f 1; have hf2 := B3.f 2
    go_wp2
    refine bodyPost_ret (results_cellrow_tmp rfl _ _ w.heap.size 33 #[.slice a2 zs.length cap2, .int .i64 0, .int .i64 0] (0, 0) _ rfl (B3.set _ _ _).h Try.underlying33 rfl infoTr) rfl ⟨_, rfl, (own_set3 o2 (by simp) _ _ _).base (by simp), below_set3 ((below_alloc _ _).trans (b2.mono (by simp))) (Nat.le_refl _) hsz _ _ _⟩
end Go.Proofs.Ytlfmgagokaekjaa
