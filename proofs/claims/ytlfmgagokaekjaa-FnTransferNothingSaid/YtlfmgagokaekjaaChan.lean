/- Operations on a channel inside a region, one goroutine, none of them waits: rules for the walk. No program in sight. -/
import Derived.Conc.LoneCalls
import Derived.Test.YtlfmgagokaekjaaMem
namespace Go.Proofs.Ytlfmgagokaekjaa
open Go.RowKit Go.Conc
set_option linter.unusedVariables false
set_option linter.unusedSimpArgs false

/-- What is left of a region's operations, as the machine runs them. -/
def OpsAt (P : Program) (ops : Array Oper) (Q : Exit → Act → World → Prop) (l : List Nat) (a : Act) (w : World) : Prop :=
  ∀ (b : Frame) (k : List Item) (cs : List Frame), ∃ e a' w', Q e a' w' ∧ Arrives P (lone (b.at a (.inRegion ops l :: k)) cs w) b k cs e a' w'

section
variable {P : Program} {ops : Array Oper} {Q : Exit → Act → World → Prop} {a : Act} {w : World}

theorem OpsAt.of {l : List Nat} (h : wpOps P ops Q l a w) : OpsAt P ops Q l a w := wp_ops l a w h

theorem wp_region_at {id : Nat} (h : OpsAt P ops Q (List.range ops.size) a w) : (Code.region id ops false).wp P Q a w :=
  fun b k cs => let ⟨e, a', w', q, r⟩ := h b k cs; ⟨e, a', w', q, .of_steps (.one step_region) r⟩

theorem fin_at (b : Frame) (k : List Item) {i : Nat} {rest : List Nat} {o : Oper} (ho : ops[i]? = some o) (v : Value) :
    (b.at a (.inRegion ops (i :: rest) :: k)).finish v = b.at (a.put o.dst v) (.inRegion ops rest :: k) := by rw [Frame.finish_at, ho]; rfl

theorem OpsAt.value {i : Nat} {rest : List Nat} {o : Oper} {v : Value} {w' : World} (ho : ops[i]? = some o) (hg : o.guard = none) (hr : (execOp a.eval o).run P w = .ok (.value v) w')
    (h : OpsAt P ops Q rest (a.put o.dst v) w') : OpsAt P ops Q (i :: rest) a w := by
  intro b k cs
  obtain ⟨e, a', w'', hq, harr⟩ := h b k cs
  refine ⟨e, a', w'', hq, .of_steps (.one (step_lone_go ?_)) harr⟩
  rw [stepG_op ho (by simp [Region.wanted, hg]), ← fin_at b k ho]; simp [stepG.apply, hr]

theorem stepG_com {b : Frame} {k : List Item} {cs : List Frame} {i : Nat} {rest : List Nat} {o : Oper} {cases : Array CommCase} {blocking : Bool} {shape : CommShape} {w' : World} (ho : ops[i]? = some o) (hg : o.guard = none)
    (hr : (execOp a.eval o).run P w = .ok (.comm cases blocking shape) w') :
    ∃ es, stepG P true (G (b.at a (.inRegion ops (i :: rest) :: k)) cs) w = .comm (G (b.at a (.inRegion ops (i :: rest) :: k)) cs) cases blocking shape w' es := by
  have h := stepG_op (P := P) (b := b) (a := a) (k := k) (cs := cs) (w := w) (rest := rest) ho (by simp [Region.wanted, hg])
  rw [show G (b.at a (.inRegion ops (i :: rest) :: k)) cs = { frame := b.at a (.inRegion ops (i :: rest) :: k), callers := cs, status := .running, dying := none } from rfl, h]
  simp only [stepG.apply, Sem.runT_eq, hr, GStep.after]
  exact ⟨_, rfl⟩

theorem OpsAt.send {i : Nat} {rest : List Nat} {o : Oper} {c cap s r : Nat} {buf : Array Value} {v z : Value} {tm : Bool} (ho : ops[i]? = some o) (hg : o.guard = none)
    (hr : (execOp a.eval o).run P w = .ok (.comm #[scase c v z] true .send) w) (hc : w.heap[c]? = some (.chan cap buf false s r tm)) (hroom : buf.size < cap)
    (h : OpsAt P ops Q rest (a.put o.dst undef) (w.setChan c cap (buf.push v) false (s + 1) r tm)) : OpsAt P ops Q (i :: rest) a w := by
  intro b k cs
  obtain ⟨e, a', w'', hq, harr⟩ := h b k cs
  obtain ⟨es, hs⟩ := stepG_com (b := b) (k := k) (cs := cs) (rest := rest) ho hg hr
  have hst := step_lone_send_room hs hc hroom
  rw [fin_at b k ho] at hst
  exact ⟨e, a', w'', hq, .of_steps (.one hst) harr⟩

theorem OpsAt.recv {i : Nat} {rest : List Nat} {o : Oper} {c cap s r : Nat} {buf : Array Value} {z : Value} {closed tm : Bool} (ho : ops[i]? = some o) (hg : o.guard = none)
    (hr : (execOp a.eval o).run P w = .ok (.comm #[rcase c z] true (.recv true)) w) (hc : w.heap[c]? = some (.chan cap buf closed s r tm)) (hsome : 0 < buf.size)
    (h : OpsAt P ops Q rest (a.put o.dst (.tuple #[buf.getD 0 undef, .bool true])) (w.setChan c cap (buf.extract 1 buf.size) closed s (r + 1) tm)) : OpsAt P ops Q (i :: rest) a w := by
  intro b k cs
  obtain ⟨e, a', w'', hq, harr⟩ := h b k cs
  obtain ⟨es, hs⟩ := stepG_com (b := b) (k := k) (cs := cs) (rest := rest) ho hg hr
  have hst := step_lone_recv_buf true hs hc hsome
  rw [fin_at b k ho] at hst
  exact ⟨e, a', w'', hq, .of_steps (.one hst) harr⟩

theorem OpsAt.shut {i : Nat} {rest : List Nat} {o : Oper} {c cap s r : Nat} {z : Value} {tm : Bool} (ho : ops[i]? = some o) (hg : o.guard = none)
    (hr : (execOp a.eval o).run P w = .ok (.comm #[rcase c z] true (.recv true)) w) (hc : w.heap[c]? = some (.chan cap #[] true s r tm))
    (h : OpsAt P ops Q rest (a.put o.dst (.tuple #[z, .bool false])) w) : OpsAt P ops Q (i :: rest) a w := by
  intro b k cs
  obtain ⟨e, a', w'', hq, harr⟩ := h b k cs
  obtain ⟨es, hs⟩ := stepG_com (b := b) (k := k) (cs := cs) (rest := rest) ho hg hr
  have hst := step_lone_recv_shut true hs hc
  rw [fin_at b k ho] at hst
  exact ⟨e, a', w'', hq, .of_steps (.one hst) harr⟩
end

theorem grown_chan (w : World) (c cap : Nat) (buf : Array Value) (cl : Bool) (s r : Nat) (tm : Bool) : w.grownBy (w.setChan c cap buf cl s r tm) (some c) :=
  ⟨rfl, rfl, rfl, by simp [World.setChan], fun k hk hne => by simp only [World.setChan]; rw [Array.getElem?_setIfInBounds_ne (by intro e; exact hne (by rw [e]))]⟩
end Go.Proofs.Ytlfmgagokaekjaa
