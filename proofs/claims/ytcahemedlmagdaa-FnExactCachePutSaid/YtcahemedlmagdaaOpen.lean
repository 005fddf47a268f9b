/- What a law is told of a slice of structs of numbers that came in. No program in sight. -/
import Derived.Test.YtcahemedlmagdaaStr
import Derived.Deep.Slices
import Derived.Deep.Fields
import Derived.ChangeSame
namespace Go.Proofs.Ytcahemedlmagdaa
open Go.ChangeShapes Go.WideShapes Go.RowKit Go.Deep

section
variable {H : Type} {enc : TypeId × Value → H} {P : Program} {w : World} {base : Nat} {spare : Nat → Bool} {held : Bool}

/-- One field of number j of a struct that was read whole. -/
theorem field_int {fs : Array Field} {e : TypeId} {n : Nat} {cs : List Value} {y : DataW H × List MemPlace} (he : P.underlying e = some (.struct fs)) (hone : oneCellFields P fs = true)
    (h : DataW.trod enc P w base spare held n e cs = some y) (j : Nat) (f : Field) (hf : fs[j]? = some f) (hi : P.underlying f.type = some (.int .i64)) (hl : cs.length = fs.size) :
    ∃ z, cs[j]? = some (.int .i64 z) ∧ (Lit.int .i64 z).wf = true := by
  obtain ⟨ys, n', _, _, _, hyl, hg⟩ := DataW.trod_struct he h
  obtain ⟨ho, hk⟩ := hone_of hone j f hf
  have hj : j < fs.size := (Array.getElem?_eq_some_iff.1 hf).1
  have h1 := hg j f hf
  rw [ho, hk, List.drop_eq_getElem_cons (by omega)] at h1
  have hy : ys[j]? = some (ys[j]'(by omega)) := List.getElem?_eq_getElem (by omega)
  rw [hy] at h1
  obtain ⟨z, hz, _, hw⟩ := DataW.trod_int hi h1
  refine ⟨z, ?_, hw⟩
  rw [List.getElem?_eq_getElem (by omega)]
  simp only [List.take_succ_cons, List.take_zero, List.cons.injEq, and_true] at hz
  rw [hz]

theorem open_rows {α : Type} (L : Lay α) {t e : TypeId} {fuel : Nat} {a : Option Addr} {len cap : Nat} {x : DataW H × List MemPlace} (wf : α → Prop) (hsp : ∀ b, spare b = true) (hC : P.cellsOf e = L.k) (ht : P.underlying t = some (.slice e))
    (hel : ∀ n cs y, cs.length = L.k → DataW.trod enc P w base spare held n e cs = some y → ∃ v : α, cs = L.c v ∧ wf v) (h : DataW.trod enc P w base spare held fuel t [.slice a len cap] = some x) :
    ∃ zs, RRow L w (.slice a len cap) zs ∧ ∀ n ∈ zs, wf n := by
  rcases open_slice ht h with ⟨hcs, _⟩ | ⟨ad, len', cap', m, n, D, Pl, hcs, _, hl, hm, hmm, _, hi⟩
  · simp only [List.cons.injEq, Value.slice.injEq, and_true] at hcs
    obtain ⟨rfl, rfl, rfl⟩ := hcs
    exact ⟨[], ⟨none, 0, rfl, Nat.le_refl _, by unfold maxLen; omega, fun i hi => absurd hi (by simp)⟩, by simp⟩
  · simp only [List.cons.injEq, Value.slice.injEq, and_true] at hcs
    obtain ⟨rfl, rfl, rfl⟩ := hcs
    rw [hsp, if_pos rfl] at hmm
    have hel' : ∀ i, i < len → ∃ v : α, wf v ∧ ∀ j u, (L.c v)[j]? = some u → w.cell? (ad.add (i * L.k + j)) = some u := by
      intro i hil
      obtain ⟨cs', h1, h2⟩ := hi i (by omega)
      rw [hC] at h1
      obtain ⟨_, hlen, hat⟩ := World.cells?_some h1
      obtain ⟨v, rfl, hw⟩ := hel _ _ _ hlen h2
      refine ⟨v, hw, fun j u hu => ?_⟩
      have hj : j < L.k := by
        have := (List.getElem?_eq_some_iff.1 hu).1
        rwa [L.len] at this
      rw [← Go.Deep.add_add, hat j hj, hu]
    cases len with
    | zero => exact ⟨[], ⟨some ad, cap, rfl, Nat.zero_le _, hm, fun i hi => absurd hi (by simp)⟩, by simp⟩
    | succ len =>
      obtain ⟨v0, _, hv0⟩ := hel' 0 (by omega)
      have hpos := L.pos
      have hc0 := hv0 0 ((L.c v0)[0]'(by rw [L.len]; exact hpos)) (List.getElem?_eq_getElem _)
      have hs := spot_of_cell hc0
      obtain ⟨b, off, spot⟩ := ad
      have hs : spot = none := by simpa [Addr.add] using hs
      subst hs
      have hadd : ∀ i, (⟨b, off, none⟩ : Addr).add i = ⟨b, off + i, none⟩ := fun i => Addr.add_mid ..
      have hne : Nonempty α := ⟨v0⟩
      have : Inhabited α := ⟨v0⟩
      obtain ⟨f, hf⟩ := choose_lt (α := α) (p := fun i v => wf v ∧ ∀ j u, (L.c v)[j]? = some u → w.cell? ((⟨b, off, none⟩ : Addr).add (i * L.k + j)) = some u) hel'
      have hbl : b < w.heap.size := by
        have := cell_lt hc0
        rw [hadd] at this
        exact this
      refine ⟨(List.range (len + 1)).map f, ⟨_, cap, by simp, by simpa using hl, hm, fun i hi => ⟨b, off, rfl, hbl, fun j u hu => ?_⟩⟩, fun n hn => ?_⟩
      · have hil : i < len + 1 := by simpa using hi
        have := (hf i hil).2 j u (by simpa using hu)
        rw [hadd, ← Nat.add_assoc] at this
        exact this
      · simp only [List.mem_map, List.mem_range] at hn
        obtain ⟨i, hi, rfl⟩ := hn
        exact (hf i hi).1

theorem open_ents {t e : TypeId} {f0 f1 f2 : Field} {fuel : Nat} {a : Option Addr} {len cap : Nat} {x : DataW H × List MemPlace} (hsp : ∀ b, spare b = true) (ht : P.underlying t = some (.slice e))
    (he : P.underlying e = some (.struct #[f0, f1, f2])) (hone : oneCellFields P #[f0, f1, f2] = true) (hC : P.cellsOf e = 3)
    (h0 : P.underlying f0.type = some (.int .i64)) (h1 : P.underlying f1.type = some (.int .i64)) (h2 : P.underlying f2.type = some (.int .i64))
    (h : DataW.trod enc P w base spare held fuel t [.slice a len cap] = some x) : ∃ zs, RRow EL w (.slice a len cap) zs ∧ ∀ n ∈ zs, Ent.wf n := by
  refine open_rows EL Ent.wf hsp hC ht (fun n cs y hl hy => ?_) h
  obtain ⟨z0, e0, w0⟩ := field_int he hone hy 0 f0 rfl h0 hl
  obtain ⟨z1, e1, w1⟩ := field_int he hone hy 1 f1 rfl h1 hl
  obtain ⟨z2, e2, w2⟩ := field_int he hone hy 2 f2 rfl h2 hl
  match cs, hl with
  | [c0, c1, c2], _ =>
    simp at e0 e1 e2
    exact ⟨(z0, z1, z2), by rw [e0, e1, e2]; rfl, w0, w1, w2⟩
theorem open_toks {t e : TypeId} {f0 f1 : Field} {fuel : Nat} {a : Option Addr} {len cap : Nat} {x : DataW H × List MemPlace} (hsp : ∀ b, spare b = true) (ht : P.underlying t = some (.slice e))
    (he : P.underlying e = some (.struct #[f0, f1])) (hone : oneCellFields P #[f0, f1] = true) (hC : P.cellsOf e = 2)
    (h0 : P.underlying f0.type = some (.int .i64)) (h1 : P.underlying f1.type = some (.int .i64))
    (h : DataW.trod enc P w base spare held fuel t [.slice a len cap] = some x) : ∃ zs, RRow TL w (.slice a len cap) zs ∧ ∀ n ∈ zs, Tok.wf n := by
  refine open_rows TL Tok.wf hsp hC ht (fun n cs y hl hy => ?_) h
  obtain ⟨z0, e0, w0⟩ := field_int he hone hy 0 f0 rfl h0 hl
  obtain ⟨z1, e1, w1⟩ := field_int he hone hy 1 f1 rfl h1 hl
  match cs, hl with
  | [c0, c1], _ =>
    simp at e0 e1
    exact ⟨(z0, z1), by rw [e0, e1]; rfl, w0, w1⟩
end
end Go.Proofs.Ytcahemedlmagdaa
