/- CacheGet of the program. -/
import Derived.Test.YtcahemedlmagdaaFe
namespace Go.Proofs.Ytcahemedlmagdaa
open Go.RowKit
set_option linter.unusedVariables false
set_option linter.unusedSimpArgs false

/-- May the entry be used at this time? -/
def freshB (e : Ent) (now : Int) : Bool := inB (now - e.2.2) 0 10
def usedK (zs : List Ent) (key now : Int) : Bool := match zs[posOf zs key]? with
  | some e => (e.1 == key) && freshB e now
  | none => false
def getG (zs : List Ent) (key now : Int) : Bool := cvB zs && ptB key && inB now 0 999
def getT (zs : List Ent) (key now : Int) : Bool := getG zs key now && usedK zs key now
def getN (zs : List Ent) (key now : Int) : Int := if getT zs key now then (match zs[posOf zs key]? with | some e => e.2.1 | none => 0) else 0

set_option maxHeartbeats 400000 in
theorem usedAt_any (x y z now : Int) (w : World) (hz : 0 ≤ z ∧ z ≤ 999) (hn : 0 ≤ now ∧ now ≤ 999) :
    Calls Try.prog 41 #[.agg #[.int .i64 x, .int .i64 y, .int .i64 z], .int .i64 now] w fun e w' => e = .returned (.bool (freshB (x, y, z) now)) ∧ Below w.heap.size w w' := by
  obtain ⟨z0, z1⟩ := hz; obtain ⟨n0, n1⟩ := hn
  go_enter Try.func41, Try.ntmps41
  go_wp2_with (go_at_call 44; refine (inRange_any _ _ _ _).mono ?_; rintro e w' ⟨rfl, rfl⟩)
  go_ret
  exact ⟨rfl, below_alloc _ _⟩

/-- Not every argument is valid: nothing is found. -/
theorem get_bad {zs : List Ent} {key now : Int} (h : getG zs key now = false) : getN zs key now = 0 ∧ getT zs key now = false := by simp [getN, getT, h]

set_option maxHeartbeats 1000000 in
theorem implCacheGet_any (v : Value) (zs : List Ent) (key now : Int) (w : World) (hl : zs.length ≤ 4194304) (hr : RRow EL w v zs) :
    Calls Try.prog 20 #[v, .int .i64 key, .int .i64 now] w fun e w' => e = .returned (.tuple #[.int .i64 (getN zs key now), .bool (getT zs key now)]) ∧ Below w.heap.size w w' := by
  obtain ⟨a, cap, rfl, hc, hm, -⟩ := id hr
  have HR := Lib.hid hr; clear hr
  cases hv : cvB zs with
  | false =>
    obtain ⟨e1, e2⟩ := get_bad (zs := zs) (key := key) (now := now) (by simp [getG, hv])
    rw [e1, e2]
    have HV := Lib.hid hv; clear hv e1 e2
    go_enter Try.func20, Try.ntmps20
    go_wp2_with fail
    refine (implCacheValid_any _ zs _ hl HR.out).mono ?_
    rw [HV.out]
    rintro e w1 ⟨rfl, b1⟩
    go_wp2
    go_ret2
    exact ⟨rfl, b1⟩
  | true =>
    cases hk : ptB key with
    | false =>
      obtain ⟨e1, e2⟩ := get_bad (zs := zs) (key := key) (now := now) (by simp [getG, hv, hk])
      rw [e1, e2]
      have HV := Lib.hid hv; clear hv e1 e2
      go_enter Try.func20, Try.ntmps20
      go_wp2_with fail
      refine (implCacheValid_any _ zs _ hl HR.out).mono ?_
      rw [HV.out]
      rintro e w1 ⟨rfl, b1⟩
      go_wp2_with fail
      refine (ok_any _ _).mono ?_
      rintro e w' ⟨rfl, rfl⟩
      go_wp2
      go_ret2
      exact ⟨rfl, b1⟩
    | true =>
      cases hn : inB now 0 999 with
      | false =>
        obtain ⟨e1, e2⟩ := get_bad (zs := zs) (key := key) (now := now) (by simp [getG, hv, hk, hn])
        rw [e1, e2]
        have HV := Lib.hid hv; clear hv e1 e2
        go_enter Try.func20, Try.ntmps20
        go_wp2_with fail
        refine (implCacheValid_any _ zs _ hl HR.out).mono ?_
        rw [HV.out]
        rintro e w1 ⟨rfl, b1⟩
        go_wp2_with fail
        refine (ok_any _ _).mono ?_
        rintro e w' ⟨rfl, rfl⟩
        go_wp2_with fail
        refine (times_any _ now _ ?_).mono ?_
        · exact reads_one _ now rfl
        rintro e w' ⟨rfl, rfl⟩
        go_wp2
        go_ret2
        exact ⟨rfl, bAl b1 _⟩
      | true =>
        have hkk := ptB_true hk
        have hnn := inB_true hn
        have hG : Hid (getG zs key now = true) := Lib.hid (by simp [getG, hv, hk, hn])
        have HV := Lib.hid hv; clear hv
        go_enter Try.func20, Try.ntmps20
        go_wp2_with fail
        refine (implCacheValid_any _ zs _ hl HR.out).mono ?_
        rw [HV.out]
        rintro e w1 ⟨rfl, b1⟩
        go_wp2_with fail
        refine (ok_any _ _).mono ?_
        rintro e w' ⟨rfl, rfl⟩
        go_wp2_with fail
        refine (times_any _ now _ ?_).mono ?_
        · exact reads_one _ now rfl
        rintro e w' ⟨rfl, rfl⟩
        have c1 := bAl b1 (.cells #[.int .i64 now] 3)
        go_wp2_with fail
        refine (findEntry_any _ zs key _ HV.out hkk (HR.out.bl c1)).mono ?_
        obtain ⟨p, hp⟩ : ∃ p, p = posOf zs key := ⟨_, rfl⟩
        rw [← hp]
        cases hh : hasK zs key with
        | false =>
          have HT : Hid (getT zs key now = false) := by
            refine Lib.hid ?_
            rw [getT, usedK]
            rw [hasK, keyAt] at hh
            cases h : zs[posOf zs key]? with
            | none => simp
            | some e => rw [h] at hh; simp only at hh; simp [hh]
          have HP := Lib.hid hp; clear hp
          rintro e w2 ⟨rfl, b2⟩
          have c2 := bNext c1 b2
          clear hh
          go_wp2
          go_ret2
          exact ⟨by rw [HT.out, getN, HT.out]; rfl, c2⟩
        | true =>
          have hpl : p < zs.length := by
            rw [hasK, keyAt] at hh
            cases h : zs[posOf zs key]? with
            | none => rw [h] at hh; simp at hh
            | some e => have := (List.getElem?_eq_some_iff.1 h).1; omega
          have hzk : zs[p].1 = key := by
            rw [hasK, keyAt, ← hp, List.getElem?_eq_getElem hpl] at hh
            simpa using hh
          have HU : Hid (getT zs key now = freshB zs[p] now) := by
            refine Lib.hid ?_
            rw [getT, hG.out, usedK, ← hp, List.getElem?_eq_getElem hpl]
            simp [hzk]
          have HN : Hid (getN zs key now = if freshB zs[p] now then zs[p].2.1 else 0) := by
            refine Lib.hid ?_
            rw [getN, HU.out, ← hp, List.getElem?_eq_getElem hpl]
          clear hp hh
          rintro e w2 ⟨rfl, b2⟩
          have c2 := bNext c1 b2
          obtain ⟨b, off, rfl, hbl, h0, h1, h2⟩ := HR.out.ent p hpl
          have hz := (enB_parts (cv_all (cvB_from HV.out).1 p hpl).1).2.2
          have r0 := (c2.cell (p := ⟨b, off + p * 3, none⟩) hbl).trans h0
          have r1 := (c2.cell (p := ⟨b, off + p * 3 + 1, none⟩) hbl).trans h1
          have r2 := (c2.cell (p := ⟨b, off + p * 3 + 2, none⟩) hbl).trans h2
          clear h0 h1 h2
          have hz3 : zs[p] = (zs[p].1, zs[p].2.1, zs[p].2.2) := rfl
          rw [hz3] at HU HN
          simp only at HN
          clear hz3
          generalize zs[p].1 = x at *
          generalize zs[p].2.1 = y at *
          generalize zs[p].2.2 = z at *
          clear hzk
          cases hf : freshB (x, y, z) now with
          | false =>
            have HF := Lib.hid hf; clear hf
            go_wp2_with fail
            refine (usedAt_any x y z now _ hz hnn).mono ?_
            rw [HF.out]
            rintro e w3 ⟨rfl, b3⟩
            have c3 := bNext c2 b3
            go_wp2
            go_ret2
            exact ⟨by rw [HU.out, HN.out, HF.out]; rfl, c3⟩
          | true =>
            have HF := Lib.hid hf; clear hf
            go_wp2_with fail
            refine (usedAt_any x y z now _ hz hnn).mono ?_
            rw [HF.out]
            rintro e w3 ⟨rfl, b3⟩
            have c3 := bNext c2 b3
            have s1 := (b3.cell (p := ⟨b, off + p * 3 + 1, none⟩) (by have := c2.size; show b < _; omega)).trans r1
            clear r0 r1 r2
            go_wp2
            go_ret2
            exact ⟨by rw [HU.out, HN.out, HF.out]; rfl, c3⟩

/-- Behind place p no entry has the key; ahead of it neither. -/
theorem notKey {zs : List Ent} {key : Int} (h : cvFrom (-1) zs = true) {j : Nat} (hj : j < zs.length) (hne : j ≠ posOf zs key) : zs[j].1 ≠ key := by
  intro he
  rcases Nat.lt_or_ge j (posOf zs key) with hlt | hge
  · have := posOf_lt hlt; omega
  · have hp : posOf zs key < zs.length := by omega
    have h1 := posOf_ge hp
    have h2 := cv_lt h (posOf zs key) j hj (by omega)
    omega
end Go.Proofs.Ytcahemedlmagdaa
