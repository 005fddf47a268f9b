/- The reader of a code: what l6Open, pick and l91Point do. -/
import Derived.Test.YthgekfiodedelaaChecked
import Derived.Test.YthgekfiodedelaaBase
import Derived.IntWalk
namespace Go.Proofs.Ythgekfiodedelaa
open Go.RowKit
set_option linter.unusedVariables false
set_option linter.unusedSimpArgs false

/-- The slice value v reads as the bytes zs, in blocks below S. -/
def BytesIn (w : World) (S : Nat) (v : Value) (zs : List Int) : Prop :=
  (∃ a cap, v = .slice a zs.length cap ∧ zs.length ≤ cap ∧ cap ≤ maxLen ∧
    ∀ i (h : i < zs.length), ∃ b off, a = some ⟨b, off, none⟩ ∧ b < S ∧ w.cell? ⟨b, off + i, none⟩ = some (.int .u8 zs[i])) ∧ ∀ z ∈ zs, 0 ≤ z ∧ z ≤ 255

/-- Block b is a reader over bytes that lie below S; it stands at place p. -/
def IsRd (w : World) (S b : Nat) (p : Int) : Prop :=
  S ≤ b ∧ 0 ≤ p ∧ ∃ v zs, w.heap[b]? = some (.cells #[v, .int .i64 p] 62 (0, 0)) ∧ zs.length ≤ 2000 ∧ BytesIn w S v zs

theorem BytesIn.grown {w w' : World} {S : Nat} {v : Value} {zs : List Int} {row : Option Nat} (h : BytesIn w S v zs) (hg : w.grownBy w' row) (hr : ∀ k, row = some k → S ≤ k) : BytesIn w' S v zs := by
  obtain ⟨⟨a, cap, hv, hn, hc, hcell⟩, hz⟩ := h
  refine ⟨⟨a, cap, hv, hn, hc, fun i hi => ?_⟩, hz⟩
  obtain ⟨b, off, ha, hlt, hx⟩ := hcell i hi
  exact ⟨b, off, ha, hlt, hg.cell hx (fun e => absurd (hr _ e.symm) (by show ¬ S ≤ b; omega))⟩

theorem BytesIn.below {w w' : World} {S B : Nat} {v : Value} {zs : List Int} (h : BytesIn w S v zs) (hB : S ≤ B) (hb : Below B w w') : BytesIn w' S v zs := by
  obtain ⟨⟨a, cap, hv, hn, hc, hcell⟩, hz⟩ := h
  refine ⟨⟨a, cap, hv, hn, hc, fun i hi => ?_⟩, hz⟩
  obtain ⟨b, off, ha, hlt, hx⟩ := hcell i hi
  exact ⟨b, off, ha, hlt, by rw [hb.cell (p := ⟨b, off + i, none⟩) (by show b < B; omega)]; exact hx⟩

theorem IsRd.lt {w : World} {S b : Nat} {p : Int} (h : IsRd w S b p) : b < w.heap.size := by
  obtain ⟨_, _, v, zs, hb, _⟩ := h
  by_cases hlt : b < w.heap.size
  · exact hlt
  · rw [Array.getElem?_eq_none (by omega)] at hb; cases hb

theorem IsRd.below {w w' : World} {S b B : Nat} {p : Int} (h : IsRd w S b p) (hB : b < B) (hb : Below B w w') : IsRd w' S b p := by
  obtain ⟨h1, h2, v, zs, h3, h4, h5⟩ := h
  exact ⟨h1, h2, v, zs, by rw [hb.block b hB]; exact h3, h4, h5.below (by omega) hb⟩

theorem IsRd.belowAll {w w' : World} {S b : Nat} {p : Int} (h : IsRd w S b p) (hb : Below w.heap.size w w') : IsRd w' S b p := h.below h.lt hb

theorem IsRd.drewN {w : World} {S b : Nat} {p : Int} (h : IsRd w S b p) (n : Nat) : IsRd (w.drewN n) S b p := h

theorem IsRd.grown {w w' : World} {S b : Nat} {p : Int} {row : Option Nat} (h : IsRd w S b p) (hg : w.grownBy w' row) (hr : ∀ k, row = some k → S ≤ k) (hne : some b ≠ row) : IsRd w' S b p := by
  have hlt := h.lt
  obtain ⟨h1, h2, v, zs, h3, h4, h5⟩ := h
  exact ⟨h1, h2, v, zs, by rw [hg.block b hlt hne]; exact h3, h4, h5.grown hg hr⟩

theorem grown_drewN (w : World) (n : Nat) (row : Option Nat) : w.grownBy (w.drewN n) row := ⟨rfl, rfl, rfl, Nat.le_refl _, fun _ _ _ => rfl⟩
theorem grown_refl (w : World) (row : Option Nat) : w.grownBy w row := ⟨rfl, rfl, rfl, Nat.le_refl _, fun _ _ _ => rfl⟩

/-- What a pick leaves. -/
theorem IsRd.stepped {w : World} {S b : Nat} {p : Int} (h : IsRd w S b p) (n : Nat) :
    IsRd ((w.setCell ⟨b, 1, none⟩ (.int .i64 (p + 1))).drewN n) S b (p + 1) ∧ w.grownBy ((w.setCell ⟨b, 1, none⟩ (.int .i64 (p + 1))).drewN n) (some b) := by
  have hlt := h.lt
  obtain ⟨h1, h2, v, zs, h3, h4, h5⟩ := h
  have hg : w.grownBy (w.setCell ⟨b, 1, none⟩ (.int .i64 (p + 1))) (some b) :=
    ⟨rfl, rfl, rfl, by simp [World.setCell], fun k _ hk => Below.heap_setCell _ _ _ _ (fun e => hk (by rw [e]))⟩
  refine ⟨⟨h1, by omega, v, zs, ?_, h4, (h5.grown hg (fun k hk => by cases hk; exact h1) : BytesIn _ S v zs)⟩, ⟨hg.os, hg.tape, hg.output, hg.size, hg.block⟩⟩
  show (w.setCell ⟨b, 1, none⟩ (.int .i64 (p + 1))).heap[b]? = _
  simp [World.setCell, Array.getElem?_modify, h3]

theorem IsRd.parts {w : World} {S b : Nat} {p : Int} (h : IsRd w S b p) : ∃ (a : Option Addr) (zs : List Int) (cap : Nat), w.heap[b]? = some (.cells #[.slice a zs.length cap, .int .i64 p] 62 (0, 0)) ∧ zs.length ≤ 2000 ∧ zs.length ≤ cap ∧ cap ≤ maxLen ∧
    (∀ i (h : i < zs.length), ∃ c off, a = some ⟨c, off, none⟩ ∧ c < S ∧ w.cell? ⟨c, off + i, none⟩ = some (.int .u8 zs[i])) ∧ ∀ z ∈ zs, 0 ≤ z ∧ z ≤ 255 := by
  obtain ⟨h1, h2, v, zs, h3, h4, ⟨⟨a, cap, rfl, hn, hc, hcell⟩, hz⟩⟩ := h
  exact ⟨a, zs, cap, h3, h4, hn, hc, hcell, hz⟩

theorem emod_in {a n : Int} (hn : 1 ≤ n) : 0 ≤ a % n ∧ a % n < n := ⟨Int.emod_nonneg _ (by omega), Int.emod_lt_of_pos _ (by omega)⟩

theorem xor_i64_nat (a b : Nat) (ha : a < 4294967296) (hb : b < 4294967296) : bits .xor .i64 (a : Int) (b : Int) = ((a ^^^ b : Nat) : Int) := by
  have hx : a ^^^ b < 2 ^ 32 := Nat.xor_lt_two_pow (by omega) (by omega)
  have h1 : (BitVec.ofInt 64 (a : Int)).toNat = a := by
    rw [BitVec.ofInt_natCast, BitVec.toNat_ofNat]; exact Nat.mod_eq_of_lt (by omega)
  have h2 : (BitVec.ofInt 64 (b : Int)).toNat = b := by
    rw [BitVec.ofInt_natCast, BitVec.toNat_ofNat]; exact Nat.mod_eq_of_lt (by omega)
  show IntKind.i64.wrap ((BitVec.ofInt 64 (a : Int) ^^^ BitVec.ofInt 64 (b : Int)).toNat : Int) = _
  rw [BitVec.toNat_xor, h1, h2]
  exact IntWalk.i64_in _ (by omega)

theorem xor_nonneg {a b : Int} (h1 : 0 ≤ a) (h2 : a < 4294967296) (h3 : 0 ≤ b) (h4 : b < 4294967296) : 0 ≤ bits .xor .i64 a b := by
  obtain ⟨x, rfl⟩ := Int.eq_ofNat_of_zero_le h1
  obtain ⟨y, rfl⟩ := Int.eq_ofNat_of_zero_le h3
  rw [xor_i64_nat x y (by omega) (by omega)]
  omega

theorem tmod_in {a n : Int} (ha : 0 ≤ a) (hn : 1 ≤ n) : 0 ≤ a.tmod n ∧ a.tmod n < n := by
  rw [Int.tmod_eq_emod_of_nonneg ha]; exact emod_in hn

set_option maxHeartbeats 2000000 in
theorem pick_any (S b : Nat) (p n : Int) (w : World) (hr : IsRd w S b p) (hp : p ≤ 1000000) (hn : 1 ≤ n) (hn2 : n ≤ 1000) :
    Calls Try.prog 39 #[.pointer (some ⟨b, 0, none⟩), .int .i64 n] w fun e w' => ∃ m, e = .returned (.int .i64 m) ∧ (0 ≤ m ∧ m < n) ∧ IsRd w' S b (p + 1) ∧ w.grownBy w' (some b) := by
  have hp0 := hr.2.1
  have hSb := hr.1
  have hst := fun n => hr.stepped n
  obtain ⟨a, zs, cap, hblk, hl, hcap, hmax, hcell, hz⟩ := hr.parts
  have hc0 : w.cell? ⟨b, 0, none⟩ = some (.slice a zs.length cap) := by simp [World.cell?, hblk]
  have hc1 : w.cell? ⟨b, 1, none⟩ = some (.int .i64 p) := by simp [World.cell?, hblk]
  have hf1 : w.frozen? ⟨b, 1, none⟩ = false := by simp [World.frozen?, hblk]
  have HS := Lib.hid hst
  clear hst hr hblk
  have hn0 : decide (n < 1) = false := by simp; omega
  by_cases hz0 : zs.length = 0
  · have hz0' : ((zs.length : Int) == 0) = true := by simp [hz0]
    have HZ := Lib.hid hz0; clear hz0
    go_enter Try.func39, Try.ntmps39
    go_wp2
    go_ret
    exact ⟨0, rfl, ⟨by omega, by omega⟩, HS.out 0⟩
  · have hz0' : ((zs.length : Int) == 0) = false := by rw [beq_eq_false_iff_ne]; omega
    by_cases hk : p < zs.length
    · obtain ⟨k, rfl⟩ := Int.eq_ofNat_of_zero_le hp0
      obtain ⟨c, off, rfl, hcS, hck⟩ := hcell k (by omega)
      have hcb : ¬ c = b := by omega
      have hzk := hz zs[k] (List.getElem_mem (by omega))
      obtain ⟨z, hzz⟩ : ∃ z, z = zs[k] := ⟨_, rfl⟩
      rw [← hzz] at hck hzk
      clear hzz
      obtain ⟨z0, z1⟩ := hzk
      have hck' : (w.setCell ⟨b, 1, none⟩ (.int .i64 (k + 1))).cell? ⟨c, off + k, none⟩ = some (.int .u8 z) := by
        rw [World.cell?_of_block (w := w) (Below.heap_setCell _ _ _ _ (by simpa using hcb))]; exact hck
      go_enter Try.func39, Try.ntmps39
      go_wp2
      go_ret
      exact ⟨_, rfl, emod_in hn, HS.out 0⟩
    · have hk' : decide (p < (zs.length : Int)) = false := by simp; omega
      obtain ⟨k, rfl⟩ := Int.eq_ofNat_of_zero_le hp0
      obtain ⟨L, hL⟩ : ∃ L, L = zs.length := ⟨_, rfl⟩
      have hL0 : 0 < L := by omega
      obtain ⟨c, off, rfl, hcS, hck⟩ := hcell (k % L) (by rw [hL]; exact Nat.mod_lt _ (by omega))
      obtain ⟨c', off', hcc, _, hck2⟩ := hcell ((k * 7 + 3) % L) (by rw [hL]; exact Nat.mod_lt _ (by omega))
      simp only [Option.some.injEq, Addr.mk.injEq, and_true] at hcc
      obtain ⟨rfl, rfl⟩ := hcc
      have hcb : ¬ c = b := by omega
      have hzk := hz _ (List.getElem_mem (show k % L < zs.length by rw [hL]; exact Nat.mod_lt _ (by omega)))
      have hzk2 := hz _ (List.getElem_mem (show (k * 7 + 3) % L < zs.length by rw [hL]; exact Nat.mod_lt _ (by omega)))
      obtain ⟨z, hzz⟩ : ∃ z, z = zs[k % L]'(by rw [hL]; exact Nat.mod_lt _ (by omega)) := ⟨_, rfl⟩
      obtain ⟨y, hyy⟩ : ∃ y, y = zs[(k * 7 + 3) % L]'(by rw [hL]; exact Nat.mod_lt _ (by omega)) := ⟨_, rfl⟩
      rw [← hzz] at hck hzk
      rw [← hyy] at hck2 hzk2
      rw [← hL] at hk' hk hz0' hcap hl hc0
      clear hzz hyy hcell hz hL hz0
      obtain ⟨z0, z1⟩ := hzk
      obtain ⟨y0, y1⟩ := hzk2
      have hck' : (w.setCell ⟨b, 1, none⟩ (.int .i64 (k + 1))).cell? ⟨c, off + k % L, none⟩ = some (.int .u8 z) := by
        rw [World.cell?_of_block (w := w) (Below.heap_setCell _ _ _ _ (by simpa using hcb))]; exact hck
      have hck2' : (w.setCell ⟨b, 1, none⟩ (.int .i64 (k + 1))).cell? ⟨c, off + (k * 7 + 3) % L, none⟩ = some (.int .u8 y) := by
        rw [World.cell?_of_block (w := w) (Below.heap_setCell _ _ _ _ (by simpa using hcb))]; exact hck2
      have m0 : (0 : Int) ≤ (k : Int) % L := Int.emod_nonneg _ (by omega)
      have m1 : (k : Int) % L < L := Int.emod_lt_of_pos _ (by omega)
      have m2 : (0 : Int) ≤ ((k : Int) * 7 + 3) % L := Int.emod_nonneg _ (by omega)
      have m3 : ((k : Int) * 7 + 3) % L < L := Int.emod_lt_of_pos _ (by omega)
      have d0 : (0 : Int) ≤ (k : Int) / L := Int.ediv_nonneg (by omega) (by omega)
      have d1 : (k : Int) / L ≤ k := Int.ediv_le_self _ (by omega)
      go_enter Try.func39, Try.ntmps39
      go_wp2

      go_quiet (fail)
      go_wp2
      go_ret
      exact ⟨_, rfl, tmod_in (xor_nonneg (by omega) (by omega) (by omega) (by omega)) hn, HS.out _⟩

/-- What l6Open makes of a code. -/
theorem RBytes.into {w w' : World} {v : Value} {zs : List Int} (h : RBytes w v zs) (hb : Below w.heap.size w w') : BytesIn w' w.heap.size v zs := by
  obtain ⟨⟨a, cap, hv, hn, hc, hcell⟩, hz⟩ := h
  refine ⟨⟨a, cap, hv, hn, hc, fun i hi => ?_⟩, hz⟩
  obtain ⟨b, off, ha, hlt, hx⟩ := hcell i hi
  exact ⟨b, off, ha, hlt, by rw [hb.cell (p := ⟨b, off + i, none⟩) hlt]; exact hx⟩

set_option maxHeartbeats 1000000 in
theorem l6Open_any (v : Value) (zs : List Int) (w : World) (hr : RBytes w v zs) (hl : zs.length ≤ 1048576) :
    Calls Try.prog 27 #[v] w fun e w' => ∃ b, e = .returned (.pointer (some ⟨b, 0, none⟩)) ∧ w.heap.size ≤ b ∧ IsRd w' w.heap.size b 0 ∧ Below w.heap.size w w' := by
  by_cases hlt : zs.length ≤ 2000
  · have hi := hr.into ((Below.refl _ _).alloc (Nat.le_refl _) (.cells #[v, .int .i64 0] 62))
    obtain ⟨⟨a, cap, rfl, hn, hc, hcell⟩, hz⟩ := hr
    clear hcell hz
    go_enter Try.func27, Try.ntmps27
    go_wp2
    go_ret
    refine ⟨_, rfl, Nat.le_refl _, ⟨Nat.le_refl _, by omega, _, zs, heap_alloc_new _ _, hlt, hi⟩, (Below.refl _ _).alloc (Nat.le_refl _) _⟩
  · have hr2 : ∀ a cap, v = .slice a zs.length cap → RBytes w (.slice a 2000 cap) (zs.take 2000) := by
      intro a0 cap0 hv0
      obtain ⟨⟨a, cap, hv, hn, hc, hcell⟩, hz⟩ := hr
      rw [hv] at hv0
      simp only [Value.slice.injEq, true_and] at hv0
      obtain ⟨rfl, rfl⟩ := hv0
      have hlen : (zs.take 2000).length = 2000 := by simp; omega
      refine ⟨⟨a, cap, by rw [hlen], by omega, hc, fun i hi => ?_⟩, fun z hz' => hz z (List.mem_of_mem_take hz')⟩
      obtain ⟨b, off, ha, hlt, hx⟩ := hcell i (by omega)
      exact ⟨b, off, ha, hlt, by rw [hx]; simp⟩
    obtain ⟨⟨a, cap, rfl, hn, hc, hcell⟩, hz⟩ := hr
    have hi := (hr2 a cap rfl).into ((Below.refl _ _).alloc (Nat.le_refl _) (.cells #[.slice a 2000 cap, .int .i64 0] 62))
    obtain ⟨b0, off0, rfl, _, _⟩ := hcell 0 (by omega)
    clear hcell hz hr2
    go_enter Try.func27, Try.ntmps27
    go_wp2
    go_ret
    refine ⟨_, rfl, Nat.le_refl _, ⟨Nat.le_refl _, by omega, _, zs.take 2000, heap_alloc_new _ _, by simp; omega, hi⟩, (Below.refl _ _).alloc (Nat.le_refl _) _⟩

theorem IsRd.le {w : World} {S b : Nat} {p : Int} (h : IsRd w S b p) : S ≤ b := h.1

end Go.Proofs.Ythgekfiodedelaa
