/- TransferSend: what it answers; that of the reference. -/
import Derived.Test.YtlfmgagokaekjaaChk0
import Derived.Deep.AppendLies
import Derived.Deep.RegionHeld3
namespace Go.Proofs.Ytlfmgagokaekjaa
open Go.RowKit
set_option linter.unusedVariables false
set_option linter.unusedSimpArgs false

def sendG (n k m : Int) (zs : List Int) : Bool := validB n k zs && inB m 0 20
def sendE (n k m : Int) (zs : List Int) : Int := min (min (zs.length : Int) (n + 4)) (k + m)
def sendB (n k m : Int) (zs : List Int) : Bool := sendG n k m zs && decide (n < sendE n k m zs)
def sendL (n k m : Int) (zs : List Int) : List Int := if sendG n k m zs then zs else []
def sendN (n k m : Int) (zs : List Int) : Int := if sendG n k m zs then (if n < sendE n k m zs then sendE n k m zs else n) else 0
def sendK (n k m : Int) (zs : List Int) : Int := if sendG n k m zs then k else 0
def sendA (n k m : Int) (zs : List Int) : Int := if sendB n k m zs then n else 0
def sendC (n k m : Int) (zs : List Int) : List Int := if sendB n k m zs then (zs.take (sendE n k m zs).toNat).drop n.toNat else []
theorem send_bad {n k m : Int} {zs : List Int} (h : sendG n k m zs = false) : sendL n k m zs = [] ∧ sendN n k m zs = 0 ∧ sendK n k m zs = 0 ∧ sendA n k m zs = 0 ∧ sendC n k m zs = [] ∧ sendB n k m zs = false := by simp [sendL, sendN, sendK, sendA, sendC, sendB, h]
theorem send_none {n k m : Int} {zs : List Int} (h : sendG n k m zs = true) (h2 : sendE n k m zs ≤ n) : sendL n k m zs = zs ∧ sendN n k m zs = n ∧ sendK n k m zs = k ∧ sendA n k m zs = 0 ∧ sendC n k m zs = [] ∧ sendB n k m zs = false := by
  have h3 : ¬ n < sendE n k m zs := by omega
  simp [sendL, sendN, sendK, sendA, sendC, sendB, h, h3]
theorem send_some {n k m : Int} {zs : List Int} (h : sendG n k m zs = true) (h2 : n < sendE n k m zs) : sendL n k m zs = zs ∧ sendN n k m zs = sendE n k m zs ∧ sendK n k m zs = k ∧ sendA n k m zs = n ∧ sendC n k m zs = (zs.take (sendE n k m zs).toNat).drop n.toNat ∧ sendB n k m zs = true := by
  simp [sendL, sendN, sendK, sendA, sendC, sendB, h, h2]
theorem sendL_len (n k m : Int) (zs : List Int) : (sendL n k m zs).length ≤ zs.length := by unfold sendL; split <;> simp
theorem sendC_len (n k m : Int) (zs : List Int) : (sendC n k m zs).length ≤ zs.length := by
  unfold sendC; split
  · simp; omega
  · simp
theorem sendG_parts {n k m : Int} {zs : List Int} (h : sendG n k m zs = true) : validB n k zs = true ∧ inB m 0 20 = true ∧ zs.length ≤ 20 ∧ 0 ≤ k ∧ k ≤ n ∧ n ≤ zs.length ∧ 0 ≤ m ∧ m ≤ 20 := by
  simp only [sendG, validB, Bool.and_eq_true] at h
  obtain ⟨⟨⟨h1, h2⟩, h3⟩, h4⟩ := h
  have := itemsB_len h1
  have a := inB_true h2
  have b := inB_true h3
  have c := inB_true h4
  refine ⟨by simp [validB, h1, h2, h3], h4, ?_, ?_, ?_, ?_, ?_, ?_⟩ <;> omega

theorem results_cct {P : Program} {fn : Func} {p q u : Tmp} {ty tz : TypeId} (h : fn.results = #[.cell p ty, .cell q tz, .tmp u]) (tmps : Array Value) (w : World) (g g2 : Nat) (t t2 : TypeId) (cs ds : Array Value) (fr fr2 : Nat × Nat) (d d2 : TypeDesc)
    (hp : tmps.getD p undef = .pointer (some ⟨g, 0, none⟩)) (hg : w.heap[g]? = some (.cells cs t fr)) (hu : P.underlying ty = some d) (hd : (match d with | .struct _ | .array _ _ => true | _ => false) = true) (hi : (P.info? ty).map (·.size) = some cs.size)
    (hq : tmps.getD q undef = .pointer (some ⟨g2, 0, none⟩)) (hg2 : w.heap[g2]? = some (.cells ds t2 fr2)) (hu2 : P.underlying tz = some d2) (hd2 : (match d2 with | .struct _ | .array _ _ => true | _ => false) = true) (hi2 : (P.info? tz).map (·.size) = some ds.size) :
    (results fn tmps).run P w = .ok (.tuple #[.agg cs, .agg ds, tmps.getD u undef]) w := by
  have hp' : tmps[p]?.getD undef = .pointer (some ⟨g, 0, none⟩) := by simpa using hp
  have hq' : tmps[q]?.getD undef = .pointer (some ⟨g2, 0, none⟩) := by simpa using hq
  simp [results, h, hp', hq', asAddr, run_loadVar_row w g t ty cs fr d hg hu hd hi, run_loadVar_row w g2 t2 tz ds fr2 d2 hg2 hu2 hd2 hi2]
theorem run_min3 {P : Program} (w : World) (ts : Array TypeId) (t : TypeId) (x y z E : Int) (h : min (min x y) z = E) : (Builtin.min_ ts t #[.int .i64 x, .int .i64 y, .int .i64 z]).run P w = .ok (.int .i64 E) w := by
  have e : (if z < (if y < x then y else x) then z else (if y < x then y else x)) = E := by
    rw [← h]; split <;> split <;> omega
  rw [← e]
  simp [Builtin.min_, Builtin.min2]
theorem al4 (w : World) (a b c : Obj) : Below w.heap.size w (((w.alloc a).alloc b).alloc c) := bAl (bAl (below_alloc w a) b) c
theorem RInts.sub {w : World} {b off n cap : Nat} {zs : List Int} (h : RInts w (.slice (some ⟨b, off, none⟩) n cap) zs) (lo hi : Nat) (hhi : hi ≤ zs.length) :
    ∀ j u, (ints ((zs.take hi).drop lo))[j]? = some u → w.cell? ((⟨b, off + lo, none⟩ : Addr).add j) = some u := by
  intro j u hj
  have := h.addr.2 (lo + j) u
  rw [Addr.add_mid] at this ⊢
  have hl : lo + j < hi ∧ u = .int .i64 (zs.getD (lo + j) 0) := by
    simp only [ints, List.getElem?_map, List.getElem?_drop, Option.map_eq_some_iff] at hj
    obtain ⟨z, hz, rfl⟩ := hj
    rw [List.getElem?_take] at hz
    split at hz
    · rename_i h1
      refine ⟨h1, ?_⟩
      rw [List.getD_eq_getElem?_getD, hz]; rfl
    · cases hz
  have h2 := this (by
    rw [hl.2]
    simp only [ints, List.getElem?_map]
    rw [List.getElem?_eq_getElem (by omega)]
    simp [List.getD_eq_getElem?_getD, List.getElem?_eq_getElem (show lo + j < zs.length by omega)])
  rw [Nat.add_assoc]; exact h2.2

set_option maxRecDepth 100000 in
set_option maxHeartbeats 2000000 in
theorem specTransferSend_any (u : Value) (n k m : Int) (zs : List Int) (B : Nat) (w : World) (hl : zs.length ≤ 4194304) (ho : OwnInts w B u zs) :
    Calls Try.prog 29 #[trV u n k, .int .i64 m] w fun e w' => ∃ u' u'', e = .returned (.tuple #[trV u' (sendN n k m zs) (sendK n k m zs), chV (sendA n k m zs) u'', .bool (sendB n k m zs)]) ∧ OwnInts w' w.heap.size u' (sendL n k m zs) ∧ OwnInts w' w.heap.size u'' (sendC n k m zs) ∧ Below w.heap.size w w' := by
  obtain ⟨a1, cap1, rfl, hcap1, hmax1, -⟩ := id ho.reads
  have HR := Lib.hid ho; clear ho
  obtain ⟨i0, hi0, hz0, hz1, hz2⟩ := info_parts infoInt
  unfold trV chV
  cases hg : sendG n k m zs with
  | false =>
    obtain ⟨e1, e2, e3, e4, e5, e6⟩ := send_bad hg
    rw [e1, e2, e3, e4, e5, e6]; clear e1 e2 e3 e4 e5 e6
    cases hv : validB n k zs with
    | false =>
      have HV := Lib.hid hv; clear hv hg
      go_enter Try.func29, Try.ntmps29
      go_wp2_with fail
      refine (specTransferValid_any _ n k zs _ hl (((HR.out.al _).al _).al _).reads).mono ?_
      rw [HV.out]
      rintro e w1 ⟨rfl, b1⟩
      have B0 := (((Blk.new w #[.slice a1 zs.length cap1, .int .i64 n, .int .i64 k] 33).al (.cells #[.slice none 0 0, .int .i64 0, .int .i64 0] 33)).al (.cells #[.int .i64 0, .slice none 0 0] 25)).bl b1
      have B1 := ((Blk.new (w.alloc (.cells #[.slice a1 zs.length cap1, .int .i64 n, .int .i64 k] 33)) #[.slice none 0 0, .int .i64 0, .int .i64 0] 33).al (.cells #[.int .i64 0, .slice none 0 0] 25)).bl b1
      have B2 := (Blk.new ((w.alloc (.cells #[.slice a1 zs.length cap1, .int .i64 n, .int .i64 k] 33)).alloc (.cells #[.slice none 0 0, .int .i64 0, .int .i64 0] 33)) #[.int .i64 0, .slice none 0 0] 25).bl b1
      have hs := b1.size
      have c1 := bNext (al4 w _ _ _) b1
      simp only [World.size_alloc] at B0 B1 B2 hs
      obtain ⟨x0, x1, x2⟩ := B0.get3; obtain ⟨y0, y1, y2⟩ := B1.get3; obtain ⟨z0, z1⟩ := B2.get2
      obtain ⟨xf0, xf1, xf2⟩ := B0.fr3; obtain ⟨yf0, yf1, yf2⟩ := B1.fr3; obtain ⟨zf0, zf1⟩ := B2.fr2
      go_wp2
      refine bodyPost_ret (results_cct rfl _ _ (w.heap.size + 1) (w.heap.size + 1 + 1) 33 25 #[.slice none 0 0, .int .i64 0, .int .i64 0] #[.int .i64 0, .slice none 0 0] (0, 0) (0, 0) _ _ rfl ((B1.put3 _ _ _).po2 (w.heap.size + 1 + 1) _ _ (by omega)).h Try.underlying33 rfl infoTr rfl (((B2.po3 (w.heap.size + 1) _ _ _ (by omega))).put2 _ _).h Try.underlying25 rfl infoCh) rfl ⟨_, _, rfl, OwnInts.nil _ _, OwnInts.nil _ _, bP2 (bP3 c1 (by omega) _ _ _) (by omega) _ _⟩
    | true =>
      have hi : inB m 0 20 = false := by rw [sendG, hv] at hg; simpa using hg
      have HV := Lib.hid hv; clear hv hg
      have HI := Lib.hid hi; clear hi
      go_enter Try.func29, Try.ntmps29
      go_wp2_with fail
      refine (specTransferValid_any _ n k zs _ hl (((HR.out.al _).al _).al _).reads).mono ?_
      rw [HV.out]
      rintro e w1 ⟨rfl, b1⟩
      have B0 := (((Blk.new w #[.slice a1 zs.length cap1, .int .i64 n, .int .i64 k] 33).al (.cells #[.slice none 0 0, .int .i64 0, .int .i64 0] 33)).al (.cells #[.int .i64 0, .slice none 0 0] 25)).bl b1
      have B1 := ((Blk.new (w.alloc (.cells #[.slice a1 zs.length cap1, .int .i64 n, .int .i64 k] 33)) #[.slice none 0 0, .int .i64 0, .int .i64 0] 33).al (.cells #[.int .i64 0, .slice none 0 0] 25)).bl b1
      have B2 := (Blk.new ((w.alloc (.cells #[.slice a1 zs.length cap1, .int .i64 n, .int .i64 k] 33)).alloc (.cells #[.slice none 0 0, .int .i64 0, .int .i64 0] 33)) #[.int .i64 0, .slice none 0 0] 25).bl b1
      have hs := b1.size
      have c1 := bNext (al4 w _ _ _) b1
      simp only [World.size_alloc] at B0 B1 B2 hs
      obtain ⟨x0, x1, x2⟩ := B0.get3; obtain ⟨y0, y1, y2⟩ := B1.get3; obtain ⟨z0, z1⟩ := B2.get2
      obtain ⟨xf0, xf1, xf2⟩ := B0.fr3; obtain ⟨yf0, yf1, yf2⟩ := B1.fr3; obtain ⟨zf0, zf1⟩ := B2.fr2
      go_wp2_with fail
      refine (l6In_any _ _ _ _).mono ?_
      rw [HI.out]
      rintro e w2 ⟨rfl, rfl⟩
      go_wp2
      refine bodyPost_ret (results_cct rfl _ _ (w.heap.size + 1) (w.heap.size + 1 + 1) 33 25 #[.slice none 0 0, .int .i64 0, .int .i64 0] #[.int .i64 0, .slice none 0 0] (0, 0) (0, 0) _ _ rfl ((B1.put3 _ _ _).po2 (w.heap.size + 1 + 1) _ _ (by omega)).h Try.underlying33 rfl infoTr rfl (((B2.po3 (w.heap.size + 1) _ _ _ (by omega))).put2 _ _).h Try.underlying25 rfl infoCh) rfl ⟨_, _, rfl, OwnInts.nil _ _, OwnInts.nil _ _, bP2 (bP3 c1 (by omega) _ _ _) (by omega) _ _⟩
  | true =>
    obtain ⟨hv, hi, hz20, hk0, hkn, hnz, hm0, hm20⟩ := sendG_parts hg
    have HV := Lib.hid hv; clear hv
    have HI := Lib.hid hi; clear hi
    obtain ⟨n, rfl⟩ := Int.eq_ofNat_of_zero_le (show 0 ≤ n by omega)
    obtain ⟨k, rfl⟩ := Int.eq_ofNat_of_zero_le hk0
    obtain ⟨m, rfl⟩ := Int.eq_ofNat_of_zero_le hm0
    have hE0 : 0 ≤ sendE n k m zs ∧ sendE n k m zs ≤ zs.length := by unfold sendE; omega
    have hmin := fun w ts t => run_min3 (P := Try.prog) w ts t (zs.length : Int) ((n : Int) + 4) ((k : Int) + (m : Int)) (sendE n k m zs) rfl
    by_cases hE : sendE n k m zs ≤ n
    · obtain ⟨e1, e2, e3, e4, e5, e6⟩ := send_none hg hE
      rw [e1, e2, e3, e4, e5, e6]; clear e1 e2 e3 e4 e5 e6 hg
      generalize sendE n k m zs = E at *
      obtain ⟨hE0, hE1⟩ := hE0
      go_enter Try.func29, Try.ntmps29
      go_wp2_with fail
      refine (specTransferValid_any _ n k zs _ hl (((HR.out.al _).al _).al _).reads).mono ?_
      rw [HV.out]
      rintro e w1 ⟨rfl, b1⟩
      have B0 := (((Blk.new w #[.slice a1 zs.length cap1, .int .i64 n, .int .i64 k] 33).al (.cells #[.slice none 0 0, .int .i64 0, .int .i64 0] 33)).al (.cells #[.int .i64 0, .slice none 0 0] 25)).bl b1
      have B1 := ((Blk.new (w.alloc (.cells #[.slice a1 zs.length cap1, .int .i64 n, .int .i64 k] 33)) #[.slice none 0 0, .int .i64 0, .int .i64 0] 33).al (.cells #[.int .i64 0, .slice none 0 0] 25)).bl b1
      have B2 := (Blk.new ((w.alloc (.cells #[.slice a1 zs.length cap1, .int .i64 n, .int .i64 k] 33)).alloc (.cells #[.slice none 0 0, .int .i64 0, .int .i64 0] 33)) #[.int .i64 0, .slice none 0 0] 25).bl b1
      have hs := b1.size
      have c1 := bNext (al4 w _ _ _) b1
      simp only [World.size_alloc] at B0 B1 B2 hs
      obtain ⟨x0, x1, x2⟩ := B0.get3; obtain ⟨y0, y1, y2⟩ := B1.get3; obtain ⟨z0, z1⟩ := B2.get2
      obtain ⟨xf0, xf1, xf2⟩ := B0.fr3; obtain ⟨yf0, yf1, yf2⟩ := B1.fr3; obtain ⟨zf0, zf1⟩ := B2.fr2
      go_wp2_with fail
      refine (l6In_any _ _ _ _).mono ?_
      rw [HI.out]
      rintro e w2 ⟨rfl, rfl⟩
      go_wp2_with fail
      refine (l22Copy_any _ _ _ zs _ _ hl (HR.out.bl c1)).mono ?_
      unfold trV
      rintro e w3 ⟨v3, rfl, o3, b3⟩
      clear x0 x1 x2 y0 y1 y2 z0 z1 xf0 xf1 xf2 yf0 yf1 yf2 zf0 zf1
      obtain ⟨a3, cap3, rfl, -, -, -⟩ := o3.reads
      have hs3 := b3.size
      have hal := below_alloc w3 (.cells #[.slice a3 zs.length cap3, .int .i64 (n : Int), .int .i64 k] 33)
      have C0 := (B0.bl b3).bl hal
      have C1 := (B1.bl b3).bl hal
      have C2 := (B2.bl b3).bl hal
      have C3 := Blk.new w3 #[.slice a3 zs.length cap3, .int .i64 (n : Int), .int .i64 k] 33
      have c3 := bNext (bNext c1 b3) hal
      have o3a := o3.bl hal
      clear hal
      obtain ⟨x0, x1, x2⟩ := C0.get3; obtain ⟨y0, y1, y2⟩ := C1.get3; obtain ⟨z0, z1⟩ := C2.get2; obtain ⟨q0, q1, q2⟩ := C3.get3
      obtain ⟨yf0, yf1, yf2⟩ := C1.fr3; obtain ⟨zf0, zf1⟩ := C2.fr2; obtain ⟨qf0, qf1, qf2⟩ := C3.fr3
      go_wp2
      refine bodyPost_ret (results_cct rfl _ _ (w.heap.size + 1) (w.heap.size + 1 + 1) 33 25 #[.slice a3 zs.length cap3, .int .i64 n, .int .i64 k] #[.int .i64 0, .slice none 0 0] (0, 0) (0, 0) _ _ rfl ((C1.put3 _ _ _).po2 (w.heap.size + 1 + 1) _ _ (by omega)).h Try.underlying33 rfl infoTr rfl ((C2.po3 (w.heap.size + 1) _ _ _ (by omega)).put2 _ _).h Try.underlying25 rfl infoCh) rfl ⟨_, _, rfl, ((o3a.p3 (by omega) _ _ _).p2 (by omega) _ _).base (by omega), OwnInts.nil _ _, bP2 (bP3 c3 (by omega) _ _ _) (by omega) _ _⟩
    · obtain ⟨e1, e2, e3, e4, e5, e6⟩ := send_some hg (by omega)
      rw [e1, e2, e3, e4, e5, e6]; clear e1 e2 e3 e4 e5 e6 hg
      generalize sendE n k m zs = E at *
      obtain ⟨hE0, hE1⟩ := hE0
      obtain ⟨E, rfl⟩ := Int.eq_ofNat_of_zero_le hE0
      rcases ownsRow_shape HR.out with ⟨hsh, h0⟩ | ⟨gz, capz, hsh, hgB, hgl, -, -⟩
      · omega
      simp only [Value.slice.injEq] at hsh
      obtain ⟨rfl, -, rfl⟩ := hsh
      have hd : decide ((E : Int) ≤ (n : Int)) = false := decide_eq_false (by omega)
      have hd' : decide (E ≤ n) = false := decide_eq_false (by omega)
      go_enter Try.func29, Try.ntmps29
      go_wp2_with fail
      refine (specTransferValid_any _ n k zs _ hl (((HR.out.al _).al _).al _).reads).mono ?_
      rw [HV.out]
      rintro e w1 ⟨rfl, b1⟩
      have B0 := (((Blk.new w #[.slice (some ⟨gz, 0, none⟩) zs.length cap1, .int .i64 n, .int .i64 k] 33).al (.cells #[.slice none 0 0, .int .i64 0, .int .i64 0] 33)).al (.cells #[.int .i64 0, .slice none 0 0] 25)).bl b1
      have B1 := ((Blk.new (w.alloc (.cells #[.slice (some ⟨gz, 0, none⟩) zs.length cap1, .int .i64 n, .int .i64 k] 33)) #[.slice none 0 0, .int .i64 0, .int .i64 0] 33).al (.cells #[.int .i64 0, .slice none 0 0] 25)).bl b1
      have B2 := (Blk.new ((w.alloc (.cells #[.slice (some ⟨gz, 0, none⟩) zs.length cap1, .int .i64 n, .int .i64 k] 33)).alloc (.cells #[.slice none 0 0, .int .i64 0, .int .i64 0] 33)) #[.int .i64 0, .slice none 0 0] 25).bl b1
      have hs := b1.size
      have c1 := bNext (al4 w _ _ _) b1
      simp only [World.size_alloc] at B0 B1 B2 hs
      obtain ⟨x0, x1, x2⟩ := B0.get3; obtain ⟨y0, y1, y2⟩ := B1.get3; obtain ⟨z0, z1⟩ := B2.get2
      obtain ⟨xf0, xf1, xf2⟩ := B0.fr3; obtain ⟨yf0, yf1, yf2⟩ := B1.fr3; obtain ⟨zf0, zf1⟩ := B2.fr2
      go_wp2_with fail
      refine (l6In_any _ _ _ _).mono ?_
      rw [HI.out]
      rintro e w2 ⟨rfl, rfl⟩
      go_wp2_with fail
      refine (l22Copy_any _ _ _ zs _ _ hl (HR.out.bl c1)).mono ?_
      unfold trV
      rintro e w3 ⟨v3, rfl, o3, b3⟩
      clear x0 x1 x2 y0 y1 y2 z0 z1 xf0 xf1 xf2 yf0 yf1 yf2 zf0 zf1
      obtain ⟨a3, cap3, rfl, -, -, -⟩ := o3.reads
      have hs3 := b3.size
      have C0 := (B0.bl b3).al (.cells #[.slice a3 zs.length cap3, .int .i64 n, .int .i64 k] 33)
      obtain ⟨x0, x1, x2⟩ := C0.get3
      go_wp2
      clear x0 x1 x2 C0
      have hal := below_alloc w3 (.cells #[.slice a3 zs.length cap3, .int .i64 (E : Int), .int .i64 k] 33)
      have C0 := (B0.bl b3).bl hal
      have C1 := (B1.bl b3).bl hal
      have C2 := (B2.bl b3).bl hal
      have C3 := Blk.new w3 #[.slice a3 zs.length cap3, .int .i64 (E : Int), .int .i64 k] 33
      have c3 := bNext (bNext c1 b3) hal
      have o3a := o3.bl hal
      clear hal
      obtain ⟨x0, x1, x2⟩ := C0.get3; obtain ⟨y0, y1, y2⟩ := C1.get3; obtain ⟨z0, z1⟩ := C2.get2; obtain ⟨q0, q1, q2⟩ := C3.get3
      obtain ⟨yf0, yf1, yf2⟩ := C1.fr3; obtain ⟨zf0, zf1⟩ := C2.fr2; obtain ⟨qf0, qf1, qf2⟩ := C3.fr3
      have f1 : (0 : Int) ≤ (n : Int) := by omega
      have f2 : (n : Int) ≤ (E : Int) := by omega
      have f3 : (E : Int) ≤ (cap1 : Int) := by omega
      have hnc : ¬ cap1 = n := by omega
      have hR := HR.out.bl c3
      have hln : (ints ((zs.take E).drop n)).length = (E - n) * 1 := by simp; omega
      have kk1 := And.intro C0.d1.get3 C3.d1.get3
      have kka := And.intro (C0.al (.cells #[] 3)).d1.get3 (C3.al (.cells #[] 3)).d1.get3
      go_region_held3 (fun w' => (w'.cell? ⟨w.heap.size, 0, none⟩ = some (.slice (some ⟨gz, 0, none⟩) zs.length cap1) ∧ w'.cell? ⟨w.heap.size, 1, none⟩ = some (.int .i64 n) ∧ w'.cell? ⟨w.heap.size, 2, none⟩ = some (.int .i64 k)) ∧ (w'.cell? ⟨w3.heap.size, 0, none⟩ = some (.slice a3 zs.length cap3) ∧ w'.cell? ⟨w3.heap.size, 1, none⟩ = some (.int .i64 E) ∧ w'.cell? ⟨w3.heap.size, 2, none⟩ = some (.int .i64 k))) (first | with_reducible exact kk1 | with_reducible exact kka | with_reducible exact kk2 | with_reducible exact kk3 | with_reducible exact kk4 | fail) (first | (refine step_append_lies _ rfl _ _ 23 rfl (w3.heap.size + 1) 3 i0 (.int .i64 0) 1 8 Try.underlying23 hi0 hz0 hz1 hz2 rfl (by decide) _ 0 [] rfl ((own_empty' _ (by simp) (Nat.le_refl _)).d1) ⟨gz, n, none⟩ (E - n) (cap1 - n) (ints ((zs.take E).drop n)) rfl hln (by have := ((hR.al (.cells #[] 3)).d1.reads.sub n E (by omega)); simpa using this) (ints_oneCell _) (by omega) (by unfold maxLen; omega) (by omega) (by simp) _ rfl ?_; intro g9 cap9 w9 hown9 hgr9 _ hlt9; have D0 := (C0.al _).d1.gr hgr9 (fun k hk => by have e : w3.heap.size + 1 = k := Option.some.inj hk; omega); have D1 := (C1.al _).d1.gr hgr9 (fun k hk => by have e : w3.heap.size + 1 = k := Option.some.inj hk; omega); have D2 := (C2.al _).d1.gr hgr9 (fun k hk => by have e : w3.heap.size + 1 = k := Option.some.inj hk; omega); have D3 := (C3.al _).d1.gr hgr9 (fun k hk => by have e : w3.heap.size + 1 = k := Option.some.inj hk; omega); have kk2 := And.intro D0.get3 D3.get3; have kk3 := And.intro (((D0.so (w.heap.size + 1) 0 (.slice a3 zs.length cap3) (by omega)).so (w.heap.size + 1) 1 (.int .i64 E) (by omega)).so (w.heap.size + 1) 2 (.int .i64 k) (by omega)).get3 (((D3.so (w.heap.size + 1) 0 (.slice a3 zs.length cap3) (by omega)).so (w.heap.size + 1) 1 (.int .i64 E) (by omega)).so (w.heap.size + 1) 2 (.int .i64 k) (by omega)).get3; have kk4 := And.intro (((((D0.so (w.heap.size + 1) 0 (.slice a3 zs.length cap3) (by omega)).so (w.heap.size + 1) 1 (.int .i64 E) (by omega)).so (w.heap.size + 1) 2 (.int .i64 k) (by omega)).so (w.heap.size + 1 + 1) 0 (.int .i64 n) (by omega)).so (w.heap.size + 1 + 1) 1 (.slice (some ⟨g9, 0, none⟩) (E - n) cap9) (by omega)).get3 (((((D3.so (w.heap.size + 1) 0 (.slice a3 zs.length cap3) (by omega)).so (w.heap.size + 1) 1 (.int .i64 E) (by omega)).so (w.heap.size + 1) 2 (.int .i64 k) (by omega)).so (w.heap.size + 1 + 1) 0 (.int .i64 n) (by omega)).so (w.heap.size + 1 + 1) 1 (.slice (some ⟨g9, 0, none⟩) (E - n) cap9) (by omega)).get3; obtain ⟨y0, y1, y2⟩ := D1.get3; obtain ⟨z0, z1⟩ := D2.get2; obtain ⟨yf0, yf1, yf2⟩ := D1.fr3; obtain ⟨zf0, zf1⟩ := D2.fr2))
      have o3b := ((o3a.al (.cells #[] 3)).d1).gr hgr9 (ap_of fun k h1 h2 => by have e1 := (o3.lts k h1).2; have e : w3.heap.size + 1 = k := Option.some.inj h2; omega)
      have c9 := bGr (bD1 (bAl c3 (.cells #[] 3))) hgr9 (fun k hk => by have e : w3.heap.size + 1 = k := Option.some.inj hk; omega)
      have o9 : OwnInts w9 (w3.heap.size + 1) (.slice (some ⟨g9, 0, none⟩) (E - n) cap9) ((zs.take E).drop n) := by
        have hl9 : ((zs.take E).drop n).length = 0 + (E - n) := by simp; omega
        unfold OwnInts; rw [hl9]; simpa using hown9
      have hs9 := hgr9.size
      simp only [World.size_alloc, World.size_drew] at hs9
      go_wp2
      exact bodyPost_ret (results_cct rfl _ _ (w.heap.size + 1) (w.heap.size + 1 + 1) 33 25 #[.slice a3 zs.length cap3, .int .i64 E, .int .i64 k] #[.int .i64 n, .slice (some ⟨g9, 0, none⟩) (E - n) cap9] (0, 0) (0, 0) _ _ rfl ((D1.put3 (.slice a3 zs.length cap3) (.int .i64 E) (.int .i64 k)).po2 (w.heap.size + 1 + 1) (.int .i64 n) (.slice (some ⟨g9, 0, none⟩) (E - n) cap9) (by omega)).h Try.underlying33 rfl infoTr rfl ((D2.po3 (w.heap.size + 1) (.slice a3 zs.length cap3) (.int .i64 E) (.int .i64 k) (by omega)).put2 (.int .i64 n) (.slice (some ⟨g9, 0, none⟩) (E - n) cap9)).h Try.underlying25 rfl infoCh) rfl ⟨_, _, rfl, ((o3b.p3 (g := w.heap.size + 1) (by omega) (.slice a3 zs.length cap3) (.int .i64 E) (.int .i64 k)).p2 (g := w.heap.size + 1 + 1) (by omega) (.int .i64 n) (.slice (some ⟨g9, 0, none⟩) (E - n) cap9)).base (by omega), ((o9.p3 (g := w.heap.size + 1) (by omega) (.slice a3 zs.length cap3) (.int .i64 E) (.int .i64 k)).p2 (g := w.heap.size + 1 + 1) (by omega) (.int .i64 n) (.slice (some ⟨g9, 0, none⟩) (E - n) cap9)).base (by omega), bP2 (bP3 c9 (g := w.heap.size + 1) (by omega) (.slice a3 zs.length cap3) (.int .i64 E) (.int .i64 k)) (g := w.heap.size + 1 + 1) (by omega) (.int .i64 n) (.slice (some ⟨g9, 0, none⟩) (E - n) cap9)⟩
end Go.Proofs.Ytlfmgagokaekjaa
