/- The walk of FnExactTransferValid: the law returns true. -/
import Derived.Test.YthcgpidlgcfbbaaTrAck
import Derived.Test.YthcgpidlgcfbbaaMem
namespace Go.Proofs.Ythcgpidlgcfbbaa
open Go.RowKit
set_option linter.unusedVariables false
set_option linter.unusedSimpArgs false

set_option maxRecDepth 100000 in
set_option maxHeartbeats 2000000 in
theorem exactTransferValid_walk (v0 : Value) (zs0 : List Int) (n0 k0 : Int) (w : World) (hr0 : RInts w v0 zs0) (hw0 : ∀ n ∈ zs0, (Lit.int .i64 n).wf = true) (hn0 : -9223372036854775808 ≤ n0) (hn'0 : n0 ≤ 9223372036854775807) (hk0 : -9223372036854775808 ≤ k0) (hk'0 : k0 ≤ 9223372036854775807) :
    Calls Try.prog 3 #[trV v0 n0 k0] w fun e w' => e = .returned (.bool true) ∧ Below w.heap.size w w' := by
  obtain ⟨ad0, cap0, rfl, -, -, -⟩ := id hr0
  have HR0 := Lib.hid hr0; clear hr0 hw0
  unfold trV
  by_cases hl0 : (zs0.length : Int) ≤ 1048576
  · have hL0 : zs0.length ≤ 1048576 := by omega
    obtain ⟨ok, hok⟩ : ∃ ok, ok = validB n0 k0 zs0 := ⟨_, rfl⟩
    have Hok := Lib.hid hok; clear hok
    go_enter Try.func3, Try.ntmps3
    have c1 := bAl (Below.refl w.heap.size w) (.cells #[.slice ad0 zs0.length cap0, .int .i64 n0, .int .i64 k0] 24)
    have s1 := sAl w (.cells #[.slice ad0 zs0.length cap0, .int .i64 n0, .int .i64 k0] 24)
    have P0 := Blk.new w #[.slice ad0 zs0.length cap0, .int .i64 n0, .int .i64 k0] 24
    go_wp2_with fail
    have r2 := (HR0.out.bl c1)
    refine (szTransfer_any _ n0 k0 (1048576) zs0 _ (by omega) (by omega) r2).mono ?_
    rw [if_neg (by omega)]
    rintro e w3 ⟨rfl, b4⟩
    have c2 := bNext c1 b4
    have s5 := b4.size
    have d6 : decide (1048576 - (zs0.length : Int) < 0) = false := decide_eq_false (by omega)
    have r10 := (P0.bl b4)
    obtain ⟨x7, x8, x9⟩ := r10.get3
    go_wp2_with fail
    clear x7 x8 x9
    have r11 := (HR0.out.bl c2)
    refine (toTransfer_any _ n0 k0 zs0 _ (by omega) r11).mono ?_
    unfold trV
    rintro e w12 ⟨u13, rfl, o14, b15⟩
    obtain ⟨a16, q17, rfl, -, -, -⟩ := o14.reads
    have c3 := bNext c2 b15
    have s18 := b15.size
    have L19 := Lib.hid o14.lts
    go_wp2_with fail
    refine (specTransferValid_any _ n0 k0 zs0 _ (by omega) o14.reads).mono ?_
    rw [← Hok.out]
    rintro e w20 ⟨rfl, b21⟩
    have c4 := bNext c3 b21
    have s22 := b21.size
    have r26 := ((r10.bl b15).bl b21)
    obtain ⟨x23, x24, x25⟩ := r26.get3
    go_wp2_with fail
    clear x23 x24 x25
    have r27 := (HR0.out.bl c4)
    refine (toTransfer_any _ n0 k0 zs0 _ (by omega) r27).mono ?_
    unfold trV
    rintro e w28 ⟨u29, rfl, o30, b31⟩
    obtain ⟨a32, q33, rfl, -, -, -⟩ := o30.reads
    have c5 := bNext c4 b31
    have s34 := b31.size
    have L35 := Lib.hid o30.lts
    have c6 := bAl c5 (.cells #[(.slice a32 zs0.length q33), .int .i64 n0, .int .i64 k0] 27)
    have s36 := sAl w28 (.cells #[(.slice a32 zs0.length q33), .int .i64 n0, .int .i64 k0] 27)
    have B37 := Blk.new w28 #[(.slice a32 zs0.length q33), .int .i64 n0, .int .i64 k0] 27
    obtain ⟨x38, x39, x40⟩ := B37.get3
    go_wp2_with fail
    clear x38 x39 x40
    have r41 := (o30.al (.cells #[(.slice a32 zs0.length q33), .int .i64 n0, .int .i64 k0] 27))
    refine (implTransferValid_any _ n0 k0 zs0 _ (by omega) r41.reads).mono ?_
    rw [← Hok.out]
    rintro e w42 ⟨rfl, b43⟩
    have c7 := bNext c6 b43
    have s44 := b43.size
    have r46 := (B37.bl b43)
    have r47 := (((r26.bl b31).al (.cells #[(.slice a32 zs0.length q33), .int .i64 n0, .int .i64 k0] 27)).bl b43)
    have k45 := And.intro (r46.get3) (r47.get3)
    go_wp2_with fail
    have c8 := bD1 c7
    go_region_held3 (fun w' => (w'.cell? ⟨w28.heap.size, 0, none⟩ = some ((.slice a32 zs0.length q33)) ∧ w'.cell? ⟨w28.heap.size, 1, none⟩ = some (.int .i64 n0) ∧ w'.cell? ⟨w28.heap.size, 2, none⟩ = some (.int .i64 k0)) ∧ (w'.cell? ⟨w.heap.size, 0, none⟩ = some (.slice ad0 zs0.length cap0) ∧ w'.cell? ⟨w.heap.size, 1, none⟩ = some (.int .i64 n0) ∧ w'.cell? ⟨w.heap.size, 2, none⟩ = some (.int .i64 k0))) (first | exact k45 | exact k57 | exact k64) (first | (go_at_call 14; have r48 := (HR0.out.bl c8); refine (toTransfer_any _ n0 k0 zs0 _ (by omega) r48).mono ?_; unfold trV; rintro e w49 ⟨u50, rfl, o51, b52⟩; obtain ⟨a53, q54, rfl, -, -, -⟩ := o51.reads; have c9 := bNext c8 b52; have s55 := b52.size; have L56 := Lib.hid o51.lts; have r58 := (r46.d1.bl b52); have r59 := (r47.d1.bl b52); have k57 := And.intro (r58.get3) (r59.get3)) | (go_at_call 16; have r62 := ((r41.bl b43).d1.bl b52); refine (eqTransfer_any _ _ n0 k0 zs0 _ (by omega) r62.reads o51.reads).mono ?_; rintro e w60 ⟨rfl, b61⟩; have c10 := bNext c9 b61; have s63 := b61.size; have r65 := (r58.bl b61); have r66 := (r59.bl b61); have k64 := And.intro (r65.get3) (r66.get3)))
    clear k45 k57 k64
    go_wp2
    go_ret
    exact ⟨rfl, c10⟩
  · go_enter Try.func3, Try.ntmps3
    have c1 := bAl (Below.refl w.heap.size w) (.cells #[.slice ad0 zs0.length cap0, .int .i64 n0, .int .i64 k0] 24)
    have s1 := sAl w (.cells #[.slice ad0 zs0.length cap0, .int .i64 n0, .int .i64 k0] 24)
    have P0 := Blk.new w #[.slice ad0 zs0.length cap0, .int .i64 n0, .int .i64 k0] 24
    go_wp2_with fail
    have r2 := (HR0.out.bl c1)
    refine (szTransfer_any _ n0 k0 (1048576) zs0 _ (by omega) (by omega) r2).mono ?_
    rw [if_pos (by omega)]
    rintro e w3 ⟨rfl, b4⟩
    have c2 := bNext c1 b4
    have s5 := b4.size
    go_wp2
    go_ret
    exact ⟨rfl, c2⟩
end Go.Proofs.Ythcgpidlgcfbbaa
