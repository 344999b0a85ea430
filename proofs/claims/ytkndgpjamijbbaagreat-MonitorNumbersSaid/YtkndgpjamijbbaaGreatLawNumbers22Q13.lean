/-
  The reference's keys that sign once, walked: Digest, Secret, Shown, Public, Sign.
-/
import Derived.Test.YtkndgpjamijbbaaGreatLawNumbers22Q12
namespace Go.Proofs.YtkndgpjamijbbaaGreat
set_option maxRecDepth 100000
open Go Go.RowKit
set_option maxHeartbeats 1000000 in
theorem num4_any (x : UInt32) (w : World) :
    Calls Tryz.prog 79 #[.slice none 0 0, .int .u32 (u32i x)] w fun e w' => ∃ A' c', e = .returned (.slice A' 4 c') ∧ OB w' w.heap.size A' 4 c' (bytesOf x) ∧ Ext w w' := by
  go_enter Tryz.func79, Tryz.ntmps79
  go_upto_region 1 with (fail)
  refine seq_ext (n := 13) (by kernel_rfl) [.is (.slice (none) (0) (0)), .is (.int .u32 (u32i (x))), .is (.int .u32 (u32i (shr x 24))), .is (.int .u8 (u8i ((shr x 24)).toUInt8)), .is (.int .u32 (u32i (x))), .is (.int .u32 (u32i (shr x 16))), .is (.int .u8 (u8i ((shr x 16)).toUInt8)), .is (.int .u32 (u32i (x))), .is (.int .u32 (u32i (shr x 8))), .is (.int .u8 (u8i ((shr x 8)).toUInt8)), .is (.int .u32 (u32i (x))), .is (.int .u8 (u8i (x).toUInt8)), .rb ([((shr x 24)).toUInt8, ((shr x 16)).toUInt8, ((shr x 8)).toUInt8, (x).toUInt8])] rfl ⟨?_, ?_, ?_, ?_, ?_, ?_, ?_, ?_, ?_, ?_, ?_, ?_, ?_, trivial⟩ ?_
  · refine stepE rfl fun sdn sa sw sE sd sk => ?_
    have h0 : sa.eval (.tmp 0) = .slice (none) (0) (0) := sk.old 0 rfl
    exact Runs.move rfl h0 ⟨Ext.refl _, rfl⟩
  · refine stepE rfl fun sdn sa sw sE sd sk => ?_
    have h1 : sa.eval (.tmp 1) = .int .u32 (u32i (x)) := sk.old 1 rfl
    exact Runs.move rfl h1 ⟨Ext.refl _, rfl⟩
  · refine stepE rfl fun sdn sa sw sE sd sk => ?_
    have h6 : sa.eval (.tmp 6) = .int .u32 (u32i (x)) := sk.fact 1 6 rfl (sd 1 rfl)
    exact Runs.bin rfl h6 rfl (eqGuard_bin rfl) (bin_shr32 _ _ 24 _) ⟨Ext.refl _, rfl⟩
  · refine stepE rfl fun sdn sa sw sE sd sk => ?_
    have h7 : sa.eval (.tmp 7) = .int .u32 (u32i (shr x 24)) := sk.fact 2 7 rfl (sd 2 rfl)
    exact Runs.conv rfl h7 (conv_u32_u8 Tryz.underlying56 Tryz.underlying5 _) ⟨Ext.refl _, rfl⟩
  · refine stepE rfl fun sdn sa sw sE sd sk => ?_
    have h1 : sa.eval (.tmp 1) = .int .u32 (u32i (x)) := sk.old 1 rfl
    exact Runs.move rfl h1 ⟨Ext.refl _, rfl⟩
  · refine stepE rfl fun sdn sa sw sE sd sk => ?_
    have h9 : sa.eval (.tmp 9) = .int .u32 (u32i (x)) := sk.fact 4 9 rfl (sd 4 rfl)
    exact Runs.bin rfl h9 rfl (eqGuard_bin rfl) (bin_shr32 _ _ 16 _) ⟨Ext.refl _, rfl⟩
  · refine stepE rfl fun sdn sa sw sE sd sk => ?_
    have h10 : sa.eval (.tmp 10) = .int .u32 (u32i (shr x 16)) := sk.fact 5 10 rfl (sd 5 rfl)
    exact Runs.conv rfl h10 (conv_u32_u8 Tryz.underlying56 Tryz.underlying5 _) ⟨Ext.refl _, rfl⟩
  · refine stepE rfl fun sdn sa sw sE sd sk => ?_
    have h1 : sa.eval (.tmp 1) = .int .u32 (u32i (x)) := sk.old 1 rfl
    exact Runs.move rfl h1 ⟨Ext.refl _, rfl⟩
  · refine stepE rfl fun sdn sa sw sE sd sk => ?_
    have h12 : sa.eval (.tmp 12) = .int .u32 (u32i (x)) := sk.fact 7 12 rfl (sd 7 rfl)
    exact Runs.bin rfl h12 rfl (eqGuard_bin rfl) (bin_shr32 _ _ 8 _) ⟨Ext.refl _, rfl⟩
  · refine stepE rfl fun sdn sa sw sE sd sk => ?_
    have h13 : sa.eval (.tmp 13) = .int .u32 (u32i (shr x 8)) := sk.fact 8 13 rfl (sd 8 rfl)
    exact Runs.conv rfl h13 (conv_u32_u8 Tryz.underlying56 Tryz.underlying5 _) ⟨Ext.refl _, rfl⟩
  · refine stepE rfl fun sdn sa sw sE sd sk => ?_
    have h1 : sa.eval (.tmp 1) = .int .u32 (u32i (x)) := sk.old 1 rfl
    exact Runs.move rfl h1 ⟨Ext.refl _, rfl⟩
  · refine stepE rfl fun sdn sa sw sE sd sk => ?_
    have h15 : sa.eval (.tmp 15) = .int .u32 (u32i (x)) := sk.fact 10 15 rfl (sd 10 rfl)
    exact Runs.conv rfl h15 (conv_u32_u8 Tryz.underlying56 Tryz.underlying5 _) ⟨Ext.refl _, rfl⟩
  · refine stepE rfl fun sdn sa sw sE sd sk => ?_
    have h8 : sa.eval (.tmp 8) = .int .u8 (u8i ((shr x 24)).toUInt8) := sk.fact 3 8 rfl (sd 3 rfl)
    have h11 : sa.eval (.tmp 11) = .int .u8 (u8i ((shr x 16)).toUInt8) := sk.fact 6 11 rfl (sd 6 rfl)
    have h14 : sa.eval (.tmp 14) = .int .u8 (u8i ((shr x 8)).toUInt8) := sk.fact 9 14 rfl (sd 9 rfl)
    have h16 : sa.eval (.tmp 16) = .int .u8 (u8i (x).toUInt8) := sk.fact 11 16 rfl (sd 11 rfl)
    exact Runs.lit4 rfl h8 h11 h14 h16 (fun w1 e1 o1 => ⟨e1, _, _, _, rfl, o1.rb⟩)
  intro vals W1 hE hv
  have e0 : vals 0 = .slice (none) (0) (0) := hv 0 (by omega) 5 rfl
  have e1 : vals 1 = .int .u32 (u32i (x)) := hv 1 (by omega) 6 rfl
  have e2 : vals 2 = .int .u32 (u32i (shr x 24)) := hv 2 (by omega) 7 rfl
  have e3 : vals 3 = .int .u8 (u8i ((shr x 24)).toUInt8) := hv 3 (by omega) 8 rfl
  have e4 : vals 4 = .int .u32 (u32i (x)) := hv 4 (by omega) 9 rfl
  have e5 : vals 5 = .int .u32 (u32i (shr x 16)) := hv 5 (by omega) 10 rfl
  have e6 : vals 6 = .int .u8 (u8i ((shr x 16)).toUInt8) := hv 6 (by omega) 11 rfl
  have e7 : vals 7 = .int .u32 (u32i (x)) := hv 7 (by omega) 12 rfl
  have e8 : vals 8 = .int .u32 (u32i (shr x 8)) := hv 8 (by omega) 13 rfl
  have e9 : vals 9 = .int .u8 (u8i ((shr x 8)).toUInt8) := hv 9 (by omega) 14 rfl
  have e10 : vals 10 = .int .u32 (u32i (x)) := hv 10 (by omega) 15 rfl
  have e11 : vals 11 = .int .u8 (u8i (x).toUInt8) := hv 11 (by omega) 16 rfl
  obtain ⟨A17, n17, c17, e12, r17⟩ := hv 12 (by omega) 17 rfl
  simp only [putAll, Act.put, List.take_succ_cons, List.take_zero, List.drop_succ_cons, List.drop_zero, List.drop_nil, List.take_nil, Nat.reduceAdd, List.setIfInBounds_toArray, List.set_cons_succ, List.set_cons_zero, e0, e1, e2, e3, e4, e5, e6, e7, e8, e9, e10, e11, e12]
  clear hv e0 e1 e2 e3 e4 e5 e6 e7 e8 e9 e10 e11 e12
  obtain rfl : n17 = 4 := r17.len.symm
  go_wp2_with (refine app_own (w0 := w) (N := 4) (LM := bytesOf x) rfl rfl rfl rfl hE (OB.none_ _ _) r17 rfl rfl (by omega) ?_; intro A3 c3 W3 own3 hE3)
  go_ret
  exact ⟨A3, c3, rfl, own3, hE3⟩
set_option maxHeartbeats 1000000 in
theorem r4secret_any (A : Option Addr) (n c : Nat) (S : List UInt8) (key bit side : Int) (w : World) (hr : RB w A n c S) (hn : n ≤ 140737488355000) :
    Calls Tryz.prog 78 #[.slice A n c, .int .i64 key, .int .i64 bit, .int .i64 side] w fun e w' => ∃ A' c', e = .returned (.slice A' 32 c') ∧ OB w' w.heap.size A' 32 c' (secretL S key bit side) ∧ Ext w w' := by
  have hl := hr.len
  have Hl := Lib.hid hl
  clear hl
  go_enter Tryz.func78, Tryz.ntmps78
  go_upto_region 1 with (fail)
  refine seq_ext (n := 10) (by kernel_rfl) [.is (.slice (A) (n) (c)), .is (.int .i64 (key)), .is (.int .u32 (u32i (keyW key))), .rb (bytesOf (keyW key)), .is (.int .i64 (bit)), .is (.int .u8 (u8i (byteI bit))), .is (.int .i64 (side)), .is (.int .u8 (u8i (byteI side))), .rb ([(byteI bit), (byteI side)]), .rbb ([S, bytesOf (keyW key), [(byteI bit), (byteI side)]])] rfl ⟨?_, ?_, ?_, ?_, ?_, ?_, ?_, ?_, ?_, ?_, trivial⟩ ?_
  · refine stepE rfl fun sdn sa sw sE sd sk => ?_
    have h0 : sa.eval (.tmp 0) = .slice (A) (n) (c) := sk.old 0 rfl
    exact Runs.move rfl h0 ⟨Ext.refl _, rfl⟩
  · refine stepE rfl fun sdn sa sw sE sd sk => ?_
    have h1 : sa.eval (.tmp 1) = .int .i64 (key) := sk.old 1 rfl
    exact Runs.move rfl h1 ⟨Ext.refl _, rfl⟩
  · refine stepE rfl fun sdn sa sw sE sd sk => ?_
    have h10 : sa.eval (.tmp 10) = .int .i64 (key) := sk.fact 1 10 rfl (sd 1 rfl)
    exact Runs.conv rfl h10 (conv_key Tryz.underlying3 Tryz.underlying56 _) ⟨Ext.refl _, rfl⟩
  · refine stepE rfl fun sdn sa sw sE sd sk => ?_
    have h11 : sa.eval (.tmp 11) = .int .u32 (u32i (keyW key)) := sk.fact 2 11 rfl (sd 2 rfl)
    refine Runs.call (f := 79) (vs := [.slice none 0 0, .int .u32 (u32i (keyW key))]) rfl rfl rfl (by simp only [List.map_toArray, List.map_cons, List.map_nil, h11] <;> rfl) (ent79 _ _) ((num4_any (keyW key) sw).mono ?_); rintro e w' ⟨A', c', rfl, own, hx⟩; exact ⟨_, rfl, hx, A', 4, c', rfl, own.rb⟩
  · refine stepE rfl fun sdn sa sw sE sd sk => ?_
    have h2 : sa.eval (.tmp 2) = .int .i64 (bit) := sk.old 2 rfl
    exact Runs.move rfl h2 ⟨Ext.refl _, rfl⟩
  · refine stepE rfl fun sdn sa sw sE sd sk => ?_
    have h13 : sa.eval (.tmp 13) = .int .i64 (bit) := sk.fact 4 13 rfl (sd 4 rfl)
    exact Runs.conv rfl h13 (conv_byte Tryz.underlying3 Tryz.underlying5 _) ⟨Ext.refl _, rfl⟩
  · refine stepE rfl fun sdn sa sw sE sd sk => ?_
    have h3 : sa.eval (.tmp 3) = .int .i64 (side) := sk.old 3 rfl
    exact Runs.move rfl h3 ⟨Ext.refl _, rfl⟩
  · refine stepE rfl fun sdn sa sw sE sd sk => ?_
    have h15 : sa.eval (.tmp 15) = .int .i64 (side) := sk.fact 6 15 rfl (sd 6 rfl)
    exact Runs.conv rfl h15 (conv_byte Tryz.underlying3 Tryz.underlying5 _) ⟨Ext.refl _, rfl⟩
  · refine stepE rfl fun sdn sa sw sE sd sk => ?_
    have h14 : sa.eval (.tmp 14) = .int .u8 (u8i (byteI bit)) := sk.fact 5 14 rfl (sd 5 rfl)
    have h16 : sa.eval (.tmp 16) = .int .u8 (u8i (byteI side)) := sk.fact 7 16 rfl (sd 7 rfl)
    exact Runs.lit2 rfl h14 h16 (fun w1 e1 o1 => ⟨e1, _, _, _, rfl, o1.rb⟩)
  · refine stepE rfl fun sdn sa sw sE sd sk => ?_
    have h9 : sa.eval (.tmp 9) = .slice (A) (n) (c) := sk.fact 0 9 rfl (sd 0 rfl)
    obtain ⟨A12, n12, c12, h12, r12⟩ := sk.fact 3 12 rfl (sd 3 rfl)
    obtain ⟨A17, n17, c17, h17, r17⟩ := sk.fact 8 17 rfl (sd 8 rfl)
    exact Runs.ss3 rfl h9 h12 h17 (hr.ext sE) r12 r17 (fun w1 e1 b1 => ⟨e1, _, _, _, rfl, b1⟩)
  intro vals W1 hE hv
  have e0 : vals 0 = .slice (A) (n) (c) := hv 0 (by omega) 9 rfl
  have e1 : vals 1 = .int .i64 (key) := hv 1 (by omega) 10 rfl
  have e2 : vals 2 = .int .u32 (u32i (keyW key)) := hv 2 (by omega) 11 rfl
  obtain ⟨A12, n12, c12, e3, r12⟩ := hv 3 (by omega) 12 rfl
  have e4 : vals 4 = .int .i64 (bit) := hv 4 (by omega) 13 rfl
  have e5 : vals 5 = .int .u8 (u8i (byteI bit)) := hv 5 (by omega) 14 rfl
  have e6 : vals 6 = .int .i64 (side) := hv 6 (by omega) 15 rfl
  have e7 : vals 7 = .int .u8 (u8i (byteI side)) := hv 7 (by omega) 16 rfl
  obtain ⟨A17, n17, c17, e8, r17⟩ := hv 8 (by omega) 17 rfl
  obtain ⟨A18, n18, c18, e9, r18⟩ := hv 9 (by omega) 18 rfl
  simp only [putAll, Act.put, List.take_succ_cons, List.take_zero, List.drop_succ_cons, List.drop_zero, List.drop_nil, List.take_nil, Nat.reduceAdd, List.setIfInBounds_toArray, List.set_cons_succ, List.set_cons_zero, e0, e1, e2, e3, e4, e5, e6, e7, e8, e9]
  clear hv e0 e1 e2 e3 e4 e5 e6 e7 e8 e9
  have ht := rtagged_any 10 A18 n18 c18 _ W1 r18 (by simp only [List.flatten_cons, List.flatten_nil, List.length_append, List.length_nil, List.length_cons, bytesOf_length, Hl.out]; omega)
  have e10 : u8i 10 = 10 := rfl
  rw [e10, show [S, bytesOf (keyW key), [byteI bit, byteI side]].flatten = S ++ [(shr (keyW key) 24).toUInt8, (shr (keyW key) 16).toUInt8, (shr (keyW key) 8).toUInt8, (keyW key).toUInt8, byteI bit, byteI side] from by simp [bytesOf]] at ht
  have Ht := Lib.hid ht
  clear ht
  go_wp2_with fail
  refine Ht.out.mono ?_
  rintro e w3 ⟨A3, c3, rfl, own, hE3⟩
  go_wp2_with fail
  go_ret
  exact ⟨A3, c3, rfl, own.base hE.size, hE.trans hE3⟩
set_option maxHeartbeats 1000000 in
theorem r4shown_any (A : Option Addr) (n c : Nat) (S : List UInt8) (key bit side : Int) (w : World) (hr : RB w A n c S) (hn : n ≤ 140737488355000) :
    Calls Tryz.prog 52 #[.slice A n c, .int .i64 key, .int .i64 bit, .int .i64 side] w fun e w' => ∃ A' c', e = .returned (.slice A' 32 c') ∧ OB w' w.heap.size A' 32 c' (shownL S key bit side) ∧ Ext w w' := by
  go_enter Tryz.func52, Tryz.ntmps52
  go_wp2_with fail
  refine (r4secret_any A n c S key bit side w hr hn).mono ?_
  rintro e w1 ⟨A1, c1, rfl, own1, hE1⟩
  have r1 := RBB.of1 own1.rb 26
  have hE2 := Ext.new w1 (.cells #[.slice A1 32 c1] 26)
  have ht := rtagged_any 11 _ 1 1 _ _ r1 (by simp only [List.flatten_cons, List.flatten_nil, List.append_nil, secretL, tagged_length]; omega)
  have e11 : u8i 11 = 11 := rfl
  rw [e11, show [secretL S key bit side].flatten = secretL S key bit side from by simp] at ht
  have Ht := Lib.hid ht
  clear ht
  go_wp2_with fail
  refine Ht.out.mono ?_
  rintro e w3 ⟨A3, c3, rfl, own, hE3⟩
  go_wp2_with fail
  go_ret
  exact ⟨A3, c3, rfl, own.base (hE1.trans hE2).size, (hE1.trans hE2).trans hE3⟩

set_option maxHeartbeats 1000000 in
theorem r4digest_any (A : Option Addr) (n c : Nat) (M : List UInt8) (w : World) (hr : RB w A n c M) (hn : n ≤ 140737488355000) :
    Calls Tryz.prog 81 #[.slice A n c] w fun e w' => e = .returned (.int .u32 (u32i (digestW M))) ∧ Ext w w' := by
  have hl := hr.len
  have r1 := RBB.of1 hr 26
  have hE2 := Ext.new w (.cells #[.slice A n c] 26)
  have ht := rtagged_any 13 _ 1 1 _ _ r1 (by simp only [List.flatten_cons, List.flatten_nil, List.append_nil, hl]; omega)
  have e13 : u8i 13 = 13 := rfl
  rw [e13, show [M].flatten = M from by simp] at ht
  have Ht := Lib.hid ht
  clear ht hl
  go_enter Tryz.func81, Tryz.ntmps81
  go_wp2_with fail
  refine Ht.out.mono ?_
  rintro e w3 ⟨A3, c3, rfl, own, hE3⟩
  obtain ⟨T, hT⟩ : ∃ T, T = tagged 13 M := ⟨_, rfl⟩
  rw [← hT] at own
  have HT := Lib.hid hT
  clear hT
  have r3 := own.rb
  obtain ⟨ad, rfl, hc⟩ := r3.cells (by omega)
  go_upto_region 2 with (fail)
  refine par_ext (n := 23) (by kernel_rfl) [.is (.slice (some ad) (32) (c3)), .is (.pointer (some (ad.add (0)))), .is (.int .u8 (u8i (ub T (0)))), .is (.int .u32 (u32i (ub T (0)).toUInt32)), .is (.int .u32 (u32i (shl (ub T (0)).toUInt32 24))), .is (.slice (some ad) (32) (c3)), .is (.pointer (some (ad.add (1)))), .is (.int .u8 (u8i (ub T (1)))), .is (.int .u32 (u32i (ub T (1)).toUInt32)), .is (.int .u32 (u32i (shl (ub T (1)).toUInt32 16))), .is (.int .u32 (u32i ((shl (ub T (0)).toUInt32 24) ||| (shl (ub T (1)).toUInt32 16)))), .is (.slice (some ad) (32) (c3)), .is (.pointer (some (ad.add (2)))), .is (.int .u8 (u8i (ub T (2)))), .is (.int .u32 (u32i (ub T (2)).toUInt32)), .is (.int .u32 (u32i (shl (ub T (2)).toUInt32 8))), .is (.int .u32 (u32i (((shl (ub T (0)).toUInt32 24) ||| (shl (ub T (1)).toUInt32 16)) ||| (shl (ub T (2)).toUInt32 8)))), .is (.slice (some ad) (32) (c3)), .is (.pointer (some (ad.add (3)))), .is (.int .u8 (u8i (ub T (3)))), .is (.int .u32 (u32i (ub T (3)).toUInt32)), .is (.int .u32 (u32i ((((shl (ub T (0)).toUInt32 24) ||| (shl (ub T (1)).toUInt32 16)) ||| (shl (ub T (2)).toUInt32 8)) ||| (ub T (3)).toUInt32))), .is (.int .u32 (u32i ((((shl (ub T (0)).toUInt32 24) ||| (shl (ub T (1)).toUInt32 16)) ||| (shl (ub T (2)).toUInt32 8)) ||| (ub T (3)).toUInt32)))] rfl ⟨?_, ?_, ?_, ?_, ?_, ?_, ?_, ?_, ?_, ?_, ?_, ?_, ?_, ?_, ?_, ?_, ?_, ?_, ?_, ?_, ?_, ?_, ?_, trivial⟩ ?_
  · refine stepE rfl fun sdn sa sw sE sd sk => ?_
    have h3 : sa.eval (.tmp 3) = .slice (some ad) (32) (c3) := sk.old 3 rfl
    exact Runs.move rfl h3 ⟨Ext.refl _, rfl⟩
  · refine stepE rfl fun sdn sa sw sE sd sk => ?_
    have h7 : sa.eval (.tmp 7) = .slice (some ad) (32) (c3) := sk.fact 0 7 rfl (sd 0 rfl)
    exact Runs.idx rfl h7 rfl (run_idx_sl1 Tryz.underlying26 inf26_eq inf26_size (0) (by omega) (by omega)) ⟨Ext.refl _, rfl⟩
  · refine stepE rfl fun sdn sa sw sE sd sk => ?_
    have h8 : sa.eval (.tmp 8) = .pointer (some (ad.add (0))) := sk.fact 1 8 rfl (sd 1 rfl)
    exact Runs.load rfl h8 (run_load1 Tryz.underlying5 rfl (cell_at hc sE (by omega))) ⟨Ext.refl _, rfl⟩
  · refine stepE rfl fun sdn sa sw sE sd sk => ?_
    have h9 : sa.eval (.tmp 9) = .int .u8 (u8i (ub T (0))) := sk.fact 2 9 rfl (sd 2 rfl)
    exact Runs.conv rfl h9 (conv_u8_u32 Tryz.underlying5 Tryz.underlying56 _) ⟨Ext.refl _, rfl⟩
  · refine stepE rfl fun sdn sa sw sE sd sk => ?_
    have h10 : sa.eval (.tmp 10) = .int .u32 (u32i (ub T (0)).toUInt32) := sk.fact 3 10 rfl (sd 3 rfl)
    exact Runs.bin rfl h10 rfl (eqGuard_bin rfl) (bin_shl32 _ _ 24 _) ⟨Ext.refl _, rfl⟩
  · refine stepE rfl fun sdn sa sw sE sd sk => ?_
    have h3 : sa.eval (.tmp 3) = .slice (some ad) (32) (c3) := sk.old 3 rfl
    exact Runs.move rfl h3 ⟨Ext.refl _, rfl⟩
  · refine stepE rfl fun sdn sa sw sE sd sk => ?_
    have h12 : sa.eval (.tmp 12) = .slice (some ad) (32) (c3) := sk.fact 5 12 rfl (sd 5 rfl)
    exact Runs.idx rfl h12 rfl (run_idx_sl1 Tryz.underlying26 inf26_eq inf26_size (1) (by omega) (by omega)) ⟨Ext.refl _, rfl⟩
  · refine stepE rfl fun sdn sa sw sE sd sk => ?_
    have h13 : sa.eval (.tmp 13) = .pointer (some (ad.add (1))) := sk.fact 6 13 rfl (sd 6 rfl)
    exact Runs.load rfl h13 (run_load1 Tryz.underlying5 rfl (cell_at hc sE (by omega))) ⟨Ext.refl _, rfl⟩
  · refine stepE rfl fun sdn sa sw sE sd sk => ?_
    have h14 : sa.eval (.tmp 14) = .int .u8 (u8i (ub T (1))) := sk.fact 7 14 rfl (sd 7 rfl)
    exact Runs.conv rfl h14 (conv_u8_u32 Tryz.underlying5 Tryz.underlying56 _) ⟨Ext.refl _, rfl⟩
  · refine stepE rfl fun sdn sa sw sE sd sk => ?_
    have h15 : sa.eval (.tmp 15) = .int .u32 (u32i (ub T (1)).toUInt32) := sk.fact 8 15 rfl (sd 8 rfl)
    exact Runs.bin rfl h15 rfl (eqGuard_bin rfl) (bin_shl32 _ _ 16 _) ⟨Ext.refl _, rfl⟩
  · refine stepE rfl fun sdn sa sw sE sd sk => ?_
    have h11 : sa.eval (.tmp 11) = .int .u32 (u32i (shl (ub T (0)).toUInt32 24)) := sk.fact 4 11 rfl (sd 4 rfl)
    have h16 : sa.eval (.tmp 16) = .int .u32 (u32i (shl (ub T (1)).toUInt32 16)) := sk.fact 9 16 rfl (sd 9 rfl)
    exact Runs.bin rfl h11 h16 (eqGuard_bin rfl) (bin_or32 _ _ _) ⟨Ext.refl _, rfl⟩
  · refine stepE rfl fun sdn sa sw sE sd sk => ?_
    have h3 : sa.eval (.tmp 3) = .slice (some ad) (32) (c3) := sk.old 3 rfl
    exact Runs.move rfl h3 ⟨Ext.refl _, rfl⟩
  · refine stepE rfl fun sdn sa sw sE sd sk => ?_
    have h18 : sa.eval (.tmp 18) = .slice (some ad) (32) (c3) := sk.fact 11 18 rfl (sd 11 rfl)
    exact Runs.idx rfl h18 rfl (run_idx_sl1 Tryz.underlying26 inf26_eq inf26_size (2) (by omega) (by omega)) ⟨Ext.refl _, rfl⟩
  · refine stepE rfl fun sdn sa sw sE sd sk => ?_
    have h19 : sa.eval (.tmp 19) = .pointer (some (ad.add (2))) := sk.fact 12 19 rfl (sd 12 rfl)
    exact Runs.load rfl h19 (run_load1 Tryz.underlying5 rfl (cell_at hc sE (by omega))) ⟨Ext.refl _, rfl⟩
  · refine stepE rfl fun sdn sa sw sE sd sk => ?_
    have h20 : sa.eval (.tmp 20) = .int .u8 (u8i (ub T (2))) := sk.fact 13 20 rfl (sd 13 rfl)
    exact Runs.conv rfl h20 (conv_u8_u32 Tryz.underlying5 Tryz.underlying56 _) ⟨Ext.refl _, rfl⟩
  · refine stepE rfl fun sdn sa sw sE sd sk => ?_
    have h21 : sa.eval (.tmp 21) = .int .u32 (u32i (ub T (2)).toUInt32) := sk.fact 14 21 rfl (sd 14 rfl)
    exact Runs.bin rfl h21 rfl (eqGuard_bin rfl) (bin_shl32 _ _ 8 _) ⟨Ext.refl _, rfl⟩
  · refine stepE rfl fun sdn sa sw sE sd sk => ?_
    have h17 : sa.eval (.tmp 17) = .int .u32 (u32i ((shl (ub T (0)).toUInt32 24) ||| (shl (ub T (1)).toUInt32 16))) := sk.fact 10 17 rfl (sd 10 rfl)
    have h22 : sa.eval (.tmp 22) = .int .u32 (u32i (shl (ub T (2)).toUInt32 8)) := sk.fact 15 22 rfl (sd 15 rfl)
    exact Runs.bin rfl h17 h22 (eqGuard_bin rfl) (bin_or32 _ _ _) ⟨Ext.refl _, rfl⟩
  · refine stepE rfl fun sdn sa sw sE sd sk => ?_
    have h3 : sa.eval (.tmp 3) = .slice (some ad) (32) (c3) := sk.old 3 rfl
    exact Runs.move rfl h3 ⟨Ext.refl _, rfl⟩
  · refine stepE rfl fun sdn sa sw sE sd sk => ?_
    have h24 : sa.eval (.tmp 24) = .slice (some ad) (32) (c3) := sk.fact 17 24 rfl (sd 17 rfl)
    exact Runs.idx rfl h24 rfl (run_idx_sl1 Tryz.underlying26 inf26_eq inf26_size (3) (by omega) (by omega)) ⟨Ext.refl _, rfl⟩
  · refine stepE rfl fun sdn sa sw sE sd sk => ?_
    have h25 : sa.eval (.tmp 25) = .pointer (some (ad.add (3))) := sk.fact 18 25 rfl (sd 18 rfl)
    exact Runs.load rfl h25 (run_load1 Tryz.underlying5 rfl (cell_at hc sE (by omega))) ⟨Ext.refl _, rfl⟩
  · refine stepE rfl fun sdn sa sw sE sd sk => ?_
    have h26 : sa.eval (.tmp 26) = .int .u8 (u8i (ub T (3))) := sk.fact 19 26 rfl (sd 19 rfl)
    exact Runs.conv rfl h26 (conv_u8_u32 Tryz.underlying5 Tryz.underlying56 _) ⟨Ext.refl _, rfl⟩
  · refine stepE rfl fun sdn sa sw sE sd sk => ?_
    have h23 : sa.eval (.tmp 23) = .int .u32 (u32i (((shl (ub T (0)).toUInt32 24) ||| (shl (ub T (1)).toUInt32 16)) ||| (shl (ub T (2)).toUInt32 8))) := sk.fact 16 23 rfl (sd 16 rfl)
    have h27 : sa.eval (.tmp 27) = .int .u32 (u32i (ub T (3)).toUInt32) := sk.fact 20 27 rfl (sd 20 rfl)
    exact Runs.bin rfl h23 h27 (eqGuard_bin rfl) (bin_or32 _ _ _) ⟨Ext.refl _, rfl⟩
  · refine stepE rfl fun sdn sa sw sE sd sk => ?_
    have h28 : sa.eval (.tmp 28) = .int .u32 (u32i ((((shl (ub T (0)).toUInt32 24) ||| (shl (ub T (1)).toUInt32 16)) ||| (shl (ub T (2)).toUInt32 8)) ||| (ub T (3)).toUInt32)) := sk.fact 21 28 rfl (sd 21 rfl)
    exact Runs.assign rfl h28 ⟨Ext.refl _, rfl⟩
  intro vals W4 hE4 hv4
  have e0 : vals 0 = .slice (some ad) (32) (c3) := hv4 0 (by omega) 7 rfl
  have e1 : vals 1 = .pointer (some (ad.add (0))) := hv4 1 (by omega) 8 rfl
  have e2 : vals 2 = .int .u8 (u8i (ub T (0))) := hv4 2 (by omega) 9 rfl
  have e3 : vals 3 = .int .u32 (u32i (ub T (0)).toUInt32) := hv4 3 (by omega) 10 rfl
  have e4 : vals 4 = .int .u32 (u32i (shl (ub T (0)).toUInt32 24)) := hv4 4 (by omega) 11 rfl
  have e5 : vals 5 = .slice (some ad) (32) (c3) := hv4 5 (by omega) 12 rfl
  have e6 : vals 6 = .pointer (some (ad.add (1))) := hv4 6 (by omega) 13 rfl
  have e7 : vals 7 = .int .u8 (u8i (ub T (1))) := hv4 7 (by omega) 14 rfl
  have e8 : vals 8 = .int .u32 (u32i (ub T (1)).toUInt32) := hv4 8 (by omega) 15 rfl
  have e9 : vals 9 = .int .u32 (u32i (shl (ub T (1)).toUInt32 16)) := hv4 9 (by omega) 16 rfl
  have e10 : vals 10 = .int .u32 (u32i ((shl (ub T (0)).toUInt32 24) ||| (shl (ub T (1)).toUInt32 16))) := hv4 10 (by omega) 17 rfl
  have e11 : vals 11 = .slice (some ad) (32) (c3) := hv4 11 (by omega) 18 rfl
  have e12 : vals 12 = .pointer (some (ad.add (2))) := hv4 12 (by omega) 19 rfl
  have e13 : vals 13 = .int .u8 (u8i (ub T (2))) := hv4 13 (by omega) 20 rfl
  have e14 : vals 14 = .int .u32 (u32i (ub T (2)).toUInt32) := hv4 14 (by omega) 21 rfl
  have e15 : vals 15 = .int .u32 (u32i (shl (ub T (2)).toUInt32 8)) := hv4 15 (by omega) 22 rfl
  have e16 : vals 16 = .int .u32 (u32i (((shl (ub T (0)).toUInt32 24) ||| (shl (ub T (1)).toUInt32 16)) ||| (shl (ub T (2)).toUInt32 8))) := hv4 16 (by omega) 23 rfl
  have e17 : vals 17 = .slice (some ad) (32) (c3) := hv4 17 (by omega) 24 rfl
  have e18 : vals 18 = .pointer (some (ad.add (3))) := hv4 18 (by omega) 25 rfl
  have e19 : vals 19 = .int .u8 (u8i (ub T (3))) := hv4 19 (by omega) 26 rfl
  have e20 : vals 20 = .int .u32 (u32i (ub T (3)).toUInt32) := hv4 20 (by omega) 27 rfl
  have e21 : vals 21 = .int .u32 (u32i ((((shl (ub T (0)).toUInt32 24) ||| (shl (ub T (1)).toUInt32 16)) ||| (shl (ub T (2)).toUInt32 8)) ||| (ub T (3)).toUInt32)) := hv4 21 (by omega) 28 rfl
  have e22 : vals 22 = .int .u32 (u32i ((((shl (ub T (0)).toUInt32 24) ||| (shl (ub T (1)).toUInt32 16)) ||| (shl (ub T (2)).toUInt32 8)) ||| (ub T (3)).toUInt32)) := hv4 22 (by omega) 2 rfl
  simp only [putAll, Act.put, List.take_succ_cons, List.take_zero, List.drop_succ_cons, List.drop_zero, List.drop_nil, List.take_nil, Nat.reduceAdd, List.setIfInBounds_toArray, List.set_cons_succ, List.set_cons_zero, e0, e1, e2, e3, e4, e5, e6, e7, e8, e9, e10, e11, e12, e13, e14, e15, e16, e17, e18, e19, e20, e21, e22]
  clear hv4 e0 e1 e2 e3 e4 e5 e6 e7 e8 e9 e10 e11 e12 e13 e14 e15 e16 e17 e18 e19 e20 e21 e22
  have ed : digestW M = beAt T 0 := by
    unfold digestW
    rw [← HT.out, ← beP4 T 0]
    rfl
  go_wp2_with fail
  go_ret
  exact ⟨by rw [ed]; rfl, (hE2.trans hE3).trans hE4⟩
theorem r4part_even (S : List UInt8) (key : Int) (i : Nat) : partP S key (2 * i) = shownL S key (i : Int) 0 := by
  unfold partP
  rw [show 2 * i / 2 = i by omega, show 2 * i % 2 = 0 by omega]
  rfl
theorem r4part_odd (S : List UInt8) (key : Int) (i : Nat) : partP S key (2 * i + 1) = shownL S key (i : Int) 1 := by
  unfold partP
  rw [show (2 * i + 1) / 2 = i by omega, show (2 * i + 1) % 2 = 1 by omega]
  rfl
theorem r4flat_two (S : List UInt8) (key : Int) (i : Nat) : ((List.range (2 * (i + 1))).map (partP S key)).flatten = (((List.range (2 * i)).map (partP S key)).flatten ++ shownL S key (i : Int) 0) ++ shownL S key (i : Int) 1 := by
  rw [show 2 * (i + 1) = 2 * i + 1 + 1 by omega, range_snoc, range_snoc, List.flatten_append, List.flatten_append, r4part_even, r4part_odd]
  simp
def PubI (w : World) (S : List UInt8) (key : Int) (v i : Value) (wr : World) : Prop :=
  ∃ (k d : Nat) (B : Option Addr), k ≤ 32 ∧ i = .int .i64 k ∧ v = .slice B (64 * k) d ∧ OB wr w.heap.size B (64 * k) d (((List.range (2 * k)).map (partP S key)).flatten) ∧ Ext w wr
set_option maxHeartbeats 2000000 in
theorem r4public_any (A : Option Addr) (n c : Nat) (S : List UInt8) (key : Int) (w : World) (rS : RB w A n c S) (hn : n ≤ 140737488355000) :
    Calls Tryz.prog 28 #[.slice A n c, .int .i64 key] w fun e w' => ∃ A' c', e = .returned (.slice A' 32 c') ∧ OB w' w.heap.size A' 32 c' (publicL S key) ∧ Ext w w' := by
  go_enter Tryz.func28, Tryz.ntmps28
  go_wp2_with fail
  go_loopw [5, 6] (fun v i wr => PubI w S key v i wr) (fun _ i _ => 32 - (intOf i).toNat)
  case atStart => exact ⟨0, 0, none, by omega, rfl, rfl, OB.none_ _ _, Ext.refl _⟩
  case round =>
    obtain ⟨k, d, B, hk, rfl, rfl, own, hEr⟩ := hrel
    by_cases hlt : k < 32
    · have hki : (k : Int) < 32 := by omega
      go_wp2_with fail
      refine (r4shown_any A n c S key k 0 wr (rS.ext hEr) hn).mono ?_
      rintro e w2 ⟨A2, c2, rfl, own2, hE2⟩
      go_wp2_with (refine app_own (w0 := w) (N := 64 * k + 32) (LM := ((List.range (2 * k)).map (partP S key)).flatten ++ shownL S key (k : Int) 0) rfl rfl rfl rfl (hEr.trans hE2) (own.ext hE2) own2.rb rfl rfl (by omega) ?_; intro A3 c3 w3 own3 hE3)
      refine (r4shown_any A n c S key k 1 w3 (rS.ext hE3) hn).mono ?_
      rintro e w4 ⟨A4, c4, rfl, own4, hE4⟩
      go_wp2_with (refine app_own (w0 := w) (N := 64 * (k + 1)) (LM := ((List.range (2 * (k + 1))).map (partP S key)).flatten) rfl rfl rfl rfl (hE3.trans hE4) (own3.ext hE4) own4.rb (by omega) (r4flat_two S key k).symm (by omega) ?_; intro A5 c5 w5 own5 hE5)
      go_roundw
      case rel => exact ⟨k + 1, c5, A5, by omega, by go_num, rfl, own5, hE5⟩
      case measure => simp [intOf]; omega
    · obtain rfl : k = 32 := by omega
      have r1 := RBB.of1 own.rb 26
      have hEa := Ext.new wr (.cells #[.slice B (64 * 32) d] 26)
      have ht := rtagged_any 12 _ 1 1 _ _ r1 (by simp only [List.flatten_cons, List.flatten_nil, List.append_nil, flat32 _ (partP_length S key)]; omega)
      have e12 : u8i 12 = 12 := rfl
      rw [e12, show [((List.range (2 * 32)).map (partP S key)).flatten].flatten = ((List.range 64).map (partP S key)).flatten from by simp] at ht
      have Ht := Lib.hid ht
      clear ht
      go_wp2_with fail
      refine Ht.out.mono ?_
      rintro e w6 ⟨A6, c6, rfl, own6, hE6⟩
      go_wp2_with fail
      go_ret
      exact ⟨A6, c6, rfl, own6.base (hEr.trans hEa).size, (hEr.trans hEa).trans hE6⟩
set_option maxHeartbeats 4000000 in
theorem r4sign_any (A B : Option Addr) (n c m d : Nat) (S M : List UInt8) (key : Int) (w : World) (hr : RB w A n c S) (hn : n ≤ 140737488355000) (hm : RB w B m d M) (hmn : m ≤ 140737488355000) :
    Calls Tryz.prog 55 #[.slice A n c, .int .i64 key, .slice B m d] w fun e w' => ∃ P d', e = .returned (.slice P 64 d') ∧ OBC w' w.heap.size P 64 d' ((List.range 64).map (partS (digestW M) S key)) ∧ Ext w w' := by
  go_enter Tryz.func55, Tryz.ntmps55
  go_wp2_with fail
  refine (r4digest_any B m d M w hm hmn).mono ?_
  rintro e w1 ⟨rfl, hE1⟩
  obtain ⟨dg, hdg⟩ : ∃ dg, dg = digestW M := ⟨_, rfl⟩
  rw [← hdg]
  have Hdg := Lib.hid hdg
  clear hdg
  go_wp2_with fail
  go_loopw [8, 9] (fun v i wr => PartO (partS dg S key) w v i wr) (fun _ i _ => 32 - (intOf i).toNat)
  case atStart => exact ⟨0, 0, none, by omega, rfl, rfl, OBC.none_ _ _, hE1⟩
  case round =>
    obtain ⟨k, d2, P, hk, rfl, rfl, own, hEr⟩ := hrel
    by_cases hlt : k < 32
    · have hki : (k : Int) < 32 := by omega
      go_wp2_with fail
      go_loopw [8, 10] (fun v i wr => PartI (partS dg S key) w k v i wr) (fun _ i _ => 2 - (intOf i).toNat)
      case atStart => exact ⟨0, d2, P, by omega, rfl, rfl, own, hEr⟩
      case round =>
        clear own hEr
        obtain ⟨s, d2, P, hs, rfl, rfl, own, hEr⟩ := hrel
        by_cases hls : s < 2
        · have hval : partS dg S key (2 * k + s) = if toldB dg k s = true then secretL S key (k : Int) (s : Int) else shownL S key (k : Int) (s : Int) := by
            unfold partS
            rw [show (2 * k + s) / 2 = k by omega, show (2 * k + s) % 2 = s by omega]
          have Hval := Lib.hid hval
          clear hval
          have hsi : (s : Int) < 2 := by omega
          go_upto_region 9 with (fail)
          refine seq_ext (n := 9) (by kernel_rfl) [.is (.int .u32 (u32i (dg))), .is (.int .i64 (((k : Nat) : Int))), .is (.int .i64 ((31 : Int) - ((k : Nat) : Int))), .is (.int .u64 ((31 - k : Nat) : Int)), .is (.int .u32 (u32i (shr dg (31 - k)))), .is (.int .u32 (u32i ((shr dg (31 - k)) &&& (1 : UInt32)))), .is (.int .i64 (u32i (shr dg (31 - k) &&& 1))), .is (.int .i64 (((s : Nat) : Int))), .is (.bool (toldB dg k s))] rfl ⟨?_, ?_, ?_, ?_, ?_, ?_, ?_, ?_, ?_, trivial⟩ ?_
          · refine stepE rfl fun sdn sa sw sE sd sk => ?_
            have h7 : sa.eval (.tmp 7) = .int .u32 (u32i (dg)) := sk.old 7 rfl
            exact Runs.move rfl h7 ⟨Ext.refl _, rfl⟩
          · refine stepE rfl fun sdn sa sw sE sd sk => ?_
            have h9 : sa.eval (.tmp 9) = .int .i64 (((k : Nat) : Int)) := sk.old 9 rfl
            exact Runs.move rfl h9 ⟨Ext.refl _, rfl⟩
          · refine stepE rfl fun sdn sa sw sE sd sk => ?_
            have h22 : sa.eval (.tmp 22) = .int .i64 (((k : Nat) : Int)) := sk.fact 1 22 rfl (sd 1 rfl)
            exact Runs.bin rfl rfl h22 (eqGuard_bin rfl) (bin_sub64 _ _ _ (by omega) (by omega)) ⟨Ext.refl _, rfl⟩
          · refine stepE rfl fun sdn sa sw sE sd sk => ?_
            have h23 : sa.eval (.tmp 23) = .int .i64 ((31 : Int) - ((k : Nat) : Int)) := sk.fact 2 23 rfl (sd 2 rfl)
            exact Runs.conv rfl h23 (conv_i64_u64 Tryz.underlying3 Tryz.underlying95 _ (31 - k) (by omega) (by omega)) ⟨Ext.refl _, rfl⟩
          · refine stepE rfl fun sdn sa sw sE sd sk => ?_
            have h21 : sa.eval (.tmp 21) = .int .u32 (u32i (dg)) := sk.fact 0 21 rfl (sd 0 rfl)
            have h24 : sa.eval (.tmp 24) = .int .u64 ((31 - k : Nat) : Int) := sk.fact 3 24 rfl (sd 3 rfl)
            exact Runs.bin rfl h21 h24 (eqGuard_bin rfl) (bin_shr32 _ _ (31 - k) _ rfl (by omega)) ⟨Ext.refl _, rfl⟩
          · refine stepE rfl fun sdn sa sw sE sd sk => ?_
            have h25 : sa.eval (.tmp 25) = .int .u32 (u32i (shr dg (31 - k))) := sk.fact 4 25 rfl (sd 4 rfl)
            have hone : (.int .u32 1 : Value) = .int .u32 (u32i (1 : UInt32)) := rfl
            exact Runs.bin (v := .int .u32 (u32i (1 : UInt32))) rfl h25 hone (eqGuard_bin rfl) (bin_and32 _ _ (1 : UInt32)) ⟨Ext.refl _, rfl⟩
          · refine stepE rfl fun sdn sa sw sE sd sk => ?_
            have h26 : sa.eval (.tmp 26) = .int .u32 (u32i ((shr dg (31 - k)) &&& (1 : UInt32))) := sk.fact 5 26 rfl (sd 5 rfl)
            exact Runs.conv rfl h26 (conv_u32_i64' Tryz.underlying56 Tryz.underlying3 _) ⟨Ext.refl _, rfl⟩
          · refine stepE rfl fun sdn sa sw sE sd sk => ?_
            have h10 : sa.eval (.tmp 10) = .int .i64 (((s : Nat) : Int)) := sk.old 10 rfl
            exact Runs.move rfl h10 ⟨Ext.refl _, rfl⟩
          · refine stepE rfl fun sdn sa sw sE sd sk => ?_
            have h27 : sa.eval (.tmp 27) = .int .i64 (u32i (shr dg (31 - k) &&& 1)) := sk.fact 6 27 rfl (sd 6 rfl)
            have h28 : sa.eval (.tmp 28) = .int .i64 (((s : Nat) : Int)) := sk.fact 7 28 rfl (sd 7 rfl)
            exact Runs.bin rfl h27 h28 (by rfl) (bin_eql _ _ _ _) ⟨Ext.refl _, rfl⟩
          intro vals w2 hE2 hv2
          have e0 : vals 0 = .int .u32 (u32i (dg)) := hv2 0 (by omega) 21 rfl
          have e1 : vals 1 = .int .i64 (((k : Nat) : Int)) := hv2 1 (by omega) 22 rfl
          have e2 : vals 2 = .int .i64 ((31 : Int) - ((k : Nat) : Int)) := hv2 2 (by omega) 23 rfl
          have e3 : vals 3 = .int .u64 ((31 - k : Nat) : Int) := hv2 3 (by omega) 24 rfl
          have e4 : vals 4 = .int .u32 (u32i (shr dg (31 - k))) := hv2 4 (by omega) 25 rfl
          have e5 : vals 5 = .int .u32 (u32i ((shr dg (31 - k)) &&& (1 : UInt32))) := hv2 5 (by omega) 26 rfl
          have e6 : vals 6 = .int .i64 (u32i (shr dg (31 - k) &&& 1)) := hv2 6 (by omega) 27 rfl
          have e7 : vals 7 = .int .i64 (((s : Nat) : Int)) := hv2 7 (by omega) 28 rfl
          have e8 : vals 8 = .bool (toldB dg k s) := hv2 8 (by omega) 29 rfl
          simp only [putAll, Act.put, List.take_succ_cons, List.take_zero, List.drop_succ_cons, List.drop_zero, List.drop_nil, List.take_nil, Nat.reduceAdd, List.setIfInBounds_toArray, List.set_cons_succ, List.set_cons_zero, e0, e1, e2, e3, e4, e5, e6, e7, e8]
          clear hv2 e0 e1 e2 e3 e4 e5 e6 e7 e8
          cases ht : toldB dg k s with
          | true =>
            have Ht := Lib.hid ht
            clear ht
            go_wp2_with fail
            refine (r4secret_any A n c S key k s w2 (hr.ext (hEr.trans hE2)) hn).mono ?_
            rintro e w3 ⟨A3, c3, rfl, own3, hE3⟩
            have hY : RB w3 A3 32 c3 ((partS dg S key) (2 * k + s)) := by
              rw [Hval.out, if_pos Ht.out]
              exact own3.rb
            have hEw := hEr.trans (hE2.trans hE3)
            have hEa := Ext.new w3 (.cells #[.slice A3 32 c3] 26)
            have hBa := Blk.new w3 26 #[.slice A3 32 c3]
            have own4 := (own.ext (hE2.trans hE3)).ext hEa
            have hne : 0 < 32 → blk A3 ≠ blk P := by
              intro _ e
              obtain ⟨b, hb⟩ : ∃ b, blk A3 = some b := by
                obtain ⟨ad, h1, _⟩ := own3.rb.cells (by omega)
                rw [h1]
                exact ⟨_, rfl⟩
              have h1 := (own3.lt hb).1
              have h2 := own.lt (e.symm.trans hb)
              have h3 := hE2.size
              omega
            go_wp2_with (refine appbc_law (base := w.heap.size) (Y := (partS dg S key) (2 * k + s)) rfl rfl rfl rfl (by rw [add_plain]; exact hBa.cell (i := 0) rfl) own4 (hY.ext hEa) hne (hEw.trans hEa).size (by omega) ?_; intro P5 d5 w5 own5 g5)
            go_roundw
            case rel =>
              rw [← range_snoc] at own5
              exact ⟨s + 1, d5, P5, by omega, by go_num, rfl, own5, (hEw.trans hEa).then_grown g5 (fun b hb => (own4.lt hb).1)⟩
            case measure => simp [intOf]; omega
          | false =>
            have Ht := Lib.hid (show ¬ toldB dg k s = true by rw [ht]; simp)
            clear ht
            go_wp2_with fail
            refine (r4shown_any A n c S key k s w2 (hr.ext (hEr.trans hE2)) hn).mono ?_
            rintro e w3 ⟨A3, c3, rfl, own3, hE3⟩
            have hY : RB w3 A3 32 c3 ((partS dg S key) (2 * k + s)) := by
              rw [Hval.out, if_neg Ht.out]
              exact own3.rb
            have hEw := hEr.trans (hE2.trans hE3)
            have hEa := Ext.new w3 (.cells #[.slice A3 32 c3] 26)
            have hBa := Blk.new w3 26 #[.slice A3 32 c3]
            have own4 := (own.ext (hE2.trans hE3)).ext hEa
            have hne : 0 < 32 → blk A3 ≠ blk P := by
              intro _ e
              obtain ⟨b, hb⟩ : ∃ b, blk A3 = some b := by
                obtain ⟨ad, h1, _⟩ := own3.rb.cells (by omega)
                rw [h1]
                exact ⟨_, rfl⟩
              have h1 := (own3.lt hb).1
              have h2 := own.lt (e.symm.trans hb)
              have h3 := hE2.size
              omega
            go_wp2_with (refine appbc_law (base := w.heap.size) (Y := (partS dg S key) (2 * k + s)) rfl rfl rfl rfl (by rw [add_plain]; exact hBa.cell (i := 0) rfl) own4 (hY.ext hEa) hne (hEw.trans hEa).size (by omega) ?_; intro P5 d5 w5 own5 g5)
            go_roundw
            case rel =>
              rw [← range_snoc] at own5
              exact ⟨s + 1, d5, P5, by omega, by go_num, rfl, own5, (hEw.trans hEa).then_grown g5 (fun b hb => (own4.lt hb).1)⟩
            case measure => simp [intOf]; omega
        · obtain rfl : s = 2 := by omega
          go_wp2_with fail
          go_roundw
          case rel => exact ⟨k + 1, d2, P, by omega, by go_num, rfl, own, hEr⟩
          case measure => simp [intOf]; omega
    · obtain rfl : k = 32 := by omega
      go_wp2_with fail
      go_ret
      rw [← Hdg.out]
      exact ⟨P, d2, rfl, own, hEr⟩
end Go.Proofs.YtkndgpjamijbbaaGreat
