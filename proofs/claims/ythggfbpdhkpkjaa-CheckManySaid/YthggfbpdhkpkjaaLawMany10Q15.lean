/-
  once.Digest, Secret, Shown and told, walked; an append to a row of byte slices.
-/
import Derived.Test.YthggfbpdhkpkjaaLawMany10Q14
import Derived.Maps.AppendAt
namespace Go.Proofs.Ythggfbpdhkpkjaa
set_option maxRecDepth 100000
open Go Go.RowKit
/-- a key's number, as 32 bits -/
def keyW (key : Int) : UInt32 := UInt32.ofNat (key % 4294967296).toNat
def byteI (x : Int) : UInt8 := UInt8.ofNat (x % 256).toNat
theorem conv_key {P : Program} {w : World} {s t : TypeId} (hs : P.underlying s = some (.int .i64)) (ht : P.underlying t = some (.int .u32)) (x : Int) : (convert s t (.int .i64 x)).run P w = .ok (.int .u32 (u32i (keyW x))) w := by
  have e : IntKind.u32.wrap x = u32i (keyW x) := by
    rw [IntKind.wrap_u32]
    unfold u32i keyW
    rw [UInt32.toNat_ofNat']
    omega
  simp [convert, run_underlying hs, run_underlying ht, Conv.intToInt, e]
theorem conv_byte {P : Program} {w : World} {s t : TypeId} (hs : P.underlying s = some (.int .i64)) (ht : P.underlying t = some (.int .u8)) (x : Int) : (convert s t (.int .i64 x)).run P w = .ok (.int .u8 (u8i (byteI x))) w := by
  have e : IntKind.u8.wrap x = u8i (byteI x) := by
    rw [IntKind.wrap_u8]
    unfold u8i byteI
    rw [UInt8.toNat_ofNat']
    omega
  simp [convert, run_underlying hs, run_underlying ht, Conv.intToInt, e]
theorem conv_u32_i64' {P : Program} {w : World} {s t : TypeId} (hs : P.underlying s = some (.int .u32)) (ht : P.underlying t = some (.int .i64)) (x : UInt32) : (convert s t (.int .u32 (u32i x))).run P w = .ok (.int .i64 (u32i x)) w := by
  have e : IntKind.i64.wrap (u32i x) = u32i x := by
    have := x.toNat_lt
    unfold u32i
    rw [IntKind.wrap_i64]
    omega
  simp [convert, run_underlying hs, run_underlying ht, Conv.intToInt, e]
theorem bits_or32' (x y : UInt32) : bits .or .u32 (u32i x) (u32i y) = u32i (x ||| y) := by
  have h1 : BitVec.ofInt (IntKind.u32).bits (u32i x) = x.toBitVec := bitvec_u32 x
  have h2 : BitVec.ofInt (IntKind.u32).bits (u32i y) = y.toBitVec := bitvec_u32 y
  unfold bits
  simp only [h1, h2]
  exact u32_wrap_id (x ||| y)
def secretL (S : List UInt8) (key bit side : Int) : List UInt8 := tagged 10 (S ++ [(shr (keyW key) 24).toUInt8, (shr (keyW key) 16).toUInt8, (shr (keyW key) 8).toUInt8, (keyW key).toUInt8, byteI bit, byteI side])
def shownL (S : List UInt8) (key bit side : Int) : List UInt8 := tagged 11 (secretL S key bit side)
def digestW (M : List UInt8) : UInt32 := beP (tagged 13 M) 4
def toldB (d : UInt32) (j side : Nat) : Bool := decide (u32i (shr d (31 - j) &&& 1) = (side : Int))
set_option maxHeartbeats 1000000 in
theorem secret_any (A : Option Addr) (n c : Nat) (S : List UInt8) (key bit side : Int) (w : World) (hr : RB w A n c S) (hn : n ≤ 140737488355000) :
    Calls Try.prog 120 #[.slice A n c, .int .i64 key, .int .i64 bit, .int .i64 side] w fun e w' => ∃ A' c', e = .returned (.slice A' 32 c') ∧ OB w' w.heap.size A' 32 c' (secretL S key bit side) ∧ Ext w w' := by
  have hl := hr.len
  have Hl := Lib.hid hl
  clear hl
  go_enter Try.func120, Try.ntmps120
  go_upto_region 1 with (fail)
  refine seq_ext (n := 3) (by kernel_rfl) [.is (.int .i64 (key)), .is (.int .u32 (u32i (keyW key))), .is (.int .u32 (u32i (keyW key)))] rfl ⟨?_, ?_, ?_, trivial⟩ ?_
  · refine stepE rfl fun sdn sa sw sE sd sk => ?_
    have h1 : sa.eval (.tmp 1) = .int .i64 (key) := sk.old 1 rfl
    exact Runs.move rfl h1 ⟨Ext.refl _, rfl⟩
  · refine stepE rfl fun sdn sa sw sE sd sk => ?_
    have h10 : sa.eval (.tmp 10) = .int .i64 (key) := sk.fact 0 10 rfl (sd 0 rfl)
    exact Runs.conv rfl h10 (conv_key Try.underlying3 Try.underlying101 _) ⟨Ext.refl _, rfl⟩
  · refine stepE rfl fun sdn sa sw sE sd sk => ?_
    have h11 : sa.eval (.tmp 11) = .int .u32 (u32i (keyW key)) := sk.fact 1 11 rfl (sd 1 rfl)
    exact Runs.assign rfl h11 ⟨Ext.refl _, rfl⟩
  intro vals W1 hE hv
  have e0 : vals 0 = .int .i64 (key) := hv 0 (by omega) 10 rfl
  have e1 : vals 1 = .int .u32 (u32i (keyW key)) := hv 1 (by omega) 11 rfl
  have e2 : vals 2 = .int .u32 (u32i (keyW key)) := hv 2 (by omega) 9 rfl
  simp only [putAll, Act.put, List.take_succ_cons, List.take_zero, List.drop_succ_cons, List.drop_zero, List.drop_nil, List.take_nil, Nat.reduceAdd, List.setIfInBounds_toArray, List.set_cons_succ, List.set_cons_zero, e0, e1, e2]
  clear hv e0 e1 e2
  have rS := hr.ext hE
  go_upto_region 2 with (fail)
  refine seq_ext (n := 18) (by kernel_rfl) [.is (.slice (A) (n) (c)), .is (.int .u32 (u32i (keyW key))), .is (.int .u32 (u32i (shr (keyW key) 24))), .is (.int .u8 (u8i ((shr (keyW key) 24)).toUInt8)), .is (.int .u32 (u32i (keyW key))), .is (.int .u32 (u32i (shr (keyW key) 16))), .is (.int .u8 (u8i ((shr (keyW key) 16)).toUInt8)), .is (.int .u32 (u32i (keyW key))), .is (.int .u32 (u32i (shr (keyW key) 8))), .is (.int .u8 (u8i ((shr (keyW key) 8)).toUInt8)), .is (.int .u32 (u32i (keyW key))), .is (.int .u8 (u8i ((keyW key)).toUInt8)), .is (.int .i64 (bit)), .is (.int .u8 (u8i (byteI bit))), .is (.int .i64 (side)), .is (.int .u8 (u8i (byteI side))), .rb ([((shr (keyW key) 24)).toUInt8, ((shr (keyW key) 16)).toUInt8, ((shr (keyW key) 8)).toUInt8, ((keyW key)).toUInt8, (byteI bit), (byteI side)]), .rbb ([S, [((shr (keyW key) 24)).toUInt8, ((shr (keyW key) 16)).toUInt8, ((shr (keyW key) 8)).toUInt8, ((keyW key)).toUInt8, (byteI bit), (byteI side)]])] rfl ⟨?_, ?_, ?_, ?_, ?_, ?_, ?_, ?_, ?_, ?_, ?_, ?_, ?_, ?_, ?_, ?_, ?_, ?_, trivial⟩ ?_
  · refine stepE rfl fun sdn sa sw sE sd sk => ?_
    have h0 : sa.eval (.tmp 0) = .slice (A) (n) (c) := sk.old 0 rfl
    exact Runs.move rfl h0 ⟨Ext.refl _, rfl⟩
  · refine stepE rfl fun sdn sa sw sE sd sk => ?_
    have h9 : sa.eval (.tmp 9) = .int .u32 (u32i (keyW key)) := sk.old 9 rfl
    exact Runs.move rfl h9 ⟨Ext.refl _, rfl⟩
  · refine stepE rfl fun sdn sa sw sE sd sk => ?_
    have h13 : sa.eval (.tmp 13) = .int .u32 (u32i (keyW key)) := sk.fact 1 13 rfl (sd 1 rfl)
    exact Runs.bin rfl h13 rfl (eqGuard_bin rfl) (bin_shr32 _ _ 24 _) ⟨Ext.refl _, rfl⟩
  · refine stepE rfl fun sdn sa sw sE sd sk => ?_
    have h14 : sa.eval (.tmp 14) = .int .u32 (u32i (shr (keyW key) 24)) := sk.fact 2 14 rfl (sd 2 rfl)
    exact Runs.conv rfl h14 (conv_u32_u8 Try.underlying101 Try.underlying5 _) ⟨Ext.refl _, rfl⟩
  · refine stepE rfl fun sdn sa sw sE sd sk => ?_
    have h9 : sa.eval (.tmp 9) = .int .u32 (u32i (keyW key)) := sk.old 9 rfl
    exact Runs.move rfl h9 ⟨Ext.refl _, rfl⟩
  · refine stepE rfl fun sdn sa sw sE sd sk => ?_
    have h16 : sa.eval (.tmp 16) = .int .u32 (u32i (keyW key)) := sk.fact 4 16 rfl (sd 4 rfl)
    exact Runs.bin rfl h16 rfl (eqGuard_bin rfl) (bin_shr32 _ _ 16 _) ⟨Ext.refl _, rfl⟩
  · refine stepE rfl fun sdn sa sw sE sd sk => ?_
    have h17 : sa.eval (.tmp 17) = .int .u32 (u32i (shr (keyW key) 16)) := sk.fact 5 17 rfl (sd 5 rfl)
    exact Runs.conv rfl h17 (conv_u32_u8 Try.underlying101 Try.underlying5 _) ⟨Ext.refl _, rfl⟩
  · refine stepE rfl fun sdn sa sw sE sd sk => ?_
    have h9 : sa.eval (.tmp 9) = .int .u32 (u32i (keyW key)) := sk.old 9 rfl
    exact Runs.move rfl h9 ⟨Ext.refl _, rfl⟩
  · refine stepE rfl fun sdn sa sw sE sd sk => ?_
    have h19 : sa.eval (.tmp 19) = .int .u32 (u32i (keyW key)) := sk.fact 7 19 rfl (sd 7 rfl)
    exact Runs.bin rfl h19 rfl (eqGuard_bin rfl) (bin_shr32 _ _ 8 _) ⟨Ext.refl _, rfl⟩
  · refine stepE rfl fun sdn sa sw sE sd sk => ?_
    have h20 : sa.eval (.tmp 20) = .int .u32 (u32i (shr (keyW key) 8)) := sk.fact 8 20 rfl (sd 8 rfl)
    exact Runs.conv rfl h20 (conv_u32_u8 Try.underlying101 Try.underlying5 _) ⟨Ext.refl _, rfl⟩
  · refine stepE rfl fun sdn sa sw sE sd sk => ?_
    have h9 : sa.eval (.tmp 9) = .int .u32 (u32i (keyW key)) := sk.old 9 rfl
    exact Runs.move rfl h9 ⟨Ext.refl _, rfl⟩
  · refine stepE rfl fun sdn sa sw sE sd sk => ?_
    have h22 : sa.eval (.tmp 22) = .int .u32 (u32i (keyW key)) := sk.fact 10 22 rfl (sd 10 rfl)
    exact Runs.conv rfl h22 (conv_u32_u8 Try.underlying101 Try.underlying5 _) ⟨Ext.refl _, rfl⟩
  · refine stepE rfl fun sdn sa sw sE sd sk => ?_
    have h2 : sa.eval (.tmp 2) = .int .i64 (bit) := sk.old 2 rfl
    exact Runs.move rfl h2 ⟨Ext.refl _, rfl⟩
  · refine stepE rfl fun sdn sa sw sE sd sk => ?_
    have h24 : sa.eval (.tmp 24) = .int .i64 (bit) := sk.fact 12 24 rfl (sd 12 rfl)
    exact Runs.conv rfl h24 (conv_byte Try.underlying3 Try.underlying5 _) ⟨Ext.refl _, rfl⟩
  · refine stepE rfl fun sdn sa sw sE sd sk => ?_
    have h3 : sa.eval (.tmp 3) = .int .i64 (side) := sk.old 3 rfl
    exact Runs.move rfl h3 ⟨Ext.refl _, rfl⟩
  · refine stepE rfl fun sdn sa sw sE sd sk => ?_
    have h26 : sa.eval (.tmp 26) = .int .i64 (side) := sk.fact 14 26 rfl (sd 14 rfl)
    exact Runs.conv rfl h26 (conv_byte Try.underlying3 Try.underlying5 _) ⟨Ext.refl _, rfl⟩
  · refine stepE rfl fun sdn sa sw sE sd sk => ?_
    have h15 : sa.eval (.tmp 15) = .int .u8 (u8i ((shr (keyW key) 24)).toUInt8) := sk.fact 3 15 rfl (sd 3 rfl)
    have h18 : sa.eval (.tmp 18) = .int .u8 (u8i ((shr (keyW key) 16)).toUInt8) := sk.fact 6 18 rfl (sd 6 rfl)
    have h21 : sa.eval (.tmp 21) = .int .u8 (u8i ((shr (keyW key) 8)).toUInt8) := sk.fact 9 21 rfl (sd 9 rfl)
    have h23 : sa.eval (.tmp 23) = .int .u8 (u8i ((keyW key)).toUInt8) := sk.fact 11 23 rfl (sd 11 rfl)
    have h25 : sa.eval (.tmp 25) = .int .u8 (u8i (byteI bit)) := sk.fact 13 25 rfl (sd 13 rfl)
    have h27 : sa.eval (.tmp 27) = .int .u8 (u8i (byteI side)) := sk.fact 15 27 rfl (sd 15 rfl)
    exact Runs.lit6 rfl h15 h18 h21 h23 h25 h27 (fun w1 e1 o1 => ⟨e1, _, _, _, rfl, o1.rb⟩)
  · refine stepE rfl fun sdn sa sw sE sd sk => ?_
    have h12 : sa.eval (.tmp 12) = .slice (A) (n) (c) := sk.fact 0 12 rfl (sd 0 rfl)
    obtain ⟨A28, n28, c28, h28, r28⟩ := sk.fact 16 28 rfl (sd 16 rfl)
    exact Runs.ss2 rfl h12 h28 (rS.ext sE) r28 (fun w1 e1 b1 => ⟨e1, _, _, _, rfl, b1⟩)
  intro vals W2 hE2 hv2
  have e0 : vals 0 = .slice (A) (n) (c) := hv2 0 (by omega) 12 rfl
  have e1 : vals 1 = .int .u32 (u32i (keyW key)) := hv2 1 (by omega) 13 rfl
  have e2 : vals 2 = .int .u32 (u32i (shr (keyW key) 24)) := hv2 2 (by omega) 14 rfl
  have e3 : vals 3 = .int .u8 (u8i ((shr (keyW key) 24)).toUInt8) := hv2 3 (by omega) 15 rfl
  have e4 : vals 4 = .int .u32 (u32i (keyW key)) := hv2 4 (by omega) 16 rfl
  have e5 : vals 5 = .int .u32 (u32i (shr (keyW key) 16)) := hv2 5 (by omega) 17 rfl
  have e6 : vals 6 = .int .u8 (u8i ((shr (keyW key) 16)).toUInt8) := hv2 6 (by omega) 18 rfl
  have e7 : vals 7 = .int .u32 (u32i (keyW key)) := hv2 7 (by omega) 19 rfl
  have e8 : vals 8 = .int .u32 (u32i (shr (keyW key) 8)) := hv2 8 (by omega) 20 rfl
  have e9 : vals 9 = .int .u8 (u8i ((shr (keyW key) 8)).toUInt8) := hv2 9 (by omega) 21 rfl
  have e10 : vals 10 = .int .u32 (u32i (keyW key)) := hv2 10 (by omega) 22 rfl
  have e11 : vals 11 = .int .u8 (u8i ((keyW key)).toUInt8) := hv2 11 (by omega) 23 rfl
  have e12 : vals 12 = .int .i64 (bit) := hv2 12 (by omega) 24 rfl
  have e13 : vals 13 = .int .u8 (u8i (byteI bit)) := hv2 13 (by omega) 25 rfl
  have e14 : vals 14 = .int .i64 (side) := hv2 14 (by omega) 26 rfl
  have e15 : vals 15 = .int .u8 (u8i (byteI side)) := hv2 15 (by omega) 27 rfl
  obtain ⟨A28, n28, c28, e16, r28⟩ := hv2 16 (by omega) 28 rfl
  obtain ⟨A29, n29, c29, e17, r29⟩ := hv2 17 (by omega) 29 rfl
  simp only [putAll, Act.put, List.take_succ_cons, List.take_zero, List.drop_succ_cons, List.drop_zero, List.drop_nil, List.take_nil, Nat.reduceAdd, List.setIfInBounds_toArray, List.set_cons_succ, List.set_cons_zero, e0, e1, e2, e3, e4, e5, e6, e7, e8, e9, e10, e11, e12, e13, e14, e15, e16, e17]
  clear hv2 e0 e1 e2 e3 e4 e5 e6 e7 e8 e9 e10 e11 e12 e13 e14 e15 e16 e17
  have ht := htagged_any 10 A29 n29 c29 _ W2 r29 (by simp only [List.flatten_cons, List.flatten_nil, List.length_append, List.length_nil, List.length_cons, Hl.out]; omega)
  have e10 : u8i 10 = 10 := rfl
  rw [e10, show [S, [(shr (keyW key) 24).toUInt8, (shr (keyW key) 16).toUInt8, (shr (keyW key) 8).toUInt8, (keyW key).toUInt8, byteI bit, byteI side]].flatten = S ++ [(shr (keyW key) 24).toUInt8, (shr (keyW key) 16).toUInt8, (shr (keyW key) 8).toUInt8, (keyW key).toUInt8, byteI bit, byteI side] from by simp] at ht
  have Ht := Lib.hid ht
  clear ht
  go_wp2_with fail
  refine Ht.out.mono ?_
  rintro e w3 ⟨A3, c3, rfl, own, hE3⟩
  go_wp2_with fail
  go_ret
  exact ⟨A3, c3, rfl, own.base (hE.trans hE2).size, (hE.trans hE2).trans hE3⟩
set_option maxHeartbeats 1000000 in
theorem shown_any (A : Option Addr) (n c : Nat) (S : List UInt8) (key bit side : Int) (w : World) (hr : RB w A n c S) (hn : n ≤ 140737488355000) :
    Calls Try.prog 121 #[.slice A n c, .int .i64 key, .int .i64 bit, .int .i64 side] w fun e w' => ∃ A' c', e = .returned (.slice A' 32 c') ∧ OB w' w.heap.size A' 32 c' (shownL S key bit side) ∧ Ext w w' := by
  go_enter Try.func121, Try.ntmps121
  go_wp2_with fail
  refine (secret_any A n c S key bit side w hr hn).mono ?_
  rintro e w1 ⟨A1, c1, rfl, own1, hE1⟩
  have r1 := RBB.of1 own1.rb 22
  have hE2 := Ext.new w1 (.cells #[.slice A1 32 c1] 22)
  have ht := htagged_any 11 _ 1 1 _ _ r1 (by simp only [List.flatten_cons, List.flatten_nil, List.append_nil, secretL, tagged_length]; omega)
  have e11 : u8i 11 = 11 := rfl
  rw [e11, show [secretL S key bit side].flatten = secretL S key bit side from by simp] at ht
  have Ht := Lib.hid ht
  clear ht
  go_wp2_with fail
  refine Ht.out.mono ?_
  rintro e w3 ⟨A3, c3, rfl, own, hE3⟩
  go_wp2_with fail
  go_ret
  exact ⟨A3, c3, rfl, own.base (hE1.trans hE2).size, (hE1.trans hE2).trans hE3⟩
set_option maxHeartbeats 1000000 in
theorem told_any (d : UInt32) (j side : Nat) (w : World) (hj : j < 32) :
    Calls Try.prog 116 #[.int .u32 (u32i d), .int .i64 (j : Int), .int .i64 (side : Int)] w fun e w' => e = .returned (.bool (toldB d j side)) ∧ Ext w w' := by
  go_enter Try.func116, Try.ntmps116
  go_upto_region 1 with (fail)
  refine seq_ext (n := 9) (by kernel_rfl) [.is (.int .u32 (u32i (d))), .is (.int .i64 (((j : Nat) : Int))), .is (.int .i64 ((31 : Int) - ((j : Nat) : Int))), .is (.int .u32 (u32i (shr d (31 - j)))), .is (.int .u32 (u32i ((shr d (31 - j)) &&& (1 : UInt32)))), .is (.int .i64 (u32i (shr d (31 - j) &&& 1))), .is (.int .i64 (((side : Nat) : Int))), .is (.bool (decide (u32i (shr d (31 - j) &&& 1) = ((side : Nat) : Int)))), .is (.bool (decide (u32i (shr d (31 - j) &&& 1) = ((side : Nat) : Int))))] rfl ⟨?_, ?_, ?_, ?_, ?_, ?_, ?_, ?_, ?_, trivial⟩ ?_
  · refine stepE rfl fun sdn sa sw sE sd sk => ?_
    have h0 : sa.eval (.tmp 0) = .int .u32 (u32i (d)) := sk.old 0 rfl
    exact Runs.move rfl h0 ⟨Ext.refl _, rfl⟩
  · refine stepE rfl fun sdn sa sw sE sd sk => ?_
    have h1 : sa.eval (.tmp 1) = .int .i64 (((j : Nat) : Int)) := sk.old 1 rfl
    exact Runs.move rfl h1 ⟨Ext.refl _, rfl⟩
  · refine stepE rfl fun sdn sa sw sE sd sk => ?_
    have h8 : sa.eval (.tmp 8) = .int .i64 (((j : Nat) : Int)) := sk.fact 1 8 rfl (sd 1 rfl)
    exact Runs.bin rfl rfl h8 (eqGuard_bin rfl) (bin_sub64 _ _ _ (by omega) (by omega)) ⟨Ext.refl _, rfl⟩
  · refine stepE rfl fun sdn sa sw sE sd sk => ?_
    have h7 : sa.eval (.tmp 7) = .int .u32 (u32i (d)) := sk.fact 0 7 rfl (sd 0 rfl)
    have h9 : sa.eval (.tmp 9) = .int .i64 ((31 : Int) - ((j : Nat) : Int)) := sk.fact 2 9 rfl (sd 2 rfl)
    exact Runs.bin rfl h7 h9 (eqGuard_bin rfl) (bin_shr32 _ _ (31 - j) _ (by omega) (by omega)) ⟨Ext.refl _, rfl⟩
  · refine stepE rfl fun sdn sa sw sE sd sk => ?_
    have h10 : sa.eval (.tmp 10) = .int .u32 (u32i (shr d (31 - j))) := sk.fact 3 10 rfl (sd 3 rfl)
    have hone : (.int .u32 1 : Value) = .int .u32 (u32i (1 : UInt32)) := rfl
    exact Runs.bin (v := .int .u32 (u32i (1 : UInt32))) rfl h10 hone (eqGuard_bin rfl) (bin_and32 _ _ (1 : UInt32)) ⟨Ext.refl _, rfl⟩
  · refine stepE rfl fun sdn sa sw sE sd sk => ?_
    have h11 : sa.eval (.tmp 11) = .int .u32 (u32i ((shr d (31 - j)) &&& (1 : UInt32))) := sk.fact 4 11 rfl (sd 4 rfl)
    exact Runs.conv rfl h11 (conv_u32_i64' Try.underlying101 Try.underlying3 _) ⟨Ext.refl _, rfl⟩
  · refine stepE rfl fun sdn sa sw sE sd sk => ?_
    have h2 : sa.eval (.tmp 2) = .int .i64 (((side : Nat) : Int)) := sk.old 2 rfl
    exact Runs.move rfl h2 ⟨Ext.refl _, rfl⟩
  · refine stepE rfl fun sdn sa sw sE sd sk => ?_
    have h12 : sa.eval (.tmp 12) = .int .i64 (u32i (shr d (31 - j) &&& 1)) := sk.fact 5 12 rfl (sd 5 rfl)
    have h13 : sa.eval (.tmp 13) = .int .i64 (((side : Nat) : Int)) := sk.fact 6 13 rfl (sd 6 rfl)
    exact Runs.bin rfl h12 h13 (by rfl) (bin_eql _ _ _ _) ⟨Ext.refl _, rfl⟩
  · refine stepE rfl fun sdn sa sw sE sd sk => ?_
    have h14 : sa.eval (.tmp 14) = .bool (decide (u32i (shr d (31 - j) &&& 1) = ((side : Nat) : Int))) := sk.fact 7 14 rfl (sd 7 rfl)
    exact Runs.assign rfl h14 ⟨Ext.refl _, rfl⟩
  intro vals W1 hE hv
  have e0 : vals 0 = .int .u32 (u32i (d)) := hv 0 (by omega) 7 rfl
  have e1 : vals 1 = .int .i64 (((j : Nat) : Int)) := hv 1 (by omega) 8 rfl
  have e2 : vals 2 = .int .i64 ((31 : Int) - ((j : Nat) : Int)) := hv 2 (by omega) 9 rfl
  have e3 : vals 3 = .int .u32 (u32i (shr d (31 - j))) := hv 3 (by omega) 10 rfl
  have e4 : vals 4 = .int .u32 (u32i ((shr d (31 - j)) &&& (1 : UInt32))) := hv 4 (by omega) 11 rfl
  have e5 : vals 5 = .int .i64 (u32i (shr d (31 - j) &&& 1)) := hv 5 (by omega) 12 rfl
  have e6 : vals 6 = .int .i64 (((side : Nat) : Int)) := hv 6 (by omega) 13 rfl
  have e7 : vals 7 = .bool (decide (u32i (shr d (31 - j) &&& 1) = ((side : Nat) : Int))) := hv 7 (by omega) 14 rfl
  have e8 : vals 8 = .bool (decide (u32i (shr d (31 - j) &&& 1) = ((side : Nat) : Int))) := hv 8 (by omega) 6 rfl
  simp only [putAll, Act.put, List.take_succ_cons, List.take_zero, List.drop_succ_cons, List.drop_zero, List.drop_nil, List.take_nil, Nat.reduceAdd, List.setIfInBounds_toArray, List.set_cons_succ, List.set_cons_zero, e0, e1, e2, e3, e4, e5, e6, e7, e8]
  clear hv e0 e1 e2 e3 e4 e5 e6 e7 e8
  go_wp2_with fail
  go_ret
  exact ⟨rfl, hE⟩
set_option maxHeartbeats 1000000 in
theorem digest_any (A : Option Addr) (n c : Nat) (M : List UInt8) (w : World) (hr : RB w A n c M) (hn : n ≤ 140737488355000) :
    Calls Try.prog 115 #[.slice A n c] w fun e w' => e = .returned (.int .u32 (u32i (digestW M))) ∧ Ext w w' := by
  have hl := hr.len
  have r1 := RBB.of1 hr 22
  have hE2 := Ext.new w (.cells #[.slice A n c] 22)
  have ht := htagged_any 13 _ 1 1 _ _ r1 (by simp only [List.flatten_cons, List.flatten_nil, List.append_nil, hl]; omega)
  have e13 : u8i 13 = 13 := rfl
  rw [e13, show [M].flatten = M from by simp] at ht
  have Ht := Lib.hid ht
  clear ht hl
  go_enter Try.func115, Try.ntmps115
  go_wp2_with fail
  refine Ht.out.mono ?_
  rintro e w3 ⟨A3, c3, rfl, own, hE3⟩
  obtain ⟨T, hT⟩ : ∃ T, T = tagged 13 M := ⟨_, rfl⟩
  rw [← hT] at own
  have HT := Lib.hid hT
  clear hT
  have r3 := own.rb
  have hc3 := r3.room
  have hc4 := r3.cap
  unfold maxLen at hc4
  obtain ⟨ad, rfl, hc⟩ := r3.cells (by omega)
  go_wp2_with fail
  go_loop [3, 11] (fun v i => ∃ k : Nat, k ≤ 4 ∧ i = .int .i64 k ∧ v = .int .u32 (u32i (beP T k))) (fun _ i => 4 - (intOf i).toNat)
  case atStart => exact ⟨0, by omega, rfl, rfl⟩
  case round =>
    obtain ⟨k, hk, rfl, rfl⟩ := hrel
    by_cases hlt : k < 4
    · have y1 := hc k (by omega)
      have e2 := fun w' : World => conv_u8_u32 (P := Try.prog) (w := w') Try.underlying5 Try.underlying101 (ub T k)
      have e3 : u32i (beP T k) * 256 % 4294967296 = u32i (shl (beP T k) 8) := by
        unfold u32i
        rw [shl_toNat]
        omega
      have e4 := bits_or32' (shl (beP T k) 8) (ub T k).toUInt32
      go_wp2_with fail
      go_round
      case rel => exact ⟨k + 1, by omega, by go_num, rfl⟩
      case measure => simp [intOf]; omega
    · obtain rfl : k = 4 := by omega
      go_wp2_with fail
      go_ret
      exact ⟨by rw [HT.out]; rfl, hE2.trans hE3⟩
end Go.Proofs.Ythggfbpdhkpkjaa
