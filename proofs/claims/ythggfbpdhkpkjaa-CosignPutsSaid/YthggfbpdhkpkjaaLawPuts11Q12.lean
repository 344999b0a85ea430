/-
  once.Digest, Secret, Shown and told, walked; an append to a row of byte slices. once.parts, Public and Sign, walked.
-/
import Derived.Test.YthggfbpdhkpkjaaLawPuts11Q10
import Derived.Test.YthggfbpdhkpkjaaLawPuts11Q11
import Derived.Maps.AppendAt
namespace Go.Proofs.Ythggfbpdhkpkjaa
set_option maxRecDepth 100000
open Go Go.RowKit
/-- a key's number, as 32 bits -/
def keyW (key : Int) : UInt32 := UInt32.ofNat (key % 4294967296).toNat
def byteI (x : Int) : UInt8 := UInt8.ofNat (x % 256).toNat
theorem conv_key {P : Program} {w : World} {s t : TypeId} (hs : P.underlying s = some (.int .i64)) (ht : P.underlying t = some (.int .u32)) (x : Int) : (convert s t (.int .i64 x)).run P w = .ok (.int .u32 (u32i (keyW x))) w := by
  have e : IntKind.u32.wrap x = u32i (keyW x) := by
    rw [IntKind.wrap_u32]
    unfold u32i keyW
    rw [UInt32.toNat_ofNat']
    omega
  simp [convert, run_underlying hs, run_underlying ht, Conv.intToInt, e]
theorem conv_byte {P : Program} {w : World} {s t : TypeId} (hs : P.underlying s = some (.int .i64)) (ht : P.underlying t = some (.int .u8)) (x : Int) : (convert s t (.int .i64 x)).run P w = .ok (.int .u8 (u8i (byteI x))) w := by
  have e : IntKind.u8.wrap x = u8i (byteI x) := by
    rw [IntKind.wrap_u8]
    unfold u8i byteI
    rw [UInt8.toNat_ofNat']
    omega
  simp [convert, run_underlying hs, run_underlying ht, Conv.intToInt, e]
theorem conv_u32_i64' {P : Program} {w : World} {s t : TypeId} (hs : P.underlying s = some (.int .u32)) (ht : P.underlying t = some (.int .i64)) (x : UInt32) : (convert s t (.int .u32 (u32i x))).run P w = .ok (.int .i64 (u32i x)) w := by
  have e : IntKind.i64.wrap (u32i x) = u32i x := by
    have := x.toNat_lt
    unfold u32i
    rw [IntKind.wrap_i64]
    omega
  simp [convert, run_underlying hs, run_underlying ht, Conv.intToInt, e]
theorem bits_or32' (x y : UInt32) : bits .or .u32 (u32i x) (u32i y) = u32i (x ||| y) := by
  have h1 : BitVec.ofInt (IntKind.u32).bits (u32i x) = x.toBitVec := bitvec_u32 x
  have h2 : BitVec.ofInt (IntKind.u32).bits (u32i y) = y.toBitVec := bitvec_u32 y
  unfold bits
  simp only [h1, h2]
  exact u32_wrap_id (x ||| y)
def secretL (S : List UInt8) (key bit side : Int) : List UInt8 := tagged 10 (S ++ [(shr (keyW key) 24).toUInt8, (shr (keyW key) 16).toUInt8, (shr (keyW key) 8).toUInt8, (keyW key).toUInt8, byteI bit, byteI side])
def shownL (S : List UInt8) (key bit side : Int) : List UInt8 := tagged 11 (secretL S key bit side)
def digestW (M : List UInt8) : UInt32 := beP (tagged 13 M) 4
def toldB (d : UInt32) (j side : Nat) : Bool := decide (u32i (shr d (31 - j) &&& 1) = (side : Int))
set_option maxHeartbeats 1000000 in
theorem secret_any (A : Option Addr) (n c : Nat) (S : List UInt8) (key bit side : Int) (w : World) (hr : RB w A n c S) (hn : n ≤ 140737488355000) :
    Calls Try.prog 120 #[.slice A n c, .int .i64 key, .int .i64 bit, .int .i64 side] w fun e w' => ∃ A' c', e = .returned (.slice A' 32 c') ∧ OB w' w.heap.size A' 32 c' (secretL S key bit side) ∧ Ext w w' := by
  have hl := hr.len
  have Hl := Lib.hid hl
  clear hl
  go_enter Try.func120, Try.ntmps120
  go_upto_region 1 with (fail)
  refine seq_ext (n := 3) (by kernel_rfl) [.is (.int .i64 (key)), .is (.int .u32 (u32i (keyW key))), .is (.int .u32 (u32i (keyW key)))] rfl ⟨?_, ?_, ?_, trivial⟩ ?_
  · refine stepE rfl fun sdn sa sw sE sd sk => ?_
    have h1 : sa.eval (.tmp 1) = .int .i64 (key) := sk.old 1 rfl
    exact Runs.move rfl h1 ⟨Ext.refl _, rfl⟩
  · refine stepE rfl fun sdn sa sw sE sd sk => ?_
    have h10 : sa.eval (.tmp 10) = .int .i64 (key) := sk.fact 0 10 rfl (sd 0 rfl)
    exact Runs.conv rfl h10 (conv_key Try.underlying3 Try.underlying101 _) ⟨Ext.refl _, rfl⟩
  · refine stepE rfl fun sdn sa sw sE sd sk => ?_
    have h11 : sa.eval (.tmp 11) = .int .u32 (u32i (keyW key)) := sk.fact 1 11 rfl (sd 1 rfl)
    exact Runs.assign rfl h11 ⟨Ext.refl _, rfl⟩
  intro vals W1 hE hv
  have e0 : vals 0 = .int .i64 (key) := hv 0 (by omega) 10 rfl
  have e1 : vals 1 = .int .u32 (u32i (keyW key)) := hv 1 (by omega) 11 rfl
  have e2 : vals 2 = .int .u32 (u32i (keyW key)) := hv 2 (by omega) 9 rfl
  simp only [putAll, Act.put, List.take_succ_cons, List.take_zero, List.drop_succ_cons, List.drop_zero, List.drop_nil, List.take_nil, Nat.reduceAdd, List.setIfInBounds_toArray, List.set_cons_succ, List.set_cons_zero, e0, e1, e2]
  clear hv e0 e1 e2
  have rS := hr.ext hE
  go_upto_region 2 with (fail)
  refine seq_ext (n := 18) (by kernel_rfl) [.is (.slice (A) (n) (c)), .is (.int .u32 (u32i (keyW key))), .is (.int .u32 (u32i (shr (keyW key) 24))), .is (.int .u8 (u8i ((shr (keyW key) 24)).toUInt8)), .is (.int .u32 (u32i (keyW key))), .is (.int .u32 (u32i (shr (keyW key) 16))), .is (.int .u8 (u8i ((shr (keyW key) 16)).toUInt8)), .is (.int .u32 (u32i (keyW key))), .is (.int .u32 (u32i (shr (keyW key) 8))), .is (.int .u8 (u8i ((shr (keyW key) 8)).toUInt8)), .is (.int .u32 (u32i (keyW key))), .is (.int .u8 (u8i ((keyW key)).toUInt8)), .is (.int .i64 (bit)), .is (.int .u8 (u8i (byteI bit))), .is (.int .i64 (side)), .is (.int .u8 (u8i (byteI side))), .rb ([((shr (keyW key) 24)).toUInt8, ((shr (keyW key) 16)).toUInt8, ((shr (keyW key) 8)).toUInt8, ((keyW key)).toUInt8, (byteI bit), (byteI side)]), .rbb ([S, [((shr (keyW key) 24)).toUInt8, ((shr (keyW key) 16)).toUInt8, ((shr (keyW key) 8)).toUInt8, ((keyW key)).toUInt8, (byteI bit), (byteI side)]])] rfl ⟨?_, ?_, ?_, ?_, ?_, ?_, ?_, ?_, ?_, ?_, ?_, ?_, ?_, ?_, ?_, ?_, ?_, ?_, trivial⟩ ?_
  · refine stepE rfl fun sdn sa sw sE sd sk => ?_
    have h0 : sa.eval (.tmp 0) = .slice (A) (n) (c) := sk.old 0 rfl
    exact Runs.move rfl h0 ⟨Ext.refl _, rfl⟩
  · refine stepE rfl fun sdn sa sw sE sd sk => ?_
    have h9 : sa.eval (.tmp 9) = .int .u32 (u32i (keyW key)) := sk.old 9 rfl
    exact Runs.move rfl h9 ⟨Ext.refl _, rfl⟩
  · refine stepE rfl fun sdn sa sw sE sd sk => ?_
    have h13 : sa.eval (.tmp 13) = .int .u32 (u32i (keyW key)) := sk.fact 1 13 rfl (sd 1 rfl)
    exact Runs.bin rfl h13 rfl (eqGuard_bin rfl) (bin_shr32 _ _ 24 _) ⟨Ext.refl _, rfl⟩
  · refine stepE rfl fun sdn sa sw sE sd sk => ?_
    have h14 : sa.eval (.tmp 14) = .int .u32 (u32i (shr (keyW key) 24)) := sk.fact 2 14 rfl (sd 2 rfl)
    exact Runs.conv rfl h14 (conv_u32_u8 Try.underlying101 Try.underlying5 _) ⟨Ext.refl _, rfl⟩
  · refine stepE rfl fun sdn sa sw sE sd sk => ?_
    have h9 : sa.eval (.tmp 9) = .int .u32 (u32i (keyW key)) := sk.old 9 rfl
    exact Runs.move rfl h9 ⟨Ext.refl _, rfl⟩
  · refine stepE rfl fun sdn sa sw sE sd sk => ?_
    have h16 : sa.eval (.tmp 16) = .int .u32 (u32i (keyW key)) := sk.fact 4 16 rfl (sd 4 rfl)
    exact Runs.bin rfl h16 rfl (eqGuard_bin rfl) (bin_shr32 _ _ 16 _) ⟨Ext.refl _, rfl⟩
  · refine stepE rfl fun sdn sa sw sE sd sk => ?_
    have h17 : sa.eval (.tmp 17) = .int .u32 (u32i (shr (keyW key) 16)) := sk.fact 5 17 rfl (sd 5 rfl)
    exact Runs.conv rfl h17 (conv_u32_u8 Try.underlying101 Try.underlying5 _) ⟨Ext.refl _, rfl⟩
  · refine stepE rfl fun sdn sa sw sE sd sk => ?_
    have h9 : sa.eval (.tmp 9) = .int .u32 (u32i (keyW key)) := sk.old 9 rfl
    exact Runs.move rfl h9 ⟨Ext.refl _, rfl⟩
  · refine stepE rfl fun sdn sa sw sE sd sk => ?_
    have h19 : sa.eval (.tmp 19) = .int .u32 (u32i (keyW key)) := sk.fact 7 19 rfl (sd 7 rfl)
    exact Runs.bin rfl h19 rfl (eqGuard_bin rfl) (bin_shr32 _ _ 8 _) ⟨Ext.refl _, rfl⟩
  · refine stepE rfl fun sdn sa sw sE sd sk => ?_
    have h20 : sa.eval (.tmp 20) = .int .u32 (u32i (shr (keyW key) 8)) := sk.fact 8 20 rfl (sd 8 rfl)
    exact Runs.conv rfl h20 (conv_u32_u8 Try.underlying101 Try.underlying5 _) ⟨Ext.refl _, rfl⟩
  · refine stepE rfl fun sdn sa sw sE sd sk => ?_
    have h9 : sa.eval (.tmp 9) = .int .u32 (u32i (keyW key)) := sk.old 9 rfl
    exact Runs.move rfl h9 ⟨Ext.refl _, rfl⟩
  · refine stepE rfl fun sdn sa sw sE sd sk => ?_
    have h22 : sa.eval (.tmp 22) = .int .u32 (u32i (keyW key)) := sk.fact 10 22 rfl (sd 10 rfl)
    exact Runs.conv rfl h22 (conv_u32_u8 Try.underlying101 Try.underlying5 _) ⟨Ext.refl _, rfl⟩
  · refine stepE rfl fun sdn sa sw sE sd sk => ?_
    have h2 : sa.eval (.tmp 2) = .int .i64 (bit) := sk.old 2 rfl
    exact Runs.move rfl h2 ⟨Ext.refl _, rfl⟩
  · refine stepE rfl fun sdn sa sw sE sd sk => ?_
    have h24 : sa.eval (.tmp 24) = .int .i64 (bit) := sk.fact 12 24 rfl (sd 12 rfl)
    exact Runs.conv rfl h24 (conv_byte Try.underlying3 Try.underlying5 _) ⟨Ext.refl _, rfl⟩
  · refine stepE rfl fun sdn sa sw sE sd sk => ?_
    have h3 : sa.eval (.tmp 3) = .int .i64 (side) := sk.old 3 rfl
    exact Runs.move rfl h3 ⟨Ext.refl _, rfl⟩
  · refine stepE rfl fun sdn sa sw sE sd sk => ?_
    have h26 : sa.eval (.tmp 26) = .int .i64 (side) := sk.fact 14 26 rfl (sd 14 rfl)
    exact Runs.conv rfl h26 (conv_byte Try.underlying3 Try.underlying5 _) ⟨Ext.refl _, rfl⟩
  · refine stepE rfl fun sdn sa sw sE sd sk => ?_
    have h15 : sa.eval (.tmp 15) = .int .u8 (u8i ((shr (keyW key) 24)).toUInt8) := sk.fact 3 15 rfl (sd 3 rfl)
    have h18 : sa.eval (.tmp 18) = .int .u8 (u8i ((shr (keyW key) 16)).toUInt8) := sk.fact 6 18 rfl (sd 6 rfl)
    have h21 : sa.eval (.tmp 21) = .int .u8 (u8i ((shr (keyW key) 8)).toUInt8) := sk.fact 9 21 rfl (sd 9 rfl)
    have h23 : sa.eval (.tmp 23) = .int .u8 (u8i ((keyW key)).toUInt8) := sk.fact 11 23 rfl (sd 11 rfl)
    have h25 : sa.eval (.tmp 25) = .int .u8 (u8i (byteI bit)) := sk.fact 13 25 rfl (sd 13 rfl)
    have h27 : sa.eval (.tmp 27) = .int .u8 (u8i (byteI side)) := sk.fact 15 27 rfl (sd 15 rfl)
    exact Runs.lit6 rfl h15 h18 h21 h23 h25 h27 (fun w1 e1 o1 => ⟨e1, _, _, _, rfl, o1.rb⟩)
  · refine stepE rfl fun sdn sa sw sE sd sk => ?_
    have h12 : sa.eval (.tmp 12) = .slice (A) (n) (c) := sk.fact 0 12 rfl (sd 0 rfl)
    obtain ⟨A28, n28, c28, h28, r28⟩ := sk.fact 16 28 rfl (sd 16 rfl)
    exact Runs.ss2 rfl h12 h28 (rS.ext sE) r28 (fun w1 e1 b1 => ⟨e1, _, _, _, rfl, b1⟩)
  intro vals W2 hE2 hv2
  have e0 : vals 0 = .slice (A) (n) (c) := hv2 0 (by omega) 12 rfl
  have e1 : vals 1 = .int .u32 (u32i (keyW key)) := hv2 1 (by omega) 13 rfl
  have e2 : vals 2 = .int .u32 (u32i (shr (keyW key) 24)) := hv2 2 (by omega) 14 rfl
  have e3 : vals 3 = .int .u8 (u8i ((shr (keyW key) 24)).toUInt8) := hv2 3 (by omega) 15 rfl
  have e4 : vals 4 = .int .u32 (u32i (keyW key)) := hv2 4 (by omega) 16 rfl
  have e5 : vals 5 = .int .u32 (u32i (shr (keyW key) 16)) := hv2 5 (by omega) 17 rfl
  have e6 : vals 6 = .int .u8 (u8i ((shr (keyW key) 16)).toUInt8) := hv2 6 (by omega) 18 rfl
  have e7 : vals 7 = .int .u32 (u32i (keyW key)) := hv2 7 (by omega) 19 rfl
  have e8 : vals 8 = .int .u32 (u32i (shr (keyW key) 8)) := hv2 8 (by omega) 20 rfl
  have e9 : vals 9 = .int .u8 (u8i ((shr (keyW key) 8)).toUInt8) := hv2 9 (by omega) 21 rfl
  have e10 : vals 10 = .int .u32 (u32i (keyW key)) := hv2 10 (by omega) 22 rfl
  have e11 : vals 11 = .int .u8 (u8i ((keyW key)).toUInt8) := hv2 11 (by omega) 23 rfl
  have e12 : vals 12 = .int .i64 (bit) := hv2 12 (by omega) 24 rfl
  have e13 : vals 13 = .int .u8 (u8i (byteI bit)) := hv2 13 (by omega) 25 rfl
  have e14 : vals 14 = .int .i64 (side) := hv2 14 (by omega) 26 rfl
  have e15 : vals 15 = .int .u8 (u8i (byteI side)) := hv2 15 (by omega) 27 rfl
  obtain ⟨A28, n28, c28, e16, r28⟩ := hv2 16 (by omega) 28 rfl
  obtain ⟨A29, n29, c29, e17, r29⟩ := hv2 17 (by omega) 29 rfl
  simp only [putAll, Act.put, List.take_succ_cons, List.take_zero, List.drop_succ_cons, List.drop_zero, List.drop_nil, List.take_nil, Nat.reduceAdd, List.setIfInBounds_toArray, List.set_cons_succ, List.set_cons_zero, e0, e1, e2, e3, e4, e5, e6, e7, e8, e9, e10, e11, e12, e13, e14, e15, e16, e17]
  clear hv2 e0 e1 e2 e3 e4 e5 e6 e7 e8 e9 e10 e11 e12 e13 e14 e15 e16 e17
  have ht := htagged_any 10 A29 n29 c29 _ W2 r29 (by simp only [List.flatten_cons, List.flatten_nil, List.length_append, List.length_nil, List.length_cons, Hl.out]; omega)
  have e10 : u8i 10 = 10 := rfl
  rw [e10, show [S, [(shr (keyW key) 24).toUInt8, (shr (keyW key) 16).toUInt8, (shr (keyW key) 8).toUInt8, (keyW key).toUInt8, byteI bit, byteI side]].flatten = S ++ [(shr (keyW key) 24).toUInt8, (shr (keyW key) 16).toUInt8, (shr (keyW key) 8).toUInt8, (keyW key).toUInt8, byteI bit, byteI side] from by simp] at ht
  have Ht := Lib.hid ht
  clear ht
  go_wp2_with fail
  refine Ht.out.mono ?_
  rintro e w3 ⟨A3, c3, rfl, own, hE3⟩
  go_wp2_with fail
  go_ret
  exact ⟨A3, c3, rfl, own.base (hE.trans hE2).size, (hE.trans hE2).trans hE3⟩
set_option maxHeartbeats 1000000 in
theorem shown_any (A : Option Addr) (n c : Nat) (S : List UInt8) (key bit side : Int) (w : World) (hr : RB w A n c S) (hn : n ≤ 140737488355000) :
    Calls Try.prog 121 #[.slice A n c, .int .i64 key, .int .i64 bit, .int .i64 side] w fun e w' => ∃ A' c', e = .returned (.slice A' 32 c') ∧ OB w' w.heap.size A' 32 c' (shownL S key bit side) ∧ Ext w w' := by
  go_enter Try.func121, Try.ntmps121
  go_wp2_with fail
  refine (secret_any A n c S key bit side w hr hn).mono ?_
  rintro e w1 ⟨A1, c1, rfl, own1, hE1⟩
  have r1 := RBB.of1 own1.rb 22
  have hE2 := Ext.new w1 (.cells #[.slice A1 32 c1] 22)
  have ht := htagged_any 11 _ 1 1 _ _ r1 (by simp only [List.flatten_cons, List.flatten_nil, List.append_nil, secretL, tagged_length]; omega)
  have e11 : u8i 11 = 11 := rfl
  rw [e11, show [secretL S key bit side].flatten = secretL S key bit side from by simp] at ht
  have Ht := Lib.hid ht
  clear ht
  go_wp2_with fail
  refine Ht.out.mono ?_
  rintro e w3 ⟨A3, c3, rfl, own, hE3⟩
  go_wp2_with fail
  go_ret
  exact ⟨A3, c3, rfl, own.base (hE1.trans hE2).size, (hE1.trans hE2).trans hE3⟩
set_option maxHeartbeats 1000000 in
theorem told_any (d : UInt32) (j side : Nat) (w : World) (hj : j < 32) :
    Calls Try.prog 116 #[.int .u32 (u32i d), .int .i64 (j : Int), .int .i64 (side : Int)] w fun e w' => e = .returned (.bool (toldB d j side)) ∧ Ext w w' := by
  go_enter Try.func116, Try.ntmps116
  go_upto_region 1 with (fail)
  refine seq_ext (n := 9) (by kernel_rfl) [.is (.int .u32 (u32i (d))), .is (.int .i64 (((j : Nat) : Int))), .is (.int .i64 ((31 : Int) - ((j : Nat) : Int))), .is (.int .u32 (u32i (shr d (31 - j)))), .is (.int .u32 (u32i ((shr d (31 - j)) &&& (1 : UInt32)))), .is (.int .i64 (u32i (shr d (31 - j) &&& 1))), .is (.int .i64 (((side : Nat) : Int))), .is (.bool (decide (u32i (shr d (31 - j) &&& 1) = ((side : Nat) : Int)))), .is (.bool (decide (u32i (shr d (31 - j) &&& 1) = ((side : Nat) : Int))))] rfl ⟨?_, ?_, ?_, ?_, ?_, ?_, ?_, ?_, ?_, trivial⟩ ?_
  · refine stepE rfl fun sdn sa sw sE sd sk => ?_
    have h0 : sa.eval (.tmp 0) = .int .u32 (u32i (d)) := sk.old 0 rfl
    exact Runs.move rfl h0 ⟨Ext.refl _, rfl⟩
  · refine stepE rfl fun sdn sa sw sE sd sk => ?_
    have h1 : sa.eval (.tmp 1) = .int .i64 (((j : Nat) : Int)) := sk.old 1 rfl
    exact Runs.move rfl h1 ⟨Ext.refl _, rfl⟩
  · refine stepE rfl fun sdn sa sw sE sd sk => ?_
    have h8 : sa.eval (.tmp 8) = .int .i64 (((j : Nat) : Int)) := sk.fact 1 8 rfl (sd 1 rfl)
    exact Runs.bin rfl rfl h8 (eqGuard_bin rfl) (bin_sub64 _ _ _ (by omega) (by omega)) ⟨Ext.refl _, rfl⟩
  · refine stepE rfl fun sdn sa sw sE sd sk => ?_
    have h7 : sa.eval (.tmp 7) = .int .u32 (u32i (d)) := sk.fact 0 7 rfl (sd 0 rfl)
    have h9 : sa.eval (.tmp 9) = .int .i64 ((31 : Int) - ((j : Nat) : Int)) := sk.fact 2 9 rfl (sd 2 rfl)
    exact Runs.bin rfl h7 h9 (eqGuard_bin rfl) (bin_shr32 _ _ (31 - j) _ (by omega) (by omega)) ⟨Ext.refl _, rfl⟩
  · refine stepE rfl fun sdn sa sw sE sd sk => ?_
    have h10 : sa.eval (.tmp 10) = .int .u32 (u32i (shr d (31 - j))) := sk.fact 3 10 rfl (sd 3 rfl)
    have hone : (.int .u32 1 : Value) = .int .u32 (u32i (1 : UInt32)) := rfl
    exact Runs.bin (v := .int .u32 (u32i (1 : UInt32))) rfl h10 hone (eqGuard_bin rfl) (bin_and32 _ _ (1 : UInt32)) ⟨Ext.refl _, rfl⟩
  · refine stepE rfl fun sdn sa sw sE sd sk => ?_
    have h11 : sa.eval (.tmp 11) = .int .u32 (u32i ((shr d (31 - j)) &&& (1 : UInt32))) := sk.fact 4 11 rfl (sd 4 rfl)
    exact Runs.conv rfl h11 (conv_u32_i64' Try.underlying101 Try.underlying3 _) ⟨Ext.refl _, rfl⟩
  · refine stepE rfl fun sdn sa sw sE sd sk => ?_
    have h2 : sa.eval (.tmp 2) = .int .i64 (((side : Nat) : Int)) := sk.old 2 rfl
    exact Runs.move rfl h2 ⟨Ext.refl _, rfl⟩
  · refine stepE rfl fun sdn sa sw sE sd sk => ?_
    have h12 : sa.eval (.tmp 12) = .int .i64 (u32i (shr d (31 - j) &&& 1)) := sk.fact 5 12 rfl (sd 5 rfl)
    have h13 : sa.eval (.tmp 13) = .int .i64 (((side : Nat) : Int)) := sk.fact 6 13 rfl (sd 6 rfl)
    exact Runs.bin rfl h12 h13 (by rfl) (bin_eql _ _ _ _) ⟨Ext.refl _, rfl⟩
  · refine stepE rfl fun sdn sa sw sE sd sk => ?_
    have h14 : sa.eval (.tmp 14) = .bool (decide (u32i (shr d (31 - j) &&& 1) = ((side : Nat) : Int))) := sk.fact 7 14 rfl (sd 7 rfl)
    exact Runs.assign rfl h14 ⟨Ext.refl _, rfl⟩
  intro vals W1 hE hv
  have e0 : vals 0 = .int .u32 (u32i (d)) := hv 0 (by omega) 7 rfl
  have e1 : vals 1 = .int .i64 (((j : Nat) : Int)) := hv 1 (by omega) 8 rfl
  have e2 : vals 2 = .int .i64 ((31 : Int) - ((j : Nat) : Int)) := hv 2 (by omega) 9 rfl
  have e3 : vals 3 = .int .u32 (u32i (shr d (31 - j))) := hv 3 (by omega) 10 rfl
  have e4 : vals 4 = .int .u32 (u32i ((shr d (31 - j)) &&& (1 : UInt32))) := hv 4 (by omega) 11 rfl
  have e5 : vals 5 = .int .i64 (u32i (shr d (31 - j) &&& 1)) := hv 5 (by omega) 12 rfl
  have e6 : vals 6 = .int .i64 (((side : Nat) : Int)) := hv 6 (by omega) 13 rfl
  have e7 : vals 7 = .bool (decide (u32i (shr d (31 - j) &&& 1) = ((side : Nat) : Int))) := hv 7 (by omega) 14 rfl
  have e8 : vals 8 = .bool (decide (u32i (shr d (31 - j) &&& 1) = ((side : Nat) : Int))) := hv 8 (by omega) 6 rfl
  simp only [putAll, Act.put, List.take_succ_cons, List.take_zero, List.drop_succ_cons, List.drop_zero, List.drop_nil, List.take_nil, Nat.reduceAdd, List.setIfInBounds_toArray, List.set_cons_succ, List.set_cons_zero, e0, e1, e2, e3, e4, e5, e6, e7, e8]
  clear hv e0 e1 e2 e3 e4 e5 e6 e7 e8
  go_wp2_with fail
  go_ret
  exact ⟨rfl, hE⟩
set_option maxHeartbeats 1000000 in
theorem digest_any (A : Option Addr) (n c : Nat) (M : List UInt8) (w : World) (hr : RB w A n c M) (hn : n ≤ 140737488355000) :
    Calls Try.prog 115 #[.slice A n c] w fun e w' => e = .returned (.int .u32 (u32i (digestW M))) ∧ Ext w w' := by
  have hl := hr.len
  have r1 := RBB.of1 hr 22
  have hE2 := Ext.new w (.cells #[.slice A n c] 22)
  have ht := htagged_any 13 _ 1 1 _ _ r1 (by simp only [List.flatten_cons, List.flatten_nil, List.append_nil, hl]; omega)
  have e13 : u8i 13 = 13 := rfl
  rw [e13, show [M].flatten = M from by simp] at ht
  have Ht := Lib.hid ht
  clear ht hl
  go_enter Try.func115, Try.ntmps115
  go_wp2_with fail
  refine Ht.out.mono ?_
  rintro e w3 ⟨A3, c3, rfl, own, hE3⟩
  obtain ⟨T, hT⟩ : ∃ T, T = tagged 13 M := ⟨_, rfl⟩
  rw [← hT] at own
  have HT := Lib.hid hT
  clear hT
  have r3 := own.rb
  have hc3 := r3.room
  have hc4 := r3.cap
  unfold maxLen at hc4
  obtain ⟨ad, rfl, hc⟩ := r3.cells (by omega)
  go_wp2_with fail
  go_loop [3, 11] (fun v i => ∃ k : Nat, k ≤ 4 ∧ i = .int .i64 k ∧ v = .int .u32 (u32i (beP T k))) (fun _ i => 4 - (intOf i).toNat)
  case atStart => exact ⟨0, by omega, rfl, rfl⟩
  case round =>
    obtain ⟨k, hk, rfl, rfl⟩ := hrel
    by_cases hlt : k < 4
    · have y1 := hc k (by omega)
      have e2 := fun w' : World => conv_u8_u32 (P := Try.prog) (w := w') Try.underlying5 Try.underlying101 (ub T k)
      have e3 : u32i (beP T k) * 256 % 4294967296 = u32i (shl (beP T k) 8) := by
        unfold u32i
        rw [shl_toNat]
        omega
      have e4 := bits_or32' (shl (beP T k) 8) (ub T k).toUInt32
      go_wp2_with fail
      go_round
      case rel => exact ⟨k + 1, by omega, by go_num, rfl⟩
      case measure => simp [intOf]; omega
    · obtain rfl : k = 4 := by omega
      go_wp2_with fail
      go_ret
      exact ⟨by rw [HT.out]; rfl, hE2.trans hE3⟩
end Go.Proofs.Ythggfbpdhkpkjaa
namespace Go.Proofs.Ythggfbpdhkpkjaa
set_option maxRecDepth 100000
open Go Go.RowKit
def partP (S : List UInt8) (key : Int) (i : Nat) : List UInt8 := shownL S key ((i / 2 : Nat) : Int) ((i % 2 : Nat) : Int)
def partS (dg : UInt32) (S : List UInt8) (key : Int) (i : Nat) : List UInt8 := if toldB dg (i / 2) (i % 2) = true then secretL S key ((i / 2 : Nat) : Int) ((i % 2 : Nat) : Int) else shownL S key ((i / 2 : Nat) : Int) ((i % 2 : Nat) : Int)
/-- a row of byte slices of the call's own; what they read as -/
def OBC (w : World) (base : Nat) (A : Option Addr) (n c : Nat) (Ls : List (List UInt8)) : Prop :=
  ∃ vs : List Value, w.ownsRow base 22 1 (.slice A n c) n vs ∧ Ls.length = n ∧ ∀ j, j < n → ∃ B m d, vs[j]? = some (.slice B m d) ∧ RB w B m d (lb Ls j) ∧ (0 < m → blk B ≠ blk A)
theorem OBC.none_ (w : World) (base : Nat) : OBC w base none 0 0 [] := ⟨[], World.ownsRow_nil w _ _ _, rfl, fun j hj => absurd hj (Nat.not_lt_zero _)⟩
theorem OBC.ext {w w' : World} {base : Nat} {A : Option Addr} {n c : Nat} {Ls : List (List UInt8)} (h : OBC w base A n c Ls) (e : Ext w w') : OBC w' base A n c Ls := by
  obtain ⟨vs, h1, h2, h3⟩ := h
  refine ⟨vs, World.ownsRow.kept h1 (e.grownBy none) ?_, h2, fun j hj => ?_⟩
  · cases hb : Value.ownBlock (.slice A n c) <;> simp
  · obtain ⟨B, m, d, h4, h5, h6⟩ := h3 j hj
    exact ⟨B, m, d, h4, h5.ext e, h6⟩
theorem OBC.lt {w : World} {base n c : Nat} {A : Option Addr} {Ls : List (List UInt8)} (h : OBC w base A n c Ls) {k : Nat} (hk : blk A = some k) : base ≤ k ∧ k < w.heap.size := by
  obtain ⟨vs, h1, _⟩ := h
  exact World.ownsRow.lt h1 k (by rw [ownBlock_slice]; exact hk)
theorem OBC.rbb {w : World} {base : Nat} {A : Option Addr} {n c : Nat} {Ls : List (List UInt8)} (h : OBC w base A n c Ls) : RBB w A n c Ls := by
  obtain ⟨vs, h1, h2, h3⟩ := h
  rcases h1.2 with ⟨hv, hn⟩ | ⟨g, cap, cur, hv, hb, hg, hnc, hcm, hcs, ht⟩
  · injection hv with e1 e2 e3
    subst e1 e2 e3
    exact ⟨h2, Nat.le_refl _, Nat.zero_le _, fun h => absurd h (Nat.lt_irrefl _)⟩
  · injection hv with e1 e2 e3
    subst e1 e3
    refine ⟨h2, hnc, hcm, fun hn => ⟨_, rfl, fun j hj => ?_⟩⟩
    obtain ⟨B, m, d, h4, h5, _⟩ := h3 j hj
    exact ⟨B, m, d, World.ownsRow.cells h1 (g := g) rfl j _ h4, h5⟩
theorem info_bb' : (Try.prog.info? 22).map (fun i => (i.zero, i.size, i.bytes)) = some (some (.slice none 0 0), 1, 24) := by kernel_rfl
theorem rb_blk_lt {w : World} {B : Option Addr} {n d : Nat} {M : List UInt8} (h : RB w B n d M) (hn : 0 < n) (k : Nat) (hk : blk B = some k) : k < w.heap.size := by
  obtain ⟨ad, rfl, hc⟩ := h.cells hn
  have h3 := World.block_lt_of_cell? w _ (hc 0 hn)
  rw [block_of_add] at h3
  have h4 : ad.block = k := by simpa [blk] using hk
  omega
theorem range_snoc {α : Type} (f : Nat → α) (k : Nat) : (List.range (k + 1)).map f = (List.range k).map f ++ [f k] := by simp [List.range_succ]
theorem appbc_law {ops : Array Oper} {rest : List Oper} {o : Oper} {a : Act} {Q : Exit → Act → World → Prop} {w : World} (hgd : o.guard = none) {s x : Operand} (ho : o.op = .call { callee := .builtin .append, args := #[s, x], argTypes := #[37, 37] })
    {A : Option Addr} {n c : Nat} (hs : a.eval s = .slice A n c) {ad : Addr} (hx : a.eval x = .slice (some ad) 1 1) {base : Nat} {Ls : List (List UInt8)} {B : Option Addr} {m d : Nat} {Y : List UInt8} (hcell : w.cell? (ad.add 0) = some (.slice B m d))
    (hown : OBC w base A n c Ls) (hB : RB w B m d Y) (hne : 0 < m → blk B ≠ blk A) (hbase : base ≤ w.heap.size) (hnk : n + 1 ≤ 1000000)
    (h : ∀ A' c' w', OBC w' base A' (n + 1) c' (Ls ++ [Y]) → w.grownBy w' (blk A) → wpList Try.prog ops Q rest (a.put o.dst (.slice A' (n + 1) c')) w') : wpList Try.prog ops Q (o :: rest) a w := by
  obtain ⟨i0, hi0, hz0, hz1, hz2⟩ := info_parts info_bb'
  obtain ⟨vs, h1, h2, h3⟩ := hown
  obtain ⟨v', w', hrun, r1, r2, _, r4⟩ := run_append_own_at (P := Try.prog) w base 37 o.type 22 i0 (.slice none 0 0) 1 24 Try.underlying37 hi0 hz0 hz1 hz2 rfl (by decide) (.slice A n c) n vs h1 ad 1 1 [.slice B m d] rfl
    (by
      intro j u hu
      rcases j with _ | j
      · injection hu with hu
        subst hu
        exact hcell
      · cases hu) (by simp [Value.oneCell']) (small_maxLen hnk) (by omega) hbase
  obtain ⟨A', c', rfl⟩ : ∃ A' c', v' = .slice A' (n + 1) c' := by
    rcases r1.2 with ⟨_, h0⟩ | ⟨g, cap, _, rfl, _⟩
    · omega
    · exact ⟨_, cap, rfl⟩
  rw [ownBlock_slice] at r2 r4
  rw [ownBlock_slice] at r4
  have hne' : ∀ (B' : Option Addr) (m' d' : Nat) (Y' : List UInt8), RB w B' m' d' Y' → (0 < m' → blk B' ≠ blk A) → (0 < m' → blk B' ≠ blk A') := by
    intro B' m' d' Y' hb hn hm e
    rcases r4 with r4 | r4
    · exact hn hm (e.trans r4)
    · have := rb_blk_lt hb hm _ (e.trans r4)
      omega
  have hvl : vs.length = n := by have := h1.1; omega
  refine run_law hgd (v := .slice A' (n + 1) c') (w' := w') ?_ (h A' c' w' ⟨vs ++ [.slice B m d], r1, by rw [List.length_append]; simp; omega, fun j hj => ?_⟩ r2)
  · unfold execOp
    simp only [ho, resolve, invoke, builtin, Sem.run_bind, Sem.run_pure, Result.andThen_ok, List.map_toArray, List.map_cons, List.map_nil, hs, hx, hrun]
  · by_cases hjn : j < n
    · obtain ⟨B', m', d', h4, h5, h6⟩ := h3 j hjn
      refine ⟨B', m', d', by rw [List.getElem?_append_left (by omega)]; exact h4, ?_, hne' _ _ _ _ h5 h6⟩
      have e : lb (Ls ++ [Y]) j = lb Ls j := by unfold lb; simp [List.getElem?_append_left (show j < Ls.length by omega)]
      rw [e]
      exact h5.grown r2 h6
    · obtain rfl : j = n := by omega
      refine ⟨B, m, d, by rw [List.getElem?_append_right (by omega), hvl]; simp, ?_, hne' _ _ _ _ hB hne⟩
      have e : lb (Ls ++ [Y]) j = Y := by unfold lb; simp [← h2]
      rw [e]
      exact hB.grown r2 hne
theorem choose_pub (j s : Nat) (w : World) : Calls Try.prog 129 #[.int .i64 (j : Int), .int .i64 (s : Int)] w fun e w' => e = .returned (.func (.func 121) #[] #[]) ∧ Ext w w' := by
  go_enter Try.func129, Try.ntmps129
  go_wp2_with fail
  go_ret
  exact ⟨rfl, Ext.refl _⟩
theorem choose_sign (dg : UInt32) (j s b : Nat) (w : World) (hb : Blk w b 101 #[.int .u32 (u32i dg)]) (hj : j < 32) :
    Calls Try.prog 119 #[.int .i64 (j : Int), .int .i64 (s : Int), .pointer (some ⟨b, 0, none⟩)] w fun e w' => e = .returned (.func (.func (if toldB dg j s = true then 120 else 121)) #[] #[]) ∧ Ext w w' := by
  have y0 := hb.cell (i := 0) rfl
  cases ht : toldB dg j s with
  | true =>
    rw [if_pos rfl]
    go_enter Try.func119, Try.ntmps119
    go_wp2_with fail
    refine (told_any dg j s w hj).mono ?_
    rintro e w1 ⟨rfl, hE1⟩
    rw [ht]
    go_wp2_with fail
    go_ret
    exact ⟨rfl, hE1⟩
  | false =>
    rw [if_neg (by simp)]
    go_enter Try.func119, Try.ntmps119
    go_wp2_with fail
    refine (told_any dg j s w hj).mono ?_
    rintro e w1 ⟨rfl, hE1⟩
    rw [ht]
    go_wp2_with fail
    go_ret
    exact ⟨rfl, hE1⟩
def PartO (f : Nat → List UInt8) (w : World) (v i : Value) (wr : World) : Prop :=
  ∃ (k d : Nat) (P : Option Addr), k ≤ 32 ∧ i = .int .i64 k ∧ v = .slice P (2 * k) d ∧ OBC wr w.heap.size P (2 * k) d ((List.range (2 * k)).map f) ∧ Ext w wr
def PartI (f : Nat → List UInt8) (w : World) (k : Nat) (v i : Value) (wr : World) : Prop :=
  ∃ (s d : Nat) (P : Option Addr), s ≤ 2 ∧ i = .int .i64 s ∧ v = .slice P (2 * k + s) d ∧ OBC wr w.heap.size P (2 * k + s) d ((List.range (2 * k + s)).map f) ∧ Ext w wr
set_option maxHeartbeats 4000000 in
theorem parts_pub (A : Option Addr) (n c : Nat) (S : List UInt8) (key : Int)  (w : World) (hr : RB w A n c S) (hn : n ≤ 140737488355000) :
    Calls Try.prog 118 #[.slice A n c, .int .i64 key, .func (.func 129) #[] #[]] w fun e w' => ∃ P d, e = .returned (.slice P 64 d) ∧ OBC w' w.heap.size P 64 d ((List.range 64).map (partP S key)) ∧ Ext w w' := by
  go_enter Try.func118, Try.ntmps118
  go_wp2_with fail
  go_loopw [7, 10] (fun v i wr => PartO (partP S key) w v i wr) (fun _ i _ => 32 - (intOf i).toNat)
  case atStart => exact ⟨0, 0, none, by omega, rfl, rfl, OBC.none_ _ _, Ext.refl _⟩
  case round =>
    obtain ⟨k, d, P, hk, rfl, rfl, own, hEr⟩ := hrel
    by_cases hlt : k < 32
    · have hki : (k : Int) < 32 := by omega
      go_wp2_with fail
      go_loopw [7, 13] (fun v i wr => PartI (partP S key) w k v i wr) (fun _ i _ => 2 - (intOf i).toNat)
      case atStart => exact ⟨0, d, P, by omega, rfl, rfl, own, hEr⟩
      case round =>
        clear own hEr
        obtain ⟨s, d, P, hs, rfl, rfl, own, hEr⟩ := hrel
        by_cases hls : s < 2
        · have hval : (partP S key) (2 * k + s) = shownL S key (k : Int) (s : Int) := by
            show shownL S key (((2 * k + s) / 2 : Nat) : Int) (((2 * k + s) % 2 : Nat) : Int) = _
            rw [show (2 * k + s) / 2 = k by omega, show (2 * k + s) % 2 = s by omega]
          have Hval := Lib.hid hval
          clear hval
          go_wp2_with fail
          refine (choose_pub k s wr).mono ?_
          rintro e w2 ⟨rfl, hE2⟩
          go_wp2_with fail
          refine (shown_any A n c S key k s w2 (hr.ext (hEr.trans hE2)) hn).mono ?_
          rintro e w3 ⟨A3, c3, rfl, own3, hE3⟩
          have hY : RB w3 A3 32 c3 ((partP S key) (2 * k + s)) := by
            rw [Hval.out]
            exact own3.rb
          have hEw := hEr.trans (hE2.trans hE3)
          have hEa := Ext.new w3 (.cells #[.slice A3 32 c3] 22)
          have hBa := Blk.new w3 22 #[.slice A3 32 c3]
          have own4 := (own.ext (hE2.trans hE3)).ext hEa
          have hne : 0 < 32 → blk A3 ≠ blk P := by
            intro _ e
            obtain ⟨b, hb⟩ : ∃ b, blk A3 = some b := by
              obtain ⟨ad, h1, _⟩ := own3.rb.cells (by omega)
              rw [h1]
              exact ⟨_, rfl⟩
            have h1 := (own3.lt hb).1
            have h2 := own.lt (e.symm.trans hb)
            have h3 := hE2.size
            omega
          go_wp2_with (refine appbc_law (base := w.heap.size) (Y := (partP S key) (2 * k + s)) rfl rfl rfl rfl (by rw [add_plain]; exact hBa.cell (i := 0) rfl) own4 (hY.ext hEa) hne (hEw.trans hEa).size (by omega) ?_; intro P5 d5 w5 own5 g5)
          go_roundw
          case rel =>
            rw [← range_snoc] at own5
            exact ⟨s + 1, d5, P5, by omega, by go_num, rfl, own5, (hEw.trans hEa).then_grown g5 (fun b hb => (own4.lt hb).1)⟩
          case measure => simp [intOf]; omega
        · obtain rfl : s = 2 := by omega
          go_wp2_with fail
          go_roundw
          case rel => exact ⟨k + 1, d, P, by omega, by go_num, rfl, own, hEr⟩
          case measure => simp [intOf]; omega
    · obtain rfl : k = 32 := by omega
      go_wp2_with fail
      go_ret
      exact ⟨P, d, rfl, own, hEr⟩
end Go.Proofs.Ythggfbpdhkpkjaa
