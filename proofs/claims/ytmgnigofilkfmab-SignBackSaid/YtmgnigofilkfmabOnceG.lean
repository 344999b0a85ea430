/-
  once.Digest, Secret, Shown and told, walked; an append to a row of byte slices. once.parts, Public and Sign, walked. once.Public, Sign and Root, walked. The reference's keys that sign once, walked: Digest, Secret, Shown, Public, Sign. ref4.Root, walked.
-/
import Derived.Test.YtmgnigofilkfmabHashG
import Derived.Test.YtmgnigofilkfmabParts
import Derived.Test.YtmgnigofilkfmabAppOne
import Derived.Maps.AppendAt
import Derived.Test.YtmgnigofilkfmabRef2Tag
namespace Go.Proofs.Ytmgnigofilkfmab
set_option maxRecDepth 100000
open Go Go.RowKit
/-- a key's number, as 32 bits -/
def keyW (key : Int) : UInt32 := UInt32.ofNat (key % 4294967296).toNat
def byteI (x : Int) : UInt8 := UInt8.ofNat (x % 256).toNat
theorem conv_key {P : Program} {w : World} {s t : TypeId} (hs : P.underlying s = some (.int .i64)) (ht : P.underlying t = some (.int .u32)) (x : Int) : (convert s t (.int .i64 x)).run P w = .ok (.int .u32 (u32i (keyW x))) w := by
  have e : IntKind.u32.wrap x = u32i (keyW x) := by
    rw [IntKind.wrap_u32]
    unfold u32i keyW
    rw [UInt32.toNat_ofNat']
    omega
  simp [convert, run_underlying hs, run_underlying ht, Conv.intToInt, e]
theorem conv_byte {P : Program} {w : World} {s t : TypeId} (hs : P.underlying s = some (.int .i64)) (ht : P.underlying t = some (.int .u8)) (x : Int) : (convert s t (.int .i64 x)).run P w = .ok (.int .u8 (u8i (byteI x))) w := by
  have e : IntKind.u8.wrap x = u8i (byteI x) := by
    rw [IntKind.wrap_u8]
    unfold u8i byteI
    rw [UInt8.toNat_ofNat']
    omega
  simp [convert, run_underlying hs, run_underlying ht, Conv.intToInt, e]
theorem conv_u32_i64' {P : Program} {w : World} {s t : TypeId} (hs : P.underlying s = some (.int .u32)) (ht : P.underlying t = some (.int .i64)) (x : UInt32) : (convert s t (.int .u32 (u32i x))).run P w = .ok (.int .i64 (u32i x)) w := by
  have e : IntKind.i64.wrap (u32i x) = u32i x := by
    have := x.toNat_lt
    unfold u32i
    rw [IntKind.wrap_i64]
    omega
  simp [convert, run_underlying hs, run_underlying ht, Conv.intToInt, e]
theorem bits_or32' (x y : UInt32) : bits .or .u32 (u32i x) (u32i y) = u32i (x ||| y) := by
  have h1 : BitVec.ofInt (IntKind.u32).bits (u32i x) = x.toBitVec := bitvec_u32 x
  have h2 : BitVec.ofInt (IntKind.u32).bits (u32i y) = y.toBitVec := bitvec_u32 y
  unfold bits
  simp only [h1, h2]
  exact u32_wrap_id (x ||| y)
def secretL (S : List UInt8) (key bit side : Int) : List UInt8 := tagged 10 (S ++ [(shr (keyW key) 24).toUInt8, (shr (keyW key) 16).toUInt8, (shr (keyW key) 8).toUInt8, (keyW key).toUInt8, byteI bit, byteI side])
def shownL (S : List UInt8) (key bit side : Int) : List UInt8 := tagged 11 (secretL S key bit side)
def digestW (M : List UInt8) : UInt32 := beP (tagged 13 M) 4
def toldB (d : UInt32) (j side : Nat) : Bool := decide (u32i (shr d (31 - j) &&& 1) = (side : Int))
set_option maxHeartbeats 1000000 in
theorem secret_any (A : Option Addr) (n c : Nat) (S : List UInt8) (key bit side : Int) (w : World) (hr : RB w A n c S) (hn : n ≤ 140737488355000) :
    Calls Try.prog 102 #[.slice A n c, .int .i64 key, .int .i64 bit, .int .i64 side] w fun e w' => ∃ A' c', e = .returned (.slice A' 32 c') ∧ OB w' w.heap.size A' 32 c' (secretL S key bit side) ∧ Ext w w' := by
  have hl := hr.len
  have Hl := Lib.hid hl
  clear hl
  go_enter Try.func102, Try.ntmps102
  go_upto_region 1 with (fail)
  refine seq_ext (n := 3) (by kernel_rfl) [.is (.int .i64 (key)), .is (.int .u32 (u32i (keyW key))), .is (.int .u32 (u32i (keyW key)))] rfl ⟨?_, ?_, ?_, trivial⟩ ?_
  · refine stepE rfl fun sdn sa sw sE sd sk => ?_
    have h1 : sa.eval (.tmp 1) = .int .i64 (key) := sk.old 1 rfl
    exact Runs.move rfl h1 ⟨Ext.refl _, rfl⟩
  · refine stepE rfl fun sdn sa sw sE sd sk => ?_
    have h10 : sa.eval (.tmp 10) = .int .i64 (key) := sk.fact 0 10 rfl (sd 0 rfl)
    exact Runs.conv rfl h10 (conv_key Try.underlying3 Try.underlying25 _) ⟨Ext.refl _, rfl⟩
  · refine stepE rfl fun sdn sa sw sE sd sk => ?_
    have h11 : sa.eval (.tmp 11) = .int .u32 (u32i (keyW key)) := sk.fact 1 11 rfl (sd 1 rfl)
    exact Runs.assign rfl h11 ⟨Ext.refl _, rfl⟩
  intro vals W1 hE hv
  have e0 : vals 0 = .int .i64 (key) := hv 0 (by omega) 10 rfl
  have e1 : vals 1 = .int .u32 (u32i (keyW key)) := hv 1 (by omega) 11 rfl
  have e2 : vals 2 = .int .u32 (u32i (keyW key)) := hv 2 (by omega) 9 rfl
  simp only [putAll, Act.put, List.take_succ_cons, List.take_zero, List.drop_succ_cons, List.drop_zero, List.drop_nil, List.take_nil, Nat.reduceAdd, List.setIfInBounds_toArray, List.set_cons_succ, List.set_cons_zero, e0, e1, e2]
  clear hv e0 e1 e2
  have rS := hr.ext hE
  go_upto_region 2 with (fail)
  refine seq_ext (n := 18) (by kernel_rfl) [.is (.slice (A) (n) (c)), .is (.int .u32 (u32i (keyW key))), .is (.int .u32 (u32i (shr (keyW key) 24))), .is (.int .u8 (u8i ((shr (keyW key) 24)).toUInt8)), .is (.int .u32 (u32i (keyW key))), .is (.int .u32 (u32i (shr (keyW key) 16))), .is (.int .u8 (u8i ((shr (keyW key) 16)).toUInt8)), .is (.int .u32 (u32i (keyW key))), .is (.int .u32 (u32i (shr (keyW key) 8))), .is (.int .u8 (u8i ((shr (keyW key) 8)).toUInt8)), .is (.int .u32 (u32i (keyW key))), .is (.int .u8 (u8i ((keyW key)).toUInt8)), .is (.int .i64 (bit)), .is (.int .u8 (u8i (byteI bit))), .is (.int .i64 (side)), .is (.int .u8 (u8i (byteI side))), .rb ([((shr (keyW key) 24)).toUInt8, ((shr (keyW key) 16)).toUInt8, ((shr (keyW key) 8)).toUInt8, ((keyW key)).toUInt8, (byteI bit), (byteI side)]), .rbb ([S, [((shr (keyW key) 24)).toUInt8, ((shr (keyW key) 16)).toUInt8, ((shr (keyW key) 8)).toUInt8, ((keyW key)).toUInt8, (byteI bit), (byteI side)]])] rfl ⟨?_, ?_, ?_, ?_, ?_, ?_, ?_, ?_, ?_, ?_, ?_, ?_, ?_, ?_, ?_, ?_, ?_, ?_, trivial⟩ ?_
  · refine stepE rfl fun sdn sa sw sE sd sk => ?_
    have h0 : sa.eval (.tmp 0) = .slice (A) (n) (c) := sk.old 0 rfl
    exact Runs.move rfl h0 ⟨Ext.refl _, rfl⟩
  · refine stepE rfl fun sdn sa sw sE sd sk => ?_
    have h9 : sa.eval (.tmp 9) = .int .u32 (u32i (keyW key)) := sk.old 9 rfl
    exact Runs.move rfl h9 ⟨Ext.refl _, rfl⟩
  · refine stepE rfl fun sdn sa sw sE sd sk => ?_
    have h13 : sa.eval (.tmp 13) = .int .u32 (u32i (keyW key)) := sk.fact 1 13 rfl (sd 1 rfl)
    exact Runs.bin rfl h13 rfl (eqGuard_bin rfl) (bin_shr32 _ _ 24 _) ⟨Ext.refl _, rfl⟩
  · refine stepE rfl fun sdn sa sw sE sd sk => ?_
    have h14 : sa.eval (.tmp 14) = .int .u32 (u32i (shr (keyW key) 24)) := sk.fact 2 14 rfl (sd 2 rfl)
    exact Runs.conv rfl h14 (conv_u32_u8 Try.underlying25 Try.underlying5 _) ⟨Ext.refl _, rfl⟩
  · refine stepE rfl fun sdn sa sw sE sd sk => ?_
    have h9 : sa.eval (.tmp 9) = .int .u32 (u32i (keyW key)) := sk.old 9 rfl
    exact Runs.move rfl h9 ⟨Ext.refl _, rfl⟩
  · refine stepE rfl fun sdn sa sw sE sd sk => ?_
    have h16 : sa.eval (.tmp 16) = .int .u32 (u32i (keyW key)) := sk.fact 4 16 rfl (sd 4 rfl)
    exact Runs.bin rfl h16 rfl (eqGuard_bin rfl) (bin_shr32 _ _ 16 _) ⟨Ext.refl _, rfl⟩
  · refine stepE rfl fun sdn sa sw sE sd sk => ?_
    have h17 : sa.eval (.tmp 17) = .int .u32 (u32i (shr (keyW key) 16)) := sk.fact 5 17 rfl (sd 5 rfl)
    exact Runs.conv rfl h17 (conv_u32_u8 Try.underlying25 Try.underlying5 _) ⟨Ext.refl _, rfl⟩
  · refine stepE rfl fun sdn sa sw sE sd sk => ?_
    have h9 : sa.eval (.tmp 9) = .int .u32 (u32i (keyW key)) := sk.old 9 rfl
    exact Runs.move rfl h9 ⟨Ext.refl _, rfl⟩
  · refine stepE rfl fun sdn sa sw sE sd sk => ?_
    have h19 : sa.eval (.tmp 19) = .int .u32 (u32i (keyW key)) := sk.fact 7 19 rfl (sd 7 rfl)
    exact Runs.bin rfl h19 rfl (eqGuard_bin rfl) (bin_shr32 _ _ 8 _) ⟨Ext.refl _, rfl⟩
  · refine stepE rfl fun sdn sa sw sE sd sk => ?_
    have h20 : sa.eval (.tmp 20) = .int .u32 (u32i (shr (keyW key) 8)) := sk.fact 8 20 rfl (sd 8 rfl)
    exact Runs.conv rfl h20 (conv_u32_u8 Try.underlying25 Try.underlying5 _) ⟨Ext.refl _, rfl⟩
  · refine stepE rfl fun sdn sa sw sE sd sk => ?_
    have h9 : sa.eval (.tmp 9) = .int .u32 (u32i (keyW key)) := sk.old 9 rfl
    exact Runs.move rfl h9 ⟨Ext.refl _, rfl⟩
  · refine stepE rfl fun sdn sa sw sE sd sk => ?_
    have h22 : sa.eval (.tmp 22) = .int .u32 (u32i (keyW key)) := sk.fact 10 22 rfl (sd 10 rfl)
    exact Runs.conv rfl h22 (conv_u32_u8 Try.underlying25 Try.underlying5 _) ⟨Ext.refl _, rfl⟩
  · refine stepE rfl fun sdn sa sw sE sd sk => ?_
    have h2 : sa.eval (.tmp 2) = .int .i64 (bit) := sk.old 2 rfl
    exact Runs.move rfl h2 ⟨Ext.refl _, rfl⟩
  · refine stepE rfl fun sdn sa sw sE sd sk => ?_
    have h24 : sa.eval (.tmp 24) = .int .i64 (bit) := sk.fact 12 24 rfl (sd 12 rfl)
    exact Runs.conv rfl h24 (conv_byte Try.underlying3 Try.underlying5 _) ⟨Ext.refl _, rfl⟩
  · refine stepE rfl fun sdn sa sw sE sd sk => ?_
    have h3 : sa.eval (.tmp 3) = .int .i64 (side) := sk.old 3 rfl
    exact Runs.move rfl h3 ⟨Ext.refl _, rfl⟩
  · refine stepE rfl fun sdn sa sw sE sd sk => ?_
    have h26 : sa.eval (.tmp 26) = .int .i64 (side) := sk.fact 14 26 rfl (sd 14 rfl)
    exact Runs.conv rfl h26 (conv_byte Try.underlying3 Try.underlying5 _) ⟨Ext.refl _, rfl⟩
  · refine stepE rfl fun sdn sa sw sE sd sk => ?_
    have h15 : sa.eval (.tmp 15) = .int .u8 (u8i ((shr (keyW key) 24)).toUInt8) := sk.fact 3 15 rfl (sd 3 rfl)
    have h18 : sa.eval (.tmp 18) = .int .u8 (u8i ((shr (keyW key) 16)).toUInt8) := sk.fact 6 18 rfl (sd 6 rfl)
    have h21 : sa.eval (.tmp 21) = .int .u8 (u8i ((shr (keyW key) 8)).toUInt8) := sk.fact 9 21 rfl (sd 9 rfl)
    have h23 : sa.eval (.tmp 23) = .int .u8 (u8i ((keyW key)).toUInt8) := sk.fact 11 23 rfl (sd 11 rfl)
    have h25 : sa.eval (.tmp 25) = .int .u8 (u8i (byteI bit)) := sk.fact 13 25 rfl (sd 13 rfl)
    have h27 : sa.eval (.tmp 27) = .int .u8 (u8i (byteI side)) := sk.fact 15 27 rfl (sd 15 rfl)
    exact Runs.lit6 rfl h15 h18 h21 h23 h25 h27 (fun w1 e1 o1 => ⟨e1, _, _, _, rfl, o1.rb⟩)
  · refine stepE rfl fun sdn sa sw sE sd sk => ?_
    have h12 : sa.eval (.tmp 12) = .slice (A) (n) (c) := sk.fact 0 12 rfl (sd 0 rfl)
    obtain ⟨A28, n28, c28, h28, r28⟩ := sk.fact 16 28 rfl (sd 16 rfl)
    exact Runs.ss2 rfl h12 h28 (rS.ext sE) r28 (fun w1 e1 b1 => ⟨e1, _, _, _, rfl, b1⟩)
  intro vals W2 hE2 hv2
  have e0 : vals 0 = .slice (A) (n) (c) := hv2 0 (by omega) 12 rfl
  have e1 : vals 1 = .int .u32 (u32i (keyW key)) := hv2 1 (by omega) 13 rfl
  have e2 : vals 2 = .int .u32 (u32i (shr (keyW key) 24)) := hv2 2 (by omega) 14 rfl
  have e3 : vals 3 = .int .u8 (u8i ((shr (keyW key) 24)).toUInt8) := hv2 3 (by omega) 15 rfl
  have e4 : vals 4 = .int .u32 (u32i (keyW key)) := hv2 4 (by omega) 16 rfl
  have e5 : vals 5 = .int .u32 (u32i (shr (keyW key) 16)) := hv2 5 (by omega) 17 rfl
  have e6 : vals 6 = .int .u8 (u8i ((shr (keyW key) 16)).toUInt8) := hv2 6 (by omega) 18 rfl
  have e7 : vals 7 = .int .u32 (u32i (keyW key)) := hv2 7 (by omega) 19 rfl
  have e8 : vals 8 = .int .u32 (u32i (shr (keyW key) 8)) := hv2 8 (by omega) 20 rfl
  have e9 : vals 9 = .int .u8 (u8i ((shr (keyW key) 8)).toUInt8) := hv2 9 (by omega) 21 rfl
  have e10 : vals 10 = .int .u32 (u32i (keyW key)) := hv2 10 (by omega) 22 rfl
  have e11 : vals 11 = .int .u8 (u8i ((keyW key)).toUInt8) := hv2 11 (by omega) 23 rfl
  have e12 : vals 12 = .int .i64 (bit) := hv2 12 (by omega) 24 rfl
  have e13 : vals 13 = .int .u8 (u8i (byteI bit)) := hv2 13 (by omega) 25 rfl
  have e14 : vals 14 = .int .i64 (side) := hv2 14 (by omega) 26 rfl
  have e15 : vals 15 = .int .u8 (u8i (byteI side)) := hv2 15 (by omega) 27 rfl
  obtain ⟨A28, n28, c28, e16, r28⟩ := hv2 16 (by omega) 28 rfl
  obtain ⟨A29, n29, c29, e17, r29⟩ := hv2 17 (by omega) 29 rfl
  simp only [putAll, Act.put, List.take_succ_cons, List.take_zero, List.drop_succ_cons, List.drop_zero, List.drop_nil, List.take_nil, Nat.reduceAdd, List.setIfInBounds_toArray, List.set_cons_succ, List.set_cons_zero, e0, e1, e2, e3, e4, e5, e6, e7, e8, e9, e10, e11, e12, e13, e14, e15, e16, e17]
  clear hv2 e0 e1 e2 e3 e4 e5 e6 e7 e8 e9 e10 e11 e12 e13 e14 e15 e16 e17
  have ht := htagged_any 10 A29 n29 c29 _ W2 r29 (by simp only [List.flatten_cons, List.flatten_nil, List.length_append, List.length_nil, List.length_cons, Hl.out]; omega)
  have e10 : u8i 10 = 10 := rfl
  rw [e10, show [S, [(shr (keyW key) 24).toUInt8, (shr (keyW key) 16).toUInt8, (shr (keyW key) 8).toUInt8, (keyW key).toUInt8, byteI bit, byteI side]].flatten = S ++ [(shr (keyW key) 24).toUInt8, (shr (keyW key) 16).toUInt8, (shr (keyW key) 8).toUInt8, (keyW key).toUInt8, byteI bit, byteI side] from by simp] at ht
  have Ht := Lib.hid ht
  clear ht
  go_wp2_with fail
  refine Ht.out.mono ?_
  rintro e w3 ⟨A3, c3, rfl, own, hE3⟩
  go_wp2_with fail
  go_ret
  exact ⟨A3, c3, rfl, own.base (hE.trans hE2).size, (hE.trans hE2).trans hE3⟩
set_option maxHeartbeats 1000000 in
theorem shown_any (A : Option Addr) (n c : Nat) (S : List UInt8) (key bit side : Int) (w : World) (hr : RB w A n c S) (hn : n ≤ 140737488355000) :
    Calls Try.prog 103 #[.slice A n c, .int .i64 key, .int .i64 bit, .int .i64 side] w fun e w' => ∃ A' c', e = .returned (.slice A' 32 c') ∧ OB w' w.heap.size A' 32 c' (shownL S key bit side) ∧ Ext w w' := by
  go_enter Try.func103, Try.ntmps103
  go_wp2_with fail
  refine (secret_any A n c S key bit side w hr hn).mono ?_
  rintro e w1 ⟨A1, c1, rfl, own1, hE1⟩
  have r1 := RBB.of1 own1.rb 22
  have hE2 := Ext.new w1 (.cells #[.slice A1 32 c1] 22)
  have ht := htagged_any 11 _ 1 1 _ _ r1 (by simp only [List.flatten_cons, List.flatten_nil, List.append_nil, secretL, tagged_length]; omega)
  have e11 : u8i 11 = 11 := rfl
  rw [e11, show [secretL S key bit side].flatten = secretL S key bit side from by simp] at ht
  have Ht := Lib.hid ht
  clear ht
  go_wp2_with fail
  refine Ht.out.mono ?_
  rintro e w3 ⟨A3, c3, rfl, own, hE3⟩
  go_wp2_with fail
  go_ret
  exact ⟨A3, c3, rfl, own.base (hE1.trans hE2).size, (hE1.trans hE2).trans hE3⟩
set_option maxHeartbeats 1000000 in
theorem told_any (d : UInt32) (j side : Nat) (w : World) (hj : j < 32) :
    Calls Try.prog 101 #[.int .u32 (u32i d), .int .i64 (j : Int), .int .i64 (side : Int)] w fun e w' => e = .returned (.bool (toldB d j side)) ∧ Ext w w' := by
  go_enter Try.func101, Try.ntmps101
  go_upto_region 1 with (fail)
  refine seq_ext (n := 9) (by kernel_rfl) [.is (.int .u32 (u32i (d))), .is (.int .i64 (((j : Nat) : Int))), .is (.int .i64 ((31 : Int) - ((j : Nat) : Int))), .is (.int .u32 (u32i (shr d (31 - j)))), .is (.int .u32 (u32i ((shr d (31 - j)) &&& (1 : UInt32)))), .is (.int .i64 (u32i (shr d (31 - j) &&& 1))), .is (.int .i64 (((side : Nat) : Int))), .is (.bool (decide (u32i (shr d (31 - j) &&& 1) = ((side : Nat) : Int)))), .is (.bool (decide (u32i (shr d (31 - j) &&& 1) = ((side : Nat) : Int))))] rfl ⟨?_, ?_, ?_, ?_, ?_, ?_, ?_, ?_, ?_, trivial⟩ ?_
  · refine stepE rfl fun sdn sa sw sE sd sk => ?_
    have h0 : sa.eval (.tmp 0) = .int .u32 (u32i (d)) := sk.old 0 rfl
    exact Runs.move rfl h0 ⟨Ext.refl _, rfl⟩
  · refine stepE rfl fun sdn sa sw sE sd sk => ?_
    have h1 : sa.eval (.tmp 1) = .int .i64 (((j : Nat) : Int)) := sk.old 1 rfl
    exact Runs.move rfl h1 ⟨Ext.refl _, rfl⟩
  · refine stepE rfl fun sdn sa sw sE sd sk => ?_
    have h8 : sa.eval (.tmp 8) = .int .i64 (((j : Nat) : Int)) := sk.fact 1 8 rfl (sd 1 rfl)
    exact Runs.bin rfl rfl h8 (eqGuard_bin rfl) (bin_sub64 _ _ _ (by omega) (by omega)) ⟨Ext.refl _, rfl⟩
  · refine stepE rfl fun sdn sa sw sE sd sk => ?_
    have h7 : sa.eval (.tmp 7) = .int .u32 (u32i (d)) := sk.fact 0 7 rfl (sd 0 rfl)
    have h9 : sa.eval (.tmp 9) = .int .i64 ((31 : Int) - ((j : Nat) : Int)) := sk.fact 2 9 rfl (sd 2 rfl)
    exact Runs.bin rfl h7 h9 (eqGuard_bin rfl) (bin_shr32 _ _ (31 - j) _ (by omega) (by omega)) ⟨Ext.refl _, rfl⟩
  · refine stepE rfl fun sdn sa sw sE sd sk => ?_
    have h10 : sa.eval (.tmp 10) = .int .u32 (u32i (shr d (31 - j))) := sk.fact 3 10 rfl (sd 3 rfl)
    have hone : (.int .u32 1 : Value) = .int .u32 (u32i (1 : UInt32)) := rfl
    exact Runs.bin (v := .int .u32 (u32i (1 : UInt32))) rfl h10 hone (eqGuard_bin rfl) (bin_and32 _ _ (1 : UInt32)) ⟨Ext.refl _, rfl⟩
  · refine stepE rfl fun sdn sa sw sE sd sk => ?_
    have h11 : sa.eval (.tmp 11) = .int .u32 (u32i ((shr d (31 - j)) &&& (1 : UInt32))) := sk.fact 4 11 rfl (sd 4 rfl)
    exact Runs.conv rfl h11 (conv_u32_i64' Try.underlying25 Try.underlying3 _) ⟨Ext.refl _, rfl⟩
  · refine stepE rfl fun sdn sa sw sE sd sk => ?_
    have h2 : sa.eval (.tmp 2) = .int .i64 (((side : Nat) : Int)) := sk.old 2 rfl
    exact Runs.move rfl h2 ⟨Ext.refl _, rfl⟩
  · refine stepE rfl fun sdn sa sw sE sd sk => ?_
    have h12 : sa.eval (.tmp 12) = .int .i64 (u32i (shr d (31 - j) &&& 1)) := sk.fact 5 12 rfl (sd 5 rfl)
    have h13 : sa.eval (.tmp 13) = .int .i64 (((side : Nat) : Int)) := sk.fact 6 13 rfl (sd 6 rfl)
    exact Runs.bin rfl h12 h13 (by rfl) (bin_eql _ _ _ _) ⟨Ext.refl _, rfl⟩
  · refine stepE rfl fun sdn sa sw sE sd sk => ?_
    have h14 : sa.eval (.tmp 14) = .bool (decide (u32i (shr d (31 - j) &&& 1) = ((side : Nat) : Int))) := sk.fact 7 14 rfl (sd 7 rfl)
    exact Runs.assign rfl h14 ⟨Ext.refl _, rfl⟩
  intro vals W1 hE hv
  have e0 : vals 0 = .int .u32 (u32i (d)) := hv 0 (by omega) 7 rfl
  have e1 : vals 1 = .int .i64 (((j : Nat) : Int)) := hv 1 (by omega) 8 rfl
  have e2 : vals 2 = .int .i64 ((31 : Int) - ((j : Nat) : Int)) := hv 2 (by omega) 9 rfl
  have e3 : vals 3 = .int .u32 (u32i (shr d (31 - j))) := hv 3 (by omega) 10 rfl
  have e4 : vals 4 = .int .u32 (u32i ((shr d (31 - j)) &&& (1 : UInt32))) := hv 4 (by omega) 11 rfl
  have e5 : vals 5 = .int .i64 (u32i (shr d (31 - j) &&& 1)) := hv 5 (by omega) 12 rfl
  have e6 : vals 6 = .int .i64 (((side : Nat) : Int)) := hv 6 (by omega) 13 rfl
  have e7 : vals 7 = .bool (decide (u32i (shr d (31 - j) &&& 1) = ((side : Nat) : Int))) := hv 7 (by omega) 14 rfl
  have e8 : vals 8 = .bool (decide (u32i (shr d (31 - j) &&& 1) = ((side : Nat) : Int))) := hv 8 (by omega) 6 rfl
  simp only [putAll, Act.put, List.take_succ_cons, List.take_zero, List.drop_succ_cons, List.drop_zero, List.drop_nil, List.take_nil, Nat.reduceAdd, List.setIfInBounds_toArray, List.set_cons_succ, List.set_cons_zero, e0, e1, e2, e3, e4, e5, e6, e7, e8]
  clear hv e0 e1 e2 e3 e4 e5 e6 e7 e8
  go_wp2_with fail
  go_ret
  exact ⟨rfl, hE⟩
set_option maxHeartbeats 1000000 in
theorem digest_any (A : Option Addr) (n c : Nat) (M : List UInt8) (w : World) (hr : RB w A n c M) (hn : n ≤ 140737488355000) :
    Calls Try.prog 98 #[.slice A n c] w fun e w' => e = .returned (.int .u32 (u32i (digestW M))) ∧ Ext w w' := by
  have hl := hr.len
  have r1 := RBB.of1 hr 22
  have hE2 := Ext.new w (.cells #[.slice A n c] 22)
  have ht := htagged_any 13 _ 1 1 _ _ r1 (by simp only [List.flatten_cons, List.flatten_nil, List.append_nil, hl]; omega)
  have e13 : u8i 13 = 13 := rfl
  rw [e13, show [M].flatten = M from by simp] at ht
  have Ht := Lib.hid ht
  clear ht hl
  go_enter Try.func98, Try.ntmps98
  go_wp2_with fail
  refine Ht.out.mono ?_
  rintro e w3 ⟨A3, c3, rfl, own, hE3⟩
  obtain ⟨T, hT⟩ : ∃ T, T = tagged 13 M := ⟨_, rfl⟩
  rw [← hT] at own
  have HT := Lib.hid hT
  clear hT
  have r3 := own.rb
  have hc3 := r3.room
  have hc4 := r3.cap
  unfold maxLen at hc4
  obtain ⟨ad, rfl, hc⟩ := r3.cells (by omega)
  go_wp2_with fail
  go_loop [3, 11] (fun v i => ∃ k : Nat, k ≤ 4 ∧ i = .int .i64 k ∧ v = .int .u32 (u32i (beP T k))) (fun _ i => 4 - (intOf i).toNat)
  case atStart => exact ⟨0, by omega, rfl, rfl⟩
  case round =>
    obtain ⟨k, hk, rfl, rfl⟩ := hrel
    by_cases hlt : k < 4
    · have y1 := hc k (by omega)
      have e2 := fun w' : World => conv_u8_u32 (P := Try.prog) (w := w') Try.underlying5 Try.underlying25 (ub T k)
      have e3 : u32i (beP T k) * 256 % 4294967296 = u32i (shl (beP T k) 8) := by
        unfold u32i
        rw [shl_toNat]
        omega
      have e4 := bits_or32' (shl (beP T k) 8) (ub T k).toUInt32
      go_wp2_with fail
      go_round
      case rel => exact ⟨k + 1, by omega, by go_num, rfl⟩
      case measure => simp [intOf]; omega
    · obtain rfl : k = 4 := by omega
      go_wp2_with fail
      go_ret
      exact ⟨by rw [HT.out]; rfl, hE2.trans hE3⟩
end Go.Proofs.Ytmgnigofilkfmab
namespace Go.Proofs.Ytmgnigofilkfmab
set_option maxRecDepth 100000
open Go Go.RowKit
def partP (S : List UInt8) (key : Int) (i : Nat) : List UInt8 := shownL S key ((i / 2 : Nat) : Int) ((i % 2 : Nat) : Int)
def partS (dg : UInt32) (S : List UInt8) (key : Int) (i : Nat) : List UInt8 := if toldB dg (i / 2) (i % 2) = true then secretL S key ((i / 2 : Nat) : Int) ((i % 2 : Nat) : Int) else shownL S key ((i / 2 : Nat) : Int) ((i % 2 : Nat) : Int)
/-- a row of byte slices of the call's own; what they read as -/
def OBC (w : World) (base : Nat) (A : Option Addr) (n c : Nat) (Ls : List (List UInt8)) : Prop :=
  ∃ vs : List Value, w.ownsRow base 22 1 (.slice A n c) n vs ∧ Ls.length = n ∧ ∀ j, j < n → ∃ B m d, vs[j]? = some (.slice B m d) ∧ RB w B m d (lb Ls j) ∧ (0 < m → blk B ≠ blk A)
theorem OBC.none_ (w : World) (base : Nat) : OBC w base none 0 0 [] := ⟨[], World.ownsRow_nil w _ _ _, rfl, fun j hj => absurd hj (Nat.not_lt_zero _)⟩
theorem OBC.ext {w w' : World} {base : Nat} {A : Option Addr} {n c : Nat} {Ls : List (List UInt8)} (h : OBC w base A n c Ls) (e : Ext w w') : OBC w' base A n c Ls := by
  obtain ⟨vs, h1, h2, h3⟩ := h
  refine ⟨vs, World.ownsRow.kept h1 (e.grownBy none) ?_, h2, fun j hj => ?_⟩
  · cases hb : Value.ownBlock (.slice A n c) <;> simp
  · obtain ⟨B, m, d, h4, h5, h6⟩ := h3 j hj
    exact ⟨B, m, d, h4, h5.ext e, h6⟩
theorem OBC.lt {w : World} {base n c : Nat} {A : Option Addr} {Ls : List (List UInt8)} (h : OBC w base A n c Ls) {k : Nat} (hk : blk A = some k) : base ≤ k ∧ k < w.heap.size := by
  obtain ⟨vs, h1, _⟩ := h
  exact World.ownsRow.lt h1 k (by rw [ownBlock_slice]; exact hk)
theorem OBC.rbb {w : World} {base : Nat} {A : Option Addr} {n c : Nat} {Ls : List (List UInt8)} (h : OBC w base A n c Ls) : RBB w A n c Ls := by
  obtain ⟨vs, h1, h2, h3⟩ := h
  rcases h1.2 with ⟨hv, hn⟩ | ⟨g, cap, cur, hv, hb, hg, hnc, hcm, hcs, ht⟩
  · injection hv with e1 e2 e3
    subst e1 e2 e3
    exact ⟨h2, Nat.le_refl _, Nat.zero_le _, fun h => absurd h (Nat.lt_irrefl _)⟩
  · injection hv with e1 e2 e3
    subst e1 e3
    refine ⟨h2, hnc, hcm, fun hn => ⟨_, rfl, fun j hj => ?_⟩⟩
    obtain ⟨B, m, d, h4, h5, _⟩ := h3 j hj
    exact ⟨B, m, d, World.ownsRow.cells h1 (g := g) rfl j _ h4, h5⟩
theorem info_bb' : (Try.prog.info? 22).map (fun i => (i.zero, i.size, i.bytes)) = some (some (.slice none 0 0), 1, 24) := by kernel_rfl
theorem rb_blk_lt {w : World} {B : Option Addr} {n d : Nat} {M : List UInt8} (h : RB w B n d M) (hn : 0 < n) (k : Nat) (hk : blk B = some k) : k < w.heap.size := by
  obtain ⟨ad, rfl, hc⟩ := h.cells hn
  have h3 := World.block_lt_of_cell? w _ (hc 0 hn)
  rw [block_of_add] at h3
  have h4 : ad.block = k := by simpa [blk] using hk
  omega
theorem range_snoc {α : Type} (f : Nat → α) (k : Nat) : (List.range (k + 1)).map f = (List.range k).map f ++ [f k] := by simp [List.range_succ]
theorem appbc_law {ops : Array Oper} {rest : List Oper} {o : Oper} {a : Act} {Q : Exit → Act → World → Prop} {w : World} (hgd : o.guard = none) {s x : Operand} (ho : o.op = .call { callee := .builtin .append, args := #[s, x], argTypes := #[50, 50] })
    {A : Option Addr} {n c : Nat} (hs : a.eval s = .slice A n c) {ad : Addr} (hx : a.eval x = .slice (some ad) 1 1) {base : Nat} {Ls : List (List UInt8)} {B : Option Addr} {m d : Nat} {Y : List UInt8} (hcell : w.cell? (ad.add 0) = some (.slice B m d))
    (hown : OBC w base A n c Ls) (hB : RB w B m d Y) (hne : 0 < m → blk B ≠ blk A) (hbase : base ≤ w.heap.size) (hnk : n + 1 ≤ 1000000)
    (h : ∀ A' c' w', OBC w' base A' (n + 1) c' (Ls ++ [Y]) → w.grownBy w' (blk A) → wpList Try.prog ops Q rest (a.put o.dst (.slice A' (n + 1) c')) w') : wpList Try.prog ops Q (o :: rest) a w := by
  obtain ⟨i0, hi0, hz0, hz1, hz2⟩ := info_parts info_bb'
  obtain ⟨vs, h1, h2, h3⟩ := hown
  obtain ⟨v', w', hrun, r1, r2, _, r4⟩ := run_append_own_at (P := Try.prog) w base 50 o.type 22 i0 (.slice none 0 0) 1 24 Try.underlying50 hi0 hz0 hz1 hz2 rfl (by decide) (.slice A n c) n vs h1 ad 1 1 [.slice B m d] rfl
    (by
      intro j u hu
      rcases j with _ | j
      · injection hu with hu
        subst hu
        exact hcell
      · cases hu) (by simp [Value.oneCell']) (small_maxLen hnk) (by omega) hbase
  obtain ⟨A', c', rfl⟩ : ∃ A' c', v' = .slice A' (n + 1) c' := by
    rcases r1.2 with ⟨_, h0⟩ | ⟨g, cap, _, rfl, _⟩
    · omega
    · exact ⟨_, cap, rfl⟩
  rw [ownBlock_slice] at r2 r4
  rw [ownBlock_slice] at r4
  have hne' : ∀ (B' : Option Addr) (m' d' : Nat) (Y' : List UInt8), RB w B' m' d' Y' → (0 < m' → blk B' ≠ blk A) → (0 < m' → blk B' ≠ blk A') := by
    intro B' m' d' Y' hb hn hm e
    rcases r4 with r4 | r4
    · exact hn hm (e.trans r4)
    · have := rb_blk_lt hb hm _ (e.trans r4)
      omega
  have hvl : vs.length = n := by have := h1.1; omega
  refine run_law hgd (v := .slice A' (n + 1) c') (w' := w') ?_ (h A' c' w' ⟨vs ++ [.slice B m d], r1, by rw [List.length_append]; simp; omega, fun j hj => ?_⟩ r2)
  · unfold execOp
    simp only [ho, resolve, invoke, builtin, Sem.run_bind, Sem.run_pure, Result.andThen_ok, List.map_toArray, List.map_cons, List.map_nil, hs, hx, hrun]
  · by_cases hjn : j < n
    · obtain ⟨B', m', d', h4, h5, h6⟩ := h3 j hjn
      refine ⟨B', m', d', by rw [List.getElem?_append_left (by omega)]; exact h4, ?_, hne' _ _ _ _ h5 h6⟩
      have e : lb (Ls ++ [Y]) j = lb Ls j := by unfold lb; simp [List.getElem?_append_left (show j < Ls.length by omega)]
      rw [e]
      exact h5.grown r2 h6
    · obtain rfl : j = n := by omega
      refine ⟨B, m, d, by rw [List.getElem?_append_right (by omega), hvl]; simp, ?_, hne' _ _ _ _ hB hne⟩
      have e : lb (Ls ++ [Y]) j = Y := by unfold lb; simp [← h2]
      rw [e]
      exact hB.grown r2 hne
theorem choose_pub (j s : Nat) (w : World) : Calls Try.prog 112 #[.int .i64 (j : Int), .int .i64 (s : Int)] w fun e w' => e = .returned (.func (.func 103) #[] #[]) ∧ Ext w w' := by
  go_enter Try.func112, Try.ntmps112
  go_wp2_with fail
  go_ret
  exact ⟨rfl, Ext.refl _⟩
theorem choose_sign (dg : UInt32) (j s b : Nat) (w : World) (hb : Blk w b 25 #[.int .u32 (u32i dg)]) (hj : j < 32) :
    Calls Try.prog 100 #[.int .i64 (j : Int), .int .i64 (s : Int), .pointer (some ⟨b, 0, none⟩)] w fun e w' => e = .returned (.func (.func (if toldB dg j s = true then 102 else 103)) #[] #[]) ∧ Ext w w' := by
  have y0 := hb.cell (i := 0) rfl
  cases ht : toldB dg j s with
  | true =>
    rw [if_pos rfl]
    go_enter Try.func100, Try.ntmps100
    go_wp2_with fail
    refine (told_any dg j s w hj).mono ?_
    rintro e w1 ⟨rfl, hE1⟩
    rw [ht]
    go_wp2_with fail
    go_ret
    exact ⟨rfl, hE1⟩
  | false =>
    rw [if_neg (by simp)]
    go_enter Try.func100, Try.ntmps100
    go_wp2_with fail
    refine (told_any dg j s w hj).mono ?_
    rintro e w1 ⟨rfl, hE1⟩
    rw [ht]
    go_wp2_with fail
    go_ret
    exact ⟨rfl, hE1⟩
def PartO (f : Nat → List UInt8) (w : World) (v i : Value) (wr : World) : Prop :=
  ∃ (k d : Nat) (P : Option Addr), k ≤ 32 ∧ i = .int .i64 k ∧ v = .slice P (2 * k) d ∧ OBC wr w.heap.size P (2 * k) d ((List.range (2 * k)).map f) ∧ Ext w wr
def PartI (f : Nat → List UInt8) (w : World) (k : Nat) (v i : Value) (wr : World) : Prop :=
  ∃ (s d : Nat) (P : Option Addr), s ≤ 2 ∧ i = .int .i64 s ∧ v = .slice P (2 * k + s) d ∧ OBC wr w.heap.size P (2 * k + s) d ((List.range (2 * k + s)).map f) ∧ Ext w wr
set_option maxHeartbeats 4000000 in
theorem parts_pub (A : Option Addr) (n c : Nat) (S : List UInt8) (key : Int)  (w : World) (hr : RB w A n c S) (hn : n ≤ 140737488355000) :
    Calls Try.prog 99 #[.slice A n c, .int .i64 key, .func (.func 112) #[] #[]] w fun e w' => ∃ P d, e = .returned (.slice P 64 d) ∧ OBC w' w.heap.size P 64 d ((List.range 64).map (partP S key)) ∧ Ext w w' := by
  go_enter Try.func99, Try.ntmps99
  go_wp2_with fail
  go_loopw [7, 10] (fun v i wr => PartO (partP S key) w v i wr) (fun _ i _ => 32 - (intOf i).toNat)
  case atStart => exact ⟨0, 0, none, by omega, rfl, rfl, OBC.none_ _ _, Ext.refl _⟩
  case round =>
    obtain ⟨k, d, P, hk, rfl, rfl, own, hEr⟩ := hrel
    by_cases hlt : k < 32
    · have hki : (k : Int) < 32 := by omega
      go_wp2_with fail
      go_loopw [7, 13] (fun v i wr => PartI (partP S key) w k v i wr) (fun _ i _ => 2 - (intOf i).toNat)
      case atStart => exact ⟨0, d, P, by omega, rfl, rfl, own, hEr⟩
      case round =>
        clear own hEr
        obtain ⟨s, d, P, hs, rfl, rfl, own, hEr⟩ := hrel
        by_cases hls : s < 2
        · have hval : (partP S key) (2 * k + s) = shownL S key (k : Int) (s : Int) := by
            show shownL S key (((2 * k + s) / 2 : Nat) : Int) (((2 * k + s) % 2 : Nat) : Int) = _
            rw [show (2 * k + s) / 2 = k by omega, show (2 * k + s) % 2 = s by omega]
          have Hval := Lib.hid hval
          clear hval
          go_wp2_with fail
          refine (choose_pub k s wr).mono ?_
          rintro e w2 ⟨rfl, hE2⟩
          go_wp2_with fail
          refine (shown_any A n c S key k s w2 (hr.ext (hEr.trans hE2)) hn).mono ?_
          rintro e w3 ⟨A3, c3, rfl, own3, hE3⟩
          have hY : RB w3 A3 32 c3 ((partP S key) (2 * k + s)) := by
            rw [Hval.out]
            exact own3.rb
          have hEw := hEr.trans (hE2.trans hE3)
          have hEa := Ext.new w3 (.cells #[.slice A3 32 c3] 22)
          have hBa := Blk.new w3 22 #[.slice A3 32 c3]
          have own4 := (own.ext (hE2.trans hE3)).ext hEa
          have hne : 0 < 32 → blk A3 ≠ blk P := by
            intro _ e
            obtain ⟨b, hb⟩ : ∃ b, blk A3 = some b := by
              obtain ⟨ad, h1, _⟩ := own3.rb.cells (by omega)
              rw [h1]
              exact ⟨_, rfl⟩
            have h1 := (own3.lt hb).1
            have h2 := own.lt (e.symm.trans hb)
            have h3 := hE2.size
            omega
          go_wp2_with (refine appbc_law (base := w.heap.size) (Y := (partP S key) (2 * k + s)) rfl rfl rfl rfl (by rw [add_plain]; exact hBa.cell (i := 0) rfl) own4 (hY.ext hEa) hne (hEw.trans hEa).size (by omega) ?_; intro P5 d5 w5 own5 g5)
          go_roundw
          case rel =>
            rw [← range_snoc] at own5
            exact ⟨s + 1, d5, P5, by omega, by go_num, rfl, own5, (hEw.trans hEa).then_grown g5 (fun b hb => (own4.lt hb).1)⟩
          case measure => simp [intOf]; omega
        · obtain rfl : s = 2 := by omega
          go_wp2_with fail
          go_roundw
          case rel => exact ⟨k + 1, d, P, by omega, by go_num, rfl, own, hEr⟩
          case measure => simp [intOf]; omega
    · obtain rfl : k = 32 := by omega
      go_wp2_with fail
      go_ret
      exact ⟨P, d, rfl, own, hEr⟩
set_option maxHeartbeats 4000000 in
theorem parts_sign (A : Option Addr) (n c : Nat) (S : List UInt8) (key : Int) (dg : UInt32) (b : Nat) (w : World) (hr : RB w A n c S) (hn : n ≤ 140737488355000) (hb : Blk w b 25 #[.int .u32 (u32i dg)]) :
    Calls Try.prog 99 #[.slice A n c, .int .i64 key, .func (.func 100) #[] #[.pointer (some ⟨b, 0, none⟩)]] w fun e w' => ∃ P d, e = .returned (.slice P 64 d) ∧ OBC w' w.heap.size P 64 d ((List.range 64).map (partS dg S key)) ∧ Ext w w' := by
  go_enter Try.func99, Try.ntmps99
  go_wp2_with fail
  go_loopw [7, 10] (fun v i wr => PartO (partS dg S key) w v i wr) (fun _ i _ => 32 - (intOf i).toNat)
  case atStart => exact ⟨0, 0, none, by omega, rfl, rfl, OBC.none_ _ _, Ext.refl _⟩
  case round =>
    obtain ⟨k, d, P, hk, rfl, rfl, own, hEr⟩ := hrel
    by_cases hlt : k < 32
    · have hki : (k : Int) < 32 := by omega
      go_wp2_with fail
      go_loopw [7, 13] (fun v i wr => PartI (partS dg S key) w k v i wr) (fun _ i _ => 2 - (intOf i).toNat)
      case atStart => exact ⟨0, d, P, by omega, rfl, rfl, own, hEr⟩
      case round =>
        clear own hEr
        obtain ⟨s, d, P, hs, rfl, rfl, own, hEr⟩ := hrel
        by_cases hls : s < 2
        · have hval : (partS dg S key) (2 * k + s) = if toldB dg k s = true then secretL S key (k : Int) (s : Int) else shownL S key (k : Int) (s : Int) := by
            show (if toldB dg ((2 * k + s) / 2) ((2 * k + s) % 2) = true then secretL S key (((2 * k + s) / 2 : Nat) : Int) (((2 * k + s) % 2 : Nat) : Int) else shownL S key (((2 * k + s) / 2 : Nat) : Int) (((2 * k + s) % 2 : Nat) : Int)) = _
            rw [show (2 * k + s) / 2 = k by omega, show (2 * k + s) % 2 = s by omega]
          have Hval := Lib.hid hval
          clear hval
          go_wp2_with fail
          refine (choose_sign dg k s b wr (hb.ext hEr) hlt).mono ?_
          rintro e w2 ⟨rfl, hE2⟩
          cases ht : toldB dg k s with
          | true =>
            have Ht := Lib.hid ht
            clear ht
            rw [if_pos rfl]
            go_wp2_with fail
            refine (secret_any A n c S key k s w2 (hr.ext (hEr.trans hE2)) hn).mono ?_
            rintro e w3 ⟨A3, c3, rfl, own3, hE3⟩
            have hY : RB w3 A3 32 c3 ((partS dg S key) (2 * k + s)) := by
              rw [Hval.out, if_pos Ht.out]
              exact own3.rb
            have hEw := hEr.trans (hE2.trans hE3)
            have hEa := Ext.new w3 (.cells #[.slice A3 32 c3] 22)
            have hBa := Blk.new w3 22 #[.slice A3 32 c3]
            have own4 := (own.ext (hE2.trans hE3)).ext hEa
            have hne : 0 < 32 → blk A3 ≠ blk P := by
              intro _ e
              obtain ⟨b, hb⟩ : ∃ b, blk A3 = some b := by
                obtain ⟨ad, h1, _⟩ := own3.rb.cells (by omega)
                rw [h1]
                exact ⟨_, rfl⟩
              have h1 := (own3.lt hb).1
              have h2 := own.lt (e.symm.trans hb)
              have h3 := hE2.size
              omega
            go_wp2_with (refine appbc_law (base := w.heap.size) (Y := (partS dg S key) (2 * k + s)) rfl rfl rfl rfl (by rw [add_plain]; exact hBa.cell (i := 0) rfl) own4 (hY.ext hEa) hne (hEw.trans hEa).size (by omega) ?_; intro P5 d5 w5 own5 g5)
            go_roundw
            case rel =>
              rw [← range_snoc] at own5
              exact ⟨s + 1, d5, P5, by omega, by go_num, rfl, own5, (hEw.trans hEa).then_grown g5 (fun b hb => (own4.lt hb).1)⟩
            case measure => simp [intOf]; omega
          | false =>
            have Ht := Lib.hid (show ¬ toldB dg k s = true by rw [ht]; simp)
            clear ht
            rw [if_neg (by simp)]
            go_wp2_with fail
            refine (shown_any A n c S key k s w2 (hr.ext (hEr.trans hE2)) hn).mono ?_
            rintro e w3 ⟨A3, c3, rfl, own3, hE3⟩
            have hY : RB w3 A3 32 c3 ((partS dg S key) (2 * k + s)) := by
              rw [Hval.out, if_neg Ht.out]
              exact own3.rb
            have hEw := hEr.trans (hE2.trans hE3)
            have hEa := Ext.new w3 (.cells #[.slice A3 32 c3] 22)
            have hBa := Blk.new w3 22 #[.slice A3 32 c3]
            have own4 := (own.ext (hE2.trans hE3)).ext hEa
            have hne : 0 < 32 → blk A3 ≠ blk P := by
              intro _ e
              obtain ⟨b, hb⟩ : ∃ b, blk A3 = some b := by
                obtain ⟨ad, h1, _⟩ := own3.rb.cells (by omega)
                rw [h1]
                exact ⟨_, rfl⟩
              have h1 := (own3.lt hb).1
              have h2 := own.lt (e.symm.trans hb)
              have h3 := hE2.size
              omega
            go_wp2_with (refine appbc_law (base := w.heap.size) (Y := (partS dg S key) (2 * k + s)) rfl rfl rfl rfl (by rw [add_plain]; exact hBa.cell (i := 0) rfl) own4 (hY.ext hEa) hne (hEw.trans hEa).size (by omega) ?_; intro P5 d5 w5 own5 g5)
            go_roundw
            case rel =>
              rw [← range_snoc] at own5
              exact ⟨s + 1, d5, P5, by omega, by go_num, rfl, own5, (hEw.trans hEa).then_grown g5 (fun b hb => (own4.lt hb).1)⟩
            case measure => simp [intOf]; omega
        · obtain rfl : s = 2 := by omega
          go_wp2_with fail
          go_roundw
          case rel => exact ⟨k + 1, d, P, by omega, by go_num, rfl, own, hEr⟩
          case measure => simp [intOf]; omega
    · obtain rfl : k = 32 := by omega
      go_wp2_with fail
      go_ret
      exact ⟨P, d, rfl, own, hEr⟩

end Go.Proofs.Ytmgnigofilkfmab
namespace Go.Proofs.Ytmgnigofilkfmab
set_option maxRecDepth 100000
open Go Go.RowKit
theorem flat32 (f : Nat → List UInt8) (h : ∀ i, (f i).length = 32) (k : Nat) : (((List.range k).map f).flatten).length = 32 * k := by
  induction k with
  | zero => rfl
  | succ k ih => rw [range_snoc, List.flatten_append, List.length_append, ih]; simp [h]; omega
theorem flat32' (f : Nat → List UInt8) (k : Nat) (h : ∀ i, i < k → (f i).length = 32) : (((List.range k).map f).flatten).length = 32 * k := by
  induction k with
  | zero => rfl
  | succ k ih =>
    rw [range_snoc, List.flatten_append, List.length_append, ih (fun i hi => h i (by omega))]
    simp only [List.flatten_cons, List.flatten_nil, List.append_nil, h k (by omega)]
    omega
theorem secretL_length (S : List UInt8) (key bit side : Int) : (secretL S key bit side).length = 32 := tagged_length _ _
theorem shownL_length (S : List UInt8) (key bit side : Int) : (shownL S key bit side).length = 32 := tagged_length _ _
theorem partP_length (S : List UInt8) (key : Int) (i : Nat) : (partP S key i).length = 32 := shownL_length _ _ _ _
theorem partS_length (dg : UInt32) (S : List UInt8) (key : Int) (i : Nat) : (partS dg S key i).length = 32 := by
  unfold partS
  split
  · exact secretL_length _ _ _ _
  · exact shownL_length _ _ _ _
def publicL (S : List UInt8) (key : Int) : List UInt8 := tagged 12 ((List.range 64).map (partP S key)).flatten
def rootPart (dg : UInt32) (Ls : List (List UInt8)) (i : Nat) : List UInt8 := if toldB dg (i / 2) (i % 2) = true then tagged 11 (lb Ls i) else lb Ls i
def rootV (M : List UInt8) (Ls : List (List UInt8)) : List UInt8 := tagged 12 ((List.range 64).map (rootPart (digestW M) Ls)).flatten
def rootOK (Ls : List (List UInt8)) : Prop := Ls.length = 64 ∧ ∀ i, i < 64 → (lb Ls i).length = 32
theorem lb_range (f : Nat → List UInt8) {i k : Nat} (h : i < k) : lb ((List.range k).map f) i = f i := by simp [lb, h]
theorem root_sign (M S : List UInt8) (key : Int) : rootOK ((List.range 64).map (partS (digestW M) S key)) ∧ rootV M ((List.range 64).map (partS (digestW M) S key)) = publicL S key := by
  refine ⟨⟨by simp, fun i hi => by rw [lb_range _ hi]; exact partS_length _ _ _ _⟩, ?_⟩
  unfold rootV publicL
  congr 2
  apply List.map_congr_left
  intro i hi
  rw [List.mem_range] at hi
  unfold rootPart partP
  rw [lb_range _ hi]
  unfold partS
  by_cases h : toldB (digestW M) (i / 2) (i % 2) = true
  · rw [if_pos h, if_pos h]
    rfl
  · rw [if_neg h, if_neg h]
set_option maxHeartbeats 1000000 in
theorem public_any (A : Option Addr) (n c : Nat) (S : List UInt8) (key : Int) (w : World) (hr : RB w A n c S) (hn : n ≤ 140737488355000) :
    Calls Try.prog 97 #[.slice A n c, .int .i64 key] w fun e w' => ∃ A' c', e = .returned (.slice A' 32 c') ∧ OB w' w.heap.size A' 32 c' (publicL S key) ∧ Ext w w' := by
  go_enter Try.func97, Try.ntmps97
  go_wp2_with fail
  refine (parts_pub A n c S key w hr hn).mono ?_
  rintro e w1 ⟨P, d, rfl, own, hE1⟩
  have ht := htagged_any 12 P 64 d _ w1 own.rbb (by rw [flat32 _ (partP_length S key)]; omega)
  have e12 : u8i 12 = 12 := rfl
  rw [e12] at ht
  have Ht := Lib.hid ht
  clear ht
  go_wp2_with fail
  refine Ht.out.mono ?_
  rintro e w2 ⟨A2, c2, rfl, own2, hE2⟩
  go_wp2_with fail
  go_ret
  exact ⟨A2, c2, rfl, own2.base hE1.size, hE1.trans hE2⟩
set_option maxHeartbeats 1000000 in
theorem sign_any (A B : Option Addr) (n c m d : Nat) (S M : List UInt8) (key : Int) (w : World) (hr : RB w A n c S) (hn : n ≤ 140737488355000) (hm : RB w B m d M) (hmn : m ≤ 140737488355000) :
    Calls Try.prog 70 #[.slice A n c, .int .i64 key, .slice B m d] w fun e w' => ∃ P d', e = .returned (.slice P 64 d') ∧ OBC w' w.heap.size P 64 d' ((List.range 64).map (partS (digestW M) S key)) ∧ Ext w w' := by
  go_enter Try.func70, Try.ntmps70
  go_wp2_with fail
  refine (digest_any B m d M w hm hmn).mono ?_
  rintro e w1 ⟨rfl, hE1⟩
  obtain ⟨dg, hdg⟩ : ∃ dg, dg = digestW M := ⟨_, rfl⟩
  rw [← hdg]
  have Hdg := Lib.hid hdg
  clear hdg
  have hE2 := Ext.new w1 (.cells #[.int .u32 (u32i dg)] 25)
  have hB2 := Blk.new w1 25 #[.int .u32 (u32i dg)]
  go_wp2_with fail
  refine (parts_sign A n c S key dg w1.heap.size _ (hr.ext (hE1.trans hE2)) hn hB2).mono ?_
  rintro e w3 ⟨P, d', rfl, own, hE3⟩
  go_wp2_with fail
  go_ret
  rw [← Hdg.out]
  obtain ⟨vs, h1, h2⟩ := own
  have hle := (hE1.trans hE2).size
  refine ⟨P, d', rfl, ⟨vs, ⟨h1.1, ?_⟩, h2⟩, (hE1.trans hE2).trans hE3⟩
  rcases h1.2 with h0 | ⟨g, cap, cur, e, hg, h3⟩
  · exact .inl h0
  · exact .inr ⟨g, cap, cur, e, Nat.le_trans hle hg, h3⟩
def RootI (w : World) (dg : UInt32) (Ls : List (List UInt8)) (v i : Value) (wr : World) : Prop :=
  ∃ (k d : Nat) (P : Option Addr), k ≤ 64 ∧ i = .int .i64 k ∧ v = .slice P k d ∧ OBC wr w.heap.size P k d ((List.range k).map (rootPart dg Ls)) ∧ (∀ j, j < k → (lb Ls j).length = 32) ∧ Ext w wr
set_option maxHeartbeats 4000000 in
theorem root_any (B A : Option Addr) (m d n c : Nat) (M : List UInt8) (Ls : List (List UInt8)) (w : World) (hm : RB w B m d M) (hmn : m ≤ 140737488355000) (hr : RBB w A n c Ls) :
    Calls Try.prog 72 #[.slice B m d, .slice A n c] w fun e w' => (rootOK Ls → ∃ A' c', e = .returned (.tuple #[.slice A' 32 c', .bool true]) ∧ OB w' w.heap.size A' 32 c' (rootV M Ls)) ∧ (¬ rootOK Ls → e = .returned (.tuple #[.slice none 0 0, .bool false])) ∧ Ext w w' := by
  have hln := hr.len
  have Hn := Lib.hid hln
  clear hln
  by_cases h64 : n = 64
  · subst h64
    go_enter Try.func72, Try.ntmps72
    go_wp2_with fail
    refine (digest_any B m d M w hm hmn).mono ?_
    rintro e w1 ⟨rfl, hE1⟩
    obtain ⟨dg, hdg⟩ : ∃ dg, dg = digestW M := ⟨_, rfl⟩
    rw [← hdg]
    have Hdg := Lib.hid hdg
    clear hdg
    go_wp2_with fail
    go_loopw [7, 17] (fun v i wr => RootI w dg Ls v i wr) (fun _ i _ => 64 - (intOf i).toNat)
    case atStart => exact ⟨0, 0, none, by omega, rfl, rfl, OBC.none_ _ _, fun j hj => absurd hj (Nat.not_lt_zero _), hE1⟩
    case round =>
      obtain ⟨k, q, P, hk, rfl, rfl, own, hall, hEr⟩ := hrel
      have Hall := Lib.hid hall
      clear hall
      by_cases hlt : k < 64
      · have hki : (k : Int) < 64 := by omega
        obtain ⟨ad, rfl, hc⟩ := hr.cells (by omega)
        obtain ⟨E, z, y, hcell, hrE⟩ := hc k hlt
        have y1 := hEr.cell hcell
        have rE := hrE.ext hEr
        have hEl := rE.len
        by_cases hz : z = 32
        · subst hz
          have hEl2 := Lib.hid hEl
          clear hEl hc hcell
          go_wp2_with fail
          have ht := told_any dg (k / 2) (k % 2) wr (by omega)
          rw [show ((k / 2 : Nat) : Int) = (k : Int) / 2 from by omega, show ((k % 2 : Nat) : Int) = (k : Int) % 2 from by omega] at ht
          refine ht.mono ?_
          rintro e w2 ⟨rfl, hE2⟩
          clear ht
          have rE2 := rE.ext hE2
          cases htd : toldB dg (k / 2) (k % 2) with
          | true =>
            have Htd := Lib.hid htd
            clear htd
            have r1 := RBB.of1 rE2 22
            have hE3 := Ext.new w2 (.cells #[.slice E 32 y] 22)
            have hta := htagged_any 11 _ 1 1 _ _ r1 (by simp only [List.flatten_cons, List.flatten_nil, List.append_nil, hEl2.out]; omega)
            have e11 : u8i 11 = 11 := rfl
            rw [e11, show [lb Ls k].flatten = lb Ls k from by simp] at hta
            have Hta := Lib.hid hta
            clear hta
            go_wp2_with fail
            refine Hta.out.mono ?_
            rintro e w3 ⟨A3, c3, rfl, own3, hE4⟩
            clear Hta
            have hE24 := hE2.trans (hE3.trans hE4)
            have hEw := hEr.trans hE24
            have hEa := Ext.new w3 (.cells #[.slice A3 32 c3] 22)
            have hBa := Blk.new w3 22 #[.slice A3 32 c3]
            have own4 := (own.ext hE24).ext hEa
            have hY : RB w3 A3 32 c3 (rootPart dg Ls k) := by
              unfold rootPart
              rw [if_pos Htd.out]
              exact own3.rb
            have hne : 0 < 32 → blk A3 ≠ blk P := by
              intro _ e
              obtain ⟨b, hb⟩ : ∃ b, blk A3 = some b := by
                obtain ⟨ad', h1, _⟩ := own3.rb.cells (by omega)
                rw [h1]
                exact ⟨_, rfl⟩
              have h1 := (own3.lt hb).1
              have h2 := own.lt (e.symm.trans hb)
              have h3 := (hE2.trans hE3).size
              omega
            go_wp2_with (refine appbc_law (base := w.heap.size) (Y := rootPart dg Ls k) rfl rfl rfl rfl (by rw [add_plain]; exact hBa.cell (i := 0) rfl) own4 (hY.ext hEa) hne (hEw.trans hEa).size (by omega) ?_; intro P5 d5 w5 own5 g5)
            go_roundw
            case rel =>
              rw [← range_snoc] at own5
              refine ⟨k + 1, d5, P5, by omega, by go_num, rfl, own5, fun j hj => ?_, (hEw.trans hEa).then_grown g5 (fun b hb => (own4.lt hb).1)⟩
              by_cases hjk : j = k
              · rw [hjk]; exact hEl2.out
              · exact Hall.out j (by omega)
            case measure => simp [intOf]; omega
          | false =>
            have Htd := Lib.hid (show ¬ toldB dg (k / 2) (k % 2) = true by rw [htd]; simp)
            clear htd
            have hEw := hEr.trans hE2
            have hEa := Ext.new w2 (.cells #[.slice E 32 y] 22)
            have hBa := Blk.new w2 22 #[.slice E 32 y]
            have own4 := (own.ext hE2).ext hEa
            have hY : RB w2 E 32 y (rootPart dg Ls k) := by
              unfold rootPart
              rw [if_neg Htd.out]
              exact rE2
            have hne : 0 < 32 → blk E ≠ blk P := by
              intro _ e
              obtain ⟨b, hb⟩ : ∃ b, blk E = some b := by
                obtain ⟨ad', h1, _⟩ := hrE.cells (by omega)
                rw [h1]
                exact ⟨_, rfl⟩
              have h1 := rb_blk_lt hrE (by omega) _ hb
              have h2 := own.lt (e.symm.trans hb)
              omega
            go_wp2_with (refine appbc_law (base := w.heap.size) (Y := rootPart dg Ls k) rfl rfl rfl rfl (by rw [add_plain]; exact hBa.cell (i := 0) rfl) own4 (hY.ext hEa) hne (hEw.trans hEa).size (by omega) ?_; intro P5 d5 w5 own5 g5)
            go_roundw
            case rel =>
              rw [← range_snoc] at own5
              refine ⟨k + 1, d5, P5, by omega, by go_num, rfl, own5, fun j hj => ?_, (hEw.trans hEa).then_grown g5 (fun b hb => (own4.lt hb).1)⟩
              by_cases hjk : j = k
              · rw [hjk]; exact hEl2.out
              · exact Hall.out j (by omega)
            case measure => simp [intOf]; omega
        · have hno : ¬ rootOK Ls := fun h => hz (by rw [← hEl]; exact h.2 k hlt)
          have Hno := Lib.hid hno
          have hzi : ¬ ((z : Int) = 32) := by omega
          clear hno hEl hc hcell
          go_wp2_with fail
          go_ret2
          exact ⟨fun h => absurd h Hno.out, fun _ => rfl, hEr⟩
      · obtain rfl : k = 64 := by omega
        have hok : rootOK Ls := ⟨Hn.out, Hall.out⟩
        have Hok := Lib.hid hok
        have hplen : ∀ i, i < 64 → (rootPart dg Ls i).length = 32 := by
          intro i hi
          unfold rootPart
          split
          · exact tagged_length _ _
          · exact Hall.out i hi
        have hta := htagged_any 12 P 64 q _ wr own.rbb (by rw [flat32' _ 64 hplen]; omega)
        have e12 : u8i 12 = 12 := rfl
        rw [e12] at hta
        have Hta := Lib.hid hta
        clear hta hok hplen
        go_wp2_with fail
        refine Hta.out.mono ?_
        rintro e w3 ⟨A3, c3, rfl, own3, hE4⟩
        clear Hta
        go_wp2_with fail
        go_ret2
        refine ⟨fun _ => ⟨A3, c3, rfl, ?_⟩, fun h => absurd Hok.out h, hEr.trans hE4⟩
        unfold rootV
        rw [← Hdg.out]
        exact own3.base hEr.size
  · have hno : ¬ rootOK Ls := fun h => h64 (by rw [← Hn.out]; exact h.1)
    have Hno := Lib.hid hno
    have hzi : ¬ ((n : Int) = 64) := by omega
    clear hno
    go_enter Try.func72, Try.ntmps72
    go_wp2_with fail
    go_ret2
    exact ⟨fun h => absurd h Hno.out, fun _ => rfl, Ext.refl _⟩
end Go.Proofs.Ytmgnigofilkfmab
namespace Go.Proofs.Ytmgnigofilkfmab
set_option maxRecDepth 100000
open Go Go.RowKit
set_option maxHeartbeats 1000000 in
theorem num4_any (x : UInt32) (w : World) :
    Calls Try.prog 85 #[.slice none 0 0, .int .u32 (u32i x)] w fun e w' => ∃ A' c', e = .returned (.slice A' 4 c') ∧ OB w' w.heap.size A' 4 c' (bytesOf x) ∧ Ext w w' := by
  go_enter Try.func85, Try.ntmps85
  go_upto_region 1 with (fail)
  refine seq_ext (n := 13) (by kernel_rfl) [.is (.slice (none) (0) (0)), .is (.int .u32 (u32i (x))), .is (.int .u32 (u32i (shr x 24))), .is (.int .u8 (u8i ((shr x 24)).toUInt8)), .is (.int .u32 (u32i (x))), .is (.int .u32 (u32i (shr x 16))), .is (.int .u8 (u8i ((shr x 16)).toUInt8)), .is (.int .u32 (u32i (x))), .is (.int .u32 (u32i (shr x 8))), .is (.int .u8 (u8i ((shr x 8)).toUInt8)), .is (.int .u32 (u32i (x))), .is (.int .u8 (u8i (x).toUInt8)), .rb ([((shr x 24)).toUInt8, ((shr x 16)).toUInt8, ((shr x 8)).toUInt8, (x).toUInt8])] rfl ⟨?_, ?_, ?_, ?_, ?_, ?_, ?_, ?_, ?_, ?_, ?_, ?_, ?_, trivial⟩ ?_
  · refine stepE rfl fun sdn sa sw sE sd sk => ?_
    have h0 : sa.eval (.tmp 0) = .slice (none) (0) (0) := sk.old 0 rfl
    exact Runs.move rfl h0 ⟨Ext.refl _, rfl⟩
  · refine stepE rfl fun sdn sa sw sE sd sk => ?_
    have h1 : sa.eval (.tmp 1) = .int .u32 (u32i (x)) := sk.old 1 rfl
    exact Runs.move rfl h1 ⟨Ext.refl _, rfl⟩
  · refine stepE rfl fun sdn sa sw sE sd sk => ?_
    have h6 : sa.eval (.tmp 6) = .int .u32 (u32i (x)) := sk.fact 1 6 rfl (sd 1 rfl)
    exact Runs.bin rfl h6 rfl (eqGuard_bin rfl) (bin_shr32 _ _ 24 _) ⟨Ext.refl _, rfl⟩
  · refine stepE rfl fun sdn sa sw sE sd sk => ?_
    have h7 : sa.eval (.tmp 7) = .int .u32 (u32i (shr x 24)) := sk.fact 2 7 rfl (sd 2 rfl)
    exact Runs.conv rfl h7 (conv_u32_u8 Try.underlying25 Try.underlying5 _) ⟨Ext.refl _, rfl⟩
  · refine stepE rfl fun sdn sa sw sE sd sk => ?_
    have h1 : sa.eval (.tmp 1) = .int .u32 (u32i (x)) := sk.old 1 rfl
    exact Runs.move rfl h1 ⟨Ext.refl _, rfl⟩
  · refine stepE rfl fun sdn sa sw sE sd sk => ?_
    have h9 : sa.eval (.tmp 9) = .int .u32 (u32i (x)) := sk.fact 4 9 rfl (sd 4 rfl)
    exact Runs.bin rfl h9 rfl (eqGuard_bin rfl) (bin_shr32 _ _ 16 _) ⟨Ext.refl _, rfl⟩
  · refine stepE rfl fun sdn sa sw sE sd sk => ?_
    have h10 : sa.eval (.tmp 10) = .int .u32 (u32i (shr x 16)) := sk.fact 5 10 rfl (sd 5 rfl)
    exact Runs.conv rfl h10 (conv_u32_u8 Try.underlying25 Try.underlying5 _) ⟨Ext.refl _, rfl⟩
  · refine stepE rfl fun sdn sa sw sE sd sk => ?_
    have h1 : sa.eval (.tmp 1) = .int .u32 (u32i (x)) := sk.old 1 rfl
    exact Runs.move rfl h1 ⟨Ext.refl _, rfl⟩
  · refine stepE rfl fun sdn sa sw sE sd sk => ?_
    have h12 : sa.eval (.tmp 12) = .int .u32 (u32i (x)) := sk.fact 7 12 rfl (sd 7 rfl)
    exact Runs.bin rfl h12 rfl (eqGuard_bin rfl) (bin_shr32 _ _ 8 _) ⟨Ext.refl _, rfl⟩
  · refine stepE rfl fun sdn sa sw sE sd sk => ?_
    have h13 : sa.eval (.tmp 13) = .int .u32 (u32i (shr x 8)) := sk.fact 8 13 rfl (sd 8 rfl)
    exact Runs.conv rfl h13 (conv_u32_u8 Try.underlying25 Try.underlying5 _) ⟨Ext.refl _, rfl⟩
  · refine stepE rfl fun sdn sa sw sE sd sk => ?_
    have h1 : sa.eval (.tmp 1) = .int .u32 (u32i (x)) := sk.old 1 rfl
    exact Runs.move rfl h1 ⟨Ext.refl _, rfl⟩
  · refine stepE rfl fun sdn sa sw sE sd sk => ?_
    have h15 : sa.eval (.tmp 15) = .int .u32 (u32i (x)) := sk.fact 10 15 rfl (sd 10 rfl)
    exact Runs.conv rfl h15 (conv_u32_u8 Try.underlying25 Try.underlying5 _) ⟨Ext.refl _, rfl⟩
  · refine stepE rfl fun sdn sa sw sE sd sk => ?_
    have h8 : sa.eval (.tmp 8) = .int .u8 (u8i ((shr x 24)).toUInt8) := sk.fact 3 8 rfl (sd 3 rfl)
    have h11 : sa.eval (.tmp 11) = .int .u8 (u8i ((shr x 16)).toUInt8) := sk.fact 6 11 rfl (sd 6 rfl)
    have h14 : sa.eval (.tmp 14) = .int .u8 (u8i ((shr x 8)).toUInt8) := sk.fact 9 14 rfl (sd 9 rfl)
    have h16 : sa.eval (.tmp 16) = .int .u8 (u8i (x).toUInt8) := sk.fact 11 16 rfl (sd 11 rfl)
    exact Runs.lit4 rfl h8 h11 h14 h16 (fun w1 e1 o1 => ⟨e1, _, _, _, rfl, o1.rb⟩)
  intro vals W1 hE hv
  have e0 : vals 0 = .slice (none) (0) (0) := hv 0 (by omega) 5 rfl
  have e1 : vals 1 = .int .u32 (u32i (x)) := hv 1 (by omega) 6 rfl
  have e2 : vals 2 = .int .u32 (u32i (shr x 24)) := hv 2 (by omega) 7 rfl
  have e3 : vals 3 = .int .u8 (u8i ((shr x 24)).toUInt8) := hv 3 (by omega) 8 rfl
  have e4 : vals 4 = .int .u32 (u32i (x)) := hv 4 (by omega) 9 rfl
  have e5 : vals 5 = .int .u32 (u32i (shr x 16)) := hv 5 (by omega) 10 rfl
  have e6 : vals 6 = .int .u8 (u8i ((shr x 16)).toUInt8) := hv 6 (by omega) 11 rfl
  have e7 : vals 7 = .int .u32 (u32i (x)) := hv 7 (by omega) 12 rfl
  have e8 : vals 8 = .int .u32 (u32i (shr x 8)) := hv 8 (by omega) 13 rfl
  have e9 : vals 9 = .int .u8 (u8i ((shr x 8)).toUInt8) := hv 9 (by omega) 14 rfl
  have e10 : vals 10 = .int .u32 (u32i (x)) := hv 10 (by omega) 15 rfl
  have e11 : vals 11 = .int .u8 (u8i (x).toUInt8) := hv 11 (by omega) 16 rfl
  obtain ⟨A17, n17, c17, e12, r17⟩ := hv 12 (by omega) 17 rfl
  simp only [putAll, Act.put, List.take_succ_cons, List.take_zero, List.drop_succ_cons, List.drop_zero, List.drop_nil, List.take_nil, Nat.reduceAdd, List.setIfInBounds_toArray, List.set_cons_succ, List.set_cons_zero, e0, e1, e2, e3, e4, e5, e6, e7, e8, e9, e10, e11, e12]
  clear hv e0 e1 e2 e3 e4 e5 e6 e7 e8 e9 e10 e11 e12
  obtain rfl : n17 = 4 := r17.len.symm
  go_wp2_with (refine app_own (w0 := w) (N := 4) (LM := bytesOf x) rfl rfl rfl rfl hE (OB.none_ _ _) r17 rfl rfl (by omega) ?_; intro A3 c3 W3 own3 hE3)
  go_ret
  exact ⟨A3, c3, rfl, own3, hE3⟩
set_option maxHeartbeats 1000000 in
theorem r4secret_any (A : Option Addr) (n c : Nat) (S : List UInt8) (key bit side : Int) (w : World) (hr : RB w A n c S) (hn : n ≤ 140737488355000) :
    Calls Try.prog 108 #[.slice A n c, .int .i64 key, .int .i64 bit, .int .i64 side] w fun e w' => ∃ A' c', e = .returned (.slice A' 32 c') ∧ OB w' w.heap.size A' 32 c' (secretL S key bit side) ∧ Ext w w' := by
  have hl := hr.len
  have Hl := Lib.hid hl
  clear hl
  go_enter Try.func108, Try.ntmps108
  go_upto_region 1 with (fail)
  refine seq_ext (n := 10) (by kernel_rfl) [.is (.slice (A) (n) (c)), .is (.int .i64 (key)), .is (.int .u32 (u32i (keyW key))), .rb (bytesOf (keyW key)), .is (.int .i64 (bit)), .is (.int .u8 (u8i (byteI bit))), .is (.int .i64 (side)), .is (.int .u8 (u8i (byteI side))), .rb ([(byteI bit), (byteI side)]), .rbb ([S, bytesOf (keyW key), [(byteI bit), (byteI side)]])] rfl ⟨?_, ?_, ?_, ?_, ?_, ?_, ?_, ?_, ?_, ?_, trivial⟩ ?_
  · refine stepE rfl fun sdn sa sw sE sd sk => ?_
    have h0 : sa.eval (.tmp 0) = .slice (A) (n) (c) := sk.old 0 rfl
    exact Runs.move rfl h0 ⟨Ext.refl _, rfl⟩
  · refine stepE rfl fun sdn sa sw sE sd sk => ?_
    have h1 : sa.eval (.tmp 1) = .int .i64 (key) := sk.old 1 rfl
    exact Runs.move rfl h1 ⟨Ext.refl _, rfl⟩
  · refine stepE rfl fun sdn sa sw sE sd sk => ?_
    have h10 : sa.eval (.tmp 10) = .int .i64 (key) := sk.fact 1 10 rfl (sd 1 rfl)
    exact Runs.conv rfl h10 (conv_key Try.underlying3 Try.underlying25 _) ⟨Ext.refl _, rfl⟩
  · refine stepE rfl fun sdn sa sw sE sd sk => ?_
    have h11 : sa.eval (.tmp 11) = .int .u32 (u32i (keyW key)) := sk.fact 2 11 rfl (sd 2 rfl)
    refine Runs.call (f := 85) (vs := [.slice none 0 0, .int .u32 (u32i (keyW key))]) rfl rfl rfl (by simp only [List.map_toArray, List.map_cons, List.map_nil, h11] <;> rfl) (ent85 _ _) ((num4_any (keyW key) sw).mono ?_); rintro e w' ⟨A', c', rfl, own, hx⟩; exact ⟨_, rfl, hx, A', 4, c', rfl, own.rb⟩
  · refine stepE rfl fun sdn sa sw sE sd sk => ?_
    have h2 : sa.eval (.tmp 2) = .int .i64 (bit) := sk.old 2 rfl
    exact Runs.move rfl h2 ⟨Ext.refl _, rfl⟩
  · refine stepE rfl fun sdn sa sw sE sd sk => ?_
    have h13 : sa.eval (.tmp 13) = .int .i64 (bit) := sk.fact 4 13 rfl (sd 4 rfl)
    exact Runs.conv rfl h13 (conv_byte Try.underlying3 Try.underlying5 _) ⟨Ext.refl _, rfl⟩
  · refine stepE rfl fun sdn sa sw sE sd sk => ?_
    have h3 : sa.eval (.tmp 3) = .int .i64 (side) := sk.old 3 rfl
    exact Runs.move rfl h3 ⟨Ext.refl _, rfl⟩
  · refine stepE rfl fun sdn sa sw sE sd sk => ?_
    have h15 : sa.eval (.tmp 15) = .int .i64 (side) := sk.fact 6 15 rfl (sd 6 rfl)
    exact Runs.conv rfl h15 (conv_byte Try.underlying3 Try.underlying5 _) ⟨Ext.refl _, rfl⟩
  · refine stepE rfl fun sdn sa sw sE sd sk => ?_
    have h14 : sa.eval (.tmp 14) = .int .u8 (u8i (byteI bit)) := sk.fact 5 14 rfl (sd 5 rfl)
    have h16 : sa.eval (.tmp 16) = .int .u8 (u8i (byteI side)) := sk.fact 7 16 rfl (sd 7 rfl)
    exact Runs.lit2 rfl h14 h16 (fun w1 e1 o1 => ⟨e1, _, _, _, rfl, o1.rb⟩)
  · refine stepE rfl fun sdn sa sw sE sd sk => ?_
    have h9 : sa.eval (.tmp 9) = .slice (A) (n) (c) := sk.fact 0 9 rfl (sd 0 rfl)
    obtain ⟨A12, n12, c12, h12, r12⟩ := sk.fact 3 12 rfl (sd 3 rfl)
    obtain ⟨A17, n17, c17, h17, r17⟩ := sk.fact 8 17 rfl (sd 8 rfl)
    exact Runs.ss3 rfl h9 h12 h17 (hr.ext sE) r12 r17 (fun w1 e1 b1 => ⟨e1, _, _, _, rfl, b1⟩)
  intro vals W1 hE hv
  have e0 : vals 0 = .slice (A) (n) (c) := hv 0 (by omega) 9 rfl
  have e1 : vals 1 = .int .i64 (key) := hv 1 (by omega) 10 rfl
  have e2 : vals 2 = .int .u32 (u32i (keyW key)) := hv 2 (by omega) 11 rfl
  obtain ⟨A12, n12, c12, e3, r12⟩ := hv 3 (by omega) 12 rfl
  have e4 : vals 4 = .int .i64 (bit) := hv 4 (by omega) 13 rfl
  have e5 : vals 5 = .int .u8 (u8i (byteI bit)) := hv 5 (by omega) 14 rfl
  have e6 : vals 6 = .int .i64 (side) := hv 6 (by omega) 15 rfl
  have e7 : vals 7 = .int .u8 (u8i (byteI side)) := hv 7 (by omega) 16 rfl
  obtain ⟨A17, n17, c17, e8, r17⟩ := hv 8 (by omega) 17 rfl
  obtain ⟨A18, n18, c18, e9, r18⟩ := hv 9 (by omega) 18 rfl
  simp only [putAll, Act.put, List.take_succ_cons, List.take_zero, List.drop_succ_cons, List.drop_zero, List.drop_nil, List.take_nil, Nat.reduceAdd, List.setIfInBounds_toArray, List.set_cons_succ, List.set_cons_zero, e0, e1, e2, e3, e4, e5, e6, e7, e8, e9]
  clear hv e0 e1 e2 e3 e4 e5 e6 e7 e8 e9
  have ht := rtagged_any 10 A18 n18 c18 _ W1 r18 (by simp only [List.flatten_cons, List.flatten_nil, List.length_append, List.length_nil, List.length_cons, bytesOf_length, Hl.out]; omega)
  have e10 : u8i 10 = 10 := rfl
  rw [e10, show [S, bytesOf (keyW key), [byteI bit, byteI side]].flatten = S ++ [(shr (keyW key) 24).toUInt8, (shr (keyW key) 16).toUInt8, (shr (keyW key) 8).toUInt8, (keyW key).toUInt8, byteI bit, byteI side] from by simp [bytesOf]] at ht
  have Ht := Lib.hid ht
  clear ht
  go_wp2_with fail
  refine Ht.out.mono ?_
  rintro e w3 ⟨A3, c3, rfl, own, hE3⟩
  go_wp2_with fail
  go_ret
  exact ⟨A3, c3, rfl, own.base hE.size, hE.trans hE3⟩
set_option maxHeartbeats 1000000 in
theorem r4shown_any (A : Option Addr) (n c : Nat) (S : List UInt8) (key bit side : Int) (w : World) (hr : RB w A n c S) (hn : n ≤ 140737488355000) :
    Calls Try.prog 106 #[.slice A n c, .int .i64 key, .int .i64 bit, .int .i64 side] w fun e w' => ∃ A' c', e = .returned (.slice A' 32 c') ∧ OB w' w.heap.size A' 32 c' (shownL S key bit side) ∧ Ext w w' := by
  go_enter Try.func106, Try.ntmps106
  go_wp2_with fail
  refine (r4secret_any A n c S key bit side w hr hn).mono ?_
  rintro e w1 ⟨A1, c1, rfl, own1, hE1⟩
  have r1 := RBB.of1 own1.rb 22
  have hE2 := Ext.new w1 (.cells #[.slice A1 32 c1] 22)
  have ht := rtagged_any 11 _ 1 1 _ _ r1 (by simp only [List.flatten_cons, List.flatten_nil, List.append_nil, secretL, tagged_length]; omega)
  have e11 : u8i 11 = 11 := rfl
  rw [e11, show [secretL S key bit side].flatten = secretL S key bit side from by simp] at ht
  have Ht := Lib.hid ht
  clear ht
  go_wp2_with fail
  refine Ht.out.mono ?_
  rintro e w3 ⟨A3, c3, rfl, own, hE3⟩
  go_wp2_with fail
  go_ret
  exact ⟨A3, c3, rfl, own.base (hE1.trans hE2).size, (hE1.trans hE2).trans hE3⟩

set_option maxHeartbeats 1000000 in
theorem r4digest_any (A : Option Addr) (n c : Nat) (M : List UInt8) (w : World) (hr : RB w A n c M) (hn : n ≤ 140737488355000) :
    Calls Try.prog 107 #[.slice A n c] w fun e w' => e = .returned (.int .u32 (u32i (digestW M))) ∧ Ext w w' := by
  have hl := hr.len
  have r1 := RBB.of1 hr 22
  have hE2 := Ext.new w (.cells #[.slice A n c] 22)
  have ht := rtagged_any 13 _ 1 1 _ _ r1 (by simp only [List.flatten_cons, List.flatten_nil, List.append_nil, hl]; omega)
  have e13 : u8i 13 = 13 := rfl
  rw [e13, show [M].flatten = M from by simp] at ht
  have Ht := Lib.hid ht
  clear ht hl
  go_enter Try.func107, Try.ntmps107
  go_wp2_with fail
  refine Ht.out.mono ?_
  rintro e w3 ⟨A3, c3, rfl, own, hE3⟩
  obtain ⟨T, hT⟩ : ∃ T, T = tagged 13 M := ⟨_, rfl⟩
  rw [← hT] at own
  have HT := Lib.hid hT
  clear hT
  have r3 := own.rb
  obtain ⟨ad, rfl, hc⟩ := r3.cells (by omega)
  go_upto_region 2 with (fail)
  refine par_ext (n := 23) (by kernel_rfl) [.is (.slice (some ad) (32) (c3)), .is (.pointer (some (ad.add (0)))), .is (.int .u8 (u8i (ub T (0)))), .is (.int .u32 (u32i (ub T (0)).toUInt32)), .is (.int .u32 (u32i (shl (ub T (0)).toUInt32 24))), .is (.slice (some ad) (32) (c3)), .is (.pointer (some (ad.add (1)))), .is (.int .u8 (u8i (ub T (1)))), .is (.int .u32 (u32i (ub T (1)).toUInt32)), .is (.int .u32 (u32i (shl (ub T (1)).toUInt32 16))), .is (.int .u32 (u32i ((shl (ub T (0)).toUInt32 24) ||| (shl (ub T (1)).toUInt32 16)))), .is (.slice (some ad) (32) (c3)), .is (.pointer (some (ad.add (2)))), .is (.int .u8 (u8i (ub T (2)))), .is (.int .u32 (u32i (ub T (2)).toUInt32)), .is (.int .u32 (u32i (shl (ub T (2)).toUInt32 8))), .is (.int .u32 (u32i (((shl (ub T (0)).toUInt32 24) ||| (shl (ub T (1)).toUInt32 16)) ||| (shl (ub T (2)).toUInt32 8)))), .is (.slice (some ad) (32) (c3)), .is (.pointer (some (ad.add (3)))), .is (.int .u8 (u8i (ub T (3)))), .is (.int .u32 (u32i (ub T (3)).toUInt32)), .is (.int .u32 (u32i ((((shl (ub T (0)).toUInt32 24) ||| (shl (ub T (1)).toUInt32 16)) ||| (shl (ub T (2)).toUInt32 8)) ||| (ub T (3)).toUInt32))), .is (.int .u32 (u32i ((((shl (ub T (0)).toUInt32 24) ||| (shl (ub T (1)).toUInt32 16)) ||| (shl (ub T (2)).toUInt32 8)) ||| (ub T (3)).toUInt32)))] rfl ⟨?_, ?_, ?_, ?_, ?_, ?_, ?_, ?_, ?_, ?_, ?_, ?_, ?_, ?_, ?_, ?_, ?_, ?_, ?_, ?_, ?_, ?_, ?_, trivial⟩ ?_
  · refine stepE rfl fun sdn sa sw sE sd sk => ?_
    have h3 : sa.eval (.tmp 3) = .slice (some ad) (32) (c3) := sk.old 3 rfl
    exact Runs.move rfl h3 ⟨Ext.refl _, rfl⟩
  · refine stepE rfl fun sdn sa sw sE sd sk => ?_
    have h7 : sa.eval (.tmp 7) = .slice (some ad) (32) (c3) := sk.fact 0 7 rfl (sd 0 rfl)
    exact Runs.idx rfl h7 rfl (run_idx_sl1 Try.underlying22 inf22_eq inf22_size (0) (by omega) (by omega)) ⟨Ext.refl _, rfl⟩
  · refine stepE rfl fun sdn sa sw sE sd sk => ?_
    have h8 : sa.eval (.tmp 8) = .pointer (some (ad.add (0))) := sk.fact 1 8 rfl (sd 1 rfl)
    exact Runs.load rfl h8 (run_load1 Try.underlying5 rfl (cell_at hc sE (by omega))) ⟨Ext.refl _, rfl⟩
  · refine stepE rfl fun sdn sa sw sE sd sk => ?_
    have h9 : sa.eval (.tmp 9) = .int .u8 (u8i (ub T (0))) := sk.fact 2 9 rfl (sd 2 rfl)
    exact Runs.conv rfl h9 (conv_u8_u32 Try.underlying5 Try.underlying25 _) ⟨Ext.refl _, rfl⟩
  · refine stepE rfl fun sdn sa sw sE sd sk => ?_
    have h10 : sa.eval (.tmp 10) = .int .u32 (u32i (ub T (0)).toUInt32) := sk.fact 3 10 rfl (sd 3 rfl)
    exact Runs.bin rfl h10 rfl (eqGuard_bin rfl) (bin_shl32 _ _ 24 _) ⟨Ext.refl _, rfl⟩
  · refine stepE rfl fun sdn sa sw sE sd sk => ?_
    have h3 : sa.eval (.tmp 3) = .slice (some ad) (32) (c3) := sk.old 3 rfl
    exact Runs.move rfl h3 ⟨Ext.refl _, rfl⟩
  · refine stepE rfl fun sdn sa sw sE sd sk => ?_
    have h12 : sa.eval (.tmp 12) = .slice (some ad) (32) (c3) := sk.fact 5 12 rfl (sd 5 rfl)
    exact Runs.idx rfl h12 rfl (run_idx_sl1 Try.underlying22 inf22_eq inf22_size (1) (by omega) (by omega)) ⟨Ext.refl _, rfl⟩
  · refine stepE rfl fun sdn sa sw sE sd sk => ?_
    have h13 : sa.eval (.tmp 13) = .pointer (some (ad.add (1))) := sk.fact 6 13 rfl (sd 6 rfl)
    exact Runs.load rfl h13 (run_load1 Try.underlying5 rfl (cell_at hc sE (by omega))) ⟨Ext.refl _, rfl⟩
  · refine stepE rfl fun sdn sa sw sE sd sk => ?_
    have h14 : sa.eval (.tmp 14) = .int .u8 (u8i (ub T (1))) := sk.fact 7 14 rfl (sd 7 rfl)
    exact Runs.conv rfl h14 (conv_u8_u32 Try.underlying5 Try.underlying25 _) ⟨Ext.refl _, rfl⟩
  · refine stepE rfl fun sdn sa sw sE sd sk => ?_
    have h15 : sa.eval (.tmp 15) = .int .u32 (u32i (ub T (1)).toUInt32) := sk.fact 8 15 rfl (sd 8 rfl)
    exact Runs.bin rfl h15 rfl (eqGuard_bin rfl) (bin_shl32 _ _ 16 _) ⟨Ext.refl _, rfl⟩
  · refine stepE rfl fun sdn sa sw sE sd sk => ?_
    have h11 : sa.eval (.tmp 11) = .int .u32 (u32i (shl (ub T (0)).toUInt32 24)) := sk.fact 4 11 rfl (sd 4 rfl)
    have h16 : sa.eval (.tmp 16) = .int .u32 (u32i (shl (ub T (1)).toUInt32 16)) := sk.fact 9 16 rfl (sd 9 rfl)
    exact Runs.bin rfl h11 h16 (eqGuard_bin rfl) (bin_or32 _ _ _) ⟨Ext.refl _, rfl⟩
  · refine stepE rfl fun sdn sa sw sE sd sk => ?_
    have h3 : sa.eval (.tmp 3) = .slice (some ad) (32) (c3) := sk.old 3 rfl
    exact Runs.move rfl h3 ⟨Ext.refl _, rfl⟩
  · refine stepE rfl fun sdn sa sw sE sd sk => ?_
    have h18 : sa.eval (.tmp 18) = .slice (some ad) (32) (c3) := sk.fact 11 18 rfl (sd 11 rfl)
    exact Runs.idx rfl h18 rfl (run_idx_sl1 Try.underlying22 inf22_eq inf22_size (2) (by omega) (by omega)) ⟨Ext.refl _, rfl⟩
  · refine stepE rfl fun sdn sa sw sE sd sk => ?_
    have h19 : sa.eval (.tmp 19) = .pointer (some (ad.add (2))) := sk.fact 12 19 rfl (sd 12 rfl)
    exact Runs.load rfl h19 (run_load1 Try.underlying5 rfl (cell_at hc sE (by omega))) ⟨Ext.refl _, rfl⟩
  · refine stepE rfl fun sdn sa sw sE sd sk => ?_
    have h20 : sa.eval (.tmp 20) = .int .u8 (u8i (ub T (2))) := sk.fact 13 20 rfl (sd 13 rfl)
    exact Runs.conv rfl h20 (conv_u8_u32 Try.underlying5 Try.underlying25 _) ⟨Ext.refl _, rfl⟩
  · refine stepE rfl fun sdn sa sw sE sd sk => ?_
    have h21 : sa.eval (.tmp 21) = .int .u32 (u32i (ub T (2)).toUInt32) := sk.fact 14 21 rfl (sd 14 rfl)
    exact Runs.bin rfl h21 rfl (eqGuard_bin rfl) (bin_shl32 _ _ 8 _) ⟨Ext.refl _, rfl⟩
  · refine stepE rfl fun sdn sa sw sE sd sk => ?_
    have h17 : sa.eval (.tmp 17) = .int .u32 (u32i ((shl (ub T (0)).toUInt32 24) ||| (shl (ub T (1)).toUInt32 16))) := sk.fact 10 17 rfl (sd 10 rfl)
    have h22 : sa.eval (.tmp 22) = .int .u32 (u32i (shl (ub T (2)).toUInt32 8)) := sk.fact 15 22 rfl (sd 15 rfl)
    exact Runs.bin rfl h17 h22 (eqGuard_bin rfl) (bin_or32 _ _ _) ⟨Ext.refl _, rfl⟩
  · refine stepE rfl fun sdn sa sw sE sd sk => ?_
    have h3 : sa.eval (.tmp 3) = .slice (some ad) (32) (c3) := sk.old 3 rfl
    exact Runs.move rfl h3 ⟨Ext.refl _, rfl⟩
  · refine stepE rfl fun sdn sa sw sE sd sk => ?_
    have h24 : sa.eval (.tmp 24) = .slice (some ad) (32) (c3) := sk.fact 17 24 rfl (sd 17 rfl)
    exact Runs.idx rfl h24 rfl (run_idx_sl1 Try.underlying22 inf22_eq inf22_size (3) (by omega) (by omega)) ⟨Ext.refl _, rfl⟩
  · refine stepE rfl fun sdn sa sw sE sd sk => ?_
    have h25 : sa.eval (.tmp 25) = .pointer (some (ad.add (3))) := sk.fact 18 25 rfl (sd 18 rfl)
    exact Runs.load rfl h25 (run_load1 Try.underlying5 rfl (cell_at hc sE (by omega))) ⟨Ext.refl _, rfl⟩
  · refine stepE rfl fun sdn sa sw sE sd sk => ?_
    have h26 : sa.eval (.tmp 26) = .int .u8 (u8i (ub T (3))) := sk.fact 19 26 rfl (sd 19 rfl)
    exact Runs.conv rfl h26 (conv_u8_u32 Try.underlying5 Try.underlying25 _) ⟨Ext.refl _, rfl⟩
  · refine stepE rfl fun sdn sa sw sE sd sk => ?_
    have h23 : sa.eval (.tmp 23) = .int .u32 (u32i (((shl (ub T (0)).toUInt32 24) ||| (shl (ub T (1)).toUInt32 16)) ||| (shl (ub T (2)).toUInt32 8))) := sk.fact 16 23 rfl (sd 16 rfl)
    have h27 : sa.eval (.tmp 27) = .int .u32 (u32i (ub T (3)).toUInt32) := sk.fact 20 27 rfl (sd 20 rfl)
    exact Runs.bin rfl h23 h27 (eqGuard_bin rfl) (bin_or32 _ _ _) ⟨Ext.refl _, rfl⟩
  · refine stepE rfl fun sdn sa sw sE sd sk => ?_
    have h28 : sa.eval (.tmp 28) = .int .u32 (u32i ((((shl (ub T (0)).toUInt32 24) ||| (shl (ub T (1)).toUInt32 16)) ||| (shl (ub T (2)).toUInt32 8)) ||| (ub T (3)).toUInt32)) := sk.fact 21 28 rfl (sd 21 rfl)
    exact Runs.assign rfl h28 ⟨Ext.refl _, rfl⟩
  intro vals W4 hE4 hv4
  have e0 : vals 0 = .slice (some ad) (32) (c3) := hv4 0 (by omega) 7 rfl
  have e1 : vals 1 = .pointer (some (ad.add (0))) := hv4 1 (by omega) 8 rfl
  have e2 : vals 2 = .int .u8 (u8i (ub T (0))) := hv4 2 (by omega) 9 rfl
  have e3 : vals 3 = .int .u32 (u32i (ub T (0)).toUInt32) := hv4 3 (by omega) 10 rfl
  have e4 : vals 4 = .int .u32 (u32i (shl (ub T (0)).toUInt32 24)) := hv4 4 (by omega) 11 rfl
  have e5 : vals 5 = .slice (some ad) (32) (c3) := hv4 5 (by omega) 12 rfl
  have e6 : vals 6 = .pointer (some (ad.add (1))) := hv4 6 (by omega) 13 rfl
  have e7 : vals 7 = .int .u8 (u8i (ub T (1))) := hv4 7 (by omega) 14 rfl
  have e8 : vals 8 = .int .u32 (u32i (ub T (1)).toUInt32) := hv4 8 (by omega) 15 rfl
  have e9 : vals 9 = .int .u32 (u32i (shl (ub T (1)).toUInt32 16)) := hv4 9 (by omega) 16 rfl
  have e10 : vals 10 = .int .u32 (u32i ((shl (ub T (0)).toUInt32 24) ||| (shl (ub T (1)).toUInt32 16))) := hv4 10 (by omega) 17 rfl
  have e11 : vals 11 = .slice (some ad) (32) (c3) := hv4 11 (by omega) 18 rfl
  have e12 : vals 12 = .pointer (some (ad.add (2))) := hv4 12 (by omega) 19 rfl
  have e13 : vals 13 = .int .u8 (u8i (ub T (2))) := hv4 13 (by omega) 20 rfl
  have e14 : vals 14 = .int .u32 (u32i (ub T (2)).toUInt32) := hv4 14 (by omega) 21 rfl
  have e15 : vals 15 = .int .u32 (u32i (shl (ub T (2)).toUInt32 8)) := hv4 15 (by omega) 22 rfl
  have e16 : vals 16 = .int .u32 (u32i (((shl (ub T (0)).toUInt32 24) ||| (shl (ub T (1)).toUInt32 16)) ||| (shl (ub T (2)).toUInt32 8))) := hv4 16 (by omega) 23 rfl
  have e17 : vals 17 = .slice (some ad) (32) (c3) := hv4 17 (by omega) 24 rfl
  have e18 : vals 18 = .pointer (some (ad.add (3))) := hv4 18 (by omega) 25 rfl
  have e19 : vals 19 = .int .u8 (u8i (ub T (3))) := hv4 19 (by omega) 26 rfl
  have e20 : vals 20 = .int .u32 (u32i (ub T (3)).toUInt32) := hv4 20 (by omega) 27 rfl
  have e21 : vals 21 = .int .u32 (u32i ((((shl (ub T (0)).toUInt32 24) ||| (shl (ub T (1)).toUInt32 16)) ||| (shl (ub T (2)).toUInt32 8)) ||| (ub T (3)).toUInt32)) := hv4 21 (by omega) 28 rfl
  have e22 : vals 22 = .int .u32 (u32i ((((shl (ub T (0)).toUInt32 24) ||| (shl (ub T (1)).toUInt32 16)) ||| (shl (ub T (2)).toUInt32 8)) ||| (ub T (3)).toUInt32)) := hv4 22 (by omega) 2 rfl
  simp only [putAll, Act.put, List.take_succ_cons, List.take_zero, List.drop_succ_cons, List.drop_zero, List.drop_nil, List.take_nil, Nat.reduceAdd, List.setIfInBounds_toArray, List.set_cons_succ, List.set_cons_zero, e0, e1, e2, e3, e4, e5, e6, e7, e8, e9, e10, e11, e12, e13, e14, e15, e16, e17, e18, e19, e20, e21, e22]
  clear hv4 e0 e1 e2 e3 e4 e5 e6 e7 e8 e9 e10 e11 e12 e13 e14 e15 e16 e17 e18 e19 e20 e21 e22
  have ed : digestW M = beAt T 0 := by
    unfold digestW
    rw [← HT.out, ← beP4 T 0]
    rfl
  go_wp2_with fail
  go_ret
  exact ⟨by rw [ed]; rfl, (hE2.trans hE3).trans hE4⟩
theorem r4part_even (S : List UInt8) (key : Int) (i : Nat) : partP S key (2 * i) = shownL S key (i : Int) 0 := by
  unfold partP
  rw [show 2 * i / 2 = i by omega, show 2 * i % 2 = 0 by omega]
  rfl
theorem r4part_odd (S : List UInt8) (key : Int) (i : Nat) : partP S key (2 * i + 1) = shownL S key (i : Int) 1 := by
  unfold partP
  rw [show (2 * i + 1) / 2 = i by omega, show (2 * i + 1) % 2 = 1 by omega]
  rfl
theorem r4flat_two (S : List UInt8) (key : Int) (i : Nat) : ((List.range (2 * (i + 1))).map (partP S key)).flatten = (((List.range (2 * i)).map (partP S key)).flatten ++ shownL S key (i : Int) 0) ++ shownL S key (i : Int) 1 := by
  rw [show 2 * (i + 1) = 2 * i + 1 + 1 by omega, range_snoc, range_snoc, List.flatten_append, List.flatten_append, r4part_even, r4part_odd]
  simp
def PubI (w : World) (S : List UInt8) (key : Int) (v i : Value) (wr : World) : Prop :=
  ∃ (k d : Nat) (B : Option Addr), k ≤ 32 ∧ i = .int .i64 k ∧ v = .slice B (64 * k) d ∧ OB wr w.heap.size B (64 * k) d (((List.range (2 * k)).map (partP S key)).flatten) ∧ Ext w wr
set_option maxHeartbeats 2000000 in
theorem r4public_any (A : Option Addr) (n c : Nat) (S : List UInt8) (key : Int) (w : World) (rS : RB w A n c S) (hn : n ≤ 140737488355000) :
    Calls Try.prog 75 #[.slice A n c, .int .i64 key] w fun e w' => ∃ A' c', e = .returned (.slice A' 32 c') ∧ OB w' w.heap.size A' 32 c' (publicL S key) ∧ Ext w w' := by
  go_enter Try.func75, Try.ntmps75
  go_wp2_with fail
  go_loopw [5, 6] (fun v i wr => PubI w S key v i wr) (fun _ i _ => 32 - (intOf i).toNat)
  case atStart => exact ⟨0, 0, none, by omega, rfl, rfl, OB.none_ _ _, Ext.refl _⟩
  case round =>
    obtain ⟨k, d, B, hk, rfl, rfl, own, hEr⟩ := hrel
    by_cases hlt : k < 32
    · have hki : (k : Int) < 32 := by omega
      go_wp2_with fail
      refine (r4shown_any A n c S key k 0 wr (rS.ext hEr) hn).mono ?_
      rintro e w2 ⟨A2, c2, rfl, own2, hE2⟩
      go_wp2_with (refine app_own (w0 := w) (N := 64 * k + 32) (LM := ((List.range (2 * k)).map (partP S key)).flatten ++ shownL S key (k : Int) 0) rfl rfl rfl rfl (hEr.trans hE2) (own.ext hE2) own2.rb rfl rfl (by omega) ?_; intro A3 c3 w3 own3 hE3)
      refine (r4shown_any A n c S key k 1 w3 (rS.ext hE3) hn).mono ?_
      rintro e w4 ⟨A4, c4, rfl, own4, hE4⟩
      go_wp2_with (refine app_own (w0 := w) (N := 64 * (k + 1)) (LM := ((List.range (2 * (k + 1))).map (partP S key)).flatten) rfl rfl rfl rfl (hE3.trans hE4) (own3.ext hE4) own4.rb (by omega) (r4flat_two S key k).symm (by omega) ?_; intro A5 c5 w5 own5 hE5)
      go_roundw
      case rel => exact ⟨k + 1, c5, A5, by omega, by go_num, rfl, own5, hE5⟩
      case measure => simp [intOf]; omega
    · obtain rfl : k = 32 := by omega
      have r1 := RBB.of1 own.rb 22
      have hEa := Ext.new wr (.cells #[.slice B (64 * 32) d] 22)
      have ht := rtagged_any 12 _ 1 1 _ _ r1 (by simp only [List.flatten_cons, List.flatten_nil, List.append_nil, flat32 _ (partP_length S key)]; omega)
      have e12 : u8i 12 = 12 := rfl
      rw [e12, show [((List.range (2 * 32)).map (partP S key)).flatten].flatten = ((List.range 64).map (partP S key)).flatten from by simp] at ht
      have Ht := Lib.hid ht
      clear ht
      go_wp2_with fail
      refine Ht.out.mono ?_
      rintro e w6 ⟨A6, c6, rfl, own6, hE6⟩
      go_wp2_with fail
      go_ret
      exact ⟨A6, c6, rfl, own6.base (hEr.trans hEa).size, (hEr.trans hEa).trans hE6⟩
set_option maxHeartbeats 4000000 in
theorem r4sign_any (A B : Option Addr) (n c m d : Nat) (S M : List UInt8) (key : Int) (w : World) (hr : RB w A n c S) (hn : n ≤ 140737488355000) (hm : RB w B m d M) (hmn : m ≤ 140737488355000) :
    Calls Try.prog 76 #[.slice A n c, .int .i64 key, .slice B m d] w fun e w' => ∃ P d', e = .returned (.slice P 64 d') ∧ OBC w' w.heap.size P 64 d' ((List.range 64).map (partS (digestW M) S key)) ∧ Ext w w' := by
  go_enter Try.func76, Try.ntmps76
  go_wp2_with fail
  refine (r4digest_any B m d M w hm hmn).mono ?_
  rintro e w1 ⟨rfl, hE1⟩
  obtain ⟨dg, hdg⟩ : ∃ dg, dg = digestW M := ⟨_, rfl⟩
  rw [← hdg]
  have Hdg := Lib.hid hdg
  clear hdg
  go_wp2_with fail
  go_loopw [8, 9] (fun v i wr => PartO (partS dg S key) w v i wr) (fun _ i _ => 32 - (intOf i).toNat)
  case atStart => exact ⟨0, 0, none, by omega, rfl, rfl, OBC.none_ _ _, hE1⟩
  case round =>
    obtain ⟨k, d2, P, hk, rfl, rfl, own, hEr⟩ := hrel
    by_cases hlt : k < 32
    · have hki : (k : Int) < 32 := by omega
      go_wp2_with fail
      go_loopw [8, 10] (fun v i wr => PartI (partS dg S key) w k v i wr) (fun _ i _ => 2 - (intOf i).toNat)
      case atStart => exact ⟨0, d2, P, by omega, rfl, rfl, own, hEr⟩
      case round =>
        clear own hEr
        obtain ⟨s, d2, P, hs, rfl, rfl, own, hEr⟩ := hrel
        by_cases hls : s < 2
        · have hval : partS dg S key (2 * k + s) = if toldB dg k s = true then secretL S key (k : Int) (s : Int) else shownL S key (k : Int) (s : Int) := by
            unfold partS
            rw [show (2 * k + s) / 2 = k by omega, show (2 * k + s) % 2 = s by omega]
          have Hval := Lib.hid hval
          clear hval
          have hsi : (s : Int) < 2 := by omega
          go_upto_region 9 with (fail)
          refine seq_ext (n := 9) (by kernel_rfl) [.is (.int .u32 (u32i (dg))), .is (.int .i64 (((k : Nat) : Int))), .is (.int .i64 ((31 : Int) - ((k : Nat) : Int))), .is (.int .u64 ((31 - k : Nat) : Int)), .is (.int .u32 (u32i (shr dg (31 - k)))), .is (.int .u32 (u32i ((shr dg (31 - k)) &&& (1 : UInt32)))), .is (.int .i64 (u32i (shr dg (31 - k) &&& 1))), .is (.int .i64 (((s : Nat) : Int))), .is (.bool (toldB dg k s))] rfl ⟨?_, ?_, ?_, ?_, ?_, ?_, ?_, ?_, ?_, trivial⟩ ?_
          · refine stepE rfl fun sdn sa sw sE sd sk => ?_
            have h7 : sa.eval (.tmp 7) = .int .u32 (u32i (dg)) := sk.old 7 rfl
            exact Runs.move rfl h7 ⟨Ext.refl _, rfl⟩
          · refine stepE rfl fun sdn sa sw sE sd sk => ?_
            have h9 : sa.eval (.tmp 9) = .int .i64 (((k : Nat) : Int)) := sk.old 9 rfl
            exact Runs.move rfl h9 ⟨Ext.refl _, rfl⟩
          · refine stepE rfl fun sdn sa sw sE sd sk => ?_
            have h22 : sa.eval (.tmp 22) = .int .i64 (((k : Nat) : Int)) := sk.fact 1 22 rfl (sd 1 rfl)
            exact Runs.bin rfl rfl h22 (eqGuard_bin rfl) (bin_sub64 _ _ _ (by omega) (by omega)) ⟨Ext.refl _, rfl⟩
          · refine stepE rfl fun sdn sa sw sE sd sk => ?_
            have h23 : sa.eval (.tmp 23) = .int .i64 ((31 : Int) - ((k : Nat) : Int)) := sk.fact 2 23 rfl (sd 2 rfl)
            exact Runs.conv rfl h23 (conv_i64_u64 Try.underlying3 Try.underlying93 _ (31 - k) (by omega) (by omega)) ⟨Ext.refl _, rfl⟩
          · refine stepE rfl fun sdn sa sw sE sd sk => ?_
            have h21 : sa.eval (.tmp 21) = .int .u32 (u32i (dg)) := sk.fact 0 21 rfl (sd 0 rfl)
            have h24 : sa.eval (.tmp 24) = .int .u64 ((31 - k : Nat) : Int) := sk.fact 3 24 rfl (sd 3 rfl)
            exact Runs.bin rfl h21 h24 (eqGuard_bin rfl) (bin_shr32 _ _ (31 - k) _ rfl (by omega)) ⟨Ext.refl _, rfl⟩
          · refine stepE rfl fun sdn sa sw sE sd sk => ?_
            have h25 : sa.eval (.tmp 25) = .int .u32 (u32i (shr dg (31 - k))) := sk.fact 4 25 rfl (sd 4 rfl)
            have hone : (.int .u32 1 : Value) = .int .u32 (u32i (1 : UInt32)) := rfl
            exact Runs.bin (v := .int .u32 (u32i (1 : UInt32))) rfl h25 hone (eqGuard_bin rfl) (bin_and32 _ _ (1 : UInt32)) ⟨Ext.refl _, rfl⟩
          · refine stepE rfl fun sdn sa sw sE sd sk => ?_
            have h26 : sa.eval (.tmp 26) = .int .u32 (u32i ((shr dg (31 - k)) &&& (1 : UInt32))) := sk.fact 5 26 rfl (sd 5 rfl)
            exact Runs.conv rfl h26 (conv_u32_i64' Try.underlying25 Try.underlying3 _) ⟨Ext.refl _, rfl⟩
          · refine stepE rfl fun sdn sa sw sE sd sk => ?_
            have h10 : sa.eval (.tmp 10) = .int .i64 (((s : Nat) : Int)) := sk.old 10 rfl
            exact Runs.move rfl h10 ⟨Ext.refl _, rfl⟩
          · refine stepE rfl fun sdn sa sw sE sd sk => ?_
            have h27 : sa.eval (.tmp 27) = .int .i64 (u32i (shr dg (31 - k) &&& 1)) := sk.fact 6 27 rfl (sd 6 rfl)
            have h28 : sa.eval (.tmp 28) = .int .i64 (((s : Nat) : Int)) := sk.fact 7 28 rfl (sd 7 rfl)
            exact Runs.bin rfl h27 h28 (by rfl) (bin_eql _ _ _ _) ⟨Ext.refl _, rfl⟩
          intro vals w2 hE2 hv2
          have e0 : vals 0 = .int .u32 (u32i (dg)) := hv2 0 (by omega) 21 rfl
          have e1 : vals 1 = .int .i64 (((k : Nat) : Int)) := hv2 1 (by omega) 22 rfl
          have e2 : vals 2 = .int .i64 ((31 : Int) - ((k : Nat) : Int)) := hv2 2 (by omega) 23 rfl
          have e3 : vals 3 = .int .u64 ((31 - k : Nat) : Int) := hv2 3 (by omega) 24 rfl
          have e4 : vals 4 = .int .u32 (u32i (shr dg (31 - k))) := hv2 4 (by omega) 25 rfl
          have e5 : vals 5 = .int .u32 (u32i ((shr dg (31 - k)) &&& (1 : UInt32))) := hv2 5 (by omega) 26 rfl
          have e6 : vals 6 = .int .i64 (u32i (shr dg (31 - k) &&& 1)) := hv2 6 (by omega) 27 rfl
          have e7 : vals 7 = .int .i64 (((s : Nat) : Int)) := hv2 7 (by omega) 28 rfl
          have e8 : vals 8 = .bool (toldB dg k s) := hv2 8 (by omega) 29 rfl
          simp only [putAll, Act.put, List.take_succ_cons, List.take_zero, List.drop_succ_cons, List.drop_zero, List.drop_nil, List.take_nil, Nat.reduceAdd, List.setIfInBounds_toArray, List.set_cons_succ, List.set_cons_zero, e0, e1, e2, e3, e4, e5, e6, e7, e8]
          clear hv2 e0 e1 e2 e3 e4 e5 e6 e7 e8
          cases ht : toldB dg k s with
          | true =>
            have Ht := Lib.hid ht
            clear ht
            go_wp2_with fail
            refine (r4secret_any A n c S key k s w2 (hr.ext (hEr.trans hE2)) hn).mono ?_
            rintro e w3 ⟨A3, c3, rfl, own3, hE3⟩
            have hY : RB w3 A3 32 c3 ((partS dg S key) (2 * k + s)) := by
              rw [Hval.out, if_pos Ht.out]
              exact own3.rb
            have hEw := hEr.trans (hE2.trans hE3)
            have hEa := Ext.new w3 (.cells #[.slice A3 32 c3] 22)
            have hBa := Blk.new w3 22 #[.slice A3 32 c3]
            have own4 := (own.ext (hE2.trans hE3)).ext hEa
            have hne : 0 < 32 → blk A3 ≠ blk P := by
              intro _ e
              obtain ⟨b, hb⟩ : ∃ b, blk A3 = some b := by
                obtain ⟨ad, h1, _⟩ := own3.rb.cells (by omega)
                rw [h1]
                exact ⟨_, rfl⟩
              have h1 := (own3.lt hb).1
              have h2 := own.lt (e.symm.trans hb)
              have h3 := hE2.size
              omega
            go_wp2_with (refine appbc_law (base := w.heap.size) (Y := (partS dg S key) (2 * k + s)) rfl rfl rfl rfl (by rw [add_plain]; exact hBa.cell (i := 0) rfl) own4 (hY.ext hEa) hne (hEw.trans hEa).size (by omega) ?_; intro P5 d5 w5 own5 g5)
            go_roundw
            case rel =>
              rw [← range_snoc] at own5
              exact ⟨s + 1, d5, P5, by omega, by go_num, rfl, own5, (hEw.trans hEa).then_grown g5 (fun b hb => (own4.lt hb).1)⟩
            case measure => simp [intOf]; omega
          | false =>
            have Ht := Lib.hid (show ¬ toldB dg k s = true by rw [ht]; simp)
            clear ht
            go_wp2_with fail
            refine (r4shown_any A n c S key k s w2 (hr.ext (hEr.trans hE2)) hn).mono ?_
            rintro e w3 ⟨A3, c3, rfl, own3, hE3⟩
            have hY : RB w3 A3 32 c3 ((partS dg S key) (2 * k + s)) := by
              rw [Hval.out, if_neg Ht.out]
              exact own3.rb
            have hEw := hEr.trans (hE2.trans hE3)
            have hEa := Ext.new w3 (.cells #[.slice A3 32 c3] 22)
            have hBa := Blk.new w3 22 #[.slice A3 32 c3]
            have own4 := (own.ext (hE2.trans hE3)).ext hEa
            have hne : 0 < 32 → blk A3 ≠ blk P := by
              intro _ e
              obtain ⟨b, hb⟩ : ∃ b, blk A3 = some b := by
                obtain ⟨ad, h1, _⟩ := own3.rb.cells (by omega)
                rw [h1]
                exact ⟨_, rfl⟩
              have h1 := (own3.lt hb).1
              have h2 := own.lt (e.symm.trans hb)
              have h3 := hE2.size
              omega
            go_wp2_with (refine appbc_law (base := w.heap.size) (Y := (partS dg S key) (2 * k + s)) rfl rfl rfl rfl (by rw [add_plain]; exact hBa.cell (i := 0) rfl) own4 (hY.ext hEa) hne (hEw.trans hEa).size (by omega) ?_; intro P5 d5 w5 own5 g5)
            go_roundw
            case rel =>
              rw [← range_snoc] at own5
              exact ⟨s + 1, d5, P5, by omega, by go_num, rfl, own5, (hEw.trans hEa).then_grown g5 (fun b hb => (own4.lt hb).1)⟩
            case measure => simp [intOf]; omega
        · obtain rfl : s = 2 := by omega
          go_wp2_with fail
          go_roundw
          case rel => exact ⟨k + 1, d2, P, by omega, by go_num, rfl, own, hEr⟩
          case measure => simp [intOf]; omega
    · obtain rfl : k = 32 := by omega
      go_wp2_with fail
      go_ret
      rw [← Hdg.out]
      exact ⟨P, d2, rfl, own, hEr⟩
end Go.Proofs.Ytmgnigofilkfmab
namespace Go.Proofs.Ytmgnigofilkfmab
set_option maxRecDepth 100000
open Go Go.RowKit
theorem bin_quo2 {P : Program} {w : World} (t : TypeId) (k : Nat) (hk : k < 100) : (binOp .quo t (.int .i64 (k : Int)) (.int .i64 2)).run P w = .ok (.int .i64 ((k / 2 : Nat) : Int)) w := by
  have h : Int.tdiv (k : Int) 2 = (k : Int) / 2 := Int.tdiv_eq_ediv_of_nonneg (by omega)
  have e : IntKind.i64.wrap ((k : Int) / 2) = (k : Int) / 2 := i64_wrap_id (by omega) (by omega)
  simp [binOp, Op.intArith, Op.intDiv, h, e]
theorem bin_rem2 {P : Program} {w : World} (t : TypeId) (k : Nat) (hk : k < 100) : (binOp .rem t (.int .i64 (k : Int)) (.int .i64 2)).run P w = .ok (.int .i64 ((k % 2 : Nat) : Int)) w := by
  have h : Int.tmod (k : Int) 2 = (k : Int) % 2 := Int.tmod_eq_emod_of_nonneg (by omega)
  have e : IntKind.i64.wrap ((k : Int).tmod 2) = (k : Int) % 2 := by rw [h]; exact i64_wrap_id (by omega) (by omega)
  simp [binOp, Op.intArith, Op.intDiv, e, h]
theorem r4flat_one (f : Nat → List UInt8) (k : Nat) : ((List.range (k + 1)).map f).flatten = ((List.range k).map f).flatten ++ f k := by
  rw [List.range_succ, List.map_append, List.flatten_append]
  simp
def RootB (w : World) (dg : UInt32) (Ls : List (List UInt8)) (v i : Value) (wr : World) : Prop :=
  ∃ (k d : Nat) (P : Option Addr), k ≤ 64 ∧ i = .int .i64 k ∧ v = .slice P (32 * k) d ∧ OB wr w.heap.size P (32 * k) d ((List.range k).map (rootPart dg Ls)).flatten ∧ (∀ j, j < k → (lb Ls j).length = 32) ∧ Ext w wr
set_option maxHeartbeats 4000000 in
theorem r4root_any (B A : Option Addr) (m d n c : Nat) (M : List UInt8) (Ls : List (List UInt8)) (w : World) (hm : RB w B m d M) (hmn : m ≤ 140737488355000) (hr : RBB w A n c Ls) :
    Calls Try.prog 78 #[.slice B m d, .slice A n c] w fun e w' => (rootOK Ls → ∃ A' c', e = .returned (.tuple #[.slice A' 32 c', .bool true]) ∧ OB w' w.heap.size A' 32 c' (rootV M Ls)) ∧ (¬ rootOK Ls → e = .returned (.tuple #[.slice none 0 0, .bool false])) ∧ Ext w w' := by
  have hln := hr.len
  have Hn := Lib.hid hln
  clear hln
  by_cases h64 : n = 64
  · subst h64
    go_enter Try.func78, Try.ntmps78
    go_wp2_with fail
    refine (r4digest_any B m d M w hm hmn).mono ?_
    rintro e w1 ⟨rfl, hE1⟩
    obtain ⟨dg, hdg⟩ : ∃ dg, dg = digestW M := ⟨_, rfl⟩
    rw [← hdg]
    have Hdg := Lib.hid hdg
    clear hdg
    go_wp2_with fail
    go_loopw [7, 8] (fun v i wr => RootB w dg Ls v i wr) (fun _ i _ => 64 - (intOf i).toNat)
    case atStart => exact ⟨0, 0, none, by omega, rfl, rfl, OB.none_ _ _, fun j hj => absurd hj (Nat.not_lt_zero _), hE1⟩
    case round =>
      obtain ⟨k, q, P, hk, rfl, rfl, own, hall, hEr⟩ := hrel
      have Hall := Lib.hid hall
      clear hall
      by_cases hlt : k < 64
      · have hki : (k : Int) < 64 := by omega
        obtain ⟨ad, rfl, hc⟩ := hr.cells (by omega)
        obtain ⟨E, z, y, hcell, hrE⟩ := hc k hlt
        have y1 := hEr.cell hcell
        have rE := hrE.ext hEr
        have hEl := rE.len
        by_cases hz : z = 32
        · subst hz
          have hEl2 := Lib.hid hEl
          clear hEl hc hcell
          go_upto_region 11 with (fail)
          refine seq_ext (n := 11) (by kernel_rfl) [.is (.int .u32 (u32i (dg))), .is (.int .i64 (((k : Nat) : Int))), .is (.int .i64 (((k / 2 : Nat) : Int))), .is (.int .i64 ((31 : Int) - ((k / 2 : Nat) : Int))), .is (.int .u64 ((31 - k / 2 : Nat) : Int)), .is (.int .u32 (u32i (shr dg (31 - k / 2)))), .is (.int .u32 (u32i ((shr dg (31 - k / 2)) &&& (1 : UInt32)))), .is (.int .i64 (u32i (shr dg (31 - k / 2) &&& 1))), .is (.int .i64 (((k : Nat) : Int))), .is (.int .i64 (((k % 2 : Nat) : Int))), .is (.bool (toldB dg (k / 2) (k % 2)))] rfl ⟨?_, ?_, ?_, ?_, ?_, ?_, ?_, ?_, ?_, ?_, ?_, trivial⟩ ?_
          · refine stepE rfl fun sdn sa sw sE sd sk => ?_
            have h6 : sa.eval (.tmp 6) = .int .u32 (u32i (dg)) := sk.old 6 rfl
            exact Runs.move rfl h6 ⟨Ext.refl _, rfl⟩
          · refine stepE rfl fun sdn sa sw sE sd sk => ?_
            have h8 : sa.eval (.tmp 8) = .int .i64 (((k : Nat) : Int)) := sk.old 8 rfl
            exact Runs.move rfl h8 ⟨Ext.refl _, rfl⟩
          · refine stepE rfl fun sdn sa sw sE sd sk => ?_
            have h32 : sa.eval (.tmp 32) = .int .i64 (((k : Nat) : Int)) := sk.fact 1 32 rfl (sd 1 rfl)
            exact Runs.bin rfl h32 rfl (eqGuard_bin rfl) (bin_quo2 _ k (by omega)) ⟨Ext.refl _, rfl⟩
          · refine stepE rfl fun sdn sa sw sE sd sk => ?_
            have h33 : sa.eval (.tmp 33) = .int .i64 (((k / 2 : Nat) : Int)) := sk.fact 2 33 rfl (sd 2 rfl)
            exact Runs.bin rfl rfl h33 (eqGuard_bin rfl) (bin_sub64 _ _ _ (by omega) (by omega)) ⟨Ext.refl _, rfl⟩
          · refine stepE rfl fun sdn sa sw sE sd sk => ?_
            have h34 : sa.eval (.tmp 34) = .int .i64 ((31 : Int) - ((k / 2 : Nat) : Int)) := sk.fact 3 34 rfl (sd 3 rfl)
            exact Runs.conv rfl h34 (conv_i64_u64 Try.underlying3 Try.underlying93 _ (31 - k / 2) (by omega) (by omega)) ⟨Ext.refl _, rfl⟩
          · refine stepE rfl fun sdn sa sw sE sd sk => ?_
            have h31 : sa.eval (.tmp 31) = .int .u32 (u32i (dg)) := sk.fact 0 31 rfl (sd 0 rfl)
            have h35 : sa.eval (.tmp 35) = .int .u64 ((31 - k / 2 : Nat) : Int) := sk.fact 4 35 rfl (sd 4 rfl)
            exact Runs.bin rfl h31 h35 (eqGuard_bin rfl) (bin_shr32 _ _ (31 - k / 2) _ rfl (by omega)) ⟨Ext.refl _, rfl⟩
          · refine stepE rfl fun sdn sa sw sE sd sk => ?_
            have h36 : sa.eval (.tmp 36) = .int .u32 (u32i (shr dg (31 - k / 2))) := sk.fact 5 36 rfl (sd 5 rfl)
            have hone : (.int .u32 1 : Value) = .int .u32 (u32i (1 : UInt32)) := rfl
            exact Runs.bin (v := .int .u32 (u32i (1 : UInt32))) rfl h36 hone (eqGuard_bin rfl) (bin_and32 _ _ (1 : UInt32)) ⟨Ext.refl _, rfl⟩
          · refine stepE rfl fun sdn sa sw sE sd sk => ?_
            have h37 : sa.eval (.tmp 37) = .int .u32 (u32i ((shr dg (31 - k / 2)) &&& (1 : UInt32))) := sk.fact 6 37 rfl (sd 6 rfl)
            exact Runs.conv rfl h37 (conv_u32_i64' Try.underlying25 Try.underlying3 _) ⟨Ext.refl _, rfl⟩
          · refine stepE rfl fun sdn sa sw sE sd sk => ?_
            have h8 : sa.eval (.tmp 8) = .int .i64 (((k : Nat) : Int)) := sk.old 8 rfl
            exact Runs.move rfl h8 ⟨Ext.refl _, rfl⟩
          · refine stepE rfl fun sdn sa sw sE sd sk => ?_
            have h39 : sa.eval (.tmp 39) = .int .i64 (((k : Nat) : Int)) := sk.fact 8 39 rfl (sd 8 rfl)
            exact Runs.bin rfl h39 rfl (eqGuard_bin rfl) (bin_rem2 _ k (by omega)) ⟨Ext.refl _, rfl⟩
          · refine stepE rfl fun sdn sa sw sE sd sk => ?_
            have h38 : sa.eval (.tmp 38) = .int .i64 (u32i (shr dg (31 - k / 2) &&& 1)) := sk.fact 7 38 rfl (sd 7 rfl)
            have h40 : sa.eval (.tmp 40) = .int .i64 (((k % 2 : Nat) : Int)) := sk.fact 9 40 rfl (sd 9 rfl)
            exact Runs.bin rfl h38 h40 (by rfl) (bin_eql _ _ _ _) ⟨Ext.refl _, rfl⟩
          intro vals w2 hE2 hv2
          have e0 : vals 0 = .int .u32 (u32i (dg)) := hv2 0 (by omega) 31 rfl
          have e1 : vals 1 = .int .i64 (((k : Nat) : Int)) := hv2 1 (by omega) 32 rfl
          have e2 : vals 2 = .int .i64 (((k / 2 : Nat) : Int)) := hv2 2 (by omega) 33 rfl
          have e3 : vals 3 = .int .i64 ((31 : Int) - ((k / 2 : Nat) : Int)) := hv2 3 (by omega) 34 rfl
          have e4 : vals 4 = .int .u64 ((31 - k / 2 : Nat) : Int) := hv2 4 (by omega) 35 rfl
          have e5 : vals 5 = .int .u32 (u32i (shr dg (31 - k / 2))) := hv2 5 (by omega) 36 rfl
          have e6 : vals 6 = .int .u32 (u32i ((shr dg (31 - k / 2)) &&& (1 : UInt32))) := hv2 6 (by omega) 37 rfl
          have e7 : vals 7 = .int .i64 (u32i (shr dg (31 - k / 2) &&& 1)) := hv2 7 (by omega) 38 rfl
          have e8 : vals 8 = .int .i64 (((k : Nat) : Int)) := hv2 8 (by omega) 39 rfl
          have e9 : vals 9 = .int .i64 (((k % 2 : Nat) : Int)) := hv2 9 (by omega) 40 rfl
          have e10 : vals 10 = .bool (toldB dg (k / 2) (k % 2)) := hv2 10 (by omega) 41 rfl
          simp only [putAll, Act.put, List.take_succ_cons, List.take_zero, List.drop_succ_cons, List.drop_zero, List.drop_nil, List.take_nil, Nat.reduceAdd, List.setIfInBounds_toArray, List.set_cons_succ, List.set_cons_zero, e0, e1, e2, e3, e4, e5, e6, e7, e8, e9, e10]
          clear hv2 e0 e1 e2 e3 e4 e5 e6 e7 e8 e9 e10
          have rE2 := rE.ext hE2
          cases htd : toldB dg (k / 2) (k % 2) with
          | true =>
            have Htd := Lib.hid htd
            clear htd
            have r1 := RBB.of1 rE2 22
            have hE3 := Ext.new w2 (.cells #[.slice E 32 y] 22)
            have hta := rtagged_any 11 _ 1 1 _ _ r1 (by simp only [List.flatten_cons, List.flatten_nil, List.append_nil, hEl2.out]; omega)
            have e11 : u8i 11 = 11 := rfl
            rw [e11, show [lb Ls k].flatten = lb Ls k from by simp] at hta
            have Hta := Lib.hid hta
            clear hta
            go_wp2_with fail
            refine Hta.out.mono ?_
            rintro e w3 ⟨A3, c3, rfl, own3, hE4⟩
            clear Hta
            have hE24 := hE2.trans (hE3.trans hE4)
            have hEw := hEr.trans hE24
            have hY : RB w3 A3 32 c3 (rootPart dg Ls k) := by
              unfold rootPart
              rw [if_pos Htd.out]
              exact own3.rb
            go_wp2_with (refine app_own (w0 := w) (N := 32 * (k + 1)) (LM := ((List.range (k + 1)).map (rootPart dg Ls)).flatten) rfl rfl rfl rfl hEw (own.ext hE24) hY (by omega) (r4flat_one _ k).symm (by omega) ?_; intro P5 d5 w5 own5 hE5)
            go_roundw
            case rel =>
              refine ⟨k + 1, d5, P5, by omega, by go_num, rfl, own5, fun j hj => ?_, hE5⟩
              by_cases hjk : j = k
              · rw [hjk]; exact hEl2.out
              · exact Hall.out j (by omega)
            case measure => simp [intOf]; omega
          | false =>
            have Htd := Lib.hid (show ¬ toldB dg (k / 2) (k % 2) = true by rw [htd]; simp)
            clear htd
            have hEw := hEr.trans hE2
            have hY : RB w2 E 32 y (rootPart dg Ls k) := by
              unfold rootPart
              rw [if_neg Htd.out]
              exact rE2
            go_wp2_with (refine app_own (w0 := w) (N := 32 * (k + 1)) (LM := ((List.range (k + 1)).map (rootPart dg Ls)).flatten) rfl rfl rfl rfl hEw (own.ext hE2) hY (by omega) (r4flat_one _ k).symm (by omega) ?_; intro P5 d5 w5 own5 hE5)
            go_roundw
            case rel =>
              refine ⟨k + 1, d5, P5, by omega, by go_num, rfl, own5, fun j hj => ?_, hE5⟩
              by_cases hjk : j = k
              · rw [hjk]; exact hEl2.out
              · exact Hall.out j (by omega)
            case measure => simp [intOf]; omega
        · have hno : ¬ rootOK Ls := fun h => hz (by rw [← hEl]; exact h.2 k hlt)
          have Hno := Lib.hid hno
          have hzi : ¬ ((z : Int) = 32) := by omega
          clear hno hEl hc hcell
          go_wp2_with fail
          go_ret2
          exact ⟨fun h => absurd h Hno.out, fun _ => rfl, hEr⟩
      · obtain rfl : k = 64 := by omega
        have hok : rootOK Ls := ⟨Hn.out, Hall.out⟩
        have Hok := Lib.hid hok
        have hplen : ∀ i, i < 64 → (rootPart dg Ls i).length = 32 := by
          intro i hi
          unfold rootPart
          split
          · exact tagged_length _ _
          · exact Hall.out i hi
        have r1 := RBB.of1 own.rb 22
        have hEa := Ext.new wr (.cells #[.slice P (32 * 64) q] 22)
        have hta := rtagged_any 12 _ 1 1 _ _ r1 (by simp only [List.flatten_cons, List.flatten_nil, List.append_nil]; rw [flat32' _ 64 hplen]; omega)
        have e12 : u8i 12 = 12 := rfl
        rw [e12, show [((List.range 64).map (rootPart dg Ls)).flatten].flatten = ((List.range 64).map (rootPart dg Ls)).flatten from by simp] at hta
        have Hta := Lib.hid hta
        clear hta hok hplen
        go_wp2_with fail
        refine Hta.out.mono ?_
        rintro e w3 ⟨A3, c3, rfl, own3, hE4⟩
        clear Hta
        go_wp2_with fail
        go_ret2
        refine ⟨fun _ => ⟨A3, c3, rfl, ?_⟩, fun h => absurd Hok.out h, (hEr.trans hEa).trans hE4⟩
        unfold rootV
        rw [← Hdg.out]
        exact own3.base (hEr.trans hEa).size
  · have hno : ¬ rootOK Ls := fun h => h64 (by rw [← Hn.out]; exact h.1)
    have Hno := Lib.hid hno
    have hzi : ¬ ((n : Int) = 64) := by omega
    clear hno
    go_enter Try.func78, Try.ntmps78
    go_wp2_with fail
    go_ret2
    exact ⟨fun h => absurd h Hno.out, fun _ => rfl, Ext.refl _⟩
end Go.Proofs.Ytmgnigofilkfmab
