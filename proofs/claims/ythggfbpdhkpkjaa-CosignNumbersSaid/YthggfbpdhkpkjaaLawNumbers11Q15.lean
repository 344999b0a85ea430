/-
  The reference's keys that sign once, walked: Digest, Secret, Shown, Public, Sign. once.Root and ref4.Root in one sentence, for any list. Owners' trees in plain words: levels, paths, and where a path leads. Plain theorems. keep.Seed, walked. A row of byte slices of the call's own: one is turned.
-/
import Derived.Test.YthggfbpdhkpkjaaLawNumbers11Q14
import Derived.Test.YthggfbpdhkpkjaaLawNumbers11Q12
import Derived.Lib.SlBytesConst
namespace Go.Proofs.Ythggfbpdhkpkjaa
set_option maxRecDepth 100000
open Go Go.RowKit
set_option maxHeartbeats 1000000 in
theorem num4_any (x : UInt32) (w : World) :
    Calls Try.prog 82 #[.slice none 0 0, .int .u32 (u32i x)] w fun e w' => ∃ A' c', e = .returned (.slice A' 4 c') ∧ OB w' w.heap.size A' 4 c' (bytesOf x) ∧ Ext w w' := by
  go_enter Try.func82, Try.ntmps82
  go_upto_region 1 with (fail)
  refine seq_ext (n := 13) (by kernel_rfl) [.is (.slice (none) (0) (0)), .is (.int .u32 (u32i (x))), .is (.int .u32 (u32i (shr x 24))), .is (.int .u8 (u8i ((shr x 24)).toUInt8)), .is (.int .u32 (u32i (x))), .is (.int .u32 (u32i (shr x 16))), .is (.int .u8 (u8i ((shr x 16)).toUInt8)), .is (.int .u32 (u32i (x))), .is (.int .u32 (u32i (shr x 8))), .is (.int .u8 (u8i ((shr x 8)).toUInt8)), .is (.int .u32 (u32i (x))), .is (.int .u8 (u8i (x).toUInt8)), .rb ([((shr x 24)).toUInt8, ((shr x 16)).toUInt8, ((shr x 8)).toUInt8, (x).toUInt8])] rfl ⟨?_, ?_, ?_, ?_, ?_, ?_, ?_, ?_, ?_, ?_, ?_, ?_, ?_, trivial⟩ ?_
  · refine stepE rfl fun sdn sa sw sE sd sk => ?_
    have h0 : sa.eval (.tmp 0) = .slice (none) (0) (0) := sk.old 0 rfl
    exact Runs.move rfl h0 ⟨Ext.refl _, rfl⟩
  · refine stepE rfl fun sdn sa sw sE sd sk => ?_
    have h1 : sa.eval (.tmp 1) = .int .u32 (u32i (x)) := sk.old 1 rfl
    exact Runs.move rfl h1 ⟨Ext.refl _, rfl⟩
  · refine stepE rfl fun sdn sa sw sE sd sk => ?_
    have h6 : sa.eval (.tmp 6) = .int .u32 (u32i (x)) := sk.fact 1 6 rfl (sd 1 rfl)
    exact Runs.bin rfl h6 rfl (eqGuard_bin rfl) (bin_shr32 _ _ 24 _) ⟨Ext.refl _, rfl⟩
  · refine stepE rfl fun sdn sa sw sE sd sk => ?_
    have h7 : sa.eval (.tmp 7) = .int .u32 (u32i (shr x 24)) := sk.fact 2 7 rfl (sd 2 rfl)
    exact Runs.conv rfl h7 (conv_u32_u8 Try.underlying101 Try.underlying5 _) ⟨Ext.refl _, rfl⟩
  · refine stepE rfl fun sdn sa sw sE sd sk => ?_
    have h1 : sa.eval (.tmp 1) = .int .u32 (u32i (x)) := sk.old 1 rfl
    exact Runs.move rfl h1 ⟨Ext.refl _, rfl⟩
  · refine stepE rfl fun sdn sa sw sE sd sk => ?_
    have h9 : sa.eval (.tmp 9) = .int .u32 (u32i (x)) := sk.fact 4 9 rfl (sd 4 rfl)
    exact Runs.bin rfl h9 rfl (eqGuard_bin rfl) (bin_shr32 _ _ 16 _) ⟨Ext.refl _, rfl⟩
  · refine stepE rfl fun sdn sa sw sE sd sk => ?_
    have h10 : sa.eval (.tmp 10) = .int .u32 (u32i (shr x 16)) := sk.fact 5 10 rfl (sd 5 rfl)
    exact Runs.conv rfl h10 (conv_u32_u8 Try.underlying101 Try.underlying5 _) ⟨Ext.refl _, rfl⟩
  · refine stepE rfl fun sdn sa sw sE sd sk => ?_
    have h1 : sa.eval (.tmp 1) = .int .u32 (u32i (x)) := sk.old 1 rfl
    exact Runs.move rfl h1 ⟨Ext.refl _, rfl⟩
  · refine stepE rfl fun sdn sa sw sE sd sk => ?_
    have h12 : sa.eval (.tmp 12) = .int .u32 (u32i (x)) := sk.fact 7 12 rfl (sd 7 rfl)
    exact Runs.bin rfl h12 rfl (eqGuard_bin rfl) (bin_shr32 _ _ 8 _) ⟨Ext.refl _, rfl⟩
  · refine stepE rfl fun sdn sa sw sE sd sk => ?_
    have h13 : sa.eval (.tmp 13) = .int .u32 (u32i (shr x 8)) := sk.fact 8 13 rfl (sd 8 rfl)
    exact Runs.conv rfl h13 (conv_u32_u8 Try.underlying101 Try.underlying5 _) ⟨Ext.refl _, rfl⟩
  · refine stepE rfl fun sdn sa sw sE sd sk => ?_
    have h1 : sa.eval (.tmp 1) = .int .u32 (u32i (x)) := sk.old 1 rfl
    exact Runs.move rfl h1 ⟨Ext.refl _, rfl⟩
  · refine stepE rfl fun sdn sa sw sE sd sk => ?_
    have h15 : sa.eval (.tmp 15) = .int .u32 (u32i (x)) := sk.fact 10 15 rfl (sd 10 rfl)
    exact Runs.conv rfl h15 (conv_u32_u8 Try.underlying101 Try.underlying5 _) ⟨Ext.refl _, rfl⟩
  · refine stepE rfl fun sdn sa sw sE sd sk => ?_
    have h8 : sa.eval (.tmp 8) = .int .u8 (u8i ((shr x 24)).toUInt8) := sk.fact 3 8 rfl (sd 3 rfl)
    have h11 : sa.eval (.tmp 11) = .int .u8 (u8i ((shr x 16)).toUInt8) := sk.fact 6 11 rfl (sd 6 rfl)
    have h14 : sa.eval (.tmp 14) = .int .u8 (u8i ((shr x 8)).toUInt8) := sk.fact 9 14 rfl (sd 9 rfl)
    have h16 : sa.eval (.tmp 16) = .int .u8 (u8i (x).toUInt8) := sk.fact 11 16 rfl (sd 11 rfl)
    exact Runs.lit4 rfl h8 h11 h14 h16 (fun w1 e1 o1 => ⟨e1, _, _, _, rfl, o1.rb⟩)
  intro vals W1 hE hv
  have e0 : vals 0 = .slice (none) (0) (0) := hv 0 (by omega) 5 rfl
  have e1 : vals 1 = .int .u32 (u32i (x)) := hv 1 (by omega) 6 rfl
  have e2 : vals 2 = .int .u32 (u32i (shr x 24)) := hv 2 (by omega) 7 rfl
  have e3 : vals 3 = .int .u8 (u8i ((shr x 24)).toUInt8) := hv 3 (by omega) 8 rfl
  have e4 : vals 4 = .int .u32 (u32i (x)) := hv 4 (by omega) 9 rfl
  have e5 : vals 5 = .int .u32 (u32i (shr x 16)) := hv 5 (by omega) 10 rfl
  have e6 : vals 6 = .int .u8 (u8i ((shr x 16)).toUInt8) := hv 6 (by omega) 11 rfl
  have e7 : vals 7 = .int .u32 (u32i (x)) := hv 7 (by omega) 12 rfl
  have e8 : vals 8 = .int .u32 (u32i (shr x 8)) := hv 8 (by omega) 13 rfl
  have e9 : vals 9 = .int .u8 (u8i ((shr x 8)).toUInt8) := hv 9 (by omega) 14 rfl
  have e10 : vals 10 = .int .u32 (u32i (x)) := hv 10 (by omega) 15 rfl
  have e11 : vals 11 = .int .u8 (u8i (x).toUInt8) := hv 11 (by omega) 16 rfl
  obtain ⟨A17, n17, c17, e12, r17⟩ := hv 12 (by omega) 17 rfl
  simp only [putAll, Act.put, List.take_succ_cons, List.take_zero, List.drop_succ_cons, List.drop_zero, List.drop_nil, List.take_nil, Nat.reduceAdd, List.setIfInBounds_toArray, List.set_cons_succ, List.set_cons_zero, e0, e1, e2, e3, e4, e5, e6, e7, e8, e9, e10, e11, e12]
  clear hv e0 e1 e2 e3 e4 e5 e6 e7 e8 e9 e10 e11 e12
  obtain rfl : n17 = 4 := r17.len.symm
  go_wp2_with (refine app_own (w0 := w) (N := 4) (LM := bytesOf x) rfl rfl rfl rfl hE (OB.none_ _ _) r17 rfl rfl (by omega) ?_; intro A3 c3 W3 own3 hE3)
  go_ret
  exact ⟨A3, c3, rfl, own3, hE3⟩
set_option maxHeartbeats 1000000 in
theorem r4secret_any (A : Option Addr) (n c : Nat) (S : List UInt8) (key bit side : Int) (w : World) (hr : RB w A n c S) (hn : n ≤ 140737488355000) :
    Calls Try.prog 111 #[.slice A n c, .int .i64 key, .int .i64 bit, .int .i64 side] w fun e w' => ∃ A' c', e = .returned (.slice A' 32 c') ∧ OB w' w.heap.size A' 32 c' (secretL S key bit side) ∧ Ext w w' := by
  have hl := hr.len
  have Hl := Lib.hid hl
  clear hl
  go_enter Try.func111, Try.ntmps111
  go_upto_region 1 with (fail)
  refine seq_ext (n := 10) (by kernel_rfl) [.is (.slice (A) (n) (c)), .is (.int .i64 (key)), .is (.int .u32 (u32i (keyW key))), .rb (bytesOf (keyW key)), .is (.int .i64 (bit)), .is (.int .u8 (u8i (byteI bit))), .is (.int .i64 (side)), .is (.int .u8 (u8i (byteI side))), .rb ([(byteI bit), (byteI side)]), .rbb ([S, bytesOf (keyW key), [(byteI bit), (byteI side)]])] rfl ⟨?_, ?_, ?_, ?_, ?_, ?_, ?_, ?_, ?_, ?_, trivial⟩ ?_
  · refine stepE rfl fun sdn sa sw sE sd sk => ?_
    have h0 : sa.eval (.tmp 0) = .slice (A) (n) (c) := sk.old 0 rfl
    exact Runs.move rfl h0 ⟨Ext.refl _, rfl⟩
  · refine stepE rfl fun sdn sa sw sE sd sk => ?_
    have h1 : sa.eval (.tmp 1) = .int .i64 (key) := sk.old 1 rfl
    exact Runs.move rfl h1 ⟨Ext.refl _, rfl⟩
  · refine stepE rfl fun sdn sa sw sE sd sk => ?_
    have h10 : sa.eval (.tmp 10) = .int .i64 (key) := sk.fact 1 10 rfl (sd 1 rfl)
    exact Runs.conv rfl h10 (conv_key Try.underlying3 Try.underlying101 _) ⟨Ext.refl _, rfl⟩
  · refine stepE rfl fun sdn sa sw sE sd sk => ?_
    have h11 : sa.eval (.tmp 11) = .int .u32 (u32i (keyW key)) := sk.fact 2 11 rfl (sd 2 rfl)
    refine Runs.call (f := 82) (vs := [.slice none 0 0, .int .u32 (u32i (keyW key))]) rfl rfl rfl (by simp only [List.map_toArray, List.map_cons, List.map_nil, h11] <;> rfl) (ent82 _ _) ((num4_any (keyW key) sw).mono ?_); rintro e w' ⟨A', c', rfl, own, hx⟩; exact ⟨_, rfl, hx, A', 4, c', rfl, own.rb⟩
  · refine stepE rfl fun sdn sa sw sE sd sk => ?_
    have h2 : sa.eval (.tmp 2) = .int .i64 (bit) := sk.old 2 rfl
    exact Runs.move rfl h2 ⟨Ext.refl _, rfl⟩
  · refine stepE rfl fun sdn sa sw sE sd sk => ?_
    have h13 : sa.eval (.tmp 13) = .int .i64 (bit) := sk.fact 4 13 rfl (sd 4 rfl)
    exact Runs.conv rfl h13 (conv_byte Try.underlying3 Try.underlying5 _) ⟨Ext.refl _, rfl⟩
  · refine stepE rfl fun sdn sa sw sE sd sk => ?_
    have h3 : sa.eval (.tmp 3) = .int .i64 (side) := sk.old 3 rfl
    exact Runs.move rfl h3 ⟨Ext.refl _, rfl⟩
  · refine stepE rfl fun sdn sa sw sE sd sk => ?_
    have h15 : sa.eval (.tmp 15) = .int .i64 (side) := sk.fact 6 15 rfl (sd 6 rfl)
    exact Runs.conv rfl h15 (conv_byte Try.underlying3 Try.underlying5 _) ⟨Ext.refl _, rfl⟩
  · refine stepE rfl fun sdn sa sw sE sd sk => ?_
    have h14 : sa.eval (.tmp 14) = .int .u8 (u8i (byteI bit)) := sk.fact 5 14 rfl (sd 5 rfl)
    have h16 : sa.eval (.tmp 16) = .int .u8 (u8i (byteI side)) := sk.fact 7 16 rfl (sd 7 rfl)
    exact Runs.lit2 rfl h14 h16 (fun w1 e1 o1 => ⟨e1, _, _, _, rfl, o1.rb⟩)
  · refine stepE rfl fun sdn sa sw sE sd sk => ?_
    have h9 : sa.eval (.tmp 9) = .slice (A) (n) (c) := sk.fact 0 9 rfl (sd 0 rfl)
    obtain ⟨A12, n12, c12, h12, r12⟩ := sk.fact 3 12 rfl (sd 3 rfl)
    obtain ⟨A17, n17, c17, h17, r17⟩ := sk.fact 8 17 rfl (sd 8 rfl)
    exact Runs.ss3 rfl h9 h12 h17 (hr.ext sE) r12 r17 (fun w1 e1 b1 => ⟨e1, _, _, _, rfl, b1⟩)
  intro vals W1 hE hv
  have e0 : vals 0 = .slice (A) (n) (c) := hv 0 (by omega) 9 rfl
  have e1 : vals 1 = .int .i64 (key) := hv 1 (by omega) 10 rfl
  have e2 : vals 2 = .int .u32 (u32i (keyW key)) := hv 2 (by omega) 11 rfl
  obtain ⟨A12, n12, c12, e3, r12⟩ := hv 3 (by omega) 12 rfl
  have e4 : vals 4 = .int .i64 (bit) := hv 4 (by omega) 13 rfl
  have e5 : vals 5 = .int .u8 (u8i (byteI bit)) := hv 5 (by omega) 14 rfl
  have e6 : vals 6 = .int .i64 (side) := hv 6 (by omega) 15 rfl
  have e7 : vals 7 = .int .u8 (u8i (byteI side)) := hv 7 (by omega) 16 rfl
  obtain ⟨A17, n17, c17, e8, r17⟩ := hv 8 (by omega) 17 rfl
  obtain ⟨A18, n18, c18, e9, r18⟩ := hv 9 (by omega) 18 rfl
  simp only [putAll, Act.put, List.take_succ_cons, List.take_zero, List.drop_succ_cons, List.drop_zero, List.drop_nil, List.take_nil, Nat.reduceAdd, List.setIfInBounds_toArray, List.set_cons_succ, List.set_cons_zero, e0, e1, e2, e3, e4, e5, e6, e7, e8, e9]
  clear hv e0 e1 e2 e3 e4 e5 e6 e7 e8 e9
  have ht := rtagged_any 10 A18 n18 c18 _ W1 r18 (by simp only [List.flatten_cons, List.flatten_nil, List.length_append, List.length_nil, List.length_cons, bytesOf_length, Hl.out]; omega)
  have e10 : u8i 10 = 10 := rfl
  rw [e10, show [S, bytesOf (keyW key), [byteI bit, byteI side]].flatten = S ++ [(shr (keyW key) 24).toUInt8, (shr (keyW key) 16).toUInt8, (shr (keyW key) 8).toUInt8, (keyW key).toUInt8, byteI bit, byteI side] from by simp [bytesOf]] at ht
  have Ht := Lib.hid ht
  clear ht
  go_wp2_with fail
  refine Ht.out.mono ?_
  rintro e w3 ⟨A3, c3, rfl, own, hE3⟩
  go_wp2_with fail
  go_ret
  exact ⟨A3, c3, rfl, own.base hE.size, hE.trans hE3⟩
set_option maxHeartbeats 1000000 in
theorem r4shown_any (A : Option Addr) (n c : Nat) (S : List UInt8) (key bit side : Int) (w : World) (hr : RB w A n c S) (hn : n ≤ 140737488355000) :
    Calls Try.prog 112 #[.slice A n c, .int .i64 key, .int .i64 bit, .int .i64 side] w fun e w' => ∃ A' c', e = .returned (.slice A' 32 c') ∧ OB w' w.heap.size A' 32 c' (shownL S key bit side) ∧ Ext w w' := by
  go_enter Try.func112, Try.ntmps112
  go_wp2_with fail
  refine (r4secret_any A n c S key bit side w hr hn).mono ?_
  rintro e w1 ⟨A1, c1, rfl, own1, hE1⟩
  have r1 := RBB.of1 own1.rb 22
  have hE2 := Ext.new w1 (.cells #[.slice A1 32 c1] 22)
  have ht := rtagged_any 11 _ 1 1 _ _ r1 (by simp only [List.flatten_cons, List.flatten_nil, List.append_nil, secretL, tagged_length]; omega)
  have e11 : u8i 11 = 11 := rfl
  rw [e11, show [secretL S key bit side].flatten = secretL S key bit side from by simp] at ht
  have Ht := Lib.hid ht
  clear ht
  go_wp2_with fail
  refine Ht.out.mono ?_
  rintro e w3 ⟨A3, c3, rfl, own, hE3⟩
  go_wp2_with fail
  go_ret
  exact ⟨A3, c3, rfl, own.base (hE1.trans hE2).size, (hE1.trans hE2).trans hE3⟩

theorem r4part_even (S : List UInt8) (key : Int) (i : Nat) : partP S key (2 * i) = shownL S key (i : Int) 0 := by
  unfold partP
  rw [show 2 * i / 2 = i by omega, show 2 * i % 2 = 0 by omega]
  rfl
theorem r4part_odd (S : List UInt8) (key : Int) (i : Nat) : partP S key (2 * i + 1) = shownL S key (i : Int) 1 := by
  unfold partP
  rw [show (2 * i + 1) / 2 = i by omega, show (2 * i + 1) % 2 = 1 by omega]
  rfl
theorem r4flat_two (S : List UInt8) (key : Int) (i : Nat) : ((List.range (2 * (i + 1))).map (partP S key)).flatten = (((List.range (2 * i)).map (partP S key)).flatten ++ shownL S key (i : Int) 0) ++ shownL S key (i : Int) 1 := by
  rw [show 2 * (i + 1) = 2 * i + 1 + 1 by omega, range_snoc, range_snoc, List.flatten_append, List.flatten_append, r4part_even, r4part_odd]
  simp
def PubI (w : World) (S : List UInt8) (key : Int) (v i : Value) (wr : World) : Prop :=
  ∃ (k d : Nat) (B : Option Addr), k ≤ 32 ∧ i = .int .i64 k ∧ v = .slice B (64 * k) d ∧ OB wr w.heap.size B (64 * k) d (((List.range (2 * k)).map (partP S key)).flatten) ∧ Ext w wr
set_option maxHeartbeats 2000000 in
theorem r4public_any (A : Option Addr) (n c : Nat) (S : List UInt8) (key : Int) (w : World) (rS : RB w A n c S) (hn : n ≤ 140737488355000) :
    Calls Try.prog 93 #[.slice A n c, .int .i64 key] w fun e w' => ∃ A' c', e = .returned (.slice A' 32 c') ∧ OB w' w.heap.size A' 32 c' (publicL S key) ∧ Ext w w' := by
  go_enter Try.func93, Try.ntmps93
  go_wp2_with fail
  go_loopw [5, 6] (fun v i wr => PubI w S key v i wr) (fun _ i _ => 32 - (intOf i).toNat)
  case atStart => exact ⟨0, 0, none, by omega, rfl, rfl, OB.none_ _ _, Ext.refl _⟩
  case round =>
    obtain ⟨k, d, B, hk, rfl, rfl, own, hEr⟩ := hrel
    by_cases hlt : k < 32
    · have hki : (k : Int) < 32 := by omega
      go_wp2_with fail
      refine (r4shown_any A n c S key k 0 wr (rS.ext hEr) hn).mono ?_
      rintro e w2 ⟨A2, c2, rfl, own2, hE2⟩
      go_wp2_with (refine app_own (w0 := w) (N := 64 * k + 32) (LM := ((List.range (2 * k)).map (partP S key)).flatten ++ shownL S key (k : Int) 0) rfl rfl rfl rfl (hEr.trans hE2) (own.ext hE2) own2.rb rfl rfl (by omega) ?_; intro A3 c3 w3 own3 hE3)
      refine (r4shown_any A n c S key k 1 w3 (rS.ext hE3) hn).mono ?_
      rintro e w4 ⟨A4, c4, rfl, own4, hE4⟩
      go_wp2_with (refine app_own (w0 := w) (N := 64 * (k + 1)) (LM := ((List.range (2 * (k + 1))).map (partP S key)).flatten) rfl rfl rfl rfl (hE3.trans hE4) (own3.ext hE4) own4.rb (by omega) (r4flat_two S key k).symm (by omega) ?_; intro A5 c5 w5 own5 hE5)
      go_roundw
      case rel => exact ⟨k + 1, c5, A5, by omega, by go_num, rfl, own5, hE5⟩
      case measure => simp [intOf]; omega
    · obtain rfl : k = 32 := by omega
      have r1 := RBB.of1 own.rb 22
      have hEa := Ext.new wr (.cells #[.slice B (64 * 32) d] 22)
      have ht := rtagged_any 12 _ 1 1 _ _ r1 (by simp only [List.flatten_cons, List.flatten_nil, List.append_nil, flat32 _ (partP_length S key)]; omega)
      have e12 : u8i 12 = 12 := rfl
      rw [e12, show [((List.range (2 * 32)).map (partP S key)).flatten].flatten = ((List.range 64).map (partP S key)).flatten from by simp] at ht
      have Ht := Lib.hid ht
      clear ht
      go_wp2_with fail
      refine Ht.out.mono ?_
      rintro e w6 ⟨A6, c6, rfl, own6, hE6⟩
      go_wp2_with fail
      go_ret
      exact ⟨A6, c6, rfl, own6.base (hEr.trans hEa).size, (hEr.trans hEa).trans hE6⟩
end Go.Proofs.Ythggfbpdhkpkjaa
namespace Go.Proofs.Ythggfbpdhkpkjaa
set_option maxRecDepth 100000
open Go Go.RowKit
theorem RBB.take {w : World} {A : Option Addr} {n c : Nat} {Ls : List (List UInt8)} (h : RBB w A n c Ls) {k : Nat} (hk : k ≤ n) : RBB w A k c (Ls.take k) :=
  ⟨by rw [List.length_take, h.len]; omega, Nat.le_trans hk h.room, h.cap, fun h0 => by
    obtain ⟨ad, ha, hc⟩ := h.cells (by omega)
    refine ⟨ad, ha, fun j hj => ?_⟩
    obtain ⟨B, m, d, h1, h2⟩ := hc j (by omega)
    refine ⟨B, m, d, h1, ?_⟩
    have e : lb (Ls.take k) j = lb Ls j := by unfold lb; simp [List.getElem?_take, hj]
    rw [e]
    exact h2⟩
end Go.Proofs.Ythggfbpdhkpkjaa
namespace Go.Proofs.Ythggfbpdhkpkjaa
set_option maxRecDepth 100000
open Go Go.RowKit
def nodeV (a b : List UInt8) : List UInt8 := tagged 14 (a ++ b)
def upL (Ls : List (List UInt8)) : List (List UInt8) := (List.range (Ls.length / 2)).map fun i => nodeV (lb Ls (2 * i)) (lb Ls (2 * i + 1))
def leavesL (S : List UInt8) : List (List UInt8) := (List.range 16).map fun k => publicL S ((k : Nat) : Int)
def lev (S : List UInt8) : Nat → List (List UInt8)
  | 0 => leavesL S
  | h + 1 => upL (lev S h)
def ownP (S : List UInt8) : List UInt8 := lb (lev S 4) 0
def pathB (S : List UInt8) (k h : Nat) : List UInt8 := lb (lev S h) (k / 2 ^ h + 1 - 2 * (k / 2 ^ h % 2))
def pathL (S : List UInt8) (k : Nat) : List (List UInt8) := (List.range 4).map (pathB S k)
def climbB (k h : Nat) (t o : List UInt8) : List UInt8 := if k / 2 ^ h % 2 = 0 then nodeV t o else nodeV o t
def climb (k : Nat) (t : List UInt8) (path : List (List UInt8)) : Nat → List UInt8
  | 0 => t
  | h + 1 => climbB k h (climb k t path h) (lb path h)
theorem nodeV_length (a b : List UInt8) : (nodeV a b).length = 32 := tagged_length _ _
theorem upL_length (Ls : List (List UInt8)) : (upL Ls).length = Ls.length / 2 := by simp [upL]
theorem lev_length (S : List UInt8) (h : Nat) : (lev S h).length = 16 / 2 ^ h := by
  induction h with
  | zero => simp [lev, leavesL]
  | succ h ih =>
    show (upL (lev S h)).length = _
    rw [upL_length, ih, Nat.div_div_eq_div_mul]
    rfl
theorem lb_upL (Ls : List (List UInt8)) {i : Nat} (h : i < Ls.length / 2) : lb (upL Ls) i = nodeV (lb Ls (2 * i)) (lb Ls (2 * i + 1)) := by
  unfold upL
  rw [lb_range _ h]
theorem publicL_length (S : List UInt8) (k : Int) : (publicL S k).length = 32 := tagged_length _ _
theorem lb_lev_length (S : List UInt8) (h i : Nat) (hi : i < 16 / 2 ^ h) : (lb (lev S h) i).length = 32 := by
  cases h with
  | zero =>
    show (lb (leavesL S) i).length = 32
    unfold leavesL
    rw [lb_range _ (by simpa using hi)]
    exact publicL_length _ _
  | succ h =>
    show (lb (upL (lev S h)) i).length = 32
    have h2 : i < (lev S h).length / 2 := by
      rw [lev_length, Nat.div_div_eq_div_mul]
      exact hi
    rw [lb_upL _ h2]
    exact nodeV_length _ _
theorem ownP_length (S : List UInt8) : (ownP S).length = 32 := lb_lev_length S 4 0 (by decide)
theorem step_lt {k h : Nat} (hk : k < 16) (hh : h < 4) : k / 2 ^ h + 1 - 2 * (k / 2 ^ h % 2) < 16 / 2 ^ h ∧ k / 2 ^ (h + 1) < 16 / 2 ^ h / 2 ∧ k / 2 ^ (h + 1) = k / 2 ^ h / 2 := by
  have h3 : k / 2 ^ (h + 1) = k / 2 ^ h / 2 := by rw [Nat.pow_succ, Nat.div_div_eq_div_mul]
  refine ⟨?_, ?_, h3⟩
  · obtain rfl | rfl | rfl | rfl : h = 0 ∨ h = 1 ∨ h = 2 ∨ h = 3 := by omega
    all_goals simp only [Nat.reducePow, Nat.reduceDiv, Nat.div_one]; omega
  · obtain rfl | rfl | rfl | rfl : h = 0 ∨ h = 1 ∨ h = 2 ∨ h = 3 := by omega
    all_goals simp only [Nat.reducePow, Nat.reduceAdd, Nat.reduceDiv, Nat.div_one]; omega
theorem climb_path (S : List UInt8) (k : Nat) (hk : k < 16) : ∀ h, h ≤ 4 → climb k (publicL S ((k : Nat) : Int)) (pathL S k) h = lb (lev S h) (k / 2 ^ h) := by
  intro h
  induction h with
  | zero =>
    intro _
    show publicL S ((k : Nat) : Int) = lb (leavesL S) (k / 1)
    unfold leavesL
    rw [Nat.div_one, lb_range _ hk]
  | succ h ih =>
    intro hh
    have h1 := step_lt hk (h := h) (by omega)
    show climbB k h (climb k _ (pathL S k) h) (lb (pathL S k) h) = lb (upL (lev S h)) (k / 2 ^ (h + 1))
    rw [ih (by omega), lb_upL _ (by rw [lev_length]; exact h1.2.1), h1.2.2]
    unfold pathL
    rw [lb_range _ (by omega)]
    unfold climbB pathB
    generalize k / 2 ^ h = q
    by_cases h0 : q % 2 = 0
    · rw [if_pos h0, h0, show q + 1 - 2 * 0 = 2 * (q / 2) + 1 from by omega]
      congr 2
      omega
    · have h2 : q % 2 = 1 := by omega
      rw [if_neg h0, h2, show q + 1 - 2 * 1 = 2 * (q / 2) from by omega]
      congr 2
      omega
theorem climb_own (S : List UInt8) (k : Nat) (hk : k < 16) : climb k (publicL S ((k : Nat) : Int)) (pathL S k) 4 = ownP S := by
  rw [climb_path S k hk 4 (by omega), show k / 2 ^ 4 = 0 from Nat.div_eq_of_lt hk]
  rfl
end Go.Proofs.Ythggfbpdhkpkjaa
namespace Go.Proofs.Ythggfbpdhkpkjaa
set_option maxRecDepth 100000
open Go Go.RowKit
def seedL (key : Int) : List UInt8 := tagged 99 [UInt8.ofNat ((within key 0 1000).toNat % 5)]
set_option maxHeartbeats 1000000 in
theorem seed_any (key : Int) (w : World) (h0 : -9223372036854775808 ≤ key) (h1 : key ≤ 9223372036854775807) :
    Calls Try.prog 35 #[.int .i64 key] w fun e w' => ∃ A' c', e = .returned (.slice A' 32 c') ∧ OB w' w.heap.size A' 32 c' (seedL key) ∧ Ext w w' := by
  obtain ⟨k, hk⟩ : ∃ k : Nat, within key 0 1000 = k := ⟨_, (Int.toNat_of_nonneg (within_in key 0 1000 (by omega)).1).symm⟩
  have hwi := within_any key 0 1000 w h0 h1 (by omega) (by omega) (by omega)
  have hs : seedL key = tagged 99 [UInt8.ofNat (k % 5)] := by unfold seedL; rw [hk]; rfl
  rw [hk] at hwi
  rw [hs]
  have Hwi := Lib.hid hwi
  clear hwi hs hk
  go_enter Try.func35, Try.ntmps35
  go_wp2_with fail
  refine Hwi.out.mono ?_
  rintro e w1 ⟨rfl, rfl⟩
  have e1 : (k : Int) % 5 = u8i (UInt8.ofNat (k % 5)) := by
    unfold u8i
    rw [UInt8.toNat_ofNat']
    omega
  have r1 := RB.lit w [UInt8.ofNat (k % 5)] (n := 1) rfl (small_maxLen (by decide))
  have hE1 := Ext.new w (.cells (bv [UInt8.ofNat (k % 5)]).toArray 5)
  have r2 := RBB.of1 r1 22
  have hE2 := Ext.new (w.alloc (.cells (bv [UInt8.ofNat (k % 5)]).toArray 5)) (.cells #[.slice (some ⟨w.heap.size, 0, none⟩) 1 1] 22)
  have hta := rtagged_any 99 _ 1 1 _ _ r2 (by simp)
  have e99 : u8i 99 = 99 := rfl
  rw [e99, World.size_alloc] at hta
  have Hta := Lib.hid hta
  clear hta
  go_wp2_with fail
  refine Hta.out.mono ?_
  rintro e w3 ⟨A3, c3, rfl, own3, hE3⟩
  go_wp2_with fail
  go_ret
  exact ⟨A3, c3, rfl, own3.base (hE1.trans hE2).size, (hE1.trans hE2).trans hE3⟩
end Go.Proofs.Ythggfbpdhkpkjaa
namespace Go.Proofs.Ythggfbpdhkpkjaa
set_option maxRecDepth 100000
open Go Go.RowKit
theorem OBC.plain {w : World} {base n c : Nat} {ad : Addr} {Ls : List (List UInt8)} (h : OBC w base (some ad) n c Ls) : ∃ g, ad = ⟨g, 0, none⟩ := by
  obtain ⟨vs, h1, _⟩ := h
  rcases h1.2 with ⟨e, _⟩ | ⟨g', cap, cur, e, _⟩
  · cases e
  · injection e with e1 e2 e3
    injection e1 with e1
    exact ⟨g', e1⟩
theorem OBC.frozen {w : World} {base n c g : Nat} {Ls : List (List UInt8)} (h : OBC w base (some ⟨g, 0, none⟩) n c Ls) (i : Nat) : w.frozen? ⟨g, i, none⟩ = false := by
  obtain ⟨vs, h1, _⟩ := h
  exact World.ownsRow.frozenAt h1 i
theorem lb_set {Ls : List (List UInt8)} {i j : Nat} {Y : List UInt8} (hi : i < Ls.length) : lb (Ls.set i Y) j = if j = i then Y else lb Ls j := by
  unfold lb
  by_cases h : j = i
  · subst h; simp [hi]
  · rw [if_neg h]; simp [List.getElem?_set, Ne.symm h]
end Go.Proofs.Ythggfbpdhkpkjaa
