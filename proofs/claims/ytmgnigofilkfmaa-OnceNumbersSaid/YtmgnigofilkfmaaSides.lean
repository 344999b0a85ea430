/-
  law4.OnceSides, walked.
-/
import Derived.Test.YtmgnigofilkfmaaKnown4
namespace Go.Proofs.Ytmgnigofilkfmaa
set_option maxRecDepth 100000
open Go Go.RowKit
def MP.rb32 (L : List UInt8) : MP Ext := ⟨fun u w => ∃ A c, u = .slice A 32 c ∧ RB w A 32 c L, fun _ _ _ e ⟨A, c, h1, h2⟩ => ⟨A, c, h1, h2.ext e⟩⟩
theorem part_even (S : List UInt8) (key : Int) (i : Nat) : partP S key (2 * i) = shownL S key (i : Int) 0 := by
  unfold partP
  rw [show 2 * i / 2 = i by omega, show 2 * i % 2 = 0 by omega]
  rfl
theorem part_odd (S : List UInt8) (key : Int) (i : Nat) : partP S key (2 * i + 1) = shownL S key (i : Int) 1 := by
  unfold partP
  rw [show (2 * i + 1) / 2 = i by omega, show (2 * i + 1) % 2 = 1 by omega]
  rfl
theorem flat_two (S : List UInt8) (key : Int) (i : Nat) : ((List.range (2 * (i + 1))).map (partP S key)).flatten = (((List.range (2 * i)).map (partP S key)).flatten ++ shownL S key (i : Int) 0) ++ shownL S key (i : Int) 1 := by
  rw [show 2 * (i + 1) = 2 * i + 1 + 1 by omega, range_snoc, range_snoc, List.flatten_append, List.flatten_append, part_even, part_odd]
  simp
def SidesI (w : World) (S : List UInt8) (key : Int) (v i : Value) (wr : World) : Prop :=
  ∃ (k d : Nat) (B : Option Addr), k ≤ 32 ∧ i = .int .i64 k ∧ v = .slice B (64 * k) d ∧ OB wr w.heap.size B (64 * k) d (((List.range (2 * k)).map (partP S key)).flatten) ∧ Ext w wr
set_option maxHeartbeats 4000000 in
theorem sides_law (A : Option Addr) (n c : Nat) (L : List UInt8) (key bit : Int) (w : World) (hr : RB w A n c L) (hb0 : -9223372036854775808 ≤ bit) (hb1 : bit ≤ 9223372036854775807) :
    Calls Try.prog 12 #[.slice A n c, .int .i64 key, .int .i64 bit] w fun e w' => e = .returned (.bool true) ∧ Ext w w' := by
  go_enter Try.func12, Try.ntmps12
  have hc1 := cut_any A n c 40 L w hr (by omega)
  have e40 : ((40 : Nat) : Int) = 40 := rfl
  rw [e40] at hc1
  go_wp2_with fail
  refine hc1.mono ?_
  rintro e w1 ⟨⟨rfl, rS⟩, rfl⟩
  clear hc1 e40 hr
  have hn1 : min n 40 ≤ 40 := by omega
  generalize min n 40 = n at *
  generalize L.take 40 = S at *
  obtain ⟨j, hj⟩ : ∃ j : Nat, within bit 0 31 = j := ⟨_, (Int.toNat_of_nonneg (within_in bit 0 31 (by omega)).1).symm⟩
  have hwi := within_any bit 0 31 w hb0 hb1 (by omega) (by omega) (by omega)
  have hjl := (within_in bit 0 31 (by omega)).2
  rw [hj] at hwi hjl
  have Hwi := Lib.hid hwi
  clear hwi hj
  go_wp2_with fail
  refine Hwi.out.mono ?_
  rintro e w1 ⟨rfl, rfl⟩
  go_wp2_with fail
  go_loopw [8] (fun i wr => ∃ s : Nat, s ≤ 2 ∧ i = .int .i64 s ∧ Ext w wr) (fun i _ => 2 - (intOf i).toNat)
  case atStart => exact ⟨0, by omega, rfl, Ext.refl _⟩
  case round =>
    obtain ⟨s, hs, rfl, hEr⟩ := hrel
    by_cases hls : s < 2
    · have rS1 := rS.ext hEr
      go_upto_region 6 with (fail)
      refine par_ext (n := 15) (by kernel_rfl) [.is (.slice (A) (n) (c)), .is (.int .i64 (key)), .is (.int .i64 (((j : Nat) : Int))), .is (.int .i64 (((s : Nat) : Int))), .rb (shownL S (key) (((j : Nat) : Int)) (((s : Nat) : Int))), .is (.string (str (shownL S (key) (((j : Nat) : Int)) (((s : Nat) : Int))))), .is (.slice (A) (n) (c)), .is (.int .i64 (key)), .is (.int .i64 (((j : Nat) : Int))), .is (.int .i64 (((s : Nat) : Int))), .rb (secretL S (key) (((j : Nat) : Int)) (((s : Nat) : Int))), .rbb ([secretL S (key) (((j : Nat) : Int)) (((s : Nat) : Int))]), .rb (tagged ((11 : UInt8)) ([secretL S (key) (((j : Nat) : Int)) (((s : Nat) : Int))]).flatten), .is (.string (str (tagged ((11 : UInt8)) ([secretL S (key) (((j : Nat) : Int)) (((s : Nat) : Int))]).flatten))), .is (.bool (false))] rfl ⟨?_, ?_, ?_, ?_, ?_, ?_, ?_, ?_, ?_, ?_, ?_, ?_, ?_, ?_, ?_, trivial⟩ ?_
      · refine stepE rfl fun sdn sa sw sE sd sk => ?_
        have h0 : sa.eval (.tmp 0) = .slice (A) (n) (c) := sk.old 0 rfl
        exact Runs.move rfl h0 ⟨Ext.refl _, rfl⟩
      · refine stepE rfl fun sdn sa sw sE sd sk => ?_
        have h1 : sa.eval (.tmp 1) = .int .i64 (key) := sk.old 1 rfl
        exact Runs.move rfl h1 ⟨Ext.refl _, rfl⟩
      · refine stepE rfl fun sdn sa sw sE sd sk => ?_
        have h7 : sa.eval (.tmp 7) = .int .i64 (((j : Nat) : Int)) := sk.old 7 rfl
        exact Runs.move rfl h7 ⟨Ext.refl _, rfl⟩
      · refine stepE rfl fun sdn sa sw sE sd sk => ?_
        have h8 : sa.eval (.tmp 8) = .int .i64 (((s : Nat) : Int)) := sk.old 8 rfl
        exact Runs.move rfl h8 ⟨Ext.refl _, rfl⟩
      · refine stepE rfl fun sdn sa sw sE sd sk => ?_
        have h19 : sa.eval (.tmp 19) = .slice (A) (n) (c) := sk.fact 0 19 rfl (sd 0 rfl)
        have h20 : sa.eval (.tmp 20) = .int .i64 (key) := sk.fact 1 20 rfl (sd 1 rfl)
        have h21 : sa.eval (.tmp 21) = .int .i64 (((j : Nat) : Int)) := sk.fact 2 21 rfl (sd 2 rfl)
        have h22 : sa.eval (.tmp 22) = .int .i64 (((s : Nat) : Int)) := sk.fact 3 22 rfl (sd 3 rfl)
        refine Runs.call (f := 36) (vs := [.slice (A) (n) (c), .int .i64 (key), .int .i64 (((j : Nat) : Int)), .int .i64 (((s : Nat) : Int))]) rfl rfl rfl (by simp only [List.map_toArray, List.map_cons, List.map_nil, h19, h20, h21, h22] <;> rfl) (ent36 _ _) ((shown_any _ _ _ _ (key) (((j : Nat) : Int)) (((s : Nat) : Int)) sw (rS1.ext sE) (by omega)).mono ?_); rintro e w' ⟨A', c', rfl, own, hx⟩; exact ⟨_, rfl, hx, A', 32, c', rfl, own.rb⟩
      · refine stepE rfl fun sdn sa sw sE sd sk => ?_
        obtain ⟨A23, n23, c23, h23, r23⟩ := sk.fact 4 23 rfl (sd 4 rfl)
        exact Runs.conv rfl h23 (run_str r23) ⟨Ext.refl _, rfl⟩
      · refine stepE rfl fun sdn sa sw sE sd sk => ?_
        have h0 : sa.eval (.tmp 0) = .slice (A) (n) (c) := sk.old 0 rfl
        exact Runs.move rfl h0 ⟨Ext.refl _, rfl⟩
      · refine stepE rfl fun sdn sa sw sE sd sk => ?_
        have h1 : sa.eval (.tmp 1) = .int .i64 (key) := sk.old 1 rfl
        exact Runs.move rfl h1 ⟨Ext.refl _, rfl⟩
      · refine stepE rfl fun sdn sa sw sE sd sk => ?_
        have h7 : sa.eval (.tmp 7) = .int .i64 (((j : Nat) : Int)) := sk.old 7 rfl
        exact Runs.move rfl h7 ⟨Ext.refl _, rfl⟩
      · refine stepE rfl fun sdn sa sw sE sd sk => ?_
        have h8 : sa.eval (.tmp 8) = .int .i64 (((s : Nat) : Int)) := sk.old 8 rfl
        exact Runs.move rfl h8 ⟨Ext.refl _, rfl⟩
      · refine stepE rfl fun sdn sa sw sE sd sk => ?_
        have h25 : sa.eval (.tmp 25) = .slice (A) (n) (c) := sk.fact 6 25 rfl (sd 6 rfl)
        have h26 : sa.eval (.tmp 26) = .int .i64 (key) := sk.fact 7 26 rfl (sd 7 rfl)
        have h27 : sa.eval (.tmp 27) = .int .i64 (((j : Nat) : Int)) := sk.fact 8 27 rfl (sd 8 rfl)
        have h28 : sa.eval (.tmp 28) = .int .i64 (((s : Nat) : Int)) := sk.fact 9 28 rfl (sd 9 rfl)
        refine Runs.call (f := 34) (vs := [.slice (A) (n) (c), .int .i64 (key), .int .i64 (((j : Nat) : Int)), .int .i64 (((s : Nat) : Int))]) rfl rfl rfl (by simp only [List.map_toArray, List.map_cons, List.map_nil, h25, h26, h27, h28] <;> rfl) (ent34 _ _) ((secret_any _ _ _ _ (key) (((j : Nat) : Int)) (((s : Nat) : Int)) sw (rS1.ext sE) (by omega)).mono ?_); rintro e w' ⟨A', c', rfl, own, hx⟩; exact ⟨_, rfl, hx, A', 32, c', rfl, own.rb⟩
      · refine stepE rfl fun sdn sa sw sE sd sk => ?_
        obtain ⟨A29, n29, c29, h29, r29⟩ := sk.fact 10 29 rfl (sd 10 rfl)
        exact Runs.ss1 rfl h29 r29 (fun w1 e1 b1 => ⟨e1, _, _, _, rfl, b1⟩)
      · refine stepE rfl fun sdn sa sw sE sd sk => ?_
        obtain ⟨A30, n30, c30, h30, r30⟩ := sk.fact 11 30 rfl (sd 11 rfl)
        refine Runs.call (f := 22) (vs := [.int .u8 (u8i (11 : UInt8)), .slice (A30) (n30) (c30)]) rfl rfl rfl (by simp only [List.map_toArray, List.map_cons, List.map_nil, h30] <;> rfl) (ent22 _ _) ((rtagged_any ((11 : UInt8)) A30 n30 c30 ([secretL S (key) (((j : Nat) : Int)) (((s : Nat) : Int))]) sw (r30) (by simp only [List.flatten_cons, List.flatten_nil, List.append_nil, secretL_length]; omega)).mono ?_); rintro e w' ⟨A', c', rfl, own, hx⟩; exact ⟨_, rfl, hx, A', 32, c', rfl, own.rb⟩
      · refine stepE rfl fun sdn sa sw sE sd sk => ?_
        obtain ⟨A31, n31, c31, h31, r31⟩ := sk.fact 12 31 rfl (sd 12 rfl)
        exact Runs.conv rfl h31 (run_str r31) ⟨Ext.refl _, rfl⟩
      · refine stepE rfl fun sdn sa sw sE sd sk => ?_
        have h24 : sa.eval (.tmp 24) = .string (str (shownL S (key) (((j : Nat) : Int)) (((s : Nat) : Int)))) := sk.fact 5 24 rfl (sd 5 rfl)
        have h32 : sa.eval (.tmp 32) = .string (str (tagged ((11 : UInt8)) ([secretL S (key) (((j : Nat) : Int)) (((s : Nat) : Int))]).flatten)) := sk.fact 13 32 rfl (sd 13 rfl)
        exact Runs.bin rfl h24 h32 (by rfl) (bin_nes _ _ _) ⟨Ext.refl _, congrArg Value.bool (by simp [shownL])⟩
      intro vals W1 hE hv
      have e0 : vals 0 = .slice (A) (n) (c) := hv 0 (by omega) 19 rfl
      have e1 : vals 1 = .int .i64 (key) := hv 1 (by omega) 20 rfl
      have e2 : vals 2 = .int .i64 (((j : Nat) : Int)) := hv 2 (by omega) 21 rfl
      have e3 : vals 3 = .int .i64 (((s : Nat) : Int)) := hv 3 (by omega) 22 rfl
      obtain ⟨A23, n23, c23, e4, r23⟩ := hv 4 (by omega) 23 rfl
      have e5 : vals 5 = .string (str (shownL S (key) (((j : Nat) : Int)) (((s : Nat) : Int)))) := hv 5 (by omega) 24 rfl
      have e6 : vals 6 = .slice (A) (n) (c) := hv 6 (by omega) 25 rfl
      have e7 : vals 7 = .int .i64 (key) := hv 7 (by omega) 26 rfl
      have e8 : vals 8 = .int .i64 (((j : Nat) : Int)) := hv 8 (by omega) 27 rfl
      have e9 : vals 9 = .int .i64 (((s : Nat) : Int)) := hv 9 (by omega) 28 rfl
      obtain ⟨A29, n29, c29, e10, r29⟩ := hv 10 (by omega) 29 rfl
      obtain ⟨A30, n30, c30, e11, r30⟩ := hv 11 (by omega) 30 rfl
      obtain ⟨A31, n31, c31, e12, r31⟩ := hv 12 (by omega) 31 rfl
      have e13 : vals 13 = .string (str (tagged ((11 : UInt8)) ([secretL S (key) (((j : Nat) : Int)) (((s : Nat) : Int))]).flatten)) := hv 13 (by omega) 32 rfl
      have e14 : vals 14 = .bool (false) := hv 14 (by omega) 33 rfl
      simp only [putAll, Act.put, List.take_succ_cons, List.take_zero, List.drop_succ_cons, List.drop_zero, List.drop_nil, List.take_nil, Nat.reduceAdd, List.setIfInBounds_toArray, List.set_cons_succ, List.set_cons_zero, e0, e1, e2, e3, e4, e5, e6, e7, e8, e9, e10, e11, e12, e13, e14]
      clear hv e0 e1 e2 e3 e4 e5 e6 e7 e8 e9 e10 e11 e12 e13 e14
      go_wp2_with fail
      go_roundw
      case rel => exact ⟨s + 1, by omega, by go_num, hEr.trans hE⟩
      case measure => simp [intOf]; omega
    · obtain rfl : s = 2 := by omega
      rw [show ((2 : Nat) : Int) = 2 from rfl]
      go_wp2_with fail
      go_loopw [9, 10] (fun v i wr => SidesI w S key v i wr) (fun _ i _ => 32 - (intOf i).toNat)
      case atStart => exact ⟨0, 0, none, by omega, rfl, rfl, OB.none_ _ _, hEr⟩
      case round =>
        clear hEr
        obtain ⟨k, d, B, hk, rfl, rfl, own, hEr⟩ := hrel
        by_cases hlt : k < 32
        · have hki : (k : Int) < 32 := by omega
          go_wp2_with fail
          refine (shown_any A n c S key k 0 wr (rS.ext hEr) (by omega)).mono ?_
          rintro e w2 ⟨A2, c2, rfl, own2, hE2⟩
          go_wp2_with (refine app_own (w0 := w) (N := 64 * k + 32) (LM := ((List.range (2 * k)).map (partP S key)).flatten ++ shownL S key (k : Int) 0) rfl rfl rfl rfl (hEr.trans hE2) (own.ext hE2) own2.rb rfl rfl (by omega) ?_; intro A3 c3 w3 own3 hE3)
          refine (shown_any A n c S key k 1 w3 (rS.ext hE3) (by omega)).mono ?_
          rintro e w4 ⟨A4, c4, rfl, own4, hE4⟩
          go_wp2_with (refine app_own (w0 := w) (N := 64 * (k + 1)) (LM := ((List.range (2 * (k + 1))).map (partP S key)).flatten) rfl rfl rfl rfl (hE3.trans hE4) (own3.ext hE4) own4.rb (by omega) (flat_two S key k).symm (by omega) ?_; intro A5 c5 w5 own5 hE5)
          go_roundw
          case rel => exact ⟨k + 1, c5, A5, by omega, by go_num, rfl, own5, hE5⟩
          case measure => simp [intOf]; omega
        · obtain rfl : k = 32 := by omega
          have rB := own.rb
          have rS2 := rS.ext hEr
          go_upto_region 13 with (fail)
          refine par_ext (n := 21) (by kernel_rfl) [.is (.slice (A) (n) (c)), .is (.int .i64 (key)), .rb (publicL S key), .is (.string (str (publicL S key))), .is (.slice (B) (2048) (d)), .rbb ([((List.range 64).map (partP S key)).flatten]), .rb (tagged ((12 : UInt8)) ([((List.range 64).map (partP S key)).flatten]).flatten), .is (.string (str (tagged ((12 : UInt8)) ([((List.range 64).map (partP S key)).flatten]).flatten))), .is (.bool (true)), .is (.bool (true)), .is (.slice (A) (n) (c)), .is (.int .i64 (key)), .is (.int .i64 (((j : Nat) : Int))), .rb32 (secretL S (key) (((j : Nat) : Int)) ((0 : Int))), .is (.int .i64 ((32 : Nat))), .is (.bool (true)), .is (.bool (true)), .is (.bool (true)), .is (.bool (true)), .is (.bool (true)), .is (.bool (true))] rfl ⟨?_, ?_, ?_, ?_, ?_, ?_, ?_, ?_, ?_, ?_, ?_, ?_, ?_, ?_, ?_, ?_, ?_, ?_, ?_, ?_, ?_, trivial⟩ ?_
          · refine stepE rfl fun sdn sa sw sE sd sk => ?_
            have h0 : sa.eval (.tmp 0) = .slice (A) (n) (c) := sk.old 0 rfl
            exact Runs.move rfl h0 ⟨Ext.refl _, rfl⟩
          · refine stepE rfl fun sdn sa sw sE sd sk => ?_
            have h1 : sa.eval (.tmp 1) = .int .i64 (key) := sk.old 1 rfl
            exact Runs.move rfl h1 ⟨Ext.refl _, rfl⟩
          · refine stepE rfl fun sdn sa sw sE sd sk => ?_
            have h49 : sa.eval (.tmp 49) = .slice (A) (n) (c) := sk.fact 0 49 rfl (sd 0 rfl)
            have h50 : sa.eval (.tmp 50) = .int .i64 (key) := sk.fact 1 50 rfl (sd 1 rfl)
            refine Runs.call (f := 38) (vs := [.slice (A) (n) (c), .int .i64 (key)]) rfl rfl rfl (by simp only [List.map_toArray, List.map_cons, List.map_nil, h49, h50] <;> rfl) (ent38 _ _) ((public_any _ _ _ _ key sw (rS2.ext sE) (by omega)).mono ?_); rintro e w' ⟨A', c', rfl, own, hx⟩; exact ⟨_, rfl, hx, A', 32, c', rfl, own.rb⟩
          · refine stepE rfl fun sdn sa sw sE sd sk => ?_
            obtain ⟨A51, n51, c51, h51, r51⟩ := sk.fact 2 51 rfl (sd 2 rfl)
            exact Runs.conv rfl h51 (run_str r51) ⟨Ext.refl _, rfl⟩
          · refine stepE rfl fun sdn sa sw sE sd sk => ?_
            have h9 : sa.eval (.tmp 9) = .slice (B) (2048) (d) := sk.old 9 rfl
            exact Runs.move rfl h9 ⟨Ext.refl _, rfl⟩
          · refine stepE rfl fun sdn sa sw sE sd sk => ?_
            have h53 : sa.eval (.tmp 53) = .slice (B) (2048) (d) := sk.fact 4 53 rfl (sd 4 rfl)
            exact Runs.ss1 rfl h53 (rB.ext sE) (fun w1 e1 b1 => ⟨e1, _, _, _, rfl, b1⟩)
          · refine stepE rfl fun sdn sa sw sE sd sk => ?_
            obtain ⟨A54, n54, c54, h54, r54⟩ := sk.fact 5 54 rfl (sd 5 rfl)
            refine Runs.call (f := 22) (vs := [.int .u8 (u8i (12 : UInt8)), .slice (A54) (n54) (c54)]) rfl rfl rfl (by simp only [List.map_toArray, List.map_cons, List.map_nil, h54] <;> rfl) (ent22 _ _) ((rtagged_any ((12 : UInt8)) A54 n54 c54 ([((List.range 64).map (partP S key)).flatten]) sw (r54) (by simp only [List.flatten_cons, List.flatten_nil, List.append_nil, flat32 _ (partP_length S key)]; omega)).mono ?_); rintro e w' ⟨A', c', rfl, own, hx⟩; exact ⟨_, rfl, hx, A', 32, c', rfl, own.rb⟩
          · refine stepE rfl fun sdn sa sw sE sd sk => ?_
            obtain ⟨A55, n55, c55, h55, r55⟩ := sk.fact 6 55 rfl (sd 6 rfl)
            exact Runs.conv rfl h55 (run_str r55) ⟨Ext.refl _, rfl⟩
          · refine stepE rfl fun sdn sa sw sE sd sk => ?_
            have h52 : sa.eval (.tmp 52) = .string (str (publicL S key)) := sk.fact 3 52 rfl (sd 3 rfl)
            have h56 : sa.eval (.tmp 56) = .string (str (tagged ((12 : UInt8)) ([((List.range 64).map (partP S key)).flatten]).flatten)) := sk.fact 7 56 rfl (sd 7 rfl)
            exact Runs.bin rfl h52 h56 (by rfl) (bin_eqs _ _ _) ⟨Ext.refl _, congrArg Value.bool (by simp [publicL])⟩
          · refine stepE rfl fun sdn sa sw sE sd sk => ?_
            have h57 : sa.eval (.tmp 57) = .bool (true) := sk.fact 8 57 rfl (sd 8 rfl)
            exact Runs.move rfl h57 ⟨Ext.refl _, rfl⟩
          · refine stepY (j := 9) (d := 58) (b := true) rfl rfl rfl (fun v w h => h) fun sdn sa sw sE sd sk => ?_
            have h0 : sa.eval (.tmp 0) = .slice (A) (n) (c) := sk.old 0 rfl
            exact Runs.move rfl h0 ⟨Ext.refl _, rfl⟩
          · refine stepY (j := 9) (d := 58) (b := true) rfl rfl rfl (fun v w h => h) fun sdn sa sw sE sd sk => ?_
            have h1 : sa.eval (.tmp 1) = .int .i64 (key) := sk.old 1 rfl
            exact Runs.move rfl h1 ⟨Ext.refl _, rfl⟩
          · refine stepY (j := 9) (d := 58) (b := true) rfl rfl rfl (fun v w h => h) fun sdn sa sw sE sd sk => ?_
            have h7 : sa.eval (.tmp 7) = .int .i64 (((j : Nat) : Int)) := sk.old 7 rfl
            exact Runs.move rfl h7 ⟨Ext.refl _, rfl⟩
          · refine stepY (j := 9) (d := 58) (b := true) rfl rfl rfl (fun v w h => h) fun sdn sa sw sE sd sk => ?_
            have h59 : sa.eval (.tmp 59) = .slice (A) (n) (c) := sk.fact 10 59 rfl (sd 10 rfl)
            have h60 : sa.eval (.tmp 60) = .int .i64 (key) := sk.fact 11 60 rfl (sd 11 rfl)
            have h61 : sa.eval (.tmp 61) = .int .i64 (((j : Nat) : Int)) := sk.fact 12 61 rfl (sd 12 rfl)
            refine Runs.call (f := 34) (vs := [.slice (A) (n) (c), .int .i64 (key), .int .i64 (((j : Nat) : Int)), .int .i64 ((0 : Int))]) rfl rfl rfl (by simp only [List.map_toArray, List.map_cons, List.map_nil, h59, h60, h61] <;> rfl) (ent34 _ _) ((secret_any _ _ _ _ (key) (((j : Nat) : Int)) ((0 : Int)) sw (rS2.ext sE) (by omega)).mono ?_); rintro e w' ⟨A', c', rfl, own, hx⟩; exact ⟨_, rfl, hx, A', c', rfl, own.rb⟩
          · refine stepY (j := 9) (d := 58) (b := true) rfl rfl rfl (fun v w h => h) fun sdn sa sw sE sd sk => ?_
            obtain ⟨A62, c62, h62, r62⟩ := sk.fact 13 62 rfl (sd 13 rfl)
            exact Runs.len Try.underlying22 rfl h62 ⟨Ext.refl _, rfl⟩
          · refine stepY (j := 9) (d := 58) (b := true) rfl rfl rfl (fun v w h => h) fun sdn sa sw sE sd sk => ?_
            have h63 : sa.eval (.tmp 63) = .int .i64 ((32 : Nat)) := sk.fact 14 63 rfl (sd 14 rfl)
            exact Runs.bin rfl h63 rfl (by rfl) (bin_eql _ _ _ _) ⟨Ext.refl _, congrArg Value.bool (decide_eq_true rfl)⟩
          · refine stepE rfl fun sdn sa sw sE sd sk => ?_
            have h58 : sa.eval (.tmp 58) = .bool (true) := sk.fact 9 58 rfl (sd 9 rfl)
            have h64 : sa.eval (.tmp 64) = .bool (true) := sk.fact 15 64 rfl (sd 15 rfl)
            exact Runs.pick rfl h58 ⟨Ext.refl _, by first | exact h64 | simpa using h64⟩
          · refine stepE rfl fun sdn sa sw sE sd sk => ?_
            have h65 : sa.eval (.tmp 65) = .bool (true) := sk.fact 16 65 rfl (sd 16 rfl)
            exact Runs.move rfl h65 ⟨Ext.refl _, rfl⟩
          · refine stepY (j := 17) (d := 66) (b := true) rfl rfl rfl (fun v w h => h) fun sdn sa sw sE sd sk => ?_
            refine Runs.call (f := 40) (vs := []) rfl rfl rfl (by simp only [List.map_toArray, List.map_cons, List.map_nil] <;> rfl) (ent40 _ _) ((known4_any sw).mono ?_); rintro e w' ⟨rfl, hx⟩; exact ⟨_, rfl, hx, rfl⟩
          · refine stepE rfl fun sdn sa sw sE sd sk => ?_
            have h66 : sa.eval (.tmp 66) = .bool (true) := sk.fact 17 66 rfl (sd 17 rfl)
            have h67 : sa.eval (.tmp 67) = .bool (true) := sk.fact 18 67 rfl (sd 18 rfl)
            exact Runs.pick rfl h66 ⟨Ext.refl _, by first | exact h67 | simpa using h67⟩
          · refine stepE rfl fun sdn sa sw sE sd sk => ?_
            have h68 : sa.eval (.tmp 68) = .bool (true) := sk.fact 19 68 rfl (sd 19 rfl)
            exact Runs.assign rfl h68 ⟨Ext.refl _, rfl⟩
          intro vals W2 hE hv
          have e0 : vals 0 = .slice (A) (n) (c) := hv 0 (by omega) 49 rfl
          have e1 : vals 1 = .int .i64 (key) := hv 1 (by omega) 50 rfl
          obtain ⟨A51, n51, c51, e2, r51⟩ := hv 2 (by omega) 51 rfl
          have e3 : vals 3 = .string (str (publicL S key)) := hv 3 (by omega) 52 rfl
          have e4 : vals 4 = .slice (B) (2048) (d) := hv 4 (by omega) 53 rfl
          obtain ⟨A54, n54, c54, e5, r54⟩ := hv 5 (by omega) 54 rfl
          obtain ⟨A55, n55, c55, e6, r55⟩ := hv 6 (by omega) 55 rfl
          have e7 : vals 7 = .string (str (tagged ((12 : UInt8)) ([((List.range 64).map (partP S key)).flatten]).flatten)) := hv 7 (by omega) 56 rfl
          have e8 : vals 8 = .bool (true) := hv 8 (by omega) 57 rfl
          have e9 : vals 9 = .bool (true) := hv 9 (by omega) 58 rfl
          have e10 : vals 10 = .slice (A) (n) (c) := hv 10 (by omega) 59 rfl
          have e11 : vals 11 = .int .i64 (key) := hv 11 (by omega) 60 rfl
          have e12 : vals 12 = .int .i64 (((j : Nat) : Int)) := hv 12 (by omega) 61 rfl
          obtain ⟨A62, c62, e13, r62⟩ := hv 13 (by omega) 62 rfl
          have e14 : vals 14 = .int .i64 ((32 : Nat)) := hv 14 (by omega) 63 rfl
          have e15 : vals 15 = .bool (true) := hv 15 (by omega) 64 rfl
          have e16 : vals 16 = .bool (true) := hv 16 (by omega) 65 rfl
          have e17 : vals 17 = .bool (true) := hv 17 (by omega) 66 rfl
          have e18 : vals 18 = .bool (true) := hv 18 (by omega) 67 rfl
          have e19 : vals 19 = .bool (true) := hv 19 (by omega) 68 rfl
          have e20 : vals 20 = .bool (true) := hv 20 (by omega) 6 rfl
          simp only [putAll, Act.put, List.take_succ_cons, List.take_zero, List.drop_succ_cons, List.drop_zero, List.drop_nil, List.take_nil, Nat.reduceAdd, List.setIfInBounds_toArray, List.set_cons_succ, List.set_cons_zero, e0, e1, e2, e3, e4, e5, e6, e7, e8, e9, e10, e11, e12, e13, e14, e15, e16, e17, e18, e19, e20]
          clear hv e0 e1 e2 e3 e4 e5 e6 e7 e8 e9 e10 e11 e12 e13 e14 e15 e16 e17 e18 e19 e20
          go_wp2_with fail
          go_ret
          exact ⟨rfl, hEr.trans hE⟩
end Go.Proofs.Ytmgnigofilkfmaa
