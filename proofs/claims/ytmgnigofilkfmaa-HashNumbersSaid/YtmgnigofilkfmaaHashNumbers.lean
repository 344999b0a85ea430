/-
  law2.HashNumbers, walked.
-/
import Derived.Test.YtmgnigofilkfmaaKnown2
import Derived.Test.YtmgnigofilkfmaaHashTag
import Derived.Test.YtmgnigofilkfmaaRef2Tag
import Derived.Test.YtmgnigofilkfmaaParts
namespace Go.Proofs.Ytmgnigofilkfmaa
set_option maxRecDepth 100000
open Go Go.RowKit
theorem u8i_ofNat (m : Nat) : u8i (UInt8.ofNat m) = (m : Int) % 256 := by
  unfold u8i
  rw [UInt8.toNat_ofNat']
  omega
theorem conv_i64_u8 {P : Program} {w : World} {s t : TypeId} (hs : P.underlying s = some (.int .i64)) (ht : P.underlying t = some (.int .u8)) (x : Nat) : (convert s t (.int .i64 (x : Int))).run P w = .ok (.int .u8 (u8i (UInt8.ofNat x))) w := by
  have e : IntKind.u8.wrap (x : Int) = u8i (UInt8.ofNat x) := by rw [IntKind.wrap_u8, u8i_ofNat]
  simp [convert, run_underlying hs, run_underlying ht, Conv.intToInt, e]
set_option maxHeartbeats 4000000 in
theorem numbers2_law (w : World) : Calls Try.prog 5 #[] w fun e w' => e = .returned (.bool true) ∧ Ext w w' := by
  go_enter Try.func5, Try.ntmps5
  go_wp2_with fail
  go_loopw [1] (fun i wr => ∃ k : Nat, k ≤ 200 ∧ i = .int .i64 k ∧ Ext w wr) (fun i _ => 200 - (intOf i).toNat)
  case atStart => exact ⟨0, by omega, rfl, Ext.refl _⟩
  case round =>
    obtain ⟨k, hk, rfl, hEr⟩ := hrel
    by_cases hlt : k < 200
    · go_wp2_with (refine make_law (k := k) rfl rfl rfl rfl (by omega) ?_; intro w2 own2 hE2)
      obtain ⟨g, hg⟩ : ∃ g, g = wr.heap.size := ⟨_, rfl⟩
      obtain ⟨X0, hX0⟩ : ∃ X0, X0 = List.replicate k (0 : UInt8) := ⟨_, rfl⟩
      rw [← hg, ← hX0] at own2
      rw [← hg]
      have own3 := own2.base (Nat.le_of_eq hg.symm)
      have hg2 : wr.heap.size ≤ g := Nat.le_of_eq hg.symm
      clear hg own2 hX0
      go_loopw [3] (fun i wq => ∃ (j : Nat) (X : List UInt8), j ≤ k ∧ i = .int .i64 j ∧ OB wq wr.heap.size (some ⟨g, 0, none⟩) k k X ∧ Ext wr wq) (fun i _ => k - (intOf i).toNat)
      case atStart => exact ⟨0, X0, by omega, rfl, own3, hE2⟩
      case round =>
        clear own3 hE2
        obtain ⟨j, X, hj, rfl, own, hEq⟩ := hrel
        by_cases hlj : j < k
        · have y2 := own.frozen j
          have y1 := own.cell hlj
          have hjk : j * k < 40000 := Nat.lt_of_lt_of_le (Nat.mul_lt_mul'' hlj hlt) (by omega)
          have h2 := own.set j (UInt8.ofNat (j * k))
          rw [u8i_ofNat] at h2
          have e1 : ((j * k : Nat) : Int) = (j : Int) * (k : Int) := Int.natCast_mul j k
          rw [e1] at h2
          have hjk2 : (j : Int) * (k : Int) < 40000 := by omega
          have hjk0 : 0 ≤ (j : Int) * (k : Int) := by omega
          have H2 := Lib.hid h2
          clear h2 e1 hjk
          go_wp2_with fail
          go_roundw
          case rel => exact ⟨j + 1, _, by omega, by go_num, H2.out.1, hEq.then_grown H2.out.2 (by intro i hi; cases hi; exact hg2)⟩
          case measure => simp [intOf]; omega
        · obtain rfl : j = k := by omega
          have rx := own.rb
          have hX := rx.len
          go_upto_region 9 with (fail)
          refine par_ext (n := 24) (by kernel_rfl) [.is (.slice (some ⟨g, 0, none⟩) (j) (j)), .rb (sha (X)), .is (.string (str (sha (X)))), .is (.slice (some ⟨g, 0, none⟩) (j) (j)), .rb (sha (X)), .is (.string (str (sha (X)))), .is (.bool (false)), .is (.bool (false)), .is (.int .i64 (((j : Nat) : Int))), .is (.int .u8 (u8i (UInt8.ofNat j))), .is (.slice (some ⟨g, 0, none⟩) (j) (j)), .is (.slice (some ⟨g, 0, none⟩) (j) (j)), .rbb ([X, [], X]), .rb (tagged ((UInt8.ofNat j)) ([X, [], X]).flatten), .is (.string (str (tagged ((UInt8.ofNat j)) ([X, [], X]).flatten))), .is (.int .i64 (((j : Nat) : Int))), .is (.int .u8 (u8i (UInt8.ofNat j))), .is (.slice (some ⟨g, 0, none⟩) (j) (j)), .is (.slice (some ⟨g, 0, none⟩) (j) (j)), .rbb ([X, X]), .rb (tagged ((UInt8.ofNat j)) ([X, X]).flatten), .is (.string (str (tagged ((UInt8.ofNat j)) ([X, X]).flatten))), .is (.bool (false)), .is (.bool (false))] rfl ⟨?_, ?_, ?_, ?_, ?_, ?_, ?_, ?_, ?_, ?_, ?_, ?_, ?_, ?_, ?_, ?_, ?_, ?_, ?_, ?_, ?_, ?_, ?_, ?_, trivial⟩ ?_
          · refine stepE rfl fun sdn sa sw sE sd sk => ?_
            have h2 : sa.eval (.tmp 2) = .slice (some ⟨g, 0, none⟩) (j) (j) := sk.old 2 rfl
            exact Runs.move rfl h2 ⟨Ext.refl _, rfl⟩
          · refine stepE rfl fun sdn sa sw sE sd sk => ?_
            have h22 : sa.eval (.tmp 22) = .slice (some ⟨g, 0, none⟩) (j) (j) := sk.fact 0 22 rfl (sd 0 rfl)
            refine Runs.call (f := 16) (vs := [.slice (some ⟨g, 0, none⟩) (j) (j)]) rfl rfl rfl (by simp only [List.map_toArray, List.map_cons, List.map_nil, h22] <;> rfl) (ent16 _ _) ((hsum_any (some ⟨g, 0, none⟩) j j _ sw (rx.ext sE) (by omega)).mono ?_); rintro e w' ⟨A', c', rfl, own, hx⟩; exact ⟨_, rfl, hx, A', 32, c', rfl, own.rb⟩
          · refine stepE rfl fun sdn sa sw sE sd sk => ?_
            obtain ⟨A23, n23, c23, h23, r23⟩ := sk.fact 1 23 rfl (sd 1 rfl)
            exact Runs.conv rfl h23 (run_str r23) ⟨Ext.refl _, rfl⟩
          · refine stepE rfl fun sdn sa sw sE sd sk => ?_
            have h2 : sa.eval (.tmp 2) = .slice (some ⟨g, 0, none⟩) (j) (j) := sk.old 2 rfl
            exact Runs.move rfl h2 ⟨Ext.refl _, rfl⟩
          · refine stepE rfl fun sdn sa sw sE sd sk => ?_
            have h25 : sa.eval (.tmp 25) = .slice (some ⟨g, 0, none⟩) (j) (j) := sk.fact 3 25 rfl (sd 3 rfl)
            refine Runs.call (f := 20) (vs := [.slice (some ⟨g, 0, none⟩) (j) (j)]) rfl rfl rfl (by simp only [List.map_toArray, List.map_cons, List.map_nil, h25] <;> rfl) (ent20 _ _) ((sum_any (some ⟨g, 0, none⟩) j j _ sw (rx.ext sE) (by omega)).mono ?_); rintro e w' ⟨A', c', rfl, own, hx⟩; exact ⟨_, rfl, hx, A', 32, c', rfl, own.rb⟩
          · refine stepE rfl fun sdn sa sw sE sd sk => ?_
            obtain ⟨A26, n26, c26, h26, r26⟩ := sk.fact 4 26 rfl (sd 4 rfl)
            exact Runs.conv rfl h26 (run_str r26) ⟨Ext.refl _, rfl⟩
          · refine stepE rfl fun sdn sa sw sE sd sk => ?_
            have h24 : sa.eval (.tmp 24) = .string (str (sha (X))) := sk.fact 2 24 rfl (sd 2 rfl)
            have h27 : sa.eval (.tmp 27) = .string (str (sha (X))) := sk.fact 5 27 rfl (sd 5 rfl)
            exact Runs.bin rfl h24 h27 (by rfl) (bin_nes _ _ _) ⟨Ext.refl _, congrArg Value.bool (by simp)⟩
          · refine stepE rfl fun sdn sa sw sE sd sk => ?_
            have h28 : sa.eval (.tmp 28) = .bool (false) := sk.fact 6 28 rfl (sd 6 rfl)
            exact Runs.move rfl h28 ⟨Ext.refl _, rfl⟩
          · refine stepY (j := 7) (d := 29) (b := false) rfl rfl rfl (fun v w h => h) fun sdn sa sw sE sd sk => ?_
            have h1 : sa.eval (.tmp 1) = .int .i64 (((j : Nat) : Int)) := sk.old 1 rfl
            exact Runs.move rfl h1 ⟨Ext.refl _, rfl⟩
          · refine stepY (j := 7) (d := 29) (b := false) rfl rfl rfl (fun v w h => h) fun sdn sa sw sE sd sk => ?_
            have h30 : sa.eval (.tmp 30) = .int .i64 (((j : Nat) : Int)) := sk.fact 8 30 rfl (sd 8 rfl)
            exact Runs.conv rfl h30 (conv_i64_u8 Try.underlying3 Try.underlying5 j) ⟨Ext.refl _, rfl⟩
          · refine stepY (j := 7) (d := 29) (b := false) rfl rfl rfl (fun v w h => h) fun sdn sa sw sE sd sk => ?_
            have h2 : sa.eval (.tmp 2) = .slice (some ⟨g, 0, none⟩) (j) (j) := sk.old 2 rfl
            exact Runs.move rfl h2 ⟨Ext.refl _, rfl⟩
          · refine stepY (j := 7) (d := 29) (b := false) rfl rfl rfl (fun v w h => h) fun sdn sa sw sE sd sk => ?_
            have h2 : sa.eval (.tmp 2) = .slice (some ⟨g, 0, none⟩) (j) (j) := sk.old 2 rfl
            exact Runs.move rfl h2 ⟨Ext.refl _, rfl⟩
          · refine stepY (j := 7) (d := 29) (b := false) rfl rfl rfl (fun v w h => h) fun sdn sa sw sE sd sk => ?_
            have h32 : sa.eval (.tmp 32) = .slice (some ⟨g, 0, none⟩) (j) (j) := sk.fact 10 32 rfl (sd 10 rfl)
            have h33 : sa.eval (.tmp 33) = .slice (some ⟨g, 0, none⟩) (j) (j) := sk.fact 11 33 rfl (sd 11 rfl)
            exact Runs.ss3 rfl h32 rfl h33 (rx.ext sE) (RB.nil_ _) (rx.ext sE) (fun w1 e1 b1 => ⟨e1, _, _, _, rfl, b1⟩)
          · refine stepY (j := 7) (d := 29) (b := false) rfl rfl rfl (fun v w h => h) fun sdn sa sw sE sd sk => ?_
            have h31 : sa.eval (.tmp 31) = .int .u8 (u8i (UInt8.ofNat j)) := sk.fact 9 31 rfl (sd 9 rfl)
            obtain ⟨A34, n34, c34, h34, r34⟩ := sk.fact 12 34 rfl (sd 12 rfl)
            refine Runs.call (f := 21) (vs := [.int .u8 (u8i (UInt8.ofNat j)), .slice (A34) (n34) (c34)]) rfl rfl rfl (by simp only [List.map_toArray, List.map_cons, List.map_nil, h31, h34] <;> rfl) (ent21 _ _) ((htagged_any ((UInt8.ofNat j)) A34 n34 c34 ([X, [], X]) sw (r34) (by simp only [List.flatten_cons, List.flatten_nil, List.length_append, List.length_nil, hX]; omega)).mono ?_); rintro e w' ⟨A', c', rfl, own, hx⟩; exact ⟨_, rfl, hx, A', 32, c', rfl, own.rb⟩
          · refine stepY (j := 7) (d := 29) (b := false) rfl rfl rfl (fun v w h => h) fun sdn sa sw sE sd sk => ?_
            obtain ⟨A35, n35, c35, h35, r35⟩ := sk.fact 13 35 rfl (sd 13 rfl)
            exact Runs.conv rfl h35 (run_str r35) ⟨Ext.refl _, rfl⟩
          · refine stepY (j := 7) (d := 29) (b := false) rfl rfl rfl (fun v w h => h) fun sdn sa sw sE sd sk => ?_
            have h1 : sa.eval (.tmp 1) = .int .i64 (((j : Nat) : Int)) := sk.old 1 rfl
            exact Runs.move rfl h1 ⟨Ext.refl _, rfl⟩
          · refine stepY (j := 7) (d := 29) (b := false) rfl rfl rfl (fun v w h => h) fun sdn sa sw sE sd sk => ?_
            have h37 : sa.eval (.tmp 37) = .int .i64 (((j : Nat) : Int)) := sk.fact 15 37 rfl (sd 15 rfl)
            exact Runs.conv rfl h37 (conv_i64_u8 Try.underlying3 Try.underlying5 j) ⟨Ext.refl _, rfl⟩
          · refine stepY (j := 7) (d := 29) (b := false) rfl rfl rfl (fun v w h => h) fun sdn sa sw sE sd sk => ?_
            have h2 : sa.eval (.tmp 2) = .slice (some ⟨g, 0, none⟩) (j) (j) := sk.old 2 rfl
            exact Runs.move rfl h2 ⟨Ext.refl _, rfl⟩
          · refine stepY (j := 7) (d := 29) (b := false) rfl rfl rfl (fun v w h => h) fun sdn sa sw sE sd sk => ?_
            have h2 : sa.eval (.tmp 2) = .slice (some ⟨g, 0, none⟩) (j) (j) := sk.old 2 rfl
            exact Runs.move rfl h2 ⟨Ext.refl _, rfl⟩
          · refine stepY (j := 7) (d := 29) (b := false) rfl rfl rfl (fun v w h => h) fun sdn sa sw sE sd sk => ?_
            have h39 : sa.eval (.tmp 39) = .slice (some ⟨g, 0, none⟩) (j) (j) := sk.fact 17 39 rfl (sd 17 rfl)
            have h40 : sa.eval (.tmp 40) = .slice (some ⟨g, 0, none⟩) (j) (j) := sk.fact 18 40 rfl (sd 18 rfl)
            exact Runs.ss2 rfl h39 h40 (rx.ext sE) (rx.ext sE) (fun w1 e1 b1 => ⟨e1, _, _, _, rfl, b1⟩)
          · refine stepY (j := 7) (d := 29) (b := false) rfl rfl rfl (fun v w h => h) fun sdn sa sw sE sd sk => ?_
            have h38 : sa.eval (.tmp 38) = .int .u8 (u8i (UInt8.ofNat j)) := sk.fact 16 38 rfl (sd 16 rfl)
            obtain ⟨A41, n41, c41, h41, r41⟩ := sk.fact 19 41 rfl (sd 19 rfl)
            refine Runs.call (f := 22) (vs := [.int .u8 (u8i (UInt8.ofNat j)), .slice (A41) (n41) (c41)]) rfl rfl rfl (by simp only [List.map_toArray, List.map_cons, List.map_nil, h38, h41] <;> rfl) (ent22 _ _) ((rtagged_any ((UInt8.ofNat j)) A41 n41 c41 ([X, X]) sw (r41) (by simp only [List.flatten_cons, List.flatten_nil, List.length_append, List.length_nil, hX]; omega)).mono ?_); rintro e w' ⟨A', c', rfl, own, hx⟩; exact ⟨_, rfl, hx, A', 32, c', rfl, own.rb⟩
          · refine stepY (j := 7) (d := 29) (b := false) rfl rfl rfl (fun v w h => h) fun sdn sa sw sE sd sk => ?_
            obtain ⟨A42, n42, c42, h42, r42⟩ := sk.fact 20 42 rfl (sd 20 rfl)
            exact Runs.conv rfl h42 (run_str r42) ⟨Ext.refl _, rfl⟩
          · refine stepY (j := 7) (d := 29) (b := false) rfl rfl rfl (fun v w h => h) fun sdn sa sw sE sd sk => ?_
            have h36 : sa.eval (.tmp 36) = .string (str (tagged ((UInt8.ofNat j)) ([X, [], X]).flatten)) := sk.fact 14 36 rfl (sd 14 rfl)
            have h43 : sa.eval (.tmp 43) = .string (str (tagged ((UInt8.ofNat j)) ([X, X]).flatten)) := sk.fact 21 43 rfl (sd 21 rfl)
            exact Runs.bin rfl h36 h43 (by rfl) (bin_nes _ _ _) ⟨Ext.refl _, congrArg Value.bool (by simp)⟩
          · refine stepE rfl fun sdn sa sw sE sd sk => ?_
            have h29 : sa.eval (.tmp 29) = .bool (false) := sk.fact 7 29 rfl (sd 7 rfl)
            have h44 : sa.eval (.tmp 44) = .bool (false) := sk.fact 22 44 rfl (sd 22 rfl)
            exact Runs.pick rfl h29 ⟨Ext.refl _, by first | exact h44 | simpa using h44⟩
          intro vals W1 hE hv
          have e0 : vals 0 = .slice (some ⟨g, 0, none⟩) (j) (j) := hv 0 (by omega) 22 rfl
          obtain ⟨A23, n23, c23, e1, r23⟩ := hv 1 (by omega) 23 rfl
          have e2 : vals 2 = .string (str (sha (X))) := hv 2 (by omega) 24 rfl
          have e3 : vals 3 = .slice (some ⟨g, 0, none⟩) (j) (j) := hv 3 (by omega) 25 rfl
          obtain ⟨A26, n26, c26, e4, r26⟩ := hv 4 (by omega) 26 rfl
          have e5 : vals 5 = .string (str (sha (X))) := hv 5 (by omega) 27 rfl
          have e6 : vals 6 = .bool (false) := hv 6 (by omega) 28 rfl
          have e7 : vals 7 = .bool (false) := hv 7 (by omega) 29 rfl
          have e8 : vals 8 = .int .i64 (((j : Nat) : Int)) := hv 8 (by omega) 30 rfl
          have e9 : vals 9 = .int .u8 (u8i (UInt8.ofNat j)) := hv 9 (by omega) 31 rfl
          have e10 : vals 10 = .slice (some ⟨g, 0, none⟩) (j) (j) := hv 10 (by omega) 32 rfl
          have e11 : vals 11 = .slice (some ⟨g, 0, none⟩) (j) (j) := hv 11 (by omega) 33 rfl
          obtain ⟨A34, n34, c34, e12, r34⟩ := hv 12 (by omega) 34 rfl
          obtain ⟨A35, n35, c35, e13, r35⟩ := hv 13 (by omega) 35 rfl
          have e14 : vals 14 = .string (str (tagged ((UInt8.ofNat j)) ([X, [], X]).flatten)) := hv 14 (by omega) 36 rfl
          have e15 : vals 15 = .int .i64 (((j : Nat) : Int)) := hv 15 (by omega) 37 rfl
          have e16 : vals 16 = .int .u8 (u8i (UInt8.ofNat j)) := hv 16 (by omega) 38 rfl
          have e17 : vals 17 = .slice (some ⟨g, 0, none⟩) (j) (j) := hv 17 (by omega) 39 rfl
          have e18 : vals 18 = .slice (some ⟨g, 0, none⟩) (j) (j) := hv 18 (by omega) 40 rfl
          obtain ⟨A41, n41, c41, e19, r41⟩ := hv 19 (by omega) 41 rfl
          obtain ⟨A42, n42, c42, e20, r42⟩ := hv 20 (by omega) 42 rfl
          have e21 : vals 21 = .string (str (tagged ((UInt8.ofNat j)) ([X, X]).flatten)) := hv 21 (by omega) 43 rfl
          have e22 : vals 22 = .bool (false) := hv 22 (by omega) 44 rfl
          have e23 : vals 23 = .bool (false) := hv 23 (by omega) 45 rfl
          simp only [putAll, Act.put, List.take_succ_cons, List.take_zero, List.drop_succ_cons, List.drop_zero, List.drop_nil, List.take_nil, Nat.reduceAdd, List.setIfInBounds_toArray, List.set_cons_succ, List.set_cons_zero, e0, e1, e2, e3, e4, e5, e6, e7, e8, e9, e10, e11, e12, e13, e14, e15, e16, e17, e18, e19, e20, e21, e22, e23]
          clear hv e0 e1 e2 e3 e4 e5 e6 e7 e8 e9 e10 e11 e12 e13 e14 e15 e16 e17 e18 e19 e20 e21 e22 e23
          go_wp2_with fail
          go_roundw
          case rel => exact ⟨j + 1, by omega, by go_num, hEr.trans (hEq.trans hE)⟩
          case measure => simp [intOf]; omega
    · obtain rfl : k = 200 := by omega
      go_wp2_with fail
      refine (htagged_any 0 none 0 0 [] wr (RBB.nil_ _) (by simp)).mono ?_
      rintro e w3 ⟨A3, c3, rfl, own3, hE3⟩
      have r3 := own3.rb
      go_wp2_with fail
      refine (hhex_any A3 32 c3 _ w3 r3 (by omega)).mono ?_
      rintro e w4 ⟨rfl, hE4⟩
      obtain ⟨D, hD⟩ : ∃ D, D = str (hexOf (sha [0])) := ⟨_, rfl⟩
      rw [show tagged 0 ([] : List (List UInt8)).flatten = sha [0] from rfl, ← hD]
      have HD := Lib.hid hD
      clear hD
      have r4 := RB.lit w4 [0] (n := 1) rfl (small_maxLen (by decide))
      have hE5 := Ext.new w4 (.cells (bv [0]).toArray 5)
      go_wp2_with fail
      refine (sum_any _ 1 1 [0] _ r4 (by omega)).mono ?_
      rintro e w6 ⟨A6, c6, rfl, own6, hE6⟩
      have r6 := own6.rb
      go_wp2_with fail
      refine (lhex_any A6 32 c6 _ w6 r6 (by omega)).mono ?_
      rintro e w7 ⟨rfl, hE7⟩
      rw [← HD.out]
      go_wp2_with fail
      refine (known2_any w7).mono ?_
      rintro e w8 ⟨rfl, hE8⟩
      go_wp2_with fail
      go_ret
      exact ⟨rfl, hEr.trans (hE3.trans (hE4.trans (hE5.trans (hE6.trans (hE7.trans hE8)))))⟩
end Go.Proofs.Ytmgnigofilkfmaa
