/-
  keep.Lists of two like lists; law4.OnceTells, walked.
-/
import Derived.Test.YtmgnigofilkfmaaOBack
import Derived.Test.YtmgnigofilkfmaaRef4
import Derived.Test.YtmgnigofilkfmaaBook
namespace Go.Proofs.Ytmgnigofilkfmaa
set_option maxRecDepth 100000
open Go Go.RowKit
set_option maxHeartbeats 2000000 in
theorem lists_same (A B : Option Addr) (n c m d : Nat) (Ls : List (List UInt8)) (w : World) (hr : RBB w A n c Ls) (hs : RBB w B m d Ls) :
    Calls Try.prog 32 #[.slice A n c, .slice B m d] w fun e w' => e = .returned (.bool true) ∧ Ext w w' := by
  obtain rfl : n = m := hr.len.symm.trans hs.len
  have hcap := hr.cap
  have hroom := hr.room
  have hroom2 := hs.room
  have hcap2 := hs.cap
  unfold maxLen at hcap hcap2
  go_enter Try.func32, Try.ntmps32
  go_wp2_with fail
  go_loopw [5] (fun i wr => ∃ p : Nat, p ≤ n ∧ i = .int .i64 p ∧ Ext w wr) (fun i _ => n - (intOf i).toNat)
  case atStart => exact ⟨0, by omega, rfl, Ext.refl _⟩
  case round =>
    obtain ⟨p, hp, rfl, hEr⟩ := hrel
    by_cases hlt : p < n
    · obtain ⟨aP, rfl, cP⟩ := hr.cells (by omega)
      obtain ⟨aR, rfl, cR⟩ := hs.cells (by omega)
      obtain ⟨E1, z1, y1, hc1', hr1'⟩ := cP p hlt
      obtain ⟨E2, z2, y2, hc2', hr2'⟩ := cR p hlt
      have hc1 := hEr.cell hc1'
      have hc2 := hEr.cell hc2'
      have hr1 := hr1'.ext hEr
      have hr2 := hr2'.ext hEr
      clear hc1' hc2' hr1' hr2' cP cR
      go_upto_region 6 with (fail)
      refine par_ext (n := 11) (by kernel_rfl) [.is (.slice (some aP) (n) (c)), .is (.int .i64 (((p : Nat) : Int))), .is (.pointer (some (aP.add (p)))), .is (.slice (E1) (z1) (y1)), .is (.string (str (lb Ls p))), .is (.slice (some aR) (n) (d)), .is (.int .i64 (((p : Nat) : Int))), .is (.pointer (some (aR.add (p)))), .is (.slice (E2) (z2) (y2)), .is (.string (str (lb Ls p))), .is (.bool (false))] rfl ⟨?_, ?_, ?_, ?_, ?_, ?_, ?_, ?_, ?_, ?_, ?_, trivial⟩ ?_
      · refine stepE rfl fun sdn sa sw sE sd sk => ?_
        have h0 : sa.eval (.tmp 0) = .slice (some aP) (n) (c) := sk.old 0 rfl
        exact Runs.move rfl h0 ⟨Ext.refl _, rfl⟩
      · refine stepE rfl fun sdn sa sw sE sd sk => ?_
        have h5 : sa.eval (.tmp 5) = .int .i64 (((p : Nat) : Int)) := sk.old 5 rfl
        exact Runs.move rfl h5 ⟨Ext.refl _, rfl⟩
      · refine stepE rfl fun sdn sa sw sE sd sk => ?_
        have h17 : sa.eval (.tmp 17) = .slice (some aP) (n) (c) := sk.fact 0 17 rfl (sd 0 rfl)
        have h18 : sa.eval (.tmp 18) = .int .i64 (((p : Nat) : Int)) := sk.fact 1 18 rfl (sd 1 rfl)
        exact Runs.idx rfl h17 h18 (run_idx_sl1 Try.underlying32 infSS_eq infSS_size (p) (by omega) (by omega)) ⟨Ext.refl _, rfl⟩
      · refine stepE rfl fun sdn sa sw sE sd sk => ?_
        have h19 : sa.eval (.tmp 19) = .pointer (some (aP.add (p))) := sk.fact 2 19 rfl (sd 2 rfl)
        exact Runs.load rfl h19 (run_load1 Try.underlying22 rfl (sE.cell hc1)) ⟨Ext.refl _, rfl⟩
      · refine stepE rfl fun sdn sa sw sE sd sk => ?_
        have h20 : sa.eval (.tmp 20) = .slice (E1) (z1) (y1) := sk.fact 3 20 rfl (sd 3 rfl)
        exact Runs.conv rfl h20 (run_str (hr1.ext sE)) ⟨Ext.refl _, rfl⟩
      · refine stepE rfl fun sdn sa sw sE sd sk => ?_
        have h1 : sa.eval (.tmp 1) = .slice (some aR) (n) (d) := sk.old 1 rfl
        exact Runs.move rfl h1 ⟨Ext.refl _, rfl⟩
      · refine stepE rfl fun sdn sa sw sE sd sk => ?_
        have h5 : sa.eval (.tmp 5) = .int .i64 (((p : Nat) : Int)) := sk.old 5 rfl
        exact Runs.move rfl h5 ⟨Ext.refl _, rfl⟩
      · refine stepE rfl fun sdn sa sw sE sd sk => ?_
        have h22 : sa.eval (.tmp 22) = .slice (some aR) (n) (d) := sk.fact 5 22 rfl (sd 5 rfl)
        have h23 : sa.eval (.tmp 23) = .int .i64 (((p : Nat) : Int)) := sk.fact 6 23 rfl (sd 6 rfl)
        exact Runs.idx rfl h22 h23 (run_idx_sl1 Try.underlying32 infSS_eq infSS_size (p) (by omega) (by omega)) ⟨Ext.refl _, rfl⟩
      · refine stepE rfl fun sdn sa sw sE sd sk => ?_
        have h24 : sa.eval (.tmp 24) = .pointer (some (aR.add (p))) := sk.fact 7 24 rfl (sd 7 rfl)
        exact Runs.load rfl h24 (run_load1 Try.underlying22 rfl (sE.cell hc2)) ⟨Ext.refl _, rfl⟩
      · refine stepE rfl fun sdn sa sw sE sd sk => ?_
        have h25 : sa.eval (.tmp 25) = .slice (E2) (z2) (y2) := sk.fact 8 25 rfl (sd 8 rfl)
        exact Runs.conv rfl h25 (run_str (hr2.ext sE)) ⟨Ext.refl _, rfl⟩
      · refine stepE rfl fun sdn sa sw sE sd sk => ?_
        have h21 : sa.eval (.tmp 21) = .string (str (lb Ls p)) := sk.fact 4 21 rfl (sd 4 rfl)
        have h26 : sa.eval (.tmp 26) = .string (str (lb Ls p)) := sk.fact 9 26 rfl (sd 9 rfl)
        exact Runs.bin rfl h21 h26 (by rfl) (bin_nes _ _ _) ⟨Ext.refl _, congrArg Value.bool (by simp)⟩
      intro vals W1 hE hv
      have e0 : vals 0 = .slice (some aP) (n) (c) := hv 0 (by omega) 17 rfl
      have e1 : vals 1 = .int .i64 (((p : Nat) : Int)) := hv 1 (by omega) 18 rfl
      have e2 : vals 2 = .pointer (some (aP.add (p))) := hv 2 (by omega) 19 rfl
      have e3 : vals 3 = .slice (E1) (z1) (y1) := hv 3 (by omega) 20 rfl
      have e4 : vals 4 = .string (str (lb Ls p)) := hv 4 (by omega) 21 rfl
      have e5 : vals 5 = .slice (some aR) (n) (d) := hv 5 (by omega) 22 rfl
      have e6 : vals 6 = .int .i64 (((p : Nat) : Int)) := hv 6 (by omega) 23 rfl
      have e7 : vals 7 = .pointer (some (aR.add (p))) := hv 7 (by omega) 24 rfl
      have e8 : vals 8 = .slice (E2) (z2) (y2) := hv 8 (by omega) 25 rfl
      have e9 : vals 9 = .string (str (lb Ls p)) := hv 9 (by omega) 26 rfl
      have e10 : vals 10 = .bool (false) := hv 10 (by omega) 27 rfl
      simp only [putAll, Act.put, List.take_succ_cons, List.take_zero, List.drop_succ_cons, List.drop_zero, List.drop_nil, List.take_nil, Nat.reduceAdd, List.setIfInBounds_toArray, List.set_cons_succ, List.set_cons_zero, e0, e1, e2, e3, e4, e5, e6, e7, e8, e9, e10]
      clear hv e0 e1 e2 e3 e4 e5 e6 e7 e8 e9 e10
      go_wp2_with fail
      go_roundw
      case rel => exact ⟨p + 1, by omega, by go_num, hEr.trans hE⟩
      case measure => simp [intOf]; omega
    · obtain rfl : p = n := by omega
      go_wp2_with fail
      go_ret
      exact ⟨rfl, hEr⟩
set_option maxHeartbeats 4000000 in
theorem otells_law (A B : Option Addr) (n c m e' : Nat) (L Q : List UInt8) (key bit side : Int) (w : World) (hr : RB w A n c L) (hq : RB w B m e' Q) :
    Calls Try.prog 9 #[.slice A n c, .int .i64 key, .int .i64 bit, .int .i64 side, .slice B m e'] w fun e w' => e = .returned (.bool true) ∧ Ext w w' := by
  go_enter Try.func9, Try.ntmps9
  have hc1 := cut_any A n c 50 L w hr (by omega)
  have hc2 := cut_any B m e' 200 Q w hq (by omega)
  have e50 : ((50 : Nat) : Int) = 50 := rfl
  have e200 : ((200 : Nat) : Int) = 200 := rfl
  rw [e50] at hc1
  rw [e200] at hc2
  go_wp2_with fail
  refine hc1.mono ?_
  rintro e w1 ⟨⟨rfl, rS⟩, rfl⟩
  go_wp2_with fail
  refine hc2.mono ?_
  rintro e w1 ⟨⟨rfl, rM⟩, rfl⟩
  clear hc1 hc2 e50 e200 hr hq
  have hn1 : min n 50 ≤ 50 := by omega
  have hm1 : min m 200 ≤ 200 := by omega
  generalize min n 50 = n at *
  generalize L.take 50 = S at *
  generalize min m 200 = m at *
  generalize Q.take 200 = M at *
  have hM := rM.len
  have HM := Lib.hid hM
  clear hM
  have hro := roomy_any B m e' M 165 w rM (by omega)
  have e165 : u8i 165 = 165 := rfl
  rw [e165] at hro
  go_wp2_with fail
  refine hro.mono ?_
  rintro e w2 ⟨g, rfl, own, hE2⟩
  have rfull2 := own.rb
  have rS2 := rS.ext hE2
  have rcut := rfull2.take (k := m) (by omega)
  rw [List.take_left' HM.out] at rcut
  clear hro own
  have hsg := sign_any A _ n c m (m + 80) S M key w2 rS2 (by omega) rcut (by omega)
  have Hsg := Lib.hid hsg
  clear hsg
  go_wp2_with fail
  refine Hsg.out.mono ?_
  rintro e w3 ⟨P, d, rfl, own, hE3⟩
  clear Hsg
  have rl := own.rbb
  have rfull := rfull2.ext hE3
  have rM := (rM.ext hE2).ext hE3
  have rS := rS2.ext hE3
  have hE23 := hE2.trans hE3
  clear own rcut rS2 rfull2 hE2 hE3
  go_upto_region 4 with (fail)
  refine par_ext (n := 63) (by kernel_rfl) [.is (.slice (B) (m) (e')), .is (.int .u32 (u32i (digestW M))), .is (.slice (B) (m) (e')), .is (.int .u32 (u32i (digestW M))), .is (.bool (true)), .is (.bool (true)), .is (.slice (A) (n) (c)), .is (.int .i64 (key)), .is (.int .i64 (bit)), .is (.int .i64 (side)), .rb (secretL S (key) (bit) (side)), .is (.string (str (secretL S (key) (bit) (side)))), .is (.slice (A) (n) (c)), .is (.int .i64 (key)), .is (.int .i64 (bit)), .is (.int .i64 (side)), .rb (secretL S (key) (bit) (side)), .is (.string (str (secretL S (key) (bit) (side)))), .is (.bool (true)), .is (.bool (true)), .is (.bool (true)), .is (.slice (A) (n) (c)), .is (.int .i64 (key)), .is (.int .i64 (bit)), .is (.int .i64 (side)), .rb (shownL S (key) (bit) (side)), .is (.string (str (shownL S (key) (bit) (side)))), .is (.slice (A) (n) (c)), .is (.int .i64 (key)), .is (.int .i64 (bit)), .is (.int .i64 (side)), .rb (shownL S (key) (bit) (side)), .is (.string (str (shownL S (key) (bit) (side)))), .is (.bool (true)), .is (.bool (true)), .is (.bool (true)), .is (.slice (A) (n) (c)), .is (.int .i64 (key)), .rb (publicL S key), .is (.string (str (publicL S key))), .is (.slice (A) (n) (c)), .is (.int .i64 (key)), .rb (publicL S key), .is (.string (str (publicL S key))), .is (.bool (true)), .is (.bool (true)), .is (.bool (true)), .is (.slice (P) (64) (d)), .is (.slice (A) (n) (c)), .is (.int .i64 (key)), .is (.slice (B) (m) (e')), .rbb ((List.range 64).map (partS (digestW M) S key)), .is (.bool (true)), .is (.bool (true)), .is (.bool (true)), .is (.slice (some ⟨g, 0, none⟩) (m + 80) (m + 80)), .is (.slice (B) (m) (e')), .is (.bool (true)), .is (.bool (true)), .is (.bool (true)), .is (.bool (true)), .is (.bool (true)), .is (.bool (true))] rfl ⟨?_, ?_, ?_, ?_, ?_, ?_, ?_, ?_, ?_, ?_, ?_, ?_, ?_, ?_, ?_, ?_, ?_, ?_, ?_, ?_, ?_, ?_, ?_, ?_, ?_, ?_, ?_, ?_, ?_, ?_, ?_, ?_, ?_, ?_, ?_, ?_, ?_, ?_, ?_, ?_, ?_, ?_, ?_, ?_, ?_, ?_, ?_, ?_, ?_, ?_, ?_, ?_, ?_, ?_, ?_, ?_, ?_, ?_, ?_, ?_, ?_, ?_, ?_, trivial⟩ ?_
  · refine stepE rfl fun sdn sa sw sE sd sk => ?_
    have h4 : sa.eval (.tmp 4) = .slice (B) (m) (e') := sk.old 4 rfl
    exact Runs.move rfl h4 ⟨Ext.refl _, rfl⟩
  · refine stepE rfl fun sdn sa sw sE sd sk => ?_
    have h26 : sa.eval (.tmp 26) = .slice (B) (m) (e') := sk.fact 0 26 rfl (sd 0 rfl)
    refine Runs.call (f := 30) (vs := [.slice (B) (m) (e')]) rfl rfl rfl (by simp only [List.map_toArray, List.map_cons, List.map_nil, h26] <;> rfl) (ent30 _ _) ((digest_any _ _ _ _ sw (rM.ext sE) (by omega)).mono ?_); rintro e w' ⟨rfl, hx⟩; exact ⟨_, rfl, hx, rfl⟩
  · refine stepE rfl fun sdn sa sw sE sd sk => ?_
    have h4 : sa.eval (.tmp 4) = .slice (B) (m) (e') := sk.old 4 rfl
    exact Runs.move rfl h4 ⟨Ext.refl _, rfl⟩
  · refine stepE rfl fun sdn sa sw sE sd sk => ?_
    have h28 : sa.eval (.tmp 28) = .slice (B) (m) (e') := sk.fact 2 28 rfl (sd 2 rfl)
    refine Runs.call (f := 31) (vs := [.slice (B) (m) (e')]) rfl rfl rfl (by simp only [List.map_toArray, List.map_cons, List.map_nil, h28] <;> rfl) (ent31 _ _) ((r4digest_any _ _ _ _ sw (rM.ext sE) (by omega)).mono ?_); rintro e w' ⟨rfl, hx⟩; exact ⟨_, rfl, hx, rfl⟩
  · refine stepE rfl fun sdn sa sw sE sd sk => ?_
    have h27 : sa.eval (.tmp 27) = .int .u32 (u32i (digestW M)) := sk.fact 1 27 rfl (sd 1 rfl)
    have h29 : sa.eval (.tmp 29) = .int .u32 (u32i (digestW M)) := sk.fact 3 29 rfl (sd 3 rfl)
    exact Runs.bin rfl h27 h29 (by rfl) (bin_eql _ _ _ _) ⟨Ext.refl _, congrArg Value.bool (decide_eq_true rfl)⟩
  · refine stepE rfl fun sdn sa sw sE sd sk => ?_
    have h30 : sa.eval (.tmp 30) = .bool (true) := sk.fact 4 30 rfl (sd 4 rfl)
    exact Runs.move rfl h30 ⟨Ext.refl _, rfl⟩
  · refine stepY (j := 5) (d := 31) (b := true) rfl rfl rfl (fun v w h => h) fun sdn sa sw sE sd sk => ?_
    have h0 : sa.eval (.tmp 0) = .slice (A) (n) (c) := sk.old 0 rfl
    exact Runs.move rfl h0 ⟨Ext.refl _, rfl⟩
  · refine stepY (j := 5) (d := 31) (b := true) rfl rfl rfl (fun v w h => h) fun sdn sa sw sE sd sk => ?_
    have h1 : sa.eval (.tmp 1) = .int .i64 (key) := sk.old 1 rfl
    exact Runs.move rfl h1 ⟨Ext.refl _, rfl⟩
  · refine stepY (j := 5) (d := 31) (b := true) rfl rfl rfl (fun v w h => h) fun sdn sa sw sE sd sk => ?_
    have h2 : sa.eval (.tmp 2) = .int .i64 (bit) := sk.old 2 rfl
    exact Runs.move rfl h2 ⟨Ext.refl _, rfl⟩
  · refine stepY (j := 5) (d := 31) (b := true) rfl rfl rfl (fun v w h => h) fun sdn sa sw sE sd sk => ?_
    have h3 : sa.eval (.tmp 3) = .int .i64 (side) := sk.old 3 rfl
    exact Runs.move rfl h3 ⟨Ext.refl _, rfl⟩
  · refine stepY (j := 5) (d := 31) (b := true) rfl rfl rfl (fun v w h => h) fun sdn sa sw sE sd sk => ?_
    have h32 : sa.eval (.tmp 32) = .slice (A) (n) (c) := sk.fact 6 32 rfl (sd 6 rfl)
    have h33 : sa.eval (.tmp 33) = .int .i64 (key) := sk.fact 7 33 rfl (sd 7 rfl)
    have h34 : sa.eval (.tmp 34) = .int .i64 (bit) := sk.fact 8 34 rfl (sd 8 rfl)
    have h35 : sa.eval (.tmp 35) = .int .i64 (side) := sk.fact 9 35 rfl (sd 9 rfl)
    refine Runs.call (f := 34) (vs := [.slice (A) (n) (c), .int .i64 (key), .int .i64 (bit), .int .i64 (side)]) rfl rfl rfl (by simp only [List.map_toArray, List.map_cons, List.map_nil, h32, h33, h34, h35] <;> rfl) (ent34 _ _) ((secret_any _ _ _ _ (key) (bit) (side) sw (rS.ext sE) (by omega)).mono ?_); rintro e w' ⟨A', c', rfl, own, hx⟩; exact ⟨_, rfl, hx, A', 32, c', rfl, own.rb⟩
  · refine stepY (j := 5) (d := 31) (b := true) rfl rfl rfl (fun v w h => h) fun sdn sa sw sE sd sk => ?_
    obtain ⟨A36, n36, c36, h36, r36⟩ := sk.fact 10 36 rfl (sd 10 rfl)
    exact Runs.conv rfl h36 (run_str r36) ⟨Ext.refl _, rfl⟩
  · refine stepY (j := 5) (d := 31) (b := true) rfl rfl rfl (fun v w h => h) fun sdn sa sw sE sd sk => ?_
    have h0 : sa.eval (.tmp 0) = .slice (A) (n) (c) := sk.old 0 rfl
    exact Runs.move rfl h0 ⟨Ext.refl _, rfl⟩
  · refine stepY (j := 5) (d := 31) (b := true) rfl rfl rfl (fun v w h => h) fun sdn sa sw sE sd sk => ?_
    have h1 : sa.eval (.tmp 1) = .int .i64 (key) := sk.old 1 rfl
    exact Runs.move rfl h1 ⟨Ext.refl _, rfl⟩
  · refine stepY (j := 5) (d := 31) (b := true) rfl rfl rfl (fun v w h => h) fun sdn sa sw sE sd sk => ?_
    have h2 : sa.eval (.tmp 2) = .int .i64 (bit) := sk.old 2 rfl
    exact Runs.move rfl h2 ⟨Ext.refl _, rfl⟩
  · refine stepY (j := 5) (d := 31) (b := true) rfl rfl rfl (fun v w h => h) fun sdn sa sw sE sd sk => ?_
    have h3 : sa.eval (.tmp 3) = .int .i64 (side) := sk.old 3 rfl
    exact Runs.move rfl h3 ⟨Ext.refl _, rfl⟩
  · refine stepY (j := 5) (d := 31) (b := true) rfl rfl rfl (fun v w h => h) fun sdn sa sw sE sd sk => ?_
    have h38 : sa.eval (.tmp 38) = .slice (A) (n) (c) := sk.fact 12 38 rfl (sd 12 rfl)
    have h39 : sa.eval (.tmp 39) = .int .i64 (key) := sk.fact 13 39 rfl (sd 13 rfl)
    have h40 : sa.eval (.tmp 40) = .int .i64 (bit) := sk.fact 14 40 rfl (sd 14 rfl)
    have h41 : sa.eval (.tmp 41) = .int .i64 (side) := sk.fact 15 41 rfl (sd 15 rfl)
    refine Runs.call (f := 35) (vs := [.slice (A) (n) (c), .int .i64 (key), .int .i64 (bit), .int .i64 (side)]) rfl rfl rfl (by simp only [List.map_toArray, List.map_cons, List.map_nil, h38, h39, h40, h41] <;> rfl) (ent35 _ _) ((r4secret_any _ _ _ _ (key) (bit) (side) sw (rS.ext sE) (by omega)).mono ?_); rintro e w' ⟨A', c', rfl, own, hx⟩; exact ⟨_, rfl, hx, A', 32, c', rfl, own.rb⟩
  · refine stepY (j := 5) (d := 31) (b := true) rfl rfl rfl (fun v w h => h) fun sdn sa sw sE sd sk => ?_
    obtain ⟨A42, n42, c42, h42, r42⟩ := sk.fact 16 42 rfl (sd 16 rfl)
    exact Runs.conv rfl h42 (run_str r42) ⟨Ext.refl _, rfl⟩
  · refine stepY (j := 5) (d := 31) (b := true) rfl rfl rfl (fun v w h => h) fun sdn sa sw sE sd sk => ?_
    have h37 : sa.eval (.tmp 37) = .string (str (secretL S (key) (bit) (side))) := sk.fact 11 37 rfl (sd 11 rfl)
    have h43 : sa.eval (.tmp 43) = .string (str (secretL S (key) (bit) (side))) := sk.fact 17 43 rfl (sd 17 rfl)
    exact Runs.bin rfl h37 h43 (by rfl) (bin_eqs _ _ _) ⟨Ext.refl _, congrArg Value.bool (by simp)⟩
  · refine stepE rfl fun sdn sa sw sE sd sk => ?_
    have h31 : sa.eval (.tmp 31) = .bool (true) := sk.fact 5 31 rfl (sd 5 rfl)
    have h44 : sa.eval (.tmp 44) = .bool (true) := sk.fact 18 44 rfl (sd 18 rfl)
    exact Runs.pick rfl h31 ⟨Ext.refl _, by first | exact h44 | simpa using h44⟩
  · refine stepE rfl fun sdn sa sw sE sd sk => ?_
    have h45 : sa.eval (.tmp 45) = .bool (true) := sk.fact 19 45 rfl (sd 19 rfl)
    exact Runs.move rfl h45 ⟨Ext.refl _, rfl⟩
  · refine stepY (j := 20) (d := 46) (b := true) rfl rfl rfl (fun v w h => h) fun sdn sa sw sE sd sk => ?_
    have h0 : sa.eval (.tmp 0) = .slice (A) (n) (c) := sk.old 0 rfl
    exact Runs.move rfl h0 ⟨Ext.refl _, rfl⟩
  · refine stepY (j := 20) (d := 46) (b := true) rfl rfl rfl (fun v w h => h) fun sdn sa sw sE sd sk => ?_
    have h1 : sa.eval (.tmp 1) = .int .i64 (key) := sk.old 1 rfl
    exact Runs.move rfl h1 ⟨Ext.refl _, rfl⟩
  · refine stepY (j := 20) (d := 46) (b := true) rfl rfl rfl (fun v w h => h) fun sdn sa sw sE sd sk => ?_
    have h2 : sa.eval (.tmp 2) = .int .i64 (bit) := sk.old 2 rfl
    exact Runs.move rfl h2 ⟨Ext.refl _, rfl⟩
  · refine stepY (j := 20) (d := 46) (b := true) rfl rfl rfl (fun v w h => h) fun sdn sa sw sE sd sk => ?_
    have h3 : sa.eval (.tmp 3) = .int .i64 (side) := sk.old 3 rfl
    exact Runs.move rfl h3 ⟨Ext.refl _, rfl⟩
  · refine stepY (j := 20) (d := 46) (b := true) rfl rfl rfl (fun v w h => h) fun sdn sa sw sE sd sk => ?_
    have h47 : sa.eval (.tmp 47) = .slice (A) (n) (c) := sk.fact 21 47 rfl (sd 21 rfl)
    have h48 : sa.eval (.tmp 48) = .int .i64 (key) := sk.fact 22 48 rfl (sd 22 rfl)
    have h49 : sa.eval (.tmp 49) = .int .i64 (bit) := sk.fact 23 49 rfl (sd 23 rfl)
    have h50 : sa.eval (.tmp 50) = .int .i64 (side) := sk.fact 24 50 rfl (sd 24 rfl)
    refine Runs.call (f := 36) (vs := [.slice (A) (n) (c), .int .i64 (key), .int .i64 (bit), .int .i64 (side)]) rfl rfl rfl (by simp only [List.map_toArray, List.map_cons, List.map_nil, h47, h48, h49, h50] <;> rfl) (ent36 _ _) ((shown_any _ _ _ _ (key) (bit) (side) sw (rS.ext sE) (by omega)).mono ?_); rintro e w' ⟨A', c', rfl, own, hx⟩; exact ⟨_, rfl, hx, A', 32, c', rfl, own.rb⟩
  · refine stepY (j := 20) (d := 46) (b := true) rfl rfl rfl (fun v w h => h) fun sdn sa sw sE sd sk => ?_
    obtain ⟨A51, n51, c51, h51, r51⟩ := sk.fact 25 51 rfl (sd 25 rfl)
    exact Runs.conv rfl h51 (run_str r51) ⟨Ext.refl _, rfl⟩
  · refine stepY (j := 20) (d := 46) (b := true) rfl rfl rfl (fun v w h => h) fun sdn sa sw sE sd sk => ?_
    have h0 : sa.eval (.tmp 0) = .slice (A) (n) (c) := sk.old 0 rfl
    exact Runs.move rfl h0 ⟨Ext.refl _, rfl⟩
  · refine stepY (j := 20) (d := 46) (b := true) rfl rfl rfl (fun v w h => h) fun sdn sa sw sE sd sk => ?_
    have h1 : sa.eval (.tmp 1) = .int .i64 (key) := sk.old 1 rfl
    exact Runs.move rfl h1 ⟨Ext.refl _, rfl⟩
  · refine stepY (j := 20) (d := 46) (b := true) rfl rfl rfl (fun v w h => h) fun sdn sa sw sE sd sk => ?_
    have h2 : sa.eval (.tmp 2) = .int .i64 (bit) := sk.old 2 rfl
    exact Runs.move rfl h2 ⟨Ext.refl _, rfl⟩
  · refine stepY (j := 20) (d := 46) (b := true) rfl rfl rfl (fun v w h => h) fun sdn sa sw sE sd sk => ?_
    have h3 : sa.eval (.tmp 3) = .int .i64 (side) := sk.old 3 rfl
    exact Runs.move rfl h3 ⟨Ext.refl _, rfl⟩
  · refine stepY (j := 20) (d := 46) (b := true) rfl rfl rfl (fun v w h => h) fun sdn sa sw sE sd sk => ?_
    have h53 : sa.eval (.tmp 53) = .slice (A) (n) (c) := sk.fact 27 53 rfl (sd 27 rfl)
    have h54 : sa.eval (.tmp 54) = .int .i64 (key) := sk.fact 28 54 rfl (sd 28 rfl)
    have h55 : sa.eval (.tmp 55) = .int .i64 (bit) := sk.fact 29 55 rfl (sd 29 rfl)
    have h56 : sa.eval (.tmp 56) = .int .i64 (side) := sk.fact 30 56 rfl (sd 30 rfl)
    refine Runs.call (f := 37) (vs := [.slice (A) (n) (c), .int .i64 (key), .int .i64 (bit), .int .i64 (side)]) rfl rfl rfl (by simp only [List.map_toArray, List.map_cons, List.map_nil, h53, h54, h55, h56] <;> rfl) (ent37 _ _) ((r4shown_any _ _ _ _ (key) (bit) (side) sw (rS.ext sE) (by omega)).mono ?_); rintro e w' ⟨A', c', rfl, own, hx⟩; exact ⟨_, rfl, hx, A', 32, c', rfl, own.rb⟩
  · refine stepY (j := 20) (d := 46) (b := true) rfl rfl rfl (fun v w h => h) fun sdn sa sw sE sd sk => ?_
    obtain ⟨A57, n57, c57, h57, r57⟩ := sk.fact 31 57 rfl (sd 31 rfl)
    exact Runs.conv rfl h57 (run_str r57) ⟨Ext.refl _, rfl⟩
  · refine stepY (j := 20) (d := 46) (b := true) rfl rfl rfl (fun v w h => h) fun sdn sa sw sE sd sk => ?_
    have h52 : sa.eval (.tmp 52) = .string (str (shownL S (key) (bit) (side))) := sk.fact 26 52 rfl (sd 26 rfl)
    have h58 : sa.eval (.tmp 58) = .string (str (shownL S (key) (bit) (side))) := sk.fact 32 58 rfl (sd 32 rfl)
    exact Runs.bin rfl h52 h58 (by rfl) (bin_eqs _ _ _) ⟨Ext.refl _, congrArg Value.bool (by simp)⟩
  · refine stepE rfl fun sdn sa sw sE sd sk => ?_
    have h46 : sa.eval (.tmp 46) = .bool (true) := sk.fact 20 46 rfl (sd 20 rfl)
    have h59 : sa.eval (.tmp 59) = .bool (true) := sk.fact 33 59 rfl (sd 33 rfl)
    exact Runs.pick rfl h46 ⟨Ext.refl _, by first | exact h59 | simpa using h59⟩
  · refine stepE rfl fun sdn sa sw sE sd sk => ?_
    have h60 : sa.eval (.tmp 60) = .bool (true) := sk.fact 34 60 rfl (sd 34 rfl)
    exact Runs.move rfl h60 ⟨Ext.refl _, rfl⟩
  · refine stepY (j := 35) (d := 61) (b := true) rfl rfl rfl (fun v w h => h) fun sdn sa sw sE sd sk => ?_
    have h0 : sa.eval (.tmp 0) = .slice (A) (n) (c) := sk.old 0 rfl
    exact Runs.move rfl h0 ⟨Ext.refl _, rfl⟩
  · refine stepY (j := 35) (d := 61) (b := true) rfl rfl rfl (fun v w h => h) fun sdn sa sw sE sd sk => ?_
    have h1 : sa.eval (.tmp 1) = .int .i64 (key) := sk.old 1 rfl
    exact Runs.move rfl h1 ⟨Ext.refl _, rfl⟩
  · refine stepY (j := 35) (d := 61) (b := true) rfl rfl rfl (fun v w h => h) fun sdn sa sw sE sd sk => ?_
    have h62 : sa.eval (.tmp 62) = .slice (A) (n) (c) := sk.fact 36 62 rfl (sd 36 rfl)
    have h63 : sa.eval (.tmp 63) = .int .i64 (key) := sk.fact 37 63 rfl (sd 37 rfl)
    refine Runs.call (f := 38) (vs := [.slice (A) (n) (c), .int .i64 (key)]) rfl rfl rfl (by simp only [List.map_toArray, List.map_cons, List.map_nil, h62, h63] <;> rfl) (ent38 _ _) ((public_any _ _ _ _ key sw (rS.ext sE) (by omega)).mono ?_); rintro e w' ⟨A', c', rfl, own, hx⟩; exact ⟨_, rfl, hx, A', 32, c', rfl, own.rb⟩
  · refine stepY (j := 35) (d := 61) (b := true) rfl rfl rfl (fun v w h => h) fun sdn sa sw sE sd sk => ?_
    obtain ⟨A64, n64, c64, h64, r64⟩ := sk.fact 38 64 rfl (sd 38 rfl)
    exact Runs.conv rfl h64 (run_str r64) ⟨Ext.refl _, rfl⟩
  · refine stepY (j := 35) (d := 61) (b := true) rfl rfl rfl (fun v w h => h) fun sdn sa sw sE sd sk => ?_
    have h0 : sa.eval (.tmp 0) = .slice (A) (n) (c) := sk.old 0 rfl
    exact Runs.move rfl h0 ⟨Ext.refl _, rfl⟩
  · refine stepY (j := 35) (d := 61) (b := true) rfl rfl rfl (fun v w h => h) fun sdn sa sw sE sd sk => ?_
    have h1 : sa.eval (.tmp 1) = .int .i64 (key) := sk.old 1 rfl
    exact Runs.move rfl h1 ⟨Ext.refl _, rfl⟩
  · refine stepY (j := 35) (d := 61) (b := true) rfl rfl rfl (fun v w h => h) fun sdn sa sw sE sd sk => ?_
    have h66 : sa.eval (.tmp 66) = .slice (A) (n) (c) := sk.fact 40 66 rfl (sd 40 rfl)
    have h67 : sa.eval (.tmp 67) = .int .i64 (key) := sk.fact 41 67 rfl (sd 41 rfl)
    refine Runs.call (f := 39) (vs := [.slice (A) (n) (c), .int .i64 (key)]) rfl rfl rfl (by simp only [List.map_toArray, List.map_cons, List.map_nil, h66, h67] <;> rfl) (ent39 _ _) ((r4public_any _ _ _ _ key sw (rS.ext sE) (by omega)).mono ?_); rintro e w' ⟨A', c', rfl, own, hx⟩; exact ⟨_, rfl, hx, A', 32, c', rfl, own.rb⟩
  · refine stepY (j := 35) (d := 61) (b := true) rfl rfl rfl (fun v w h => h) fun sdn sa sw sE sd sk => ?_
    obtain ⟨A68, n68, c68, h68, r68⟩ := sk.fact 42 68 rfl (sd 42 rfl)
    exact Runs.conv rfl h68 (run_str r68) ⟨Ext.refl _, rfl⟩
  · refine stepY (j := 35) (d := 61) (b := true) rfl rfl rfl (fun v w h => h) fun sdn sa sw sE sd sk => ?_
    have h65 : sa.eval (.tmp 65) = .string (str (publicL S key)) := sk.fact 39 65 rfl (sd 39 rfl)
    have h69 : sa.eval (.tmp 69) = .string (str (publicL S key)) := sk.fact 43 69 rfl (sd 43 rfl)
    exact Runs.bin rfl h65 h69 (by rfl) (bin_eqs _ _ _) ⟨Ext.refl _, congrArg Value.bool (by simp)⟩
  · refine stepE rfl fun sdn sa sw sE sd sk => ?_
    have h61 : sa.eval (.tmp 61) = .bool (true) := sk.fact 35 61 rfl (sd 35 rfl)
    have h70 : sa.eval (.tmp 70) = .bool (true) := sk.fact 44 70 rfl (sd 44 rfl)
    exact Runs.pick rfl h61 ⟨Ext.refl _, by first | exact h70 | simpa using h70⟩
  · refine stepE rfl fun sdn sa sw sE sd sk => ?_
    have h71 : sa.eval (.tmp 71) = .bool (true) := sk.fact 45 71 rfl (sd 45 rfl)
    exact Runs.move rfl h71 ⟨Ext.refl _, rfl⟩
  · refine stepY (j := 46) (d := 72) (b := true) rfl rfl rfl (fun v w h => h) fun sdn sa sw sE sd sk => ?_
    have h12 : sa.eval (.tmp 12) = .slice (P) (64) (d) := sk.old 12 rfl
    exact Runs.move rfl h12 ⟨Ext.refl _, rfl⟩
  · refine stepY (j := 46) (d := 72) (b := true) rfl rfl rfl (fun v w h => h) fun sdn sa sw sE sd sk => ?_
    have h0 : sa.eval (.tmp 0) = .slice (A) (n) (c) := sk.old 0 rfl
    exact Runs.move rfl h0 ⟨Ext.refl _, rfl⟩
  · refine stepY (j := 46) (d := 72) (b := true) rfl rfl rfl (fun v w h => h) fun sdn sa sw sE sd sk => ?_
    have h1 : sa.eval (.tmp 1) = .int .i64 (key) := sk.old 1 rfl
    exact Runs.move rfl h1 ⟨Ext.refl _, rfl⟩
  · refine stepY (j := 46) (d := 72) (b := true) rfl rfl rfl (fun v w h => h) fun sdn sa sw sE sd sk => ?_
    have h4 : sa.eval (.tmp 4) = .slice (B) (m) (e') := sk.old 4 rfl
    exact Runs.move rfl h4 ⟨Ext.refl _, rfl⟩
  · refine stepY (j := 46) (d := 72) (b := true) rfl rfl rfl (fun v w h => h) fun sdn sa sw sE sd sk => ?_
    have h74 : sa.eval (.tmp 74) = .slice (A) (n) (c) := sk.fact 48 74 rfl (sd 48 rfl)
    have h75 : sa.eval (.tmp 75) = .int .i64 (key) := sk.fact 49 75 rfl (sd 49 rfl)
    have h76 : sa.eval (.tmp 76) = .slice (B) (m) (e') := sk.fact 50 76 rfl (sd 50 rfl)
    refine Runs.call (f := 29) (vs := [.slice (A) (n) (c), .int .i64 (key), .slice (B) (m) (e')]) rfl rfl rfl (by simp only [List.map_toArray, List.map_cons, List.map_nil, h74, h75, h76] <;> rfl) (ent29 _ _) ((r4sign_any _ _ _ _ _ _ _ _ key sw (rS.ext sE) (by omega) (rM.ext sE) (by omega)).mono ?_); rintro e w' ⟨P', d', rfl, own, hx⟩; exact ⟨_, rfl, hx, P', 64, d', rfl, own.rbb⟩
  · refine stepY (j := 46) (d := 72) (b := true) rfl rfl rfl (fun v w h => h) fun sdn sa sw sE sd sk => ?_
    have h73 : sa.eval (.tmp 73) = .slice (P) (64) (d) := sk.fact 47 73 rfl (sd 47 rfl)
    obtain ⟨A77, n77, c77, h77, r77⟩ := sk.fact 51 77 rfl (sd 51 rfl)
    refine Runs.call (f := 32) (vs := [.slice (P) (64) (d), .slice (A77) (n77) (c77)]) rfl rfl rfl (by simp only [List.map_toArray, List.map_cons, List.map_nil, h73, h77] <;> rfl) (ent32 _ _) ((lists_same _ _ _ _ _ _ _ sw (rl.ext sE) r77).mono ?_); rintro e w' ⟨rfl, hx⟩; exact ⟨_, rfl, hx, rfl⟩
  · refine stepE rfl fun sdn sa sw sE sd sk => ?_
    have h72 : sa.eval (.tmp 72) = .bool (true) := sk.fact 46 72 rfl (sd 46 rfl)
    have h78 : sa.eval (.tmp 78) = .bool (true) := sk.fact 52 78 rfl (sd 52 rfl)
    exact Runs.pick rfl h72 ⟨Ext.refl _, by first | exact h78 | simpa using h78⟩
  · refine stepE rfl fun sdn sa sw sE sd sk => ?_
    have h79 : sa.eval (.tmp 79) = .bool (true) := sk.fact 53 79 rfl (sd 53 rfl)
    exact Runs.move rfl h79 ⟨Ext.refl _, rfl⟩
  · refine stepY (j := 54) (d := 80) (b := true) rfl rfl rfl (fun v w h => h) fun sdn sa sw sE sd sk => ?_
    have h11 : sa.eval (.tmp 11) = .slice (some ⟨g, 0, none⟩) (m + 80) (m + 80) := sk.old 11 rfl
    exact Runs.move rfl h11 ⟨Ext.refl _, rfl⟩
  · refine stepY (j := 54) (d := 80) (b := true) rfl rfl rfl (fun v w h => h) fun sdn sa sw sE sd sk => ?_
    have h4 : sa.eval (.tmp 4) = .slice (B) (m) (e') := sk.old 4 rfl
    exact Runs.move rfl h4 ⟨Ext.refl _, rfl⟩
  · refine stepY (j := 54) (d := 80) (b := true) rfl rfl rfl (fun v w h => h) fun sdn sa sw sE sd sk => ?_
    have h81 : sa.eval (.tmp 81) = .slice (some ⟨g, 0, none⟩) (m + 80) (m + 80) := sk.fact 55 81 rfl (sd 55 rfl)
    have h82 : sa.eval (.tmp 82) = .slice (B) (m) (e') := sk.fact 56 82 rfl (sd 56 rfl)
    refine Runs.call (f := 26) (vs := [.slice (some ⟨g, 0, none⟩) (m + 80) (m + 80), .slice (B) (m) (e'), .int .u8 (u8i 165)]) rfl rfl rfl (by simp only [List.map_toArray, List.map_cons, List.map_nil, h81, h82] <;> rfl) (ent26 _ _) ((intact_any _ _ _ _ _ M 165 sw (rfull.ext sE) (rM.ext sE)).mono ?_); rintro e w' ⟨rfl, hx⟩; exact ⟨_, rfl, hx, rfl⟩
  · refine stepE rfl fun sdn sa sw sE sd sk => ?_
    have h80 : sa.eval (.tmp 80) = .bool (true) := sk.fact 54 80 rfl (sd 54 rfl)
    have h83 : sa.eval (.tmp 83) = .bool (true) := sk.fact 57 83 rfl (sd 57 rfl)
    exact Runs.pick rfl h80 ⟨Ext.refl _, by first | exact h83 | simpa using h83⟩
  · refine stepE rfl fun sdn sa sw sE sd sk => ?_
    have h84 : sa.eval (.tmp 84) = .bool (true) := sk.fact 58 84 rfl (sd 58 rfl)
    exact Runs.move rfl h84 ⟨Ext.refl _, rfl⟩
  · refine stepY (j := 59) (d := 85) (b := true) rfl rfl rfl (fun v w h => h) fun sdn sa sw sE sd sk => ?_
    refine Runs.call (f := 40) (vs := []) rfl rfl rfl (by simp only [List.map_toArray, List.map_cons, List.map_nil] <;> rfl) (ent40 _ _) ((known4_any sw).mono ?_); rintro e w' ⟨rfl, hx⟩; exact ⟨_, rfl, hx, rfl⟩
  · refine stepE rfl fun sdn sa sw sE sd sk => ?_
    have h85 : sa.eval (.tmp 85) = .bool (true) := sk.fact 59 85 rfl (sd 59 rfl)
    have h86 : sa.eval (.tmp 86) = .bool (true) := sk.fact 60 86 rfl (sd 60 rfl)
    exact Runs.pick rfl h85 ⟨Ext.refl _, by first | exact h86 | simpa using h86⟩
  · refine stepE rfl fun sdn sa sw sE sd sk => ?_
    have h87 : sa.eval (.tmp 87) = .bool (true) := sk.fact 61 87 rfl (sd 61 rfl)
    exact Runs.assign rfl h87 ⟨Ext.refl _, rfl⟩
  intro vals W1 hE hv
  have e0 : vals 0 = .slice (B) (m) (e') := hv 0 (by omega) 26 rfl
  have e1 : vals 1 = .int .u32 (u32i (digestW M)) := hv 1 (by omega) 27 rfl
  have e2 : vals 2 = .slice (B) (m) (e') := hv 2 (by omega) 28 rfl
  have e3 : vals 3 = .int .u32 (u32i (digestW M)) := hv 3 (by omega) 29 rfl
  have e4 : vals 4 = .bool (true) := hv 4 (by omega) 30 rfl
  have e5 : vals 5 = .bool (true) := hv 5 (by omega) 31 rfl
  have e6 : vals 6 = .slice (A) (n) (c) := hv 6 (by omega) 32 rfl
  have e7 : vals 7 = .int .i64 (key) := hv 7 (by omega) 33 rfl
  have e8 : vals 8 = .int .i64 (bit) := hv 8 (by omega) 34 rfl
  have e9 : vals 9 = .int .i64 (side) := hv 9 (by omega) 35 rfl
  obtain ⟨A36, n36, c36, e10, r36⟩ := hv 10 (by omega) 36 rfl
  have e11 : vals 11 = .string (str (secretL S (key) (bit) (side))) := hv 11 (by omega) 37 rfl
  have e12 : vals 12 = .slice (A) (n) (c) := hv 12 (by omega) 38 rfl
  have e13 : vals 13 = .int .i64 (key) := hv 13 (by omega) 39 rfl
  have e14 : vals 14 = .int .i64 (bit) := hv 14 (by omega) 40 rfl
  have e15 : vals 15 = .int .i64 (side) := hv 15 (by omega) 41 rfl
  obtain ⟨A42, n42, c42, e16, r42⟩ := hv 16 (by omega) 42 rfl
  have e17 : vals 17 = .string (str (secretL S (key) (bit) (side))) := hv 17 (by omega) 43 rfl
  have e18 : vals 18 = .bool (true) := hv 18 (by omega) 44 rfl
  have e19 : vals 19 = .bool (true) := hv 19 (by omega) 45 rfl
  have e20 : vals 20 = .bool (true) := hv 20 (by omega) 46 rfl
  have e21 : vals 21 = .slice (A) (n) (c) := hv 21 (by omega) 47 rfl
  have e22 : vals 22 = .int .i64 (key) := hv 22 (by omega) 48 rfl
  have e23 : vals 23 = .int .i64 (bit) := hv 23 (by omega) 49 rfl
  have e24 : vals 24 = .int .i64 (side) := hv 24 (by omega) 50 rfl
  obtain ⟨A51, n51, c51, e25, r51⟩ := hv 25 (by omega) 51 rfl
  have e26 : vals 26 = .string (str (shownL S (key) (bit) (side))) := hv 26 (by omega) 52 rfl
  have e27 : vals 27 = .slice (A) (n) (c) := hv 27 (by omega) 53 rfl
  have e28 : vals 28 = .int .i64 (key) := hv 28 (by omega) 54 rfl
  have e29 : vals 29 = .int .i64 (bit) := hv 29 (by omega) 55 rfl
  have e30 : vals 30 = .int .i64 (side) := hv 30 (by omega) 56 rfl
  obtain ⟨A57, n57, c57, e31, r57⟩ := hv 31 (by omega) 57 rfl
  have e32 : vals 32 = .string (str (shownL S (key) (bit) (side))) := hv 32 (by omega) 58 rfl
  have e33 : vals 33 = .bool (true) := hv 33 (by omega) 59 rfl
  have e34 : vals 34 = .bool (true) := hv 34 (by omega) 60 rfl
  have e35 : vals 35 = .bool (true) := hv 35 (by omega) 61 rfl
  have e36 : vals 36 = .slice (A) (n) (c) := hv 36 (by omega) 62 rfl
  have e37 : vals 37 = .int .i64 (key) := hv 37 (by omega) 63 rfl
  obtain ⟨A64, n64, c64, e38, r64⟩ := hv 38 (by omega) 64 rfl
  have e39 : vals 39 = .string (str (publicL S key)) := hv 39 (by omega) 65 rfl
  have e40 : vals 40 = .slice (A) (n) (c) := hv 40 (by omega) 66 rfl
  have e41 : vals 41 = .int .i64 (key) := hv 41 (by omega) 67 rfl
  obtain ⟨A68, n68, c68, e42, r68⟩ := hv 42 (by omega) 68 rfl
  have e43 : vals 43 = .string (str (publicL S key)) := hv 43 (by omega) 69 rfl
  have e44 : vals 44 = .bool (true) := hv 44 (by omega) 70 rfl
  have e45 : vals 45 = .bool (true) := hv 45 (by omega) 71 rfl
  have e46 : vals 46 = .bool (true) := hv 46 (by omega) 72 rfl
  have e47 : vals 47 = .slice (P) (64) (d) := hv 47 (by omega) 73 rfl
  have e48 : vals 48 = .slice (A) (n) (c) := hv 48 (by omega) 74 rfl
  have e49 : vals 49 = .int .i64 (key) := hv 49 (by omega) 75 rfl
  have e50 : vals 50 = .slice (B) (m) (e') := hv 50 (by omega) 76 rfl
  obtain ⟨A77, n77, c77, e51, r77⟩ := hv 51 (by omega) 77 rfl
  have e52 : vals 52 = .bool (true) := hv 52 (by omega) 78 rfl
  have e53 : vals 53 = .bool (true) := hv 53 (by omega) 79 rfl
  have e54 : vals 54 = .bool (true) := hv 54 (by omega) 80 rfl
  have e55 : vals 55 = .slice (some ⟨g, 0, none⟩) (m + 80) (m + 80) := hv 55 (by omega) 81 rfl
  have e56 : vals 56 = .slice (B) (m) (e') := hv 56 (by omega) 82 rfl
  have e57 : vals 57 = .bool (true) := hv 57 (by omega) 83 rfl
  have e58 : vals 58 = .bool (true) := hv 58 (by omega) 84 rfl
  have e59 : vals 59 = .bool (true) := hv 59 (by omega) 85 rfl
  have e60 : vals 60 = .bool (true) := hv 60 (by omega) 86 rfl
  have e61 : vals 61 = .bool (true) := hv 61 (by omega) 87 rfl
  have e62 : vals 62 = .bool (true) := hv 62 (by omega) 10 rfl
  simp only [putAll, Act.put, List.take_succ_cons, List.take_zero, List.drop_succ_cons, List.drop_zero, List.drop_nil, List.take_nil, Nat.reduceAdd, List.setIfInBounds_toArray, List.set_cons_succ, List.set_cons_zero, e0, e1, e2, e3, e4, e5, e6, e7, e8, e9, e10, e11, e12, e13, e14, e15, e16, e17, e18, e19, e20, e21, e22, e23, e24, e25, e26, e27, e28, e29, e30, e31, e32, e33, e34, e35, e36, e37, e38, e39, e40, e41, e42, e43, e44, e45, e46, e47, e48, e49, e50, e51, e52, e53, e54, e55, e56, e57, e58, e59, e60, e61, e62]
  clear hv e0 e1 e2 e3 e4 e5 e6 e7 e8 e9 e10 e11 e12 e13 e14 e15 e16 e17 e18 e19 e20 e21 e22 e23 e24 e25 e26 e27 e28 e29 e30 e31 e32 e33 e34 e35 e36 e37 e38 e39 e40 e41 e42 e43 e44 e45 e46 e47 e48 e49 e50 e51 e52 e53 e54 e55 e56 e57 e58 e59 e60 e61 e62
  go_wp2_with fail
  go_ret
  exact ⟨rfl, hE23.trans hE⟩
end Go.Proofs.Ytmgnigofilkfmaa
