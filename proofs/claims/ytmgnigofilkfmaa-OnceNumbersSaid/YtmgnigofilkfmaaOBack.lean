/-
  law4.OnceBack, walked.
-/
import Derived.Test.YtmgnigofilkfmaaSides
namespace Go.Proofs.Ytmgnigofilkfmaa
set_option maxRecDepth 100000
open Go Go.RowKit
noncomputable def infSS : TypeInfo := (Try.prog.info? 22).getD default
theorem infSS_eq : Try.prog.info? 22 = some infSS := by kernel_rfl
theorem infSS_size : infSS.size = 1 := by kernel_rfl
theorem bit_le (x : UInt32) : (x &&& 1).toNat ≤ 1 := by
  rw [UInt32.toNat_and]
  have h : (1 : UInt32).toNat = 1 := rfl
  rw [h]
  exact Nat.and_le_right
set_option maxHeartbeats 4000000 in
theorem oback_law (A B : Option Addr) (n c m e' : Nat) (L Q : List UInt8) (key : Int) (w : World) (hr : RB w A n c L) (hq : RB w B m e' Q) :
    Calls Try.prog 11 #[.slice A n c, .int .i64 key, .slice B m e'] w fun e w' => e = .returned (.bool true) ∧ Ext w w' := by
  go_enter Try.func11, Try.ntmps11
  have hc1 := cut_any A n c 50 L w hr (by omega)
  have hc2 := cut_any B m e' 200 Q w hq (by omega)
  have e50 : ((50 : Nat) : Int) = 50 := rfl
  have e200 : ((200 : Nat) : Int) = 200 := rfl
  rw [e50] at hc1
  rw [e200] at hc2
  go_wp2_with fail
  refine hc1.mono ?_
  rintro e w1 ⟨⟨rfl, rS⟩, rfl⟩
  go_wp2_with fail
  refine hc2.mono ?_
  rintro e w1 ⟨⟨rfl, rM⟩, rfl⟩
  clear hc1 hc2 e50 e200 hr hq
  have hn1 : min n 50 ≤ 50 := by omega
  have hm1 : min m 200 ≤ 200 := by omega
  generalize min n 50 = n at *
  generalize L.take 50 = S at *
  generalize min m 200 = m at *
  generalize Q.take 200 = M at *
  go_wp2_with fail
  refine (sign_any A B n c m e' S M key w rS (by omega) rM (by omega)).mono ?_
  rintro e w2 ⟨P, d, rfl, own, hE2⟩
  have rb2 := own.rbb
  have hrs := root_sign M S key
  go_wp2_with fail
  refine (root_any B P m e' 64 d M _ w2 (rM.ext hE2) (by omega) rb2).mono ?_
  rintro e w3 ⟨h1, _, hE3⟩
  obtain ⟨A8, c8, rfl, own3⟩ := h1 hrs.1
  rw [hrs.2] at own3
  clear h1 hrs
  have r8 := own3.rb
  have hE23 := hE2.trans hE3
  have rS4 := rS.ext hE23
  go_upto_region 4 with (fail)
  refine par_ext (n := 16) (by kernel_rfl) [.is (.bool (true)), .is (.bool (false)), .is (.bool (false)), .is (.slice (A8) (32) (c8)), .is (.string (str (publicL S key))), .is (.slice (A) (n) (c)), .is (.int .i64 (key)), .rb (publicL S key), .is (.string (str (publicL S key))), .is (.bool (false)), .is (.bool (false)), .is (.bool (false)), .is (.slice (P) (64) (d)), .is (.int .i64 ((64 : Nat))), .is (.bool (false)), .is (.bool (false))] rfl ⟨?_, ?_, ?_, ?_, ?_, ?_, ?_, ?_, ?_, ?_, ?_, ?_, ?_, ?_, ?_, ?_, trivial⟩ ?_
  · refine stepE rfl fun sdn sa sw sE sd sk => ?_
    have h9 : sa.eval (.tmp 9) = .bool (true) := sk.old 9 rfl
    exact Runs.move rfl h9 ⟨Ext.refl _, rfl⟩
  · refine stepE rfl fun sdn sa sw sE sd sk => ?_
    have h27 : sa.eval (.tmp 27) = .bool (true) := sk.fact 0 27 rfl (sd 0 rfl)
    exact Runs.un rfl h27 (by rfl) ⟨Ext.refl _, rfl⟩
  · refine stepE rfl fun sdn sa sw sE sd sk => ?_
    have h28 : sa.eval (.tmp 28) = .bool (false) := sk.fact 1 28 rfl (sd 1 rfl)
    exact Runs.move rfl h28 ⟨Ext.refl _, rfl⟩
  · refine stepY (j := 2) (d := 29) (b := false) rfl rfl rfl (fun v w h => h) fun sdn sa sw sE sd sk => ?_
    have h8 : sa.eval (.tmp 8) = .slice (A8) (32) (c8) := sk.old 8 rfl
    exact Runs.move rfl h8 ⟨Ext.refl _, rfl⟩
  · refine stepY (j := 2) (d := 29) (b := false) rfl rfl rfl (fun v w h => h) fun sdn sa sw sE sd sk => ?_
    have h30 : sa.eval (.tmp 30) = .slice (A8) (32) (c8) := sk.fact 3 30 rfl (sd 3 rfl)
    exact Runs.conv rfl h30 (run_str (r8.ext sE)) ⟨Ext.refl _, rfl⟩
  · refine stepY (j := 2) (d := 29) (b := false) rfl rfl rfl (fun v w h => h) fun sdn sa sw sE sd sk => ?_
    have h0 : sa.eval (.tmp 0) = .slice (A) (n) (c) := sk.old 0 rfl
    exact Runs.move rfl h0 ⟨Ext.refl _, rfl⟩
  · refine stepY (j := 2) (d := 29) (b := false) rfl rfl rfl (fun v w h => h) fun sdn sa sw sE sd sk => ?_
    have h1 : sa.eval (.tmp 1) = .int .i64 (key) := sk.old 1 rfl
    exact Runs.move rfl h1 ⟨Ext.refl _, rfl⟩
  · refine stepY (j := 2) (d := 29) (b := false) rfl rfl rfl (fun v w h => h) fun sdn sa sw sE sd sk => ?_
    have h32 : sa.eval (.tmp 32) = .slice (A) (n) (c) := sk.fact 5 32 rfl (sd 5 rfl)
    have h33 : sa.eval (.tmp 33) = .int .i64 (key) := sk.fact 6 33 rfl (sd 6 rfl)
    refine Runs.call (f := 38) (vs := [.slice (A) (n) (c), .int .i64 (key)]) rfl rfl rfl (by simp only [List.map_toArray, List.map_cons, List.map_nil, h32, h33] <;> rfl) (ent38 _ _) ((public_any _ _ _ _ key sw (rS4.ext sE) (by omega)).mono ?_); rintro e w' ⟨A', c', rfl, own, hx⟩; exact ⟨_, rfl, hx, A', 32, c', rfl, own.rb⟩
  · refine stepY (j := 2) (d := 29) (b := false) rfl rfl rfl (fun v w h => h) fun sdn sa sw sE sd sk => ?_
    obtain ⟨A34, n34, c34, h34, r34⟩ := sk.fact 7 34 rfl (sd 7 rfl)
    exact Runs.conv rfl h34 (run_str r34) ⟨Ext.refl _, rfl⟩
  · refine stepY (j := 2) (d := 29) (b := false) rfl rfl rfl (fun v w h => h) fun sdn sa sw sE sd sk => ?_
    have h31 : sa.eval (.tmp 31) = .string (str (publicL S key)) := sk.fact 4 31 rfl (sd 4 rfl)
    have h35 : sa.eval (.tmp 35) = .string (str (publicL S key)) := sk.fact 8 35 rfl (sd 8 rfl)
    exact Runs.bin rfl h31 h35 (by rfl) (bin_nes _ _ _) ⟨Ext.refl _, congrArg Value.bool (by simp)⟩
  · refine stepE rfl fun sdn sa sw sE sd sk => ?_
    have h29 : sa.eval (.tmp 29) = .bool (false) := sk.fact 2 29 rfl (sd 2 rfl)
    have h36 : sa.eval (.tmp 36) = .bool (false) := sk.fact 9 36 rfl (sd 9 rfl)
    exact Runs.pick rfl h29 ⟨Ext.refl _, by first | exact h36 | simpa using h36⟩
  · refine stepE rfl fun sdn sa sw sE sd sk => ?_
    have h37 : sa.eval (.tmp 37) = .bool (false) := sk.fact 10 37 rfl (sd 10 rfl)
    exact Runs.move rfl h37 ⟨Ext.refl _, rfl⟩
  · refine stepY (j := 11) (d := 38) (b := false) rfl rfl rfl (fun v w h => h) fun sdn sa sw sE sd sk => ?_
    have h7 : sa.eval (.tmp 7) = .slice (P) (64) (d) := sk.old 7 rfl
    exact Runs.move rfl h7 ⟨Ext.refl _, rfl⟩
  · refine stepY (j := 11) (d := 38) (b := false) rfl rfl rfl (fun v w h => h) fun sdn sa sw sE sd sk => ?_
    have h39 : sa.eval (.tmp 39) = .slice (P) (64) (d) := sk.fact 12 39 rfl (sd 12 rfl)
    exact Runs.len Try.underlying32 rfl h39 ⟨Ext.refl _, rfl⟩
  · refine stepY (j := 11) (d := 38) (b := false) rfl rfl rfl (fun v w h => h) fun sdn sa sw sE sd sk => ?_
    have h40 : sa.eval (.tmp 40) = .int .i64 ((64 : Nat)) := sk.fact 13 40 rfl (sd 13 rfl)
    exact Runs.bin rfl h40 rfl (by rfl) (bin_neq _ _ _ _) ⟨Ext.refl _, congrArg Value.bool (by simp)⟩
  · refine stepE rfl fun sdn sa sw sE sd sk => ?_
    have h38 : sa.eval (.tmp 38) = .bool (false) := sk.fact 11 38 rfl (sd 11 rfl)
    have h41 : sa.eval (.tmp 41) = .bool (false) := sk.fact 14 41 rfl (sd 14 rfl)
    exact Runs.pick rfl h38 ⟨Ext.refl _, by first | exact h41 | simpa using h41⟩
  intro vals W5 hE hv
  have e0 : vals 0 = .bool (true) := hv 0 (by omega) 27 rfl
  have e1 : vals 1 = .bool (false) := hv 1 (by omega) 28 rfl
  have e2 : vals 2 = .bool (false) := hv 2 (by omega) 29 rfl
  have e3 : vals 3 = .slice (A8) (32) (c8) := hv 3 (by omega) 30 rfl
  have e4 : vals 4 = .string (str (publicL S key)) := hv 4 (by omega) 31 rfl
  have e5 : vals 5 = .slice (A) (n) (c) := hv 5 (by omega) 32 rfl
  have e6 : vals 6 = .int .i64 (key) := hv 6 (by omega) 33 rfl
  obtain ⟨A34, n34, c34, e7, r34⟩ := hv 7 (by omega) 34 rfl
  have e8 : vals 8 = .string (str (publicL S key)) := hv 8 (by omega) 35 rfl
  have e9 : vals 9 = .bool (false) := hv 9 (by omega) 36 rfl
  have e10 : vals 10 = .bool (false) := hv 10 (by omega) 37 rfl
  have e11 : vals 11 = .bool (false) := hv 11 (by omega) 38 rfl
  have e12 : vals 12 = .slice (P) (64) (d) := hv 12 (by omega) 39 rfl
  have e13 : vals 13 = .int .i64 ((64 : Nat)) := hv 13 (by omega) 40 rfl
  have e14 : vals 14 = .bool (false) := hv 14 (by omega) 41 rfl
  have e15 : vals 15 = .bool (false) := hv 15 (by omega) 42 rfl
  simp only [putAll, Act.put, List.take_succ_cons, List.take_zero, List.drop_succ_cons, List.drop_zero, List.drop_nil, List.take_nil, Nat.reduceAdd, List.setIfInBounds_toArray, List.set_cons_succ, List.set_cons_zero, e0, e1, e2, e3, e4, e5, e6, e7, e8, e9, e10, e11, e12, e13, e14, e15]
  clear hv e0 e1 e2 e3 e4 e5 e6 e7 e8 e9 e10 e11 e12 e13 e14 e15
  have hE25 := hE23.trans hE
  have rb5 := rb2.ext (hE3.trans hE)
  clear rb2 own own3 r8 rS4 hE hE3
  go_wp2_with fail
  refine (digest_any B m e' M W5 (rM.ext hE25) (by omega)).mono ?_
  rintro e w6 ⟨rfl, hE6⟩
  obtain ⟨dg, hdg⟩ : ∃ dg, dg = digestW M := ⟨_, rfl⟩
  rw [← hdg] at rb5 ⊢
  clear hdg
  have rb6 := rb5.ext hE6
  have hE26 := hE25.trans hE6
  have hdr := rb6.room
  have hdc := rb6.cap
  unfold maxLen at hdc
  clear rb5 hE6 hE25 hE23 hE2
  obtain ⟨ad, rfl, hcells⟩ := rb6.cells (by omega)
  have Hcells := Lib.hid hcells
  clear hcells
  go_wp2_with fail
  go_loopw [11] (fun i wr => ∃ j : Nat, j ≤ 32 ∧ i = .int .i64 j ∧ Ext w6 wr) (fun i _ => 32 - (intOf i).toNat)
  case atStart => exact ⟨0, by omega, rfl, Ext.refl _⟩
  case round =>
    obtain ⟨j, hj, rfl, hEr⟩ := hrel
    by_cases hlt : j < 32
    · have hji : (j : Int) < 32 := by omega
      obtain ⟨bn, hbn⟩ : ∃ bn : Nat, u32i (shr dg (31 - j) &&& 1) = bn := ⟨_, rfl⟩
      have hbn1 : bn ≤ 1 := by
        have h1 := bit_le (shr dg (31 - j))
        unfold u32i at hbn
        omega
      have ht1 : toldB dg j bn = true := by unfold toldB; rw [hbn]; simp
      have ht2 : ¬ toldB dg j (1 - bn) = true := by
        unfold toldB
        rw [hbn, decide_eq_true_iff]
        omega
      have Hbn := Lib.hid hbn
      clear hbn
      obtain ⟨E1, z1, y1, hc1', hr1'⟩ := Hcells.out (2 * j + bn) (by omega)
      obtain ⟨E2, z2, y2, hc2', hr2'⟩ := Hcells.out (2 * j + 1 - bn) (by omega)
      rw [lb_range _ (by omega)] at hr1' hr2'
      have hz1 : z1 = 32 := by rw [← hr1'.len]; exact partS_length _ _ _ _
      have hz2 : z2 = 32 := by rw [← hr2'.len]; exact partS_length _ _ _ _
      subst hz1 hz2
      have hp1 : partS dg S key (2 * j + bn) = secretL S key (j : Int) (bn : Int) := by
        unfold partS
        rw [show (2 * j + bn) / 2 = j by omega, show (2 * j + bn) % 2 = bn by omega, if_pos ht1]
      have hp2 : partS dg S key (2 * j + 1 - bn) = shownL S key (j : Int) ((1 : Int) - (bn : Int)) := by
        unfold partS
        rw [show (2 * j + 1 - bn) / 2 = j by omega, show (2 * j + 1 - bn) % 2 = 1 - bn by omega, if_neg ht2, show ((1 - bn : Nat) : Int) = (1 : Int) - (bn : Int) by omega]
      rw [hp1] at hr1'
      rw [hp2] at hr2'
      clear hp1 hp2 ht1 ht2
      go_upto_region 10 with (fail)
      refine seq_ext (n := 8) (by kernel_rfl) [.is (.int .u32 (u32i (dg))), .is (.int .i64 (((j : Nat) : Int))), .is (.int .i64 ((31 : Int) - ((j : Nat) : Int))), .is (.int .u64 ((31 - j : Nat) : Int)), .is (.int .u32 (u32i (shr dg (31 - j)))), .is (.int .u32 (u32i ((shr dg (31 - j)) &&& (1 : UInt32)))), .is (.int .i64 (((bn : Nat) : Int))), .is (.int .i64 (((bn : Nat) : Int)))] rfl ⟨?_, ?_, ?_, ?_, ?_, ?_, ?_, ?_, trivial⟩ ?_
      · refine stepE rfl fun sdn sa sw sE sd sk => ?_
        have h10 : sa.eval (.tmp 10) = .int .u32 (u32i (dg)) := sk.old 10 rfl
        exact Runs.move rfl h10 ⟨Ext.refl _, rfl⟩
      · refine stepE rfl fun sdn sa sw sE sd sk => ?_
        have h11 : sa.eval (.tmp 11) = .int .i64 (((j : Nat) : Int)) := sk.old 11 rfl
        exact Runs.move rfl h11 ⟨Ext.refl _, rfl⟩
      · refine stepE rfl fun sdn sa sw sE sd sk => ?_
        have h50 : sa.eval (.tmp 50) = .int .i64 (((j : Nat) : Int)) := sk.fact 1 50 rfl (sd 1 rfl)
        exact Runs.bin rfl rfl h50 (eqGuard_bin rfl) (bin_sub64 _ _ _ (by omega) (by omega)) ⟨Ext.refl _, rfl⟩
      · refine stepE rfl fun sdn sa sw sE sd sk => ?_
        have h51 : sa.eval (.tmp 51) = .int .i64 ((31 : Int) - ((j : Nat) : Int)) := sk.fact 2 51 rfl (sd 2 rfl)
        exact Runs.conv rfl h51 (conv_i64_u64 Try.underlying3 Try.underlying49 _ (31 - j) (by omega) (by omega)) ⟨Ext.refl _, rfl⟩
      · refine stepE rfl fun sdn sa sw sE sd sk => ?_
        have h49 : sa.eval (.tmp 49) = .int .u32 (u32i (dg)) := sk.fact 0 49 rfl (sd 0 rfl)
        have h52 : sa.eval (.tmp 52) = .int .u64 ((31 - j : Nat) : Int) := sk.fact 3 52 rfl (sd 3 rfl)
        exact Runs.bin rfl h49 h52 (eqGuard_bin rfl) (bin_shr32 _ _ (31 - j) _ rfl (by omega)) ⟨Ext.refl _, rfl⟩
      · refine stepE rfl fun sdn sa sw sE sd sk => ?_
        have h53 : sa.eval (.tmp 53) = .int .u32 (u32i (shr dg (31 - j))) := sk.fact 4 53 rfl (sd 4 rfl)
        have hone : (.int .u32 1 : Value) = .int .u32 (u32i (1 : UInt32)) := rfl
        exact Runs.bin (v := .int .u32 (u32i (1 : UInt32))) rfl h53 hone (eqGuard_bin rfl) (bin_and32 _ _ (1 : UInt32)) ⟨Ext.refl _, rfl⟩
      · refine stepE rfl fun sdn sa sw sE sd sk => ?_
        have h54 : sa.eval (.tmp 54) = .int .u32 (u32i ((shr dg (31 - j)) &&& (1 : UInt32))) := sk.fact 5 54 rfl (sd 5 rfl)
        exact Runs.conv rfl h54 (conv_u32_i64' Try.underlying40 Try.underlying3 _) ⟨Ext.refl _, congrArg (Value.int .i64) Hbn.out⟩
      · refine stepE rfl fun sdn sa sw sE sd sk => ?_
        have h55 : sa.eval (.tmp 55) = .int .i64 (((bn : Nat) : Int)) := sk.fact 6 55 rfl (sd 6 rfl)
        exact Runs.assign rfl h55 ⟨Ext.refl _, rfl⟩
      intro vals W7 hE1 hv1
      have e0 : vals 0 = .int .u32 (u32i (dg)) := hv1 0 (by omega) 49 rfl
      have e1 : vals 1 = .int .i64 (((j : Nat) : Int)) := hv1 1 (by omega) 50 rfl
      have e2 : vals 2 = .int .i64 ((31 : Int) - ((j : Nat) : Int)) := hv1 2 (by omega) 51 rfl
      have e3 : vals 3 = .int .u64 ((31 - j : Nat) : Int) := hv1 3 (by omega) 52 rfl
      have e4 : vals 4 = .int .u32 (u32i (shr dg (31 - j))) := hv1 4 (by omega) 53 rfl
      have e5 : vals 5 = .int .u32 (u32i ((shr dg (31 - j)) &&& (1 : UInt32))) := hv1 5 (by omega) 54 rfl
      have e6 : vals 6 = .int .i64 (((bn : Nat) : Int)) := hv1 6 (by omega) 55 rfl
      have e7 : vals 7 = .int .i64 (((bn : Nat) : Int)) := hv1 7 (by omega) 12 rfl
      simp only [putAll, Act.put, List.take_succ_cons, List.take_zero, List.drop_succ_cons, List.drop_zero, List.drop_nil, List.take_nil, Nat.reduceAdd, List.setIfInBounds_toArray, List.set_cons_succ, List.set_cons_zero, e0, e1, e2, e3, e4, e5, e6, e7]
      clear hv1 e0 e1 e2 e3 e4 e5 e6 e7
      have hEr1 := hEr.trans hE1
      have hc1 := hEr1.cell hc1'
      have hc2 := hEr1.cell hc2'
      have hr1 := hr1'.ext hEr1
      have hr2 := hr2'.ext hEr1
      have rS5 := (rS.ext hE26).ext hEr1
      clear hc1' hc2' hr1' hr2'
      go_upto_region 11 with (fail)
      refine par_ext (n := 34) (by kernel_rfl) [.is (.slice (some ad) (64) (d)), .is (.int .i64 (((j : Nat) : Int))), .is (.int .i64 ((2 : Int) * ((j : Nat) : Int))), .is (.int .i64 (((bn : Nat) : Int))), .is (.int .i64 (((2 : Int) * ((j : Nat) : Int)) + ((bn : Nat) : Int))), .is (.pointer (some (ad.add (((2 * j) + bn))))), .is (.slice (E1) (32) (y1)), .is (.string (str (secretL S key ((j : Nat) : Int) ((bn : Nat) : Int)))), .is (.slice (A) (n) (c)), .is (.int .i64 (key)), .is (.int .i64 (((j : Nat) : Int))), .is (.int .i64 (((bn : Nat) : Int))), .rb (secretL S (key) (((j : Nat) : Int)) (((bn : Nat) : Int))), .is (.string (str (secretL S (key) (((j : Nat) : Int)) (((bn : Nat) : Int))))), .is (.bool (false)), .is (.bool (false)), .is (.slice (some ad) (64) (d)), .is (.int .i64 (((j : Nat) : Int))), .is (.int .i64 ((2 : Int) * ((j : Nat) : Int))), .is (.int .i64 (((2 : Int) * ((j : Nat) : Int)) + (1 : Int))), .is (.int .i64 (((bn : Nat) : Int))), .is (.int .i64 ((((2 : Int) * ((j : Nat) : Int)) + (1 : Int)) - ((bn : Nat) : Int))), .is (.pointer (some (ad.add ((((2 * j) + 1) - bn))))), .is (.slice (E2) (32) (y2)), .is (.string (str (shownL S key ((j : Nat) : Int) ((1 : Int) - ((bn : Nat) : Int))))), .is (.slice (A) (n) (c)), .is (.int .i64 (key)), .is (.int .i64 (((j : Nat) : Int))), .is (.int .i64 (((bn : Nat) : Int))), .is (.int .i64 ((1 : Int) - ((bn : Nat) : Int))), .rb (shownL S (key) (((j : Nat) : Int)) ((1 : Int) - ((bn : Nat) : Int))), .is (.string (str (shownL S (key) (((j : Nat) : Int)) ((1 : Int) - ((bn : Nat) : Int))))), .is (.bool (false)), .is (.bool (false))] rfl ⟨?_, ?_, ?_, ?_, ?_, ?_, ?_, ?_, ?_, ?_, ?_, ?_, ?_, ?_, ?_, ?_, ?_, ?_, ?_, ?_, ?_, ?_, ?_, ?_, ?_, ?_, ?_, ?_, ?_, ?_, ?_, ?_, ?_, ?_, trivial⟩ ?_
      · refine stepE rfl fun sdn sa sw sE sd sk => ?_
        have h7 : sa.eval (.tmp 7) = .slice (some ad) (64) (d) := sk.old 7 rfl
        exact Runs.move rfl h7 ⟨Ext.refl _, rfl⟩
      · refine stepE rfl fun sdn sa sw sE sd sk => ?_
        have h11 : sa.eval (.tmp 11) = .int .i64 (((j : Nat) : Int)) := sk.old 11 rfl
        exact Runs.move rfl h11 ⟨Ext.refl _, rfl⟩
      · refine stepE rfl fun sdn sa sw sE sd sk => ?_
        have h57 : sa.eval (.tmp 57) = .int .i64 (((j : Nat) : Int)) := sk.fact 1 57 rfl (sd 1 rfl)
        exact Runs.bin rfl rfl h57 (eqGuard_bin rfl) (bin_mul64 _ _ _ (by omega) (by omega)) ⟨Ext.refl _, rfl⟩
      · refine stepE rfl fun sdn sa sw sE sd sk => ?_
        have h12 : sa.eval (.tmp 12) = .int .i64 (((bn : Nat) : Int)) := sk.old 12 rfl
        exact Runs.move rfl h12 ⟨Ext.refl _, rfl⟩
      · refine stepE rfl fun sdn sa sw sE sd sk => ?_
        have h58 : sa.eval (.tmp 58) = .int .i64 ((2 : Int) * ((j : Nat) : Int)) := sk.fact 2 58 rfl (sd 2 rfl)
        have h59 : sa.eval (.tmp 59) = .int .i64 (((bn : Nat) : Int)) := sk.fact 3 59 rfl (sd 3 rfl)
        exact Runs.bin rfl h58 h59 (eqGuard_bin rfl) (bin_add64 _ _ _ (by omega) (by omega)) ⟨Ext.refl _, rfl⟩
      · refine stepE rfl fun sdn sa sw sE sd sk => ?_
        have h56 : sa.eval (.tmp 56) = .slice (some ad) (64) (d) := sk.fact 0 56 rfl (sd 0 rfl)
        have h60 : sa.eval (.tmp 60) = .int .i64 (((2 : Int) * ((j : Nat) : Int)) + ((bn : Nat) : Int)) := sk.fact 4 60 rfl (sd 4 rfl)
        exact Runs.idx rfl h56 h60 (run_idx_sl1 Try.underlying32 infSS_eq infSS_size (((2 * j) + bn)) (by omega) (by omega)) ⟨Ext.refl _, rfl⟩
      · refine stepE rfl fun sdn sa sw sE sd sk => ?_
        have h61 : sa.eval (.tmp 61) = .pointer (some (ad.add (((2 * j) + bn)))) := sk.fact 5 61 rfl (sd 5 rfl)
        exact Runs.load rfl h61 (run_load1 Try.underlying22 rfl (sE.cell hc1)) ⟨Ext.refl _, rfl⟩
      · refine stepE rfl fun sdn sa sw sE sd sk => ?_
        have h62 : sa.eval (.tmp 62) = .slice (E1) (32) (y1) := sk.fact 6 62 rfl (sd 6 rfl)
        exact Runs.conv rfl h62 (run_str (hr1.ext sE)) ⟨Ext.refl _, rfl⟩
      · refine stepE rfl fun sdn sa sw sE sd sk => ?_
        have h0 : sa.eval (.tmp 0) = .slice (A) (n) (c) := sk.old 0 rfl
        exact Runs.move rfl h0 ⟨Ext.refl _, rfl⟩
      · refine stepE rfl fun sdn sa sw sE sd sk => ?_
        have h1 : sa.eval (.tmp 1) = .int .i64 (key) := sk.old 1 rfl
        exact Runs.move rfl h1 ⟨Ext.refl _, rfl⟩
      · refine stepE rfl fun sdn sa sw sE sd sk => ?_
        have h11 : sa.eval (.tmp 11) = .int .i64 (((j : Nat) : Int)) := sk.old 11 rfl
        exact Runs.move rfl h11 ⟨Ext.refl _, rfl⟩
      · refine stepE rfl fun sdn sa sw sE sd sk => ?_
        have h12 : sa.eval (.tmp 12) = .int .i64 (((bn : Nat) : Int)) := sk.old 12 rfl
        exact Runs.move rfl h12 ⟨Ext.refl _, rfl⟩
      · refine stepE rfl fun sdn sa sw sE sd sk => ?_
        have h64 : sa.eval (.tmp 64) = .slice (A) (n) (c) := sk.fact 8 64 rfl (sd 8 rfl)
        have h65 : sa.eval (.tmp 65) = .int .i64 (key) := sk.fact 9 65 rfl (sd 9 rfl)
        have h66 : sa.eval (.tmp 66) = .int .i64 (((j : Nat) : Int)) := sk.fact 10 66 rfl (sd 10 rfl)
        have h67 : sa.eval (.tmp 67) = .int .i64 (((bn : Nat) : Int)) := sk.fact 11 67 rfl (sd 11 rfl)
        refine Runs.call (f := 34) (vs := [.slice (A) (n) (c), .int .i64 (key), .int .i64 (((j : Nat) : Int)), .int .i64 (((bn : Nat) : Int))]) rfl rfl rfl (by simp only [List.map_toArray, List.map_cons, List.map_nil, h64, h65, h66, h67] <;> rfl) (ent34 _ _) ((secret_any _ _ _ _ (key) (((j : Nat) : Int)) (((bn : Nat) : Int)) sw (rS5.ext sE) (by omega)).mono ?_); rintro e w' ⟨A', c', rfl, own, hx⟩; exact ⟨_, rfl, hx, A', 32, c', rfl, own.rb⟩
      · refine stepE rfl fun sdn sa sw sE sd sk => ?_
        obtain ⟨A68, n68, c68, h68, r68⟩ := sk.fact 12 68 rfl (sd 12 rfl)
        exact Runs.conv rfl h68 (run_str r68) ⟨Ext.refl _, rfl⟩
      · refine stepE rfl fun sdn sa sw sE sd sk => ?_
        have h63 : sa.eval (.tmp 63) = .string (str (secretL S key ((j : Nat) : Int) ((bn : Nat) : Int))) := sk.fact 7 63 rfl (sd 7 rfl)
        have h69 : sa.eval (.tmp 69) = .string (str (secretL S (key) (((j : Nat) : Int)) (((bn : Nat) : Int)))) := sk.fact 13 69 rfl (sd 13 rfl)
        exact Runs.bin rfl h63 h69 (by rfl) (bin_nes _ _ _) ⟨Ext.refl _, congrArg Value.bool (by simp)⟩
      · refine stepE rfl fun sdn sa sw sE sd sk => ?_
        have h70 : sa.eval (.tmp 70) = .bool (false) := sk.fact 14 70 rfl (sd 14 rfl)
        exact Runs.move rfl h70 ⟨Ext.refl _, rfl⟩
      · refine stepY (j := 15) (d := 71) (b := false) rfl rfl rfl (fun v w h => h) fun sdn sa sw sE sd sk => ?_
        have h7 : sa.eval (.tmp 7) = .slice (some ad) (64) (d) := sk.old 7 rfl
        exact Runs.move rfl h7 ⟨Ext.refl _, rfl⟩
      · refine stepY (j := 15) (d := 71) (b := false) rfl rfl rfl (fun v w h => h) fun sdn sa sw sE sd sk => ?_
        have h11 : sa.eval (.tmp 11) = .int .i64 (((j : Nat) : Int)) := sk.old 11 rfl
        exact Runs.move rfl h11 ⟨Ext.refl _, rfl⟩
      · refine stepY (j := 15) (d := 71) (b := false) rfl rfl rfl (fun v w h => h) fun sdn sa sw sE sd sk => ?_
        have h73 : sa.eval (.tmp 73) = .int .i64 (((j : Nat) : Int)) := sk.fact 17 73 rfl (sd 17 rfl)
        exact Runs.bin rfl rfl h73 (eqGuard_bin rfl) (bin_mul64 _ _ _ (by omega) (by omega)) ⟨Ext.refl _, rfl⟩
      · refine stepY (j := 15) (d := 71) (b := false) rfl rfl rfl (fun v w h => h) fun sdn sa sw sE sd sk => ?_
        have h74 : sa.eval (.tmp 74) = .int .i64 ((2 : Int) * ((j : Nat) : Int)) := sk.fact 18 74 rfl (sd 18 rfl)
        exact Runs.bin rfl h74 rfl (eqGuard_bin rfl) (bin_add64 _ _ _ (by omega) (by omega)) ⟨Ext.refl _, rfl⟩
      · refine stepY (j := 15) (d := 71) (b := false) rfl rfl rfl (fun v w h => h) fun sdn sa sw sE sd sk => ?_
        have h12 : sa.eval (.tmp 12) = .int .i64 (((bn : Nat) : Int)) := sk.old 12 rfl
        exact Runs.move rfl h12 ⟨Ext.refl _, rfl⟩
      · refine stepY (j := 15) (d := 71) (b := false) rfl rfl rfl (fun v w h => h) fun sdn sa sw sE sd sk => ?_
        have h75 : sa.eval (.tmp 75) = .int .i64 (((2 : Int) * ((j : Nat) : Int)) + (1 : Int)) := sk.fact 19 75 rfl (sd 19 rfl)
        have h76 : sa.eval (.tmp 76) = .int .i64 (((bn : Nat) : Int)) := sk.fact 20 76 rfl (sd 20 rfl)
        exact Runs.bin rfl h75 h76 (eqGuard_bin rfl) (bin_sub64 _ _ _ (by omega) (by omega)) ⟨Ext.refl _, rfl⟩
      · refine stepY (j := 15) (d := 71) (b := false) rfl rfl rfl (fun v w h => h) fun sdn sa sw sE sd sk => ?_
        have h72 : sa.eval (.tmp 72) = .slice (some ad) (64) (d) := sk.fact 16 72 rfl (sd 16 rfl)
        have h77 : sa.eval (.tmp 77) = .int .i64 ((((2 : Int) * ((j : Nat) : Int)) + (1 : Int)) - ((bn : Nat) : Int)) := sk.fact 21 77 rfl (sd 21 rfl)
        exact Runs.idx rfl h72 h77 (run_idx_sl1 Try.underlying32 infSS_eq infSS_size ((((2 * j) + 1) - bn)) (by omega) (by omega)) ⟨Ext.refl _, rfl⟩
      · refine stepY (j := 15) (d := 71) (b := false) rfl rfl rfl (fun v w h => h) fun sdn sa sw sE sd sk => ?_
        have h78 : sa.eval (.tmp 78) = .pointer (some (ad.add ((((2 * j) + 1) - bn)))) := sk.fact 22 78 rfl (sd 22 rfl)
        exact Runs.load rfl h78 (run_load1 Try.underlying22 rfl (sE.cell hc2)) ⟨Ext.refl _, rfl⟩
      · refine stepY (j := 15) (d := 71) (b := false) rfl rfl rfl (fun v w h => h) fun sdn sa sw sE sd sk => ?_
        have h79 : sa.eval (.tmp 79) = .slice (E2) (32) (y2) := sk.fact 23 79 rfl (sd 23 rfl)
        exact Runs.conv rfl h79 (run_str (hr2.ext sE)) ⟨Ext.refl _, rfl⟩
      · refine stepY (j := 15) (d := 71) (b := false) rfl rfl rfl (fun v w h => h) fun sdn sa sw sE sd sk => ?_
        have h0 : sa.eval (.tmp 0) = .slice (A) (n) (c) := sk.old 0 rfl
        exact Runs.move rfl h0 ⟨Ext.refl _, rfl⟩
      · refine stepY (j := 15) (d := 71) (b := false) rfl rfl rfl (fun v w h => h) fun sdn sa sw sE sd sk => ?_
        have h1 : sa.eval (.tmp 1) = .int .i64 (key) := sk.old 1 rfl
        exact Runs.move rfl h1 ⟨Ext.refl _, rfl⟩
      · refine stepY (j := 15) (d := 71) (b := false) rfl rfl rfl (fun v w h => h) fun sdn sa sw sE sd sk => ?_
        have h11 : sa.eval (.tmp 11) = .int .i64 (((j : Nat) : Int)) := sk.old 11 rfl
        exact Runs.move rfl h11 ⟨Ext.refl _, rfl⟩
      · refine stepY (j := 15) (d := 71) (b := false) rfl rfl rfl (fun v w h => h) fun sdn sa sw sE sd sk => ?_
        have h12 : sa.eval (.tmp 12) = .int .i64 (((bn : Nat) : Int)) := sk.old 12 rfl
        exact Runs.move rfl h12 ⟨Ext.refl _, rfl⟩
      · refine stepY (j := 15) (d := 71) (b := false) rfl rfl rfl (fun v w h => h) fun sdn sa sw sE sd sk => ?_
        have h84 : sa.eval (.tmp 84) = .int .i64 (((bn : Nat) : Int)) := sk.fact 28 84 rfl (sd 28 rfl)
        exact Runs.bin rfl rfl h84 (eqGuard_bin rfl) (bin_sub64 _ _ _ (by omega) (by omega)) ⟨Ext.refl _, rfl⟩
      · refine stepY (j := 15) (d := 71) (b := false) rfl rfl rfl (fun v w h => h) fun sdn sa sw sE sd sk => ?_
        have h81 : sa.eval (.tmp 81) = .slice (A) (n) (c) := sk.fact 25 81 rfl (sd 25 rfl)
        have h82 : sa.eval (.tmp 82) = .int .i64 (key) := sk.fact 26 82 rfl (sd 26 rfl)
        have h83 : sa.eval (.tmp 83) = .int .i64 (((j : Nat) : Int)) := sk.fact 27 83 rfl (sd 27 rfl)
        have h85 : sa.eval (.tmp 85) = .int .i64 ((1 : Int) - ((bn : Nat) : Int)) := sk.fact 29 85 rfl (sd 29 rfl)
        refine Runs.call (f := 36) (vs := [.slice (A) (n) (c), .int .i64 (key), .int .i64 (((j : Nat) : Int)), .int .i64 ((1 : Int) - ((bn : Nat) : Int))]) rfl rfl rfl (by simp only [List.map_toArray, List.map_cons, List.map_nil, h81, h82, h83, h85] <;> rfl) (ent36 _ _) ((shown_any _ _ _ _ (key) (((j : Nat) : Int)) ((1 : Int) - ((bn : Nat) : Int)) sw (rS5.ext sE) (by omega)).mono ?_); rintro e w' ⟨A', c', rfl, own, hx⟩; exact ⟨_, rfl, hx, A', 32, c', rfl, own.rb⟩
      · refine stepY (j := 15) (d := 71) (b := false) rfl rfl rfl (fun v w h => h) fun sdn sa sw sE sd sk => ?_
        obtain ⟨A86, n86, c86, h86, r86⟩ := sk.fact 30 86 rfl (sd 30 rfl)
        exact Runs.conv rfl h86 (run_str r86) ⟨Ext.refl _, rfl⟩
      · refine stepY (j := 15) (d := 71) (b := false) rfl rfl rfl (fun v w h => h) fun sdn sa sw sE sd sk => ?_
        have h80 : sa.eval (.tmp 80) = .string (str (shownL S key ((j : Nat) : Int) ((1 : Int) - ((bn : Nat) : Int)))) := sk.fact 24 80 rfl (sd 24 rfl)
        have h87 : sa.eval (.tmp 87) = .string (str (shownL S (key) (((j : Nat) : Int)) ((1 : Int) - ((bn : Nat) : Int)))) := sk.fact 31 87 rfl (sd 31 rfl)
        exact Runs.bin rfl h80 h87 (by rfl) (bin_nes _ _ _) ⟨Ext.refl _, congrArg Value.bool (by simp)⟩
      · refine stepE rfl fun sdn sa sw sE sd sk => ?_
        have h71 : sa.eval (.tmp 71) = .bool (false) := sk.fact 15 71 rfl (sd 15 rfl)
        have h88 : sa.eval (.tmp 88) = .bool (false) := sk.fact 32 88 rfl (sd 32 rfl)
        exact Runs.pick rfl h71 ⟨Ext.refl _, by first | exact h88 | simpa using h88⟩
      intro vals W8 hE2 hv2
      have e0 : vals 0 = .slice (some ad) (64) (d) := hv2 0 (by omega) 56 rfl
      have e1 : vals 1 = .int .i64 (((j : Nat) : Int)) := hv2 1 (by omega) 57 rfl
      have e2 : vals 2 = .int .i64 ((2 : Int) * ((j : Nat) : Int)) := hv2 2 (by omega) 58 rfl
      have e3 : vals 3 = .int .i64 (((bn : Nat) : Int)) := hv2 3 (by omega) 59 rfl
      have e4 : vals 4 = .int .i64 (((2 : Int) * ((j : Nat) : Int)) + ((bn : Nat) : Int)) := hv2 4 (by omega) 60 rfl
      have e5 : vals 5 = .pointer (some (ad.add (((2 * j) + bn)))) := hv2 5 (by omega) 61 rfl
      have e6 : vals 6 = .slice (E1) (32) (y1) := hv2 6 (by omega) 62 rfl
      have e7 : vals 7 = .string (str (secretL S key ((j : Nat) : Int) ((bn : Nat) : Int))) := hv2 7 (by omega) 63 rfl
      have e8 : vals 8 = .slice (A) (n) (c) := hv2 8 (by omega) 64 rfl
      have e9 : vals 9 = .int .i64 (key) := hv2 9 (by omega) 65 rfl
      have e10 : vals 10 = .int .i64 (((j : Nat) : Int)) := hv2 10 (by omega) 66 rfl
      have e11 : vals 11 = .int .i64 (((bn : Nat) : Int)) := hv2 11 (by omega) 67 rfl
      obtain ⟨A68, n68, c68, e12, r68⟩ := hv2 12 (by omega) 68 rfl
      have e13 : vals 13 = .string (str (secretL S (key) (((j : Nat) : Int)) (((bn : Nat) : Int)))) := hv2 13 (by omega) 69 rfl
      have e14 : vals 14 = .bool (false) := hv2 14 (by omega) 70 rfl
      have e15 : vals 15 = .bool (false) := hv2 15 (by omega) 71 rfl
      have e16 : vals 16 = .slice (some ad) (64) (d) := hv2 16 (by omega) 72 rfl
      have e17 : vals 17 = .int .i64 (((j : Nat) : Int)) := hv2 17 (by omega) 73 rfl
      have e18 : vals 18 = .int .i64 ((2 : Int) * ((j : Nat) : Int)) := hv2 18 (by omega) 74 rfl
      have e19 : vals 19 = .int .i64 (((2 : Int) * ((j : Nat) : Int)) + (1 : Int)) := hv2 19 (by omega) 75 rfl
      have e20 : vals 20 = .int .i64 (((bn : Nat) : Int)) := hv2 20 (by omega) 76 rfl
      have e21 : vals 21 = .int .i64 ((((2 : Int) * ((j : Nat) : Int)) + (1 : Int)) - ((bn : Nat) : Int)) := hv2 21 (by omega) 77 rfl
      have e22 : vals 22 = .pointer (some (ad.add ((((2 * j) + 1) - bn)))) := hv2 22 (by omega) 78 rfl
      have e23 : vals 23 = .slice (E2) (32) (y2) := hv2 23 (by omega) 79 rfl
      have e24 : vals 24 = .string (str (shownL S key ((j : Nat) : Int) ((1 : Int) - ((bn : Nat) : Int)))) := hv2 24 (by omega) 80 rfl
      have e25 : vals 25 = .slice (A) (n) (c) := hv2 25 (by omega) 81 rfl
      have e26 : vals 26 = .int .i64 (key) := hv2 26 (by omega) 82 rfl
      have e27 : vals 27 = .int .i64 (((j : Nat) : Int)) := hv2 27 (by omega) 83 rfl
      have e28 : vals 28 = .int .i64 (((bn : Nat) : Int)) := hv2 28 (by omega) 84 rfl
      have e29 : vals 29 = .int .i64 ((1 : Int) - ((bn : Nat) : Int)) := hv2 29 (by omega) 85 rfl
      obtain ⟨A86, n86, c86, e30, r86⟩ := hv2 30 (by omega) 86 rfl
      have e31 : vals 31 = .string (str (shownL S (key) (((j : Nat) : Int)) ((1 : Int) - ((bn : Nat) : Int)))) := hv2 31 (by omega) 87 rfl
      have e32 : vals 32 = .bool (false) := hv2 32 (by omega) 88 rfl
      have e33 : vals 33 = .bool (false) := hv2 33 (by omega) 89 rfl
      simp only [putAll, Act.put, List.take_succ_cons, List.take_zero, List.drop_succ_cons, List.drop_zero, List.drop_nil, List.take_nil, Nat.reduceAdd, List.setIfInBounds_toArray, List.set_cons_succ, List.set_cons_zero, e0, e1, e2, e3, e4, e5, e6, e7, e8, e9, e10, e11, e12, e13, e14, e15, e16, e17, e18, e19, e20, e21, e22, e23, e24, e25, e26, e27, e28, e29, e30, e31, e32, e33]
      clear hv2 e0 e1 e2 e3 e4 e5 e6 e7 e8 e9 e10 e11 e12 e13 e14 e15 e16 e17 e18 e19 e20 e21 e22 e23 e24 e25 e26 e27 e28 e29 e30 e31 e32 e33
      go_wp2_with fail
      go_roundw
      case rel => exact ⟨j + 1, by omega, by go_num, hEr1.trans hE2⟩
      case measure => simp [intOf]; omega
    · obtain rfl : j = 32 := by omega
      go_wp2_with fail
      refine (known4_any wr).mono ?_
      rintro e w9 ⟨rfl, hE9⟩
      go_wp2_with fail
      go_ret
      exact ⟨rfl, hE26.trans (hEr.trans hE9)⟩
end Go.Proofs.Ytmgnigofilkfmaa
