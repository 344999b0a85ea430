/-
  law5.SignBack, walked.
-/
import Derived.Test.YtmgnigofilkfmabDecG
import Derived.Test.YtmgnigofilkfmabParSp
import Derived.Test.YtmgnigofilkfmabSTurned
namespace Go.Proofs.Ytmgnigofilkfmab
set_option maxRecDepth 100000
open Go Go.RowKit
theorem spok_em (n b : Nat) : SpOK n (MP.em b) := by
  rintro u w g x cur hg hn ⟨g', h1, h2⟩
  exact ⟨g', h1, rfl, h2.room, h2.cap, fun h => absurd h (Nat.lt_irrefl _)⟩
theorem rightB_own (S M : List UInt8) (k : Nat) (hk : k < 16) : rightB (k : Int) ((List.range 64).map (partS (digestW M) S k)) (pathL S k) = true := by
  have h := verB_own S M k hk
  unfold verB at h
  simp only [Bool.and_eq_true] at h
  exact h.1
def MP.rbbk (n : Nat) (Ls : List (List UInt8)) : MP Ext := ⟨fun u w => ∃ A c, u = .slice A n c ∧ RBB w A n c Ls, fun _ _ _ e ⟨A, c, h1, h2⟩ => ⟨A, c, h1, h2.ext e⟩⟩
theorem turn_ne {PS : List (List UInt8)} {i : Nat} {t : UInt8} (hi : i < PS.length) (hl : 0 < (lb PS i).length) (ht : t ≠ 0) : PS ≠ PS.set i ((lb PS i).set 0 (ub (lb PS i) 0 ^^^ t)) := by
  intro e
  have h1 : lb (PS.set i ((lb PS i).set 0 (ub (lb PS i) 0 ^^^ t))) i = (lb PS i).set 0 (ub (lb PS i) 0 ^^^ t) := by rw [lb_set hi, if_pos rfl]
  rw [← e] at h1
  exact xor_byte_ne hl ht h1.symm
def BackI (w1 : World) (i : Value) (wr : World) : Prop := ∃ j : Nat, j ≤ 5 ∧ i = .int .i64 j ∧ Ext w1 wr
set_option maxHeartbeats 16000000 in
theorem sback_law (C D : Option Addr) (m e' nb cb : Nat) (M0 Lb : List UInt8) (n index at' : Int) (t : UInt8) (w : World) (hq : RB w C m e' M0) (hb : RB w D nb cb Lb)
    (hk0 : -9223372036854775808 ≤ n) (hk1 : n ≤ 9223372036854775807) (hi0 : -9223372036854775808 ≤ index) (hi1 : index ≤ 9223372036854775807) (ha0 : -9223372036854775808 ≤ at') (ha1 : at' ≤ 9223372036854775807) :
    Calls Try.prog 14 #[.int .i64 n, .int .i64 index, .slice C m e', .int .i64 at', .int .u8 (u8i t), .slice D nb cb] w fun e w' => e = .returned (.bool true) ∧ Ext w w' := by
  have hsd := fun w' => seed_any n w' hk0 hk1
  have Hsd := Lib.hid hsd
  obtain ⟨k, hk⟩ : ∃ k : Nat, within index 0 15 = k := ⟨_, (Int.toNat_of_nonneg (within_in index 0 15 (by omega)).1).symm⟩
  have hk16 : k < 16 := by have := (within_in index 0 15 (by omega)).2; omega
  have hwi := fun w' => within_any index 0 15 w' hi0 hi1 (by omega) (by omega) (by omega)
  rw [hk] at hwi
  have Hwi := Lib.hid hwi
  obtain ⟨i, hi⟩ : ∃ i : Nat, within at' 0 2179 = i := ⟨_, (Int.toNat_of_nonneg (within_in at' 0 2179 (by omega)).1).symm⟩
  have hi79 : i < 2180 := by have := (within_in at' 0 2179 (by omega)).2; omega
  have hwa := fun w' => within_any at' 0 2179 w' ha0 ha1 (by omega) (by omega) (by omega)
  rw [hi] at hwa
  have Hwa := Lib.hid hwa
  have e100 : ((100 : Nat) : Int) = 100 := rfl
  have hcu := fun (w' : World) (hE : Ext w w') => cut_any C m e' 100 M0 w' (hq.ext hE) (by omega)
  rw [e100] at hcu
  have hm1 : min m 100 ≤ 100 := by omega
  obtain ⟨m1, hm⟩ : ∃ m1, m1 = min m 100 := ⟨_, rfl⟩
  rw [← hm] at hcu hm1
  generalize M0.take 100 = M at *
  have Hcu := Lib.hid hcu
  clear hsd hwi hk hwa hi e100 hcu hm hq
  go_enter Try.func14, Try.ntmps14
  go_wp2_with fail
  refine (Hsd.out w).mono ?_
  rintro e w1 ⟨A1, c1, rfl, own1, hE1⟩
  clear Hsd
  generalize seedL n = S at *
  have rS1 := own1.rb
  go_wp2_with fail
  refine (Hwi.out _).mono ?_
  rintro e wz ⟨rfl, rfl⟩
  clear Hwi
  go_wp2_with fail
  refine (Hcu.out _ hE1).mono ?_
  rintro e wz ⟨⟨rfl, rM1⟩, rfl⟩
  go_wp2_with fail
  have hsg := ssign_any A1 C c1 m1 e' k S M _ rS1 rM1 (by omega) hk16
  have hv3 := verB_own S M k hk16
  have hrb := rightB_own S M k hk16
  have hpl := partsS_32 (digestW M) S (k : Int)
  have hql := pathL_32 S hk16
  have hpn : ((List.range 64).map (partS (digestW M) S (k : Int))).length = 64 := by simp
  have hqn : (pathL S k).length = 4 := by simp [pathL]
  obtain ⟨PS, hPS⟩ : ∃ PS, PS = (List.range 64).map (partS (digestW M) S (k : Int)) := ⟨_, rfl⟩
  obtain ⟨QS, hQS⟩ : ∃ QS, QS = pathL S k := ⟨_, rfl⟩
  rw [← hPS, ← hQS] at hsg hv3 hrb
  rw [← hPS] at hpl hpn
  rw [← hQS] at hql hqn
  obtain ⟨d1, d2, d3, d4⟩ := dec_enc5 hk16 hpn hqn hpl hql
  have Hrb := Lib.hid hrb
  have Hv3 := Lib.hid hv3
  have Hpl := Lib.hid hpl
  have Hql := Lib.hid hql
  have Hpn := Lib.hid hpn
  have Hd := Lib.hid (And.intro ((decOK5_iff _).2 d1) (And.intro d2 (And.intro d3 d4)))
  have Hel := Lib.hid d1.1
  refine hsg.mono ?_
  rintro e w2 ⟨P, d, Q', d', rfl, rPs, rQs, hE2⟩
  clear hsg hv3 hrb hpl hql hpn hqn hPS hQS d1 d2 d3 d4 own1
  obtain ⟨EL, hEL⟩ : ∃ EL, EL = encS (k : Int) PS QS := ⟨_, rfl⟩
  rw [← hEL] at Hd Hel
  have hE3 := Ext.new w2 (.cells #[.int .i64 (k : Int), .slice P 64 d, .slice Q' 4 d'] 52)
  have hB3 := Blk.new w2 52 #[.int .i64 (k : Int), .slice P 64 d, .slice Q' 4 d']
  have rPs := rPs.ext hE3
  have rQs := rQs.ext hE3
  have hE23 := hE2.trans hE3
  have rM3 := rM1.ext hE23
  have hEa := hE1.trans hE23
  have rS3 := rS1.ext hE23
  have y0 := hB3.cell (i := 0) (v := .int .i64 (k : Int)) rfl
  have y1 := hB3.cell (i := 1) (v := .slice P 64 d) rfl
  have y2 := hB3.cell (i := 2) (v := .slice Q' 4 d') rfl
  clear hE1 hE2 hE3 hE23 rS1 rM1
  go_wp2_with fail
  generalize w2.alloc (.cells #[.int .i64 (k : Int), .slice P 64 d, .slice Q' 4 d'] 52) = w3 at *
  refine (sencode_any (k : Int) P Q' 64 d 4 d' PS QS w3 rPs rQs).mono ?_
  rintro e w4 ⟨hyes, _, hE4⟩
  obtain ⟨X, dx, rfl, ownX⟩ := hyes Hrb.out
  rw [← hEL] at ownX
  clear hyes y0 y1 y2 hEL
  go_wp2_with fail
  refine (sdecode_any X 2180 dx EL w4 ownX.rb (by omega)).mono ?_
  rintro e w5 ⟨hyes, _, hE5⟩
  obtain ⟨P2, f2, Q2, f2', rfl, oP2, oQ2⟩ := hyes Hd.out.1
  rw [Hd.out.2.1]
  rw [Hd.out.2.2.1] at oP2
  rw [Hd.out.2.2.2] at oQ2
  clear hyes
  have hE6 := Ext.new w5 (.cells #[.int .i64 (k : Int), .slice P2 64 f2, .slice Q2 4 f2'] 52)
  have hB6 := Blk.new w5 52 #[.int .i64 (k : Int), .slice P2 64 f2, .slice Q2 4 f2']
  have oP2 := oP2.ext hE6
  have oQ2 := oQ2.ext hE6
  have hE46 := hE5.trans hE6
  have hE36 := hE4.trans hE46
  have own6 := ownX.ext hE46
  have hEa6 := hEa.trans hE36
  have hB36 := hB3.ext hE36
  have rPs6 := rPs.ext hE36
  have rQs6 := rQs.ext hE36
  have rS6 := rS3.ext hE36
  have rM6 := rM3.ext hE36
  have hgx := fun g (e : blk X = some g) => (ownX.lt e)
  clear hE5 hE6 hE4 ownX
  go_upto_region 5 with (fail)
  generalize w5.alloc (.cells #[.int .i64 (k : Int), .slice P2 64 f2, .slice Q2 4 f2'] 52) = w6 at *
  refine par_ext (n := 36) (by kernel_rfl) [.is (.int .i64 ((0 : Int))), .is (.bool (false)), .is (.bool (false)), .is (.int .i64 ((0 : Int))), .is (.bool (false)), .is (.bool (false)), .is (.bool (false)), .is (.int .i64 ((0 : Int))), .is (.bool (false)), .is (.bool (false)), .is (.bool (false)), .is (.agg #[.int .i64 (k : Int), .slice P 64 d, .slice Q' 4 d']), .is (.agg #[.int .i64 (k : Int), .slice P2 64 f2, .slice Q2 4 f2']), .is (.bool (true)), .is (.bool (false)), .is (.bool (false)), .is (.bool (false)), .is (.agg #[.int .i64 (k : Int), .slice P 64 d, .slice Q' 4 d']), .is (.agg #[.int .i64 (k : Int), .slice P2 64 f2, .slice Q2 4 f2']), .is (.bool (true)), .is (.bool (false)), .is (.bool (false)), .is (.bool (false)), .is (.slice (A1) (32) (c1)), .rb (ownP S), .is (.slice (C) (m) (e')), .is (.slice (C) (m1) (e')), .is (.agg #[.int .i64 (k : Int), .slice P2 64 f2, .slice Q2 4 f2']), .is (.bool (true)), .is (.bool (false)), .is (.bool (false)), .is (.bool (false)), .is (.slice (X) (2180) (dx)), .is (.int .i64 ((2180 : Nat))), .is (.bool (false)), .is (.bool (false))] rfl ⟨?_, ?_, ?_, ?_, ?_, ?_, ?_, ?_, ?_, ?_, ?_, ?_, ?_, ?_, ?_, ?_, ?_, ?_, ?_, ?_, ?_, ?_, ?_, ?_, ?_, ?_, ?_, ?_, ?_, ?_, ?_, ?_, ?_, ?_, ?_, ?_, trivial⟩ ?_
  · refine stepE rfl fun sdn sa sw sE sd sk => ?_
    have h15 : sa.eval (.tmp 15) = .int .i64 ((0 : Int)) := sk.old 15 rfl
    exact Runs.move rfl h15 ⟨Ext.refl _, rfl⟩
  · refine stepE rfl fun sdn sa sw sE sd sk => ?_
    have h47 : sa.eval (.tmp 47) = .int .i64 ((0 : Int)) := sk.fact 0 47 rfl (sd 0 rfl)
    exact Runs.bin rfl h47 rfl (by rfl) (bin_neq _ _ _ _) ⟨Ext.refl _, congrArg Value.bool (by decide)⟩
  · refine stepE rfl fun sdn sa sw sE sd sk => ?_
    have h48 : sa.eval (.tmp 48) = .bool (false) := sk.fact 1 48 rfl (sd 1 rfl)
    exact Runs.move rfl h48 ⟨Ext.refl _, rfl⟩
  · refine stepY (j := 2) (d := 49) (b := false) rfl rfl rfl (fun v w h => h) fun sdn sa sw sE sd sk => ?_
    have h17 : sa.eval (.tmp 17) = .int .i64 ((0 : Int)) := sk.old 17 rfl
    exact Runs.move rfl h17 ⟨Ext.refl _, rfl⟩
  · refine stepY (j := 2) (d := 49) (b := false) rfl rfl rfl (fun v w h => h) fun sdn sa sw sE sd sk => ?_
    have h50 : sa.eval (.tmp 50) = .int .i64 ((0 : Int)) := sk.fact 3 50 rfl (sd 3 rfl)
    exact Runs.bin rfl h50 rfl (by rfl) (bin_neq _ _ _ _) ⟨Ext.refl _, congrArg Value.bool (by decide)⟩
  · refine stepE rfl fun sdn sa sw sE sd sk => ?_
    have h49 : sa.eval (.tmp 49) = .bool (false) := sk.fact 2 49 rfl (sd 2 rfl)
    have h51 : sa.eval (.tmp 51) = .bool (false) := sk.fact 4 51 rfl (sd 4 rfl)
    exact Runs.pick rfl h49 ⟨Ext.refl _, by first | exact h51 | simpa using h51⟩
  · refine stepE rfl fun sdn sa sw sE sd sk => ?_
    have h52 : sa.eval (.tmp 52) = .bool (false) := sk.fact 5 52 rfl (sd 5 rfl)
    exact Runs.move rfl h52 ⟨Ext.refl _, rfl⟩
  · refine stepY (j := 6) (d := 53) (b := false) rfl rfl rfl (fun v w h => h) fun sdn sa sw sE sd sk => ?_
    have h19 : sa.eval (.tmp 19) = .int .i64 ((0 : Int)) := sk.old 19 rfl
    exact Runs.move rfl h19 ⟨Ext.refl _, rfl⟩
  · refine stepY (j := 6) (d := 53) (b := false) rfl rfl rfl (fun v w h => h) fun sdn sa sw sE sd sk => ?_
    have h54 : sa.eval (.tmp 54) = .int .i64 ((0 : Int)) := sk.fact 7 54 rfl (sd 7 rfl)
    exact Runs.bin rfl h54 rfl (by rfl) (bin_neq _ _ _ _) ⟨Ext.refl _, congrArg Value.bool (by decide)⟩
  · refine stepE rfl fun sdn sa sw sE sd sk => ?_
    have h53 : sa.eval (.tmp 53) = .bool (false) := sk.fact 6 53 rfl (sd 6 rfl)
    have h55 : sa.eval (.tmp 55) = .bool (false) := sk.fact 8 55 rfl (sd 8 rfl)
    exact Runs.pick rfl h53 ⟨Ext.refl _, by first | exact h55 | simpa using h55⟩
  · refine stepE rfl fun sdn sa sw sE sd sk => ?_
    have h56 : sa.eval (.tmp 56) = .bool (false) := sk.fact 9 56 rfl (sd 9 rfl)
    exact Runs.move rfl h56 ⟨Ext.refl _, rfl⟩
  · refine stepY (j := 10) (d := 57) (b := false) rfl rfl rfl (fun v w h => h) fun sdn sa sw sE sd sk => ?_
    have h14 : sa.eval (.tmp 14) = .pointer (some ⟨w2.heap.size, 0, none⟩) := sk.old 14 rfl
    exact Runs.load rfl h14 (load_sig (hB36.ext sE)) ⟨Ext.refl _, rfl⟩
  · refine stepY (j := 10) (d := 57) (b := false) rfl rfl rfl (fun v w h => h) fun sdn sa sw sE sd sk => ?_
    have h18 : sa.eval (.tmp 18) = .pointer (some ⟨w5.heap.size, 0, none⟩) := sk.old 18 rfl
    exact Runs.load rfl h18 (load_sig (hB6.ext sE)) ⟨Ext.refl _, rfl⟩
  · refine stepY (j := 10) (d := 57) (b := false) rfl rfl rfl (fun v w h => h) fun sdn sa sw sE sd sk => ?_
    have h58 : sa.eval (.tmp 58) = .agg #[.int .i64 (k : Int), .slice P 64 d, .slice Q' 4 d'] := sk.fact 11 58 rfl (sd 11 rfl)
    have h59 : sa.eval (.tmp 59) = .agg #[.int .i64 (k : Int), .slice P2 64 f2, .slice Q2 4 f2'] := sk.fact 12 59 rfl (sd 12 rfl)
    refine Runs.call (f := 44) (vs := [.agg #[.int .i64 (k : Int), .slice P 64 d, .slice Q' 4 d'], .agg #[.int .i64 (k : Int), .slice P2 64 f2, .slice Q2 4 f2']]) rfl rfl rfl (by simp only [List.map_toArray, List.map_cons, List.map_nil, h58, h59] <;> rfl) (ent44 _ _) ((ssame_any (k : Int) (k : Int) _ _ _ _ _ _ _ _ _ _ _ _ PS QS PS QS sw (rPs6.ext sE) (rQs6.ext sE) (oP2.obc.rbb.ext sE) (oQ2.obc.rbb.ext sE)).mono ?_); rintro e w' ⟨rfl, hx⟩; exact ⟨_, rfl, hx, congrArg Value.bool (sigEq_yes _ _ _)⟩
  · refine stepY (j := 10) (d := 57) (b := false) rfl rfl rfl (fun v w h => h) fun sdn sa sw sE sd sk => ?_
    have h60 : sa.eval (.tmp 60) = .bool (true) := sk.fact 13 60 rfl (sd 13 rfl)
    exact Runs.un rfl h60 (by rfl) ⟨Ext.refl _, rfl⟩
  · refine stepE rfl fun sdn sa sw sE sd sk => ?_
    have h57 : sa.eval (.tmp 57) = .bool (false) := sk.fact 10 57 rfl (sd 10 rfl)
    have h61 : sa.eval (.tmp 61) = .bool (false) := sk.fact 14 61 rfl (sd 14 rfl)
    exact Runs.pick rfl h57 ⟨Ext.refl _, by first | exact h61 | simpa using h61⟩
  · refine stepE rfl fun sdn sa sw sE sd sk => ?_
    have h62 : sa.eval (.tmp 62) = .bool (false) := sk.fact 15 62 rfl (sd 15 rfl)
    exact Runs.move rfl h62 ⟨Ext.refl _, rfl⟩
  · refine stepY (j := 16) (d := 63) (b := false) rfl rfl rfl (fun v w h => h) fun sdn sa sw sE sd sk => ?_
    have h14 : sa.eval (.tmp 14) = .pointer (some ⟨w2.heap.size, 0, none⟩) := sk.old 14 rfl
    exact Runs.load rfl h14 (load_sig (hB36.ext sE)) ⟨Ext.refl _, rfl⟩
  · refine stepY (j := 16) (d := 63) (b := false) rfl rfl rfl (fun v w h => h) fun sdn sa sw sE sd sk => ?_
    have h18 : sa.eval (.tmp 18) = .pointer (some ⟨w5.heap.size, 0, none⟩) := sk.old 18 rfl
    exact Runs.load rfl h18 (load_sig (hB6.ext sE)) ⟨Ext.refl _, rfl⟩
  · refine stepY (j := 16) (d := 63) (b := false) rfl rfl rfl (fun v w h => h) fun sdn sa sw sE sd sk => ?_
    have h64 : sa.eval (.tmp 64) = .agg #[.int .i64 (k : Int), .slice P 64 d, .slice Q' 4 d'] := sk.fact 17 64 rfl (sd 17 rfl)
    have h65 : sa.eval (.tmp 65) = .agg #[.int .i64 (k : Int), .slice P2 64 f2, .slice Q2 4 f2'] := sk.fact 18 65 rfl (sd 18 rfl)
    refine Runs.call (f := 39) (vs := [.agg #[.int .i64 (k : Int), .slice P 64 d, .slice Q' 4 d'], .agg #[.int .i64 (k : Int), .slice P2 64 f2, .slice Q2 4 f2']]) rfl rfl rfl (by simp only [List.map_toArray, List.map_cons, List.map_nil, h64, h65] <;> rfl) (ent39 _ _) ((rsame_true _ _ _ _ _ _ _ _ _ _ _ _ _ _ _ sw (rPs6.ext sE) (rQs6.ext sE) (oP2.obc.rbb.ext sE) (oQ2.obc.rbb.ext sE)).mono ?_); rintro e w' ⟨rfl, hx⟩; exact ⟨_, rfl, hx, rfl⟩
  · refine stepY (j := 16) (d := 63) (b := false) rfl rfl rfl (fun v w h => h) fun sdn sa sw sE sd sk => ?_
    have h66 : sa.eval (.tmp 66) = .bool (true) := sk.fact 19 66 rfl (sd 19 rfl)
    exact Runs.un rfl h66 (by rfl) ⟨Ext.refl _, rfl⟩
  · refine stepE rfl fun sdn sa sw sE sd sk => ?_
    have h63 : sa.eval (.tmp 63) = .bool (false) := sk.fact 16 63 rfl (sd 16 rfl)
    have h67 : sa.eval (.tmp 67) = .bool (false) := sk.fact 20 67 rfl (sd 20 rfl)
    exact Runs.pick rfl h63 ⟨Ext.refl _, by first | exact h67 | simpa using h67⟩
  · refine stepE rfl fun sdn sa sw sE sd sk => ?_
    have h68 : sa.eval (.tmp 68) = .bool (false) := sk.fact 21 68 rfl (sd 21 rfl)
    exact Runs.move rfl h68 ⟨Ext.refl _, rfl⟩
  · refine stepY (j := 22) (d := 69) (b := false) rfl rfl rfl (fun v w h => h) fun sdn sa sw sE sd sk => ?_
    have h13 : sa.eval (.tmp 13) = .slice (A1) (32) (c1) := sk.old 13 rfl
    exact Runs.move rfl h13 ⟨Ext.refl _, rfl⟩
  · refine stepY (j := 22) (d := 69) (b := false) rfl rfl rfl (fun v w h => h) fun sdn sa sw sE sd sk => ?_
    have h70 : sa.eval (.tmp 70) = .slice (A1) (32) (c1) := sk.fact 23 70 rfl (sd 23 rfl)
    refine Runs.call (f := 31) (vs := [.slice (A1) (32) (c1)]) rfl rfl rfl (by simp only [List.map_toArray, List.map_cons, List.map_nil, h70] <;> rfl) (ent31 _ _) ((spublic_any _ _ _ sw (rS6.ext sE)).mono ?_); rintro e w' ⟨A', c', rfl, own, hx⟩; exact ⟨_, rfl, hx, A', 32, c', rfl, own.rb⟩
  · refine stepY (j := 22) (d := 69) (b := false) rfl rfl rfl (fun v w h => h) fun sdn sa sw sE sd sk => ?_
    have h2 : sa.eval (.tmp 2) = .slice (C) (m) (e') := sk.old 2 rfl
    exact Runs.move rfl h2 ⟨Ext.refl _, rfl⟩
  · refine stepY (j := 22) (d := 69) (b := false) rfl rfl rfl (fun v w h => h) fun sdn sa sw sE sd sk => ?_
    have h72 : sa.eval (.tmp 72) = .slice (C) (m) (e') := sk.fact 25 72 rfl (sd 25 rfl)
    refine Runs.call (f := 18) (vs := [.slice (C) (m) (e'), .int .i64 (100 : Int)]) rfl rfl rfl (by simp only [List.map_toArray, List.map_cons, List.map_nil, h72] <;> rfl) (ent18 _ _) ((Hcu.out sw (hEa6.trans sE)).mono ?_); rintro e w' ⟨⟨rfl, _⟩, rfl⟩; exact ⟨_, rfl, Ext.refl _, rfl⟩
  · refine stepY (j := 22) (d := 69) (b := false) rfl rfl rfl (fun v w h => h) fun sdn sa sw sE sd sk => ?_
    have h18 : sa.eval (.tmp 18) = .pointer (some ⟨w5.heap.size, 0, none⟩) := sk.old 18 rfl
    exact Runs.load rfl h18 (load_sig (hB6.ext sE)) ⟨Ext.refl _, rfl⟩
  · refine stepY (j := 22) (d := 69) (b := false) rfl rfl rfl (fun v w h => h) fun sdn sa sw sE sd sk => ?_
    obtain ⟨A71, n71, c71, h71, r71⟩ := sk.fact 24 71 rfl (sd 24 rfl)
    have h73 : sa.eval (.tmp 73) = .slice (C) (m1) (e') := sk.fact 26 73 rfl (sd 26 rfl)
    have h74 : sa.eval (.tmp 74) = .agg #[.int .i64 (k : Int), .slice P2 64 f2, .slice Q2 4 f2'] := sk.fact 27 74 rfl (sd 27 rfl)
    refine Runs.call (f := 33) (vs := [.slice (A71) (n71) (c71), .slice (C) (m1) (e'), .agg #[.int .i64 (k : Int), .slice P2 64 f2, .slice Q2 4 f2']]) rfl rfl rfl (by simp only [List.map_toArray, List.map_cons, List.map_nil, h71, h73, h74] <;> rfl) (ent33 _ _) ((sverify_any _ _ P2 Q2 _ _ _ _ 64 f2 4 f2' (k : Int) _ M PS QS sw r71 (rM6.ext sE) (by omega) (oP2.obc.rbb.ext sE) (oQ2.obc.rbb.ext sE)).mono ?_); rintro e w' ⟨rfl, hx⟩; exact ⟨_, rfl, hx, congrArg Value.bool (Hv3.out)⟩
  · refine stepY (j := 22) (d := 69) (b := false) rfl rfl rfl (fun v w h => h) fun sdn sa sw sE sd sk => ?_
    have h75 : sa.eval (.tmp 75) = .bool (true) := sk.fact 28 75 rfl (sd 28 rfl)
    exact Runs.un rfl h75 (by rfl) ⟨Ext.refl _, rfl⟩
  · refine stepE rfl fun sdn sa sw sE sd sk => ?_
    have h69 : sa.eval (.tmp 69) = .bool (false) := sk.fact 22 69 rfl (sd 22 rfl)
    have h76 : sa.eval (.tmp 76) = .bool (false) := sk.fact 29 76 rfl (sd 29 rfl)
    exact Runs.pick rfl h69 ⟨Ext.refl _, by first | exact h76 | simpa using h76⟩
  · refine stepE rfl fun sdn sa sw sE sd sk => ?_
    have h77 : sa.eval (.tmp 77) = .bool (false) := sk.fact 30 77 rfl (sd 30 rfl)
    exact Runs.move rfl h77 ⟨Ext.refl _, rfl⟩
  · refine stepY (j := 31) (d := 78) (b := false) rfl rfl rfl (fun v w h => h) fun sdn sa sw sE sd sk => ?_
    have h16 : sa.eval (.tmp 16) = .slice (X) (2180) (dx) := sk.old 16 rfl
    exact Runs.move rfl h16 ⟨Ext.refl _, rfl⟩
  · refine stepY (j := 31) (d := 78) (b := false) rfl rfl rfl (fun v w h => h) fun sdn sa sw sE sd sk => ?_
    have h79 : sa.eval (.tmp 79) = .slice (X) (2180) (dx) := sk.fact 32 79 rfl (sd 32 rfl)
    exact Runs.len Try.underlying22 rfl h79 ⟨Ext.refl _, rfl⟩
  · refine stepY (j := 31) (d := 78) (b := false) rfl rfl rfl (fun v w h => h) fun sdn sa sw sE sd sk => ?_
    have h80 : sa.eval (.tmp 80) = .int .i64 ((2180 : Nat)) := sk.fact 33 80 rfl (sd 33 rfl)
    exact Runs.bin rfl h80 rfl (by rfl) (bin_neq _ _ _ _) ⟨Ext.refl _, congrArg Value.bool (by simp)⟩
  · refine stepE rfl fun sdn sa sw sE sd sk => ?_
    have h78 : sa.eval (.tmp 78) = .bool (false) := sk.fact 31 78 rfl (sd 31 rfl)
    have h81 : sa.eval (.tmp 81) = .bool (false) := sk.fact 34 81 rfl (sd 34 rfl)
    exact Runs.pick rfl h78 ⟨Ext.refl _, by first | exact h81 | simpa using h81⟩
  intro vals w7 hE7 hv7
  have e0 : vals 0 = .int .i64 ((0 : Int)) := hv7 0 (by omega) 47 rfl
  have e1 : vals 1 = .bool (false) := hv7 1 (by omega) 48 rfl
  have e2 : vals 2 = .bool (false) := hv7 2 (by omega) 49 rfl
  have e3 : vals 3 = .int .i64 ((0 : Int)) := hv7 3 (by omega) 50 rfl
  have e4 : vals 4 = .bool (false) := hv7 4 (by omega) 51 rfl
  have e5 : vals 5 = .bool (false) := hv7 5 (by omega) 52 rfl
  have e6 : vals 6 = .bool (false) := hv7 6 (by omega) 53 rfl
  have e7 : vals 7 = .int .i64 ((0 : Int)) := hv7 7 (by omega) 54 rfl
  have e8 : vals 8 = .bool (false) := hv7 8 (by omega) 55 rfl
  have e9 : vals 9 = .bool (false) := hv7 9 (by omega) 56 rfl
  have e10 : vals 10 = .bool (false) := hv7 10 (by omega) 57 rfl
  have e11 : vals 11 = .agg #[.int .i64 (k : Int), .slice P 64 d, .slice Q' 4 d'] := hv7 11 (by omega) 58 rfl
  have e12 : vals 12 = .agg #[.int .i64 (k : Int), .slice P2 64 f2, .slice Q2 4 f2'] := hv7 12 (by omega) 59 rfl
  have e13 : vals 13 = .bool (true) := hv7 13 (by omega) 60 rfl
  have e14 : vals 14 = .bool (false) := hv7 14 (by omega) 61 rfl
  have e15 : vals 15 = .bool (false) := hv7 15 (by omega) 62 rfl
  have e16 : vals 16 = .bool (false) := hv7 16 (by omega) 63 rfl
  have e17 : vals 17 = .agg #[.int .i64 (k : Int), .slice P 64 d, .slice Q' 4 d'] := hv7 17 (by omega) 64 rfl
  have e18 : vals 18 = .agg #[.int .i64 (k : Int), .slice P2 64 f2, .slice Q2 4 f2'] := hv7 18 (by omega) 65 rfl
  have e19 : vals 19 = .bool (true) := hv7 19 (by omega) 66 rfl
  have e20 : vals 20 = .bool (false) := hv7 20 (by omega) 67 rfl
  have e21 : vals 21 = .bool (false) := hv7 21 (by omega) 68 rfl
  have e22 : vals 22 = .bool (false) := hv7 22 (by omega) 69 rfl
  have e23 : vals 23 = .slice (A1) (32) (c1) := hv7 23 (by omega) 70 rfl
  obtain ⟨A71, n71, c71, e24, r71⟩ := hv7 24 (by omega) 71 rfl
  have e25 : vals 25 = .slice (C) (m) (e') := hv7 25 (by omega) 72 rfl
  have e26 : vals 26 = .slice (C) (m1) (e') := hv7 26 (by omega) 73 rfl
  have e27 : vals 27 = .agg #[.int .i64 (k : Int), .slice P2 64 f2, .slice Q2 4 f2'] := hv7 27 (by omega) 74 rfl
  have e28 : vals 28 = .bool (true) := hv7 28 (by omega) 75 rfl
  have e29 : vals 29 = .bool (false) := hv7 29 (by omega) 76 rfl
  have e30 : vals 30 = .bool (false) := hv7 30 (by omega) 77 rfl
  have e31 : vals 31 = .bool (false) := hv7 31 (by omega) 78 rfl
  have e32 : vals 32 = .slice (X) (2180) (dx) := hv7 32 (by omega) 79 rfl
  have e33 : vals 33 = .int .i64 ((2180 : Nat)) := hv7 33 (by omega) 80 rfl
  have e34 : vals 34 = .bool (false) := hv7 34 (by omega) 81 rfl
  have e35 : vals 35 = .bool (false) := hv7 35 (by omega) 82 rfl
  simp only [putAll, Act.put, List.take_succ_cons, List.take_zero, List.drop_succ_cons, List.drop_zero, List.drop_nil, List.take_nil, Nat.reduceAdd, List.setIfInBounds_toArray, List.set_cons_succ, List.set_cons_zero, e0, e1, e2, e3, e4, e5, e6, e7, e8, e9, e10, e11, e12, e13, e14, e15, e16, e17, e18, e19, e20, e21, e22, e23, e24, e25, e26, e27, e28, e29, e30, e31, e32, e33, e34, e35]
  clear hv7 e0 e1 e2 e3 e4 e5 e6 e7 e8 e9 e10 e11 e12 e13 e14 e15 e16 e17 e18 e19 e20 e21 e22 e23 e24 e25 e26 e27 e28 e29 e30 e31 e32 e33 e34 e35
  have hE37 := hE36.trans hE7
  have own7 := own6.ext hE7
  have oP7 := oP2.ext hE7
  have oQ7 := oQ2.ext hE7
  have hB67 := hB6.ext hE7
  obtain ⟨adx, rfl, _⟩ := own7.rb.cells (by omega)
  obtain ⟨gx, rfl⟩ := own7.plain
  obtain ⟨hgx1, hgx2⟩ := hgx gx rfl
  have k0 := own7.cell hi79
  have k1 := own7.frozen i
  have k2 := bits_xor8t (ub EL i) t
  clear own6 oP2 oQ2 hB6 hE36 hE46 rPs6 rQs6 hgx hB36 hEa6 rS6
  go_wp2_with fail
  refine (Hwa.out _).mono ?_
  rintro e wz ⟨rfl, rfl⟩
  clear Hwa
  go_upto_region 8 with (fail)
  have s8 := own7.set i (ub EL i ^^^ t)
  have own8 := s8.1
  have gs := s8.2
  have oP8 := oP7.low gs (fun b hb => by cases hb; exact hgx2)
  have oQ8 := oQ7.low gs (fun b hb => by cases hb; exact hgx2)
  have hB68 := hB67.far (p := ⟨gx, i, none⟩) (own7.ne_blk hB67 (by decide)) (.int .u8 (u8i (ub EL i ^^^ t)))
  have hE38 := hE37.set (p := ⟨gx, i, none⟩) hgx1 (.int .u8 (u8i (ub EL i ^^^ t)))
  obtain ⟨XL, hXL⟩ : ∃ XL, XL = EL.set i (ub EL i ^^^ t) := ⟨_, rfl⟩
  rw [← hXL] at own8
  have hxl : XL.length = 2180 := by rw [hXL, List.length_set]; exact Hel.out
  clear k0 k1 k2 own7 oP7 oQ7 hB67 hE37 gs s8 hXL Hel Hd
  obtain ⟨w8, hw8⟩ : ∃ w8, w8 = w7.setCell ⟨gx, i, none⟩ (.int .u8 (u8i (ub EL i ^^^ t))) := ⟨_, rfl⟩
  rw [← hw8] at own8 oP8 oQ8 hB68 hE38 ⊢
  clear hw8
  have hEa8 := hEa.trans hE38
  have rX8 := own8.rb
  have rb8 := hb.ext hEa8
  have rPs8 := rPs.ext hE38
  have rQs8 := rQs.ext hE38
  have hB38 := hB3.ext hE38
  have hcx := rX8.room
  have r96 : RB w8 (if dx = 1 then some ⟨gx, 0, none⟩ else (some ⟨gx, 0, none⟩ : Option Addr).map (·.add (1 * 1))) (2180 - 1) (dx - 1) (XL.drop 1) := by
    have h := rX8.cut (i := 1) (j := 2180) (c' := dx - 1) (A' := (if dx = 1 then some ⟨gx, 0, none⟩ else (some ⟨gx, 0, none⟩ : Option Addr).map (·.add (1 * 1)))) (by omega) (by omega) rfl (fun h => by rw [if_neg (by omega)])
    rw [List.take_of_length_le (by omega)] at h
    exact h
  have hsz := fun (w' : World) (hE : Ext w8 w') => sized_any D nb cb 2180 Lb w' (rb8.ext hE) (by omega)
  have hcb := fun (w' : World) (hE : Ext w8 w') => cut_any D nb cb 50 Lb w' (rb8.ext hE) (by omega)
  have e2180 : ((2180 : Nat) : Int) = 2180 := rfl
  have e50 : ((50 : Nat) : Int) = 50 := rfl
  rw [e2180] at hsz
  rw [e50] at hcb
  have r105 := (cut_any D nb cb 50 Lb w8 rb8 (by omega))
  have Hsz := Lib.hid hsz
  have Hcb := Lib.hid hcb
  have hnb : min nb 50 ≤ 50 := by omega
  have r50 : RB w8 D (min nb 50) cb (Lb.take 50) := by
    rcases Nat.le_total nb 50 with h | h
    · rw [Nat.min_eq_left h, List.take_of_length_le (by rw [rb8.len]; exact h)]; exact rb8
    · rw [Nat.min_eq_right h]; exact rb8.take h
  have hszl : (sizedL Lb 2180).length = 2180 := sizedL_length _ _
  clear hsz hcb e2180 e50 r105
  generalize sizedL Lb 2180 = ZL at *
  generalize Lb.take 50 = CL at *
  generalize min nb 50 = n5 at *
  have hSt : ∀ j m, ([.is (.slice ((some ⟨gx, 0, none⟩ : Option Addr)) (2180) (dx)), .is (.slice ((some ⟨gx, 0, none⟩ : Option Addr)) (2180) (dx)), .is (.slice (if dx = 1 then (some ⟨gx, 0, none⟩ : Option Addr) else ((some ⟨gx, 0, none⟩ : Option Addr)).map (·.add (1 * 1))) (2180 - 1) (dx - 1)), .em 0, .is (.slice ((some ⟨gx, 0, none⟩ : Option Addr)) (2180) (dx)), .oblo (w8.heap.size) 2180 (XL), .lo 1 ([0]), .obn (w8.heap.size) (2180 + 1) (XL ++ [0]), .is (.slice (D) (nb) (cb)), .lo 2180 (ZL), .is (.slice (D) (nb) (cb)), .is (.slice (D) (n5) (cb)), .rbbk 5 ([XL, XL.drop 1, XL ++ [0], ZL, CL]), .is (.int .i64 ((5 : Nat))), .is (.int .i64 ((0 : Int)))] : List (MP Ext))[j]? = some m → j ≠ 7 → ([12] : List Nat).contains j = false → SpOK 2180 m := by
    intro j m hm h7 h12
    rcases j with _ | _ | _ | _ | _ | _ | _ | _ | _ | _ | _ | _ | _ | _ | _ | j
    · injection hm with hm; subst hm; exact spok_is _ _
    · injection hm with hm; subst hm; exact spok_is _ _
    · injection hm with hm; subst hm; exact spok_is _ _
    · injection hm with hm; subst hm; exact spok_em _ _
    · injection hm with hm; subst hm; exact spok_is _ _
    · injection hm with hm; subst hm; exact spok_oblo (Nat.le_refl _) _
    · injection hm with hm; subst hm; exact spok_lo (by decide) _
    · exact absurd rfl h7
    · injection hm with hm; subst hm; exact spok_is _ _
    · injection hm with hm; subst hm; exact spok_lo (Nat.le_refl _) _
    · injection hm with hm; subst hm; exact spok_is _ _
    · injection hm with hm; subst hm; exact spok_is _ _
    · exact absurd h12 (by decide)
    · injection hm with hm; subst hm; exact spok_is _ _
    · injection hm with hm; subst hm; exact spok_is _ _
    · simp at hm
  refine par_sp (n := 15) 7 [12] (by kernel_rfl) [.is (.slice ((some ⟨gx, 0, none⟩ : Option Addr)) (2180) (dx)), .is (.slice ((some ⟨gx, 0, none⟩ : Option Addr)) (2180) (dx)), .is (.slice (if dx = 1 then (some ⟨gx, 0, none⟩ : Option Addr) else ((some ⟨gx, 0, none⟩ : Option Addr)).map (·.add (1 * 1))) (2180 - 1) (dx - 1)), .em 0, .is (.slice ((some ⟨gx, 0, none⟩ : Option Addr)) (2180) (dx)), .oblo (w8.heap.size) 2180 (XL), .lo 1 ([0]), .obn (w8.heap.size) (2180 + 1) (XL ++ [0]), .is (.slice (D) (nb) (cb)), .lo 2180 (ZL), .is (.slice (D) (nb) (cb)), .is (.slice (D) (n5) (cb)), .rbbk 5 ([XL, XL.drop 1, XL ++ [0], ZL, CL]), .is (.int .i64 ((5 : Nat))), .is (.int .i64 ((0 : Int)))] rfl ⟨?_, ?_, ?_, ?_, ?_, ?_, ?_, ?_, ?_, ?_, ?_, ?_, ?_, ?_, ?_, trivial⟩ ?_
  · refine stepES rfl (.inl (by decide)) fun sdn sa sw sE sd sk => ?_
    have h16 : sa.eval (.tmp 16) = .slice ((some ⟨gx, 0, none⟩ : Option Addr)) (2180) (dx) := sk.old 16 rfl
    exact Runs.move rfl h16 ⟨Ext.refl _, rfl⟩
  · refine stepES rfl (.inl (by decide)) fun sdn sa sw sE sd sk => ?_
    have h16 : sa.eval (.tmp 16) = .slice ((some ⟨gx, 0, none⟩ : Option Addr)) (2180) (dx) := sk.old 16 rfl
    exact Runs.move rfl h16 ⟨Ext.refl _, rfl⟩
  · refine stepES rfl (.inl (by decide)) fun sdn sa sw sE sd sk => ?_
    have h95 : sa.eval (.tmp 95) = .slice ((some ⟨gx, 0, none⟩ : Option Addr)) (2180) (dx) := sk.fact 1 95 rfl (sd 1 rfl)
    exact Runs.slice rfl h95 (by simp only [Option.map_some, Option.map_none]; exact run_cut_l Try.underlying22 inf22_eq inf22_size (1) (by first | rfl | omega) (by omega)) ⟨Ext.refl _, rfl⟩
  · refine stepES rfl (.inl (by decide)) fun sdn sa sw sE sd sk => ?_
    exact Runs.lit0 rfl (fun w1 e1 o1 => ⟨e1, _, rfl, o1.rb⟩)
  · refine stepES rfl (.inl (by decide)) fun sdn sa sw sE sd sk => ?_
    have h16 : sa.eval (.tmp 16) = .slice ((some ⟨gx, 0, none⟩ : Option Addr)) (2180) (dx) := sk.old 16 rfl
    exact Runs.move rfl h16 ⟨Ext.refl _, rfl⟩
  · refine stepES rfl (.inl (by decide)) fun sdn sa sw sE sd sk => ?_
    obtain ⟨g97, h97, r97⟩ := sk.fact 3 97 rfl (sd 3 rfl)
    have h98 : sa.eval (.tmp 98) = .slice ((some ⟨gx, 0, none⟩ : Option Addr)) (2180) (dx) := sk.fact 4 98 rfl (sd 4 rfl)
    refine Runs.appFull rfl h97 h98 r97 (rX8.ext sE) (by omega) (by omega) (fun A' c' w1 o1 e1 => ?_); obtain ⟨ad', rfl, _⟩ := o1.rb.cells (by omega); obtain ⟨g', rfl⟩ := o1.plain; exact ⟨e1, g', c', rfl, (show OB w1 sw.heap.size _ 2180 c' XL by simpa using o1).base sE.size⟩
  · refine stepES rfl (.inl (by decide)) fun sdn sa sw sE sd sk => ?_
    have hlit : (.int .u8 0 : Value) = .int .u8 (u8i (0 : UInt8)) := rfl
    exact Runs.lit1 (b0 := 0) rfl hlit (fun w1 e1 o1 => ⟨e1, _, _, rfl, o1.rb⟩)
  · refine stepSp (n := 2180) (L := XL) (y := 0) rfl rfl (by omega) rfl (by decide) hSt fun sdn sa sw sE sd sk => ?_
    obtain ⟨g99, c99, h99, o99⟩ := sk.fact 5 99 rfl (sd 5 rfl)
    obtain ⟨g100, c100, h100, r100⟩ := sk.fact 6 100 rfl (sd 6 rfl)
    exact ⟨_, _, h99, o99, _, _, h100, r100⟩
  · refine stepES rfl (.inl (by decide)) fun sdn sa sw sE sd sk => ?_
    have h5 : sa.eval (.tmp 5) = .slice (D) (nb) (cb) := sk.old 5 rfl
    exact Runs.move rfl h5 ⟨Ext.refl _, rfl⟩
  · refine stepES rfl (.inl (by decide)) fun sdn sa sw sE sd sk => ?_
    have h102 : sa.eval (.tmp 102) = .slice (D) (nb) (cb) := sk.fact 8 102 rfl (sd 8 rfl)
    refine Runs.call (f := 25) (vs := [.slice (D) (nb) (cb), .int .i64 (2180 : Int)]) rfl rfl rfl (by simp only [List.map_toArray, List.map_cons, List.map_nil, h102] <;> rfl) (ent25 _ _) ((Hsz.out sw sE).mono ?_); rintro e w' ⟨rfl, own, hx⟩; exact ⟨_, rfl, hx, _, _, rfl, own.rb⟩
  · refine stepES rfl (.inl (by decide)) fun sdn sa sw sE sd sk => ?_
    have h5 : sa.eval (.tmp 5) = .slice (D) (nb) (cb) := sk.old 5 rfl
    exact Runs.move rfl h5 ⟨Ext.refl _, rfl⟩
  · refine stepES rfl (.inl (by decide)) fun sdn sa sw sE sd sk => ?_
    have h104 : sa.eval (.tmp 104) = .slice (D) (nb) (cb) := sk.fact 10 104 rfl (sd 10 rfl)
    refine Runs.call (f := 18) (vs := [.slice (D) (nb) (cb), .int .i64 (50 : Int)]) rfl rfl rfl (by simp only [List.map_toArray, List.map_cons, List.map_nil, h104] <;> rfl) (ent18 _ _) ((Hcb.out sw sE).mono ?_); rintro e w' ⟨⟨rfl, _⟩, rfl⟩; exact ⟨_, rfl, Ext.refl _, rfl⟩
  · refine stepES rfl (.inr (by decide)) fun sdn sa sw sE sd sk => ?_
    have h94 : sa.eval (.tmp 94) = .slice ((some ⟨gx, 0, none⟩ : Option Addr)) (2180) (dx) := sk.fact 0 94 rfl (sd 0 rfl)
    have h96 : sa.eval (.tmp 96) = .slice (if dx = 1 then (some ⟨gx, 0, none⟩ : Option Addr) else ((some ⟨gx, 0, none⟩ : Option Addr)).map (·.add (1 * 1))) (2180 - 1) (dx - 1) := sk.fact 2 96 rfl (sd 2 rfl)
    obtain ⟨A101, c101, h101, o101⟩ := sk.fact 7 101 rfl (sd 7 rfl)
    obtain ⟨g103, c103, h103, r103⟩ := sk.fact 9 103 rfl (sd 9 rfl)
    have h105 : sa.eval (.tmp 105) = .slice (D) (n5) (cb) := sk.fact 11 105 rfl (sd 11 rfl)
    exact Runs.ss5 rfl h94 h96 h101 h103 h105 (rX8.ext sE) (r96.ext sE) o101.rb r103 (r50.ext sE) (fun w1 e1 b1 => ⟨e1, _, _, rfl, b1⟩)
  · refine stepES rfl (.inl (by decide)) fun sdn sa sw sE sd sk => ?_
    obtain ⟨A106, c106, h106, r106⟩ := sk.fact 12 106 rfl (sd 12 rfl)
    exact Runs.len Try.underlying50 rfl h106 ⟨Ext.refl _, rfl⟩
  · refine stepES rfl (.inl (by decide)) fun sdn sa sw sE sd sk => ?_
    exact Runs.move rfl rfl ⟨Ext.refl _, rfl⟩
  intro vals w9 hE9 hv9
  have e0 : vals 0 = .slice ((some ⟨gx, 0, none⟩ : Option Addr)) (2180) (dx) := hv9 0 (by omega) 94 rfl
  have e1 : vals 1 = .slice ((some ⟨gx, 0, none⟩ : Option Addr)) (2180) (dx) := hv9 1 (by omega) 95 rfl
  have e2 : vals 2 = .slice (if dx = 1 then (some ⟨gx, 0, none⟩ : Option Addr) else ((some ⟨gx, 0, none⟩ : Option Addr)).map (·.add (1 * 1))) (2180 - 1) (dx - 1) := hv9 2 (by omega) 96 rfl
  obtain ⟨g97, e3, r97⟩ := hv9 3 (by omega) 97 rfl
  have e4 : vals 4 = .slice ((some ⟨gx, 0, none⟩ : Option Addr)) (2180) (dx) := hv9 4 (by omega) 98 rfl
  obtain ⟨g99, c99, e5, o99⟩ := hv9 5 (by omega) 99 rfl
  obtain ⟨g100, c100, e6, r100⟩ := hv9 6 (by omega) 100 rfl
  obtain ⟨A101, c101, e7, o101⟩ := hv9 7 (by omega) 101 rfl
  have e8 : vals 8 = .slice (D) (nb) (cb) := hv9 8 (by omega) 102 rfl
  obtain ⟨g103, c103, e9, r103⟩ := hv9 9 (by omega) 103 rfl
  have e10 : vals 10 = .slice (D) (nb) (cb) := hv9 10 (by omega) 104 rfl
  have e11 : vals 11 = .slice (D) (n5) (cb) := hv9 11 (by omega) 105 rfl
  obtain ⟨A106, c106, e12, r106⟩ := hv9 12 (by omega) 106 rfl
  have e13 : vals 13 = .int .i64 ((5 : Nat)) := hv9 13 (by omega) 107 rfl
  have e14 : vals 14 = .int .i64 ((0 : Int)) := hv9 14 (by omega) 108 rfl
  simp only [putAll, Act.put, List.take_succ_cons, List.take_zero, List.drop_succ_cons, List.drop_zero, List.drop_nil, List.take_nil, Nat.reduceAdd, List.setIfInBounds_toArray, List.set_cons_succ, List.set_cons_zero, e0, e1, e2, e3, e4, e5, e6, e7, e8, e9, e10, e11, e12, e13, e14]
  clear hv9 e0 e1 e2 e3 e4 e5 e6 e7 e8 e9 e10 e11 e12 e13 e14
  have hE39 := hE38.trans hE9
  have rPs9 := rPs.ext hE39
  have rQs9 := rQs.ext hE39
  have hB39 := hB3.ext hE39
  have oP9 := oP8.ext hE9
  have oQ9 := oQ8.ext hE9
  have hB69 := hB68.ext hE9
  have hEa9 := hEa.trans hE39
  have hys : ∀ j, j < 5 → (lb [XL, XL.drop 1, XL ++ [0], ZL, CL] j).length ≤ 3000 := by
    intro j hj
    have hc : j = 0 ∨ j = 1 ∨ j = 2 ∨ j = 3 ∨ j = 4 := by omega
    have h50 : CL.length ≤ 50 := by rw [r50.len]; exact hnb
    rcases hc with rfl | rfl | rfl | rfl | rfl
    · show XL.length ≤ 3000; omega
    · show (XL.drop 1).length ≤ 3000; rw [List.length_drop]; omega
    · show (XL ++ [0]).length ≤ 3000; rw [List.length_append, hxl]; decide
    · show ZL.length ≤ 3000; omega
    · show CL.length ≤ 3000; omega
  have Hys := Lib.hid hys
  generalize [XL, XL.drop 1, XL ++ [0], ZL, CL] = YS at *
  clear hys own8 oP8 oQ8 hB68 hE38 rX8 rb8 rPs8 rQs8 hB38 hE9 hE39 r96 r50 Hsz Hcb rPs rQs
  go_wp2_with fail
  go_loopw [108] (fun i wr => BackI w9 i wr) (fun i _ => 5 - (intOf i).toNat)
  case atStart => exact ⟨0, by omega, rfl, Ext.refl _⟩
  case round =>
    obtain ⟨j, hj, rfl, hEr⟩ := hrel
    by_cases hlt : j < 5
    · have hji : (j : Int) < 5 := by omega
      obtain ⟨adY, rfl, hcY⟩ := r106.cells (by omega)
      obtain ⟨E, z, y, hcell, hrE⟩ := hcY j hlt
      have hz : z ≤ 3000 := by rw [← hrE.len]; exact Hys.out j hlt
      have y1 := hEr.cell hcell
      have rE := hrE.ext hEr
      clear hcell hrE hcY
      generalize lb YS j = Y at *
      go_wp2_with fail
      refine (sdecode_any E z y Y wr rE (by omega)).mono ?_
      rintro e v1 ⟨hyes, hno, hF1⟩
      clear y1
      have rE1 := rE.ext hF1
      cases hd : decOK5 Y with
      | true =>
        obtain ⟨Pa, da, Qa, da', rfl, oPa, oQa⟩ := hyes hd
        have hro := (decOK5_iff Y).1 hd
        clear hyes hno
        have hF2 := Ext.new v1 (.cells #[.int .i64 (decX Y), .slice Pa 64 da, .slice Qa 4 da'] 52)
        have hB2 := Blk.new v1 52 #[.int .i64 (decX Y), .slice Pa 64 da, .slice Qa 4 da']
        have rE2 := rE1.ext hF2
        have rPa := oPa.obc.rbb.ext hF2
        have rQa := oQa.obc.rbb.ext hF2
        have hEr2 := (hEr.trans hF1).trans hF2
        clear oPa oQa hF1 hF2 rE rE1
        go_wp2_with fail
        generalize v1.alloc (.cells #[.int .i64 (decX Y), .slice Pa 64 da, .slice Qa 4 da'] 52) = v2 at *
        refine (rdecode_any E z y Y v2 rE2 (by omega)).mono ?_
        rintro e v3 ⟨hyes, _, hF3⟩
        obtain ⟨Pb, db, Qb, db', rfl, rPb, rQb⟩ := hyes hro
        clear hyes
        have hF4 := Ext.new v3 (.cells #[.int .i64 (decX Y), .slice Pb 64 db, .slice Qb 4 db'] 52)
        have hF34 := hF3.trans hF4
        have hB24 := hB2.ext hF34
        have z0 := hB24.cell (i := 0) (v := .int .i64 (decX Y)) rfl
        have z1 := hB24.cell (i := 1) (v := .slice Pa 64 da) rfl
        have z2 := hB24.cell (i := 2) (v := .slice Qa 4 da') rfl
        have hsm := rsame_true (decX Y) Pa Qa Pb Qb 64 da 4 da' 64 db 4 db' (decP Y) (decQ Y) _ (rPa.ext hF34) (rQa.ext hF34) (rPb.ext hF4) (rQb.ext hF4)
        have Hsm := Lib.hid hsm
        have hEr4 := hEr2.trans hF34
        clear hsm hB24 hF3 hF4 hF34 hB2 rPa rQa rPb rQb hEr2 hro hd rE2
        go_wp2_with fail
        refine Hsm.out.mono ?_
        rintro e v5 ⟨rfl, hF5⟩
        clear Hsm z0 z1 z2
        go_wp2_with fail
        go_roundw
        case rel => exact ⟨j + 1, by omega, by go_num, hEr4.trans hF5⟩
        case measure => simp [intOf]; omega
      | false =>
        obtain rfl := hno hd
        have hro : ¬ refOK Y := fun h => by rw [(decOK5_iff Y).2 h] at hd; cases hd
        clear hyes hno
        have hF2 := Ext.new v1 (.cells #[.int .i64 0, .slice none 0 0, .slice none 0 0] 52)
        have hB2 := Blk.new v1 52 #[.int .i64 0, .slice none 0 0, .slice none 0 0]
        have rE2 := rE1.ext hF2
        have hEr2 := (hEr.trans hF1).trans hF2
        clear hF1 hF2 rE rE1
        go_wp2_with fail
        generalize v1.alloc (.cells #[.int .i64 0, .slice none 0 0, .slice none 0 0] 52) = v2 at *
        refine (rdecode_any E z y Y v2 rE2 (by omega)).mono ?_
        rintro e v3 ⟨_, hno, hF3⟩
        obtain rfl := hno hro
        clear hno
        have hF4 := Ext.new v3 (.cells #[.int .i64 0, .slice none 0 0, .slice none 0 0] 52)
        have hF34 := hF3.trans hF4
        have hB24 := hB2.ext hF34
        have z0 := hB24.cell (i := 0) (v := .int .i64 0) rfl
        have z1 := hB24.cell (i := 1) (v := .slice none 0 0) rfl
        have z2 := hB24.cell (i := 2) (v := .slice none 0 0) rfl
        have hsm := fun w' => rsame_true 0 none none none none 0 0 0 0 0 0 0 0 [] [] w' (RBB.nil_ _) (RBB.nil_ _) (RBB.nil_ _) (RBB.nil_ _)
        have Hsm := Lib.hid hsm
        have hEr4 := hEr2.trans hF34
        clear hsm hB24 hF3 hF4 hF34 hB2 hEr2 hro hd rE2
        go_wp2_with fail
        refine (Hsm.out _).mono ?_
        rintro e v5 ⟨rfl, hF5⟩
        clear Hsm z0 z1 z2
        go_wp2_with fail
        go_roundw
        case rel => exact ⟨j + 1, by omega, by go_num, hEr4.trans hF5⟩
        case measure => simp [intOf]; omega
    · obtain rfl : j = 5 := by omega
      have rPr := rPs9.ext hEr
      have rQr := rQs9.ext hEr
      have hBs := hB39.ext hEr
      have oPr := oP9.obc.rbb.ext hEr
      have oQr := oQ9.obc.rbb.ext hEr
      have hBt := hB69.ext hEr
      have hEar := hEa9.trans hEr
      clear rPs9 rQs9 hB39 oP9 oQ9 hB69 hEa9 r106 hEr
      by_cases ht : t = 0
      · subst ht
        go_upto_region 16 with (fail)
        refine par_ext (n := 20) (by kernel_rfl) [.is (.agg #[.int .i64 (k : Int), .slice P 64 d, .slice Q' 4 d']), .is (.agg #[.int .i64 (k : Int), .slice P2 64 f2, .slice Q2 4 f2']), .is (.bool (true)), .is (.bool (true)), .is (.int .u8 (u8i (0))), .is (.bool (true)), .is (.bool (true)), .is undef, .is undef, .is undef, .is undef, .is undef, .is undef, .is undef, .is (.bool (true)), .is (.bool (true)), .is (.bool (true)), .is (.bool (true)), .is (.bool (true)), .is (.bool (true))] rfl ⟨?_, ?_, ?_, ?_, ?_, ?_, ?_, ?_, ?_, ?_, ?_, ?_, ?_, ?_, ?_, ?_, ?_, ?_, ?_, ?_, trivial⟩ ?_
        · refine stepE rfl fun sdn sa sw sE sd sk => ?_
          have h14 : sa.eval (.tmp 14) = .pointer (some ⟨w2.heap.size, 0, none⟩) := sk.old 14 rfl
          exact Runs.load rfl h14 (load_sig (hBs.ext sE)) ⟨Ext.refl _, rfl⟩
        · refine stepE rfl fun sdn sa sw sE sd sk => ?_
          have h18 : sa.eval (.tmp 18) = .pointer (some ⟨w5.heap.size, 0, none⟩) := sk.old 18 rfl
          exact Runs.load rfl h18 (load_sig (hBt.ext sE)) ⟨Ext.refl _, rfl⟩
        · refine stepE rfl fun sdn sa sw sE sd sk => ?_
          have h141 : sa.eval (.tmp 141) = .agg #[.int .i64 (k : Int), .slice P 64 d, .slice Q' 4 d'] := sk.fact 0 141 rfl (sd 0 rfl)
          have h142 : sa.eval (.tmp 142) = .agg #[.int .i64 (k : Int), .slice P2 64 f2, .slice Q2 4 f2'] := sk.fact 1 142 rfl (sd 1 rfl)
          refine Runs.call (f := 44) (vs := [.agg #[.int .i64 (k : Int), .slice P 64 d, .slice Q' 4 d'], .agg #[.int .i64 (k : Int), .slice P2 64 f2, .slice Q2 4 f2']]) rfl rfl rfl (by simp only [List.map_toArray, List.map_cons, List.map_nil, h141, h142] <;> rfl) (ent44 _ _) ((ssame_any (k : Int) (k : Int) _ _ _ _ _ _ _ _ _ _ _ _ PS QS PS QS sw (rPr.ext sE) (rQr.ext sE) (oPr.ext sE) (oQr.ext sE)).mono ?_); rintro e w' ⟨rfl, hx⟩; exact ⟨_, rfl, hx, congrArg Value.bool (sigEq_yes _ _ _)⟩
        · refine stepE rfl fun sdn sa sw sE sd sk => ?_
          have h143 : sa.eval (.tmp 143) = .bool (true) := sk.fact 2 143 rfl (sd 2 rfl)
          exact Runs.move rfl h143 ⟨Ext.refl _, rfl⟩
        · refine stepY (j := 3) (d := 144) (b := true) rfl rfl rfl (fun v w h => h) fun sdn sa sw sE sd sk => ?_
          have h4 : sa.eval (.tmp 4) = .int .u8 (u8i (0)) := sk.old 4 rfl
          exact Runs.move rfl h4 ⟨Ext.refl _, rfl⟩
        · refine stepY (j := 3) (d := 144) (b := true) rfl rfl rfl (fun v w h => h) fun sdn sa sw sE sd sk => ?_
          have h145 : sa.eval (.tmp 145) = .int .u8 (u8i (0)) := sk.fact 4 145 rfl (sd 4 rfl)
          have hz0 : (.int .u8 0 : Value) = .int .u8 (u8i (0 : UInt8)) := rfl
          exact Runs.bin (v := .int .u8 (u8i (0 : UInt8))) rfl h145 hz0 (by rfl) (bin_eql _ _ _ _) ⟨Ext.refl _, congrArg Value.bool (by simp)⟩
        · refine stepY (j := 3) (d := 144) (b := true) rfl rfl rfl (fun v w h => h) fun sdn sa sw sE sd sk => ?_
          have h146 : sa.eval (.tmp 146) = .bool (true) := sk.fact 5 146 rfl (sd 5 rfl)
          exact Runs.move rfl h146 ⟨Ext.refl _, rfl⟩
        · exact stepN (j := 6) (d := 147) (b := true) rfl rfl rfl (fun v w h => h) fun w => rfl
        · exact stepN (j := 6) (d := 147) (b := true) rfl rfl rfl (fun v w h => h) fun w => rfl
        · exact stepN (j := 6) (d := 147) (b := true) rfl rfl rfl (fun v w h => h) fun w => rfl
        · exact stepN (j := 6) (d := 147) (b := true) rfl rfl rfl (fun v w h => h) fun w => rfl
        · exact stepN (j := 6) (d := 147) (b := true) rfl rfl rfl (fun v w h => h) fun w => rfl
        · exact stepN (j := 6) (d := 147) (b := true) rfl rfl rfl (fun v w h => h) fun w => rfl
        · exact stepN (j := 6) (d := 147) (b := true) rfl rfl rfl (fun v w h => h) fun w => rfl
        · refine stepY (j := 3) (d := 144) (b := true) rfl rfl rfl (fun v w h => h) fun sdn sa sw sE sd sk => ?_
          have h147 : sa.eval (.tmp 147) = .bool (true) := sk.fact 6 147 rfl (sd 6 rfl)
          exact Runs.pick rfl h147 ⟨Ext.refl _, rfl⟩
        · refine stepE rfl fun sdn sa sw sE sd sk => ?_
          have h144 : sa.eval (.tmp 144) = .bool (true) := sk.fact 3 144 rfl (sd 3 rfl)
          have h155 : sa.eval (.tmp 155) = .bool (true) := sk.fact 14 155 rfl (sd 14 rfl)
          exact Runs.pick rfl h144 ⟨Ext.refl _, by first | exact h155 | simpa using h155⟩
        · refine stepE rfl fun sdn sa sw sE sd sk => ?_
          have h156 : sa.eval (.tmp 156) = .bool (true) := sk.fact 15 156 rfl (sd 15 rfl)
          exact Runs.move rfl h156 ⟨Ext.refl _, rfl⟩
        · refine stepY (j := 16) (d := 157) (b := true) rfl rfl rfl (fun v w h => h) fun sdn sa sw sE sd sk => ?_
          refine Runs.call (f := 34) (vs := []) rfl rfl rfl (by simp only [List.map_toArray, List.map_cons, List.map_nil] <;> rfl) (ent34 _ _) ((known5_any sw).mono ?_); rintro e w' ⟨rfl, hx⟩; exact ⟨_, rfl, hx, rfl⟩
        · refine stepE rfl fun sdn sa sw sE sd sk => ?_
          have h157 : sa.eval (.tmp 157) = .bool (true) := sk.fact 16 157 rfl (sd 16 rfl)
          have h158 : sa.eval (.tmp 158) = .bool (true) := sk.fact 17 158 rfl (sd 17 rfl)
          exact Runs.pick rfl h157 ⟨Ext.refl _, by first | exact h158 | simpa using h158⟩
        · refine stepE rfl fun sdn sa sw sE sd sk => ?_
          have h159 : sa.eval (.tmp 159) = .bool (true) := sk.fact 18 159 rfl (sd 18 rfl)
          exact Runs.assign rfl h159 ⟨Ext.refl _, rfl⟩
        intro vals W16 hE16 hv16
        have e0 : vals 0 = .agg #[.int .i64 (k : Int), .slice P 64 d, .slice Q' 4 d'] := hv16 0 (by omega) 141 rfl
        have e1 : vals 1 = .agg #[.int .i64 (k : Int), .slice P2 64 f2, .slice Q2 4 f2'] := hv16 1 (by omega) 142 rfl
        have e2 : vals 2 = .bool (true) := hv16 2 (by omega) 143 rfl
        have e3 : vals 3 = .bool (true) := hv16 3 (by omega) 144 rfl
        have e4 : vals 4 = .int .u8 (u8i (0)) := hv16 4 (by omega) 145 rfl
        have e5 : vals 5 = .bool (true) := hv16 5 (by omega) 146 rfl
        have e6 : vals 6 = .bool (true) := hv16 6 (by omega) 147 rfl
        have e14 : vals 14 = .bool (true) := hv16 14 (by omega) 155 rfl
        have e15 : vals 15 = .bool (true) := hv16 15 (by omega) 156 rfl
        have e16 : vals 16 = .bool (true) := hv16 16 (by omega) 157 rfl
        have e17 : vals 17 = .bool (true) := hv16 17 (by omega) 158 rfl
        have e18 : vals 18 = .bool (true) := hv16 18 (by omega) 159 rfl
        have e19 : vals 19 = .bool (true) := hv16 19 (by omega) 12 rfl
        simp only [putAll, Act.put, List.take_succ_cons, List.take_zero, List.drop_succ_cons, List.drop_zero, List.drop_nil, List.take_nil, Nat.reduceAdd, List.setIfInBounds_toArray, List.set_cons_succ, List.set_cons_zero, e0, e1, e2, e3, e4, e5, e6, e14, e15, e16, e17, e18, e19]
        clear hv16 e0 e1 e2 e3 e4 e5 e6 e14 e15 e16 e17 e18 e19
        go_wp2_with fail
        go_ret
        exact ⟨rfl, hEar.trans hE16⟩
      · have ht' : u8i t ≠ u8i 0 := fun h => ht (u8i_inj h)
        obtain ⟨i1, hi1'⟩ : ∃ i1, i1 = (within at' 0 63).toNat := ⟨_, rfl⟩
        have hi163 : i1 < 64 := by have := within_in at' 0 63 (by omega); omega
        have htu := fun (w' : World) (hE : Ext wr w') => turned5_any (k : Int) at' 1 P Q' d d' t PS QS w' (rPr.ext hE) (rQr.ext hE) Hpl.out Hql.out ha0 ha1 (.inr (.inl rfl))
        rw [← hi1'] at htu
        have Htu := Lib.hid htu
        have hne := turn_ne (PS := PS) (i := i1) (t := t) (by rw [Hpn.out]; exact hi163) (by rw [Hpl.out i1 hi163]; decide) ht
        have Hne := Lib.hid hne
        have Hqn := Lib.hid rQr.len
        clear htu hne hi1'
        go_upto_region 16 with (fail)
        refine par_ext (n := 20) (by kernel_rfl) [.is (.agg #[.int .i64 (k : Int), .slice P 64 d, .slice Q' 4 d']), .is (.agg #[.int .i64 (k : Int), .slice P2 64 f2, .slice Q2 4 f2']), .is (.bool (true)), .is (.bool (true)), .is (.int .u8 (u8i (t))), .is (.bool (false)), .is (.bool (false)), .is (.agg #[.int .i64 (k : Int), .slice P 64 d, .slice Q' 4 d']), .is (.agg #[.int .i64 (k : Int), .slice P 64 d, .slice Q' 4 d']), .is (.int .i64 (at')), .is (.int .u8 (u8i (t))), .sg (k : Int) 64 4 (PS.set i1 ((lb PS i1).set 0 (ub (lb PS i1) 0 ^^^ t))) QS, .is (.bool (false)), .is (.bool (true)), .is (.bool (true)), .is (.bool (true)), .is (.bool (true)), .is (.bool (true)), .is (.bool (true)), .is (.bool (true))] rfl ⟨?_, ?_, ?_, ?_, ?_, ?_, ?_, ?_, ?_, ?_, ?_, ?_, ?_, ?_, ?_, ?_, ?_, ?_, ?_, ?_, trivial⟩ ?_
        · refine stepE rfl fun sdn sa sw sE sd sk => ?_
          have h14 : sa.eval (.tmp 14) = .pointer (some ⟨w2.heap.size, 0, none⟩) := sk.old 14 rfl
          exact Runs.load rfl h14 (load_sig (hBs.ext sE)) ⟨Ext.refl _, rfl⟩
        · refine stepE rfl fun sdn sa sw sE sd sk => ?_
          have h18 : sa.eval (.tmp 18) = .pointer (some ⟨w5.heap.size, 0, none⟩) := sk.old 18 rfl
          exact Runs.load rfl h18 (load_sig (hBt.ext sE)) ⟨Ext.refl _, rfl⟩
        · refine stepE rfl fun sdn sa sw sE sd sk => ?_
          have h141 : sa.eval (.tmp 141) = .agg #[.int .i64 (k : Int), .slice P 64 d, .slice Q' 4 d'] := sk.fact 0 141 rfl (sd 0 rfl)
          have h142 : sa.eval (.tmp 142) = .agg #[.int .i64 (k : Int), .slice P2 64 f2, .slice Q2 4 f2'] := sk.fact 1 142 rfl (sd 1 rfl)
          refine Runs.call (f := 44) (vs := [.agg #[.int .i64 (k : Int), .slice P 64 d, .slice Q' 4 d'], .agg #[.int .i64 (k : Int), .slice P2 64 f2, .slice Q2 4 f2']]) rfl rfl rfl (by simp only [List.map_toArray, List.map_cons, List.map_nil, h141, h142] <;> rfl) (ent44 _ _) ((ssame_any (k : Int) (k : Int) _ _ _ _ _ _ _ _ _ _ _ _ PS QS PS QS sw (rPr.ext sE) (rQr.ext sE) (oPr.ext sE) (oQr.ext sE)).mono ?_); rintro e w' ⟨rfl, hx⟩; exact ⟨_, rfl, hx, congrArg Value.bool (sigEq_yes _ _ _)⟩
        · refine stepE rfl fun sdn sa sw sE sd sk => ?_
          have h143 : sa.eval (.tmp 143) = .bool (true) := sk.fact 2 143 rfl (sd 2 rfl)
          exact Runs.move rfl h143 ⟨Ext.refl _, rfl⟩
        · refine stepY (j := 3) (d := 144) (b := true) rfl rfl rfl (fun v w h => h) fun sdn sa sw sE sd sk => ?_
          have h4 : sa.eval (.tmp 4) = .int .u8 (u8i (t)) := sk.old 4 rfl
          exact Runs.move rfl h4 ⟨Ext.refl _, rfl⟩
        · refine stepY (j := 3) (d := 144) (b := true) rfl rfl rfl (fun v w h => h) fun sdn sa sw sE sd sk => ?_
          have h145 : sa.eval (.tmp 145) = .int .u8 (u8i (t)) := sk.fact 4 145 rfl (sd 4 rfl)
          have hz0 : (.int .u8 0 : Value) = .int .u8 (u8i (0 : UInt8)) := rfl
          exact Runs.bin (v := .int .u8 (u8i (0 : UInt8))) rfl h145 hz0 (by rfl) (bin_eql _ _ _ _) ⟨Ext.refl _, congrArg Value.bool (decide_eq_false ht')⟩
        · refine stepY (j := 3) (d := 144) (b := true) rfl rfl rfl (fun v w h => h) fun sdn sa sw sE sd sk => ?_
          have h146 : sa.eval (.tmp 146) = .bool (false) := sk.fact 5 146 rfl (sd 5 rfl)
          exact Runs.move rfl h146 ⟨Ext.refl _, rfl⟩
        · refine stepY (j := 6) (d := 147) (b := false) rfl rfl rfl (fun v w h => h) fun sdn sa sw sE sd sk => ?_
          have h14 : sa.eval (.tmp 14) = .pointer (some ⟨w2.heap.size, 0, none⟩) := sk.old 14 rfl
          exact Runs.load rfl h14 (load_sig (hBs.ext sE)) ⟨Ext.refl _, rfl⟩
        · refine stepY (j := 6) (d := 147) (b := false) rfl rfl rfl (fun v w h => h) fun sdn sa sw sE sd sk => ?_
          have h14 : sa.eval (.tmp 14) = .pointer (some ⟨w2.heap.size, 0, none⟩) := sk.old 14 rfl
          exact Runs.load rfl h14 (load_sig (hBs.ext sE)) ⟨Ext.refl _, rfl⟩
        · refine stepY (j := 6) (d := 147) (b := false) rfl rfl rfl (fun v w h => h) fun sdn sa sw sE sd sk => ?_
          have h3 : sa.eval (.tmp 3) = .int .i64 (at') := sk.old 3 rfl
          exact Runs.move rfl h3 ⟨Ext.refl _, rfl⟩
        · refine stepY (j := 6) (d := 147) (b := false) rfl rfl rfl (fun v w h => h) fun sdn sa sw sE sd sk => ?_
          have h4 : sa.eval (.tmp 4) = .int .u8 (u8i (t)) := sk.old 4 rfl
          exact Runs.move rfl h4 ⟨Ext.refl _, rfl⟩
        · refine stepY (j := 6) (d := 147) (b := false) rfl rfl rfl (fun v w h => h) fun sdn sa sw sE sd sk => ?_
          have h149 : sa.eval (.tmp 149) = .agg #[.int .i64 (k : Int), .slice P 64 d, .slice Q' 4 d'] := sk.fact 8 149 rfl (sd 8 rfl)
          have h150 : sa.eval (.tmp 150) = .int .i64 (at') := sk.fact 9 150 rfl (sd 9 rfl)
          have h151 : sa.eval (.tmp 151) = .int .u8 (u8i (t)) := sk.fact 10 151 rfl (sd 10 rfl)
          refine Runs.call (f := 41) (vs := [.agg #[.int .i64 (k : Int), .slice P 64 d, .slice Q' 4 d'], .int .i64 ((1 : Int)), .int .i64 (at'), .int .u8 (u8i (t))]) rfl rfl rfl (by simp only [List.map_toArray, List.map_cons, List.map_nil, h149, h150, h151] <;> rfl) (ent41 _ _) ((Htu.out sw sE).mono ?_); rintro e w' ⟨x', P', n', c', Q2', m', e2', Ps', Qs', rfl, h1, h2, h3, hx⟩; obtain ⟨rfl, rfl, rfl⟩ := h3 rfl; obtain rfl : n' = 64 := by rw [← h1.len, List.length_set]; exact Hpn.out
          obtain rfl : m' = 4 := by rw [← h2.len]; exact Hqn.out
          exact ⟨_, rfl, hx, P', c', Q2', e2', rfl, h1, h2⟩
        · refine stepY (j := 6) (d := 147) (b := false) rfl rfl rfl (fun v w h => h) fun sdn sa sw sE sd sk => ?_
          have h148 : sa.eval (.tmp 148) = .agg #[.int .i64 (k : Int), .slice P 64 d, .slice Q' 4 d'] := sk.fact 7 148 rfl (sd 7 rfl)
          obtain ⟨P152, d152, Q152, e152, h152, r152, q152⟩ := sk.fact 11 152 rfl (sd 11 rfl)
          refine Runs.call (f := 44) (vs := [.agg #[.int .i64 (k : Int), .slice P 64 d, .slice Q' 4 d'], .agg #[.int .i64 (k : Int), .slice P152 64 d152, .slice Q152 4 e152]]) rfl rfl rfl (by simp only [List.map_toArray, List.map_cons, List.map_nil, h148, h152] <;> rfl) (ent44 _ _) ((ssame_any (k : Int) (k : Int) _ _ _ _ _ _ _ _ _ _ _ _ PS QS (PS.set i1 ((lb PS i1).set 0 (ub (lb PS i1) 0 ^^^ t))) QS sw (rPr.ext sE) (rQr.ext sE) r152 q152).mono ?_); rintro e w' ⟨rfl, hx⟩; exact ⟨_, rfl, hx, congrArg Value.bool (sigEq_no (fun h => Hne.out h.2.1))⟩
        · refine stepY (j := 6) (d := 147) (b := false) rfl rfl rfl (fun v w h => h) fun sdn sa sw sE sd sk => ?_
          have h153 : sa.eval (.tmp 153) = .bool (false) := sk.fact 12 153 rfl (sd 12 rfl)
          exact Runs.un rfl h153 (by rfl) ⟨Ext.refl _, rfl⟩
        · refine stepY (j := 3) (d := 144) (b := true) rfl rfl rfl (fun v w h => h) fun sdn sa sw sE sd sk => ?_
          have h147 : sa.eval (.tmp 147) = .bool (false) := sk.fact 6 147 rfl (sd 6 rfl)
          have h154 : sa.eval (.tmp 154) = .bool (true) := sk.fact 13 154 rfl (sd 13 rfl)
          exact Runs.pick rfl h147 ⟨Ext.refl _, by first | exact h154 | simpa using h154⟩
        · refine stepE rfl fun sdn sa sw sE sd sk => ?_
          have h144 : sa.eval (.tmp 144) = .bool (true) := sk.fact 3 144 rfl (sd 3 rfl)
          have h155 : sa.eval (.tmp 155) = .bool (true) := sk.fact 14 155 rfl (sd 14 rfl)
          exact Runs.pick rfl h144 ⟨Ext.refl _, by first | exact h155 | simpa using h155⟩
        · refine stepE rfl fun sdn sa sw sE sd sk => ?_
          have h156 : sa.eval (.tmp 156) = .bool (true) := sk.fact 15 156 rfl (sd 15 rfl)
          exact Runs.move rfl h156 ⟨Ext.refl _, rfl⟩
        · refine stepY (j := 16) (d := 157) (b := true) rfl rfl rfl (fun v w h => h) fun sdn sa sw sE sd sk => ?_
          refine Runs.call (f := 34) (vs := []) rfl rfl rfl (by simp only [List.map_toArray, List.map_cons, List.map_nil] <;> rfl) (ent34 _ _) ((known5_any sw).mono ?_); rintro e w' ⟨rfl, hx⟩; exact ⟨_, rfl, hx, rfl⟩
        · refine stepE rfl fun sdn sa sw sE sd sk => ?_
          have h157 : sa.eval (.tmp 157) = .bool (true) := sk.fact 16 157 rfl (sd 16 rfl)
          have h158 : sa.eval (.tmp 158) = .bool (true) := sk.fact 17 158 rfl (sd 17 rfl)
          exact Runs.pick rfl h157 ⟨Ext.refl _, by first | exact h158 | simpa using h158⟩
        · refine stepE rfl fun sdn sa sw sE sd sk => ?_
          have h159 : sa.eval (.tmp 159) = .bool (true) := sk.fact 18 159 rfl (sd 18 rfl)
          exact Runs.assign rfl h159 ⟨Ext.refl _, rfl⟩
        intro vals W16 hE16 hv16
        have e0 : vals 0 = .agg #[.int .i64 (k : Int), .slice P 64 d, .slice Q' 4 d'] := hv16 0 (by omega) 141 rfl
        have e1 : vals 1 = .agg #[.int .i64 (k : Int), .slice P2 64 f2, .slice Q2 4 f2'] := hv16 1 (by omega) 142 rfl
        have e2 : vals 2 = .bool (true) := hv16 2 (by omega) 143 rfl
        have e3 : vals 3 = .bool (true) := hv16 3 (by omega) 144 rfl
        have e4 : vals 4 = .int .u8 (u8i (t)) := hv16 4 (by omega) 145 rfl
        have e5 : vals 5 = .bool (false) := hv16 5 (by omega) 146 rfl
        have e6 : vals 6 = .bool (false) := hv16 6 (by omega) 147 rfl
        have e7 : vals 7 = .agg #[.int .i64 (k : Int), .slice P 64 d, .slice Q' 4 d'] := hv16 7 (by omega) 148 rfl
        have e8 : vals 8 = .agg #[.int .i64 (k : Int), .slice P 64 d, .slice Q' 4 d'] := hv16 8 (by omega) 149 rfl
        have e9 : vals 9 = .int .i64 (at') := hv16 9 (by omega) 150 rfl
        have e10 : vals 10 = .int .u8 (u8i (t)) := hv16 10 (by omega) 151 rfl
        obtain ⟨P152, d152, Q152, e152, e11, r152, q152⟩ := hv16 11 (by omega) 152 rfl
        have e12 : vals 12 = .bool (false) := hv16 12 (by omega) 153 rfl
        have e13 : vals 13 = .bool (true) := hv16 13 (by omega) 154 rfl
        have e14 : vals 14 = .bool (true) := hv16 14 (by omega) 155 rfl
        have e15 : vals 15 = .bool (true) := hv16 15 (by omega) 156 rfl
        have e16 : vals 16 = .bool (true) := hv16 16 (by omega) 157 rfl
        have e17 : vals 17 = .bool (true) := hv16 17 (by omega) 158 rfl
        have e18 : vals 18 = .bool (true) := hv16 18 (by omega) 159 rfl
        have e19 : vals 19 = .bool (true) := hv16 19 (by omega) 12 rfl
        simp only [putAll, Act.put, List.take_succ_cons, List.take_zero, List.drop_succ_cons, List.drop_zero, List.drop_nil, List.take_nil, Nat.reduceAdd, List.setIfInBounds_toArray, List.set_cons_succ, List.set_cons_zero, e0, e1, e2, e3, e4, e5, e6, e7, e8, e9, e10, e11, e12, e13, e14, e15, e16, e17, e18, e19]
        clear hv16 e0 e1 e2 e3 e4 e5 e6 e7 e8 e9 e10 e11 e12 e13 e14 e15 e16 e17 e18 e19
        go_wp2_with fail
        go_ret
        exact ⟨rfl, hEar.trans hE16⟩
end Go.Proofs.Ytmgnigofilkfmab
