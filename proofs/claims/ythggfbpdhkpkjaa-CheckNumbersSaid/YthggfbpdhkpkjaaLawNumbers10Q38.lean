/-
  law10.same, law10.reads, walked.
-/
import Derived.Test.YthggfbpdhkpkjaaLawNumbers10Q37
import Derived.Test.YthggfbpdhkpkjaaLawNumbers10Q21
namespace Go.Proofs.Ythggfbpdhkpkjaa
set_option maxRecDepth 100000
open Go Go.RowKit
theorem rleft_any (w : World) (base q : Nat) (L : List UInt8) (bad : Bool) (hR : RdrS w base q L bad) :
    Calls Try.prog 78 #[.pointer (some ⟨q, 0, none⟩)] w fun e w' => e = .returned (.int .i64 (L.length : Int)) ∧ w = w' := by
  obtain ⟨A, n, c, hn, hr⟩ := hR
  have y0 := hr.blk.cell (i := 0) (v := .slice A n c) rfl
  have hl := Lib.hid hr.rb.len
  go_enter Try.func78, Try.ntmps78
  go_wp2_with fail
  go_ret
  exact ⟨by rw [hl.out]; rfl, rfl⟩
set_option maxHeartbeats 2000000 in
theorem r1left_any (w : World) (base q : Nat) (L : List UInt8) (bad : Bool) (hR : RR w base q L bad) :
    Calls Try.prog 79 #[.pointer (some ⟨q, 0, none⟩)] w fun e w' => e = .returned (.int .i64 (L.length : Int)) ∧ Ext w w' := by
  obtain ⟨A, n, c, At, Bb, hb, hr, hAt, hn, _, h1, h2, _⟩ := hR
  have y2 := hb.cell (i := 2) (v := .bool bad) rfl
  have hl := hr.len
  cases bad with
  | true =>
    obtain rfl := h2 rfl
    clear h1 h2 hl
    go_enter Try.func79, Try.ntmps79
    go_wp2_with fail
    go_ret
    exact ⟨rfl, Ext.refl _⟩
  | false =>
    have hL := h1 rfl
    have hv : (L.length : Int) = (n : Int) - (At : Int) := by rw [hL, List.length_drop]; omega
    have Hv := Lib.hid hv
    clear h1 h2 hl hL hv
    go_enter Try.func79, Try.ntmps79
    go_upto_region 3 with (fail)
    have hcap := hr.cap
    unfold maxLen at hcap
    refine par_ext (n := 10) (by kernel_rfl) [.is (.pointer (some ⟨q, 0, none⟩)), .is (.pointer (some ⟨q, 0, none⟩)), .is (.pointer (some ⟨q, 0, none⟩)), .is (.slice (A) (n) (c)), .is (.int .i64 ((n : Nat))), .is (.pointer (some ⟨q, 0, none⟩)), .is (.pointer (some ⟨q, 0, none⟩)), .is (.pointer (some ⟨q, 1, none⟩)), .is (.int .i64 ((At : Int))), .is (.int .i64 ((n : Nat) - (At : Int)))] rfl ⟨?_, ?_, ?_, ?_, ?_, ?_, ?_, ?_, ?_, ?_, trivial⟩ ?_
    · refine stepE rfl fun sdn sa sw sE sd sk => ?_
      have h0 : sa.eval (.tmp 0) = .pointer (some ⟨q, 0, none⟩) := sk.old 0 rfl
      exact Runs.move rfl h0 ⟨Ext.refl _, rfl⟩
    · refine stepE rfl fun sdn sa sw sE sd sk => ?_
      have h7 : sa.eval (.tmp 7) = .pointer (some ⟨q, 0, none⟩) := sk.fact 0 7 rfl (sd 0 rfl)
      exact Runs.nil_ rfl h7 ⟨Ext.refl _, rfl⟩
    · refine stepE rfl fun sdn sa sw sE sd sk => ?_
      have h8 : sa.eval (.tmp 8) = .pointer (some ⟨q, 0, none⟩) := sk.fact 1 8 rfl (sd 1 rfl)
      refine Runs.of_run (r := .pointer (some ⟨q, 0, none⟩)) (w' := sw) ?_ ⟨Ext.refl _, rfl⟩
      unfold execOp
      simp only [h8]
      go_simp
    · refine stepE rfl fun sdn sa sw sE sd sk => ?_
      have h9 : sa.eval (.tmp 9) = .pointer (some ⟨q, 0, none⟩) := sk.fact 2 9 rfl (sd 2 rfl)
      exact Runs.load rfl h9 (run_load1 Try.underlying22 rfl ((hb.ext sE).cell (i := 0) rfl)) ⟨Ext.refl _, rfl⟩
    · refine stepE rfl fun sdn sa sw sE sd sk => ?_
      have h10 : sa.eval (.tmp 10) = .slice (A) (n) (c) := sk.fact 3 10 rfl (sd 3 rfl)
      exact Runs.len Try.underlying22 rfl h10 ⟨Ext.refl _, rfl⟩
    · refine stepE rfl fun sdn sa sw sE sd sk => ?_
      have h0 : sa.eval (.tmp 0) = .pointer (some ⟨q, 0, none⟩) := sk.old 0 rfl
      exact Runs.move rfl h0 ⟨Ext.refl _, rfl⟩
    · refine stepE rfl fun sdn sa sw sE sd sk => ?_
      have h12 : sa.eval (.tmp 12) = .pointer (some ⟨q, 0, none⟩) := sk.fact 5 12 rfl (sd 5 rfl)
      exact Runs.nil_ rfl h12 ⟨Ext.refl _, rfl⟩
    · refine stepE rfl fun sdn sa sw sE sd sk => ?_
      have h13 : sa.eval (.tmp 13) = .pointer (some ⟨q, 0, none⟩) := sk.fact 6 13 rfl (sd 6 rfl)
      refine Runs.of_run (r := .pointer (some ⟨q, 1, none⟩)) (w' := sw) ?_ ⟨Ext.refl _, rfl⟩
      unfold execOp
      simp only [h13]
      go_simp
    · refine stepE rfl fun sdn sa sw sE sd sk => ?_
      have h14 : sa.eval (.tmp 14) = .pointer (some ⟨q, 1, none⟩) := sk.fact 7 14 rfl (sd 7 rfl)
      exact Runs.load rfl h14 (run_load1 Try.underlying3 rfl ((hb.ext sE).cell (i := 1) rfl)) ⟨Ext.refl _, rfl⟩
    · refine stepE rfl fun sdn sa sw sE sd sk => ?_
      have h11 : sa.eval (.tmp 11) = .int .i64 ((n : Nat)) := sk.fact 4 11 rfl (sd 4 rfl)
      have h15 : sa.eval (.tmp 15) = .int .i64 ((At : Int)) := sk.fact 8 15 rfl (sd 8 rfl)
      exact Runs.bin rfl h11 h15 (eqGuard_bin rfl) (bin_sub64 _ _ _ (by omega) (by omega)) ⟨Ext.refl _, rfl⟩
    intro vals W3 hE3 hv3
    have e0 : vals 0 = .pointer (some ⟨q, 0, none⟩) := hv3 0 (by omega) 7 rfl
    have e1 : vals 1 = .pointer (some ⟨q, 0, none⟩) := hv3 1 (by omega) 8 rfl
    have e2 : vals 2 = .pointer (some ⟨q, 0, none⟩) := hv3 2 (by omega) 9 rfl
    have e3 : vals 3 = .slice (A) (n) (c) := hv3 3 (by omega) 10 rfl
    have e4 : vals 4 = .int .i64 ((n : Nat)) := hv3 4 (by omega) 11 rfl
    have e5 : vals 5 = .pointer (some ⟨q, 0, none⟩) := hv3 5 (by omega) 12 rfl
    have e6 : vals 6 = .pointer (some ⟨q, 0, none⟩) := hv3 6 (by omega) 13 rfl
    have e7 : vals 7 = .pointer (some ⟨q, 1, none⟩) := hv3 7 (by omega) 14 rfl
    have e8 : vals 8 = .int .i64 ((At : Int)) := hv3 8 (by omega) 15 rfl
    have e9 : vals 9 = .int .i64 ((n : Nat) - (At : Int)) := hv3 9 (by omega) 16 rfl
    simp only [putAll, Act.put, List.take_succ_cons, List.take_zero, List.drop_succ_cons, List.drop_zero, List.drop_nil, List.take_nil, Nat.reduceAdd, List.setIfInBounds_toArray, List.set_cons_succ, List.set_cons_zero, e0, e1, e2, e3, e4, e5, e6, e7, e8, e9]
    clear hv3 e0 e1 e2 e3 e4 e5 e6 e7 e8 e9
    go_wp2_with fail
    go_ret
    exact ⟨by rw [Hv.out]; rfl, hE3⟩
set_option maxHeartbeats 8000000 in
theorem same10_any (X B P Q : Option Addr) (nx cx n d np cp nq cq : Nat) (x k : Int) (XL R : List UInt8) (PS QS : List (List UInt8)) (w : World) (rX : RB w X nx cx XL) (rR : RB w B n d R) (rP : RBB w P np cp PS) (rQ : RBB w Q nq cq QS) :
    Calls Try.prog 32 #[.slice X nx cx, .agg #[.int .i64 x, .slice B n d, .int .i64 k, .slice P np cp, .slice Q nq cq]] w fun e w' => e = .returned (.bool true) ∧ Ext w w' := by
  have hEa := Ext.new w (.cells #[.int .i64 x, .slice B n d, .int .i64 k, .slice P np cp, .slice Q nq cq] 41)
  have hB := Blk.new w 41 #[.int .i64 x, .slice B n d, .int .i64 k, .slice P np cp, .slice Q nq cq]
  replace rX := rX.ext hEa
  replace rR := rR.ext hEa
  replace rP := rP.ext hEa
  replace rQ := rQ.ext hEa
  go_enter Try.func32, Try.ntmps32
  go_upto_region 1 with (fail)
  generalize w.alloc (.cells #[.int .i64 x, .slice B n d, .int .i64 k, .slice P np cp, .slice Q nq cq] 41) = w1 at *
  obtain ⟨g0, hg0⟩ : ∃ g0, g0 = w.heap.size := ⟨_, rfl⟩
  rw [← hg0] at hB ⊢
  clear hg0
  refine par_ext (n := 27) (by kernel_rfl) [.is (.pointer (some ⟨g0, 0, none⟩)), .is (.agg #[.int .i64 (x), .slice (B) (n) (d)]), .is (.bool (rightC x R)), .is (.pointer (some ⟨g0, 0, none⟩)), .is (.agg #[.int .i64 (x), .slice (B) (n) (d)]), .is (.bool (rightC x R)), .is (.bool (false)), .is (.bool (false)), .is (.pointer (some ⟨g0, 0, none⟩)), .is (.agg #[.int .i64 (x), .slice (B) (n) (d)]), .rb (bodyC checkL x R), .is (.string (str (bodyC checkL x R))), .is (.pointer (some ⟨g0, 0, none⟩)), .is (.agg #[.int .i64 (x), .slice (B) (n) (d)]), .rb (bodyC checkL x R), .is (.string (str (bodyC checkL x R))), .is (.bool (false)), .is (.bool (false)), .is (.bool (false)), .is (.slice (X) (nx) (cx)), .is (.agg #[.int .i64 (x), .slice (B) (n) (d), .int .i64 (k), .slice (P) (np) (cp), .slice (Q) (nq) (cq)]), .is (.bool (cverB XL x R k PS QS)), .is (.slice (X) (nx) (cx)), .is (.agg #[.int .i64 (x), .slice (B) (n) (d), .int .i64 (k), .slice (P) (np) (cp), .slice (Q) (nq) (cq)]), .is (.bool (cverB XL x R k PS QS)), .is (.bool (false)), .is (.bool (false))] rfl ⟨?_, ?_, ?_, ?_, ?_, ?_, ?_, ?_, ?_, ?_, ?_, ?_, ?_, ?_, ?_, ?_, ?_, ?_, ?_, ?_, ?_, ?_, ?_, ?_, ?_, ?_, ?_, trivial⟩ ?_
  · refine stepE rfl fun sdn sa sw sE sd sk => ?_
    have h3 : sa.eval (.tmp 3) = .pointer (some ⟨g0, 0, none⟩) := sk.old 3 rfl
    refine Runs.of_run (r := .pointer (some ⟨g0, 0, none⟩)) (w' := sw) ?_ ⟨Ext.refl _, rfl⟩
    unfold execOp
    simp only [h3]
    go_simp
  · refine stepE rfl fun sdn sa sw sE sd sk => ?_
    have h11 : sa.eval (.tmp 11) = .pointer (some ⟨g0, 0, none⟩) := sk.fact 0 11 rfl (sd 0 rfl)
    exact Runs.load rfl h11 (load_part (hB.ext sE) 0 (vs := [.int .i64 (x), .slice (B) (n) (d)]) rfl Try.underlying24 rfl (by kernel_rfl)) ⟨Ext.refl _, rfl⟩
  · refine stepE rfl fun sdn sa sw sE sd sk => ?_
    have h12 : sa.eval (.tmp 12) = .agg #[.int .i64 (x), .slice (B) (n) (d)] := sk.fact 1 12 rfl (sd 1 rfl)
    refine Runs.call (f := 19) (vs := [.agg #[.int .i64 (x), .slice (B) (n) (d)]]) rfl rfl rfl (by simp only [List.map_toArray, List.map_cons, List.map_nil, h12] <;> rfl) (ent19 _ _) ((cright_any _ _ _ _ _ sw (rR.ext sE)).mono ?_); rintro e w' ⟨rfl, hx⟩; exact ⟨_, rfl, hx, rfl⟩
  · refine stepE rfl fun sdn sa sw sE sd sk => ?_
    have h3 : sa.eval (.tmp 3) = .pointer (some ⟨g0, 0, none⟩) := sk.old 3 rfl
    refine Runs.of_run (r := .pointer (some ⟨g0, 0, none⟩)) (w' := sw) ?_ ⟨Ext.refl _, rfl⟩
    unfold execOp
    simp only [h3]
    go_simp
  · refine stepE rfl fun sdn sa sw sE sd sk => ?_
    have h14 : sa.eval (.tmp 14) = .pointer (some ⟨g0, 0, none⟩) := sk.fact 3 14 rfl (sd 3 rfl)
    exact Runs.load rfl h14 (load_part (hB.ext sE) 0 (vs := [.int .i64 (x), .slice (B) (n) (d)]) rfl Try.underlying24 rfl (by kernel_rfl)) ⟨Ext.refl _, rfl⟩
  · refine stepE rfl fun sdn sa sw sE sd sk => ?_
    have h15 : sa.eval (.tmp 15) = .agg #[.int .i64 (x), .slice (B) (n) (d)] := sk.fact 4 15 rfl (sd 4 rfl)
    refine Runs.call (f := 36) (vs := [.agg #[.int .i64 (x), .slice (B) (n) (d)]]) rfl rfl rfl (by simp only [List.map_toArray, List.map_cons, List.map_nil, h15] <;> rfl) (ent36 _ _) ((rcright_any _ _ _ _ _ sw (rR.ext sE)).mono ?_); rintro e w' ⟨rfl, hx⟩; exact ⟨_, rfl, hx, rfl⟩
  · refine stepE rfl fun sdn sa sw sE sd sk => ?_
    have h13 : sa.eval (.tmp 13) = .bool (rightC x R) := sk.fact 2 13 rfl (sd 2 rfl)
    have h16 : sa.eval (.tmp 16) = .bool (rightC x R) := sk.fact 5 16 rfl (sd 5 rfl)
    exact Runs.bin rfl h13 h16 (by rfl) (bin_neb _ _) ⟨Ext.refl _, congrArg Value.bool (by simp)⟩
  · refine stepE rfl fun sdn sa sw sE sd sk => ?_
    have h17 : sa.eval (.tmp 17) = .bool (false) := sk.fact 6 17 rfl (sd 6 rfl)
    exact Runs.move rfl h17 ⟨Ext.refl _, rfl⟩
  · refine stepY (j := 7) (d := 18) (b := false) rfl rfl rfl (fun v w h => h) fun sdn sa sw sE sd sk => ?_
    have h3 : sa.eval (.tmp 3) = .pointer (some ⟨g0, 0, none⟩) := sk.old 3 rfl
    refine Runs.of_run (r := .pointer (some ⟨g0, 0, none⟩)) (w' := sw) ?_ ⟨Ext.refl _, rfl⟩
    unfold execOp
    simp only [h3]
    go_simp
  · refine stepY (j := 7) (d := 18) (b := false) rfl rfl rfl (fun v w h => h) fun sdn sa sw sE sd sk => ?_
    have h19 : sa.eval (.tmp 19) = .pointer (some ⟨g0, 0, none⟩) := sk.fact 8 19 rfl (sd 8 rfl)
    exact Runs.load rfl h19 (load_part (hB.ext sE) 0 (vs := [.int .i64 (x), .slice (B) (n) (d)]) rfl Try.underlying24 rfl (by kernel_rfl)) ⟨Ext.refl _, rfl⟩
  · refine stepY (j := 7) (d := 18) (b := false) rfl rfl rfl (fun v w h => h) fun sdn sa sw sE sd sk => ?_
    have h20 : sa.eval (.tmp 20) = .agg #[.int .i64 (x), .slice (B) (n) (d)] := sk.fact 9 20 rfl (sd 9 rfl)
    refine Runs.call (f := 17) (vs := [.agg #[.int .i64 (x), .slice (B) (n) (d)]]) rfl rfl rfl (by simp only [List.map_toArray, List.map_cons, List.map_nil, h20] <;> rfl) (ent17 _ _) ((cbody_rb _ _ _ _ _ sw (rR.ext sE)).mono ?_); rintro e w' ⟨A', n', c', rfl, own, hx⟩; exact ⟨_, rfl, hx, A', n', c', rfl, own⟩
  · refine stepY (j := 7) (d := 18) (b := false) rfl rfl rfl (fun v w h => h) fun sdn sa sw sE sd sk => ?_
    obtain ⟨A21, n21, c21, h21, r21⟩ := sk.fact 10 21 rfl (sd 10 rfl)
    exact Runs.conv rfl h21 (run_str r21) ⟨Ext.refl _, rfl⟩
  · refine stepY (j := 7) (d := 18) (b := false) rfl rfl rfl (fun v w h => h) fun sdn sa sw sE sd sk => ?_
    have h3 : sa.eval (.tmp 3) = .pointer (some ⟨g0, 0, none⟩) := sk.old 3 rfl
    refine Runs.of_run (r := .pointer (some ⟨g0, 0, none⟩)) (w' := sw) ?_ ⟨Ext.refl _, rfl⟩
    unfold execOp
    simp only [h3]
    go_simp
  · refine stepY (j := 7) (d := 18) (b := false) rfl rfl rfl (fun v w h => h) fun sdn sa sw sE sd sk => ?_
    have h23 : sa.eval (.tmp 23) = .pointer (some ⟨g0, 0, none⟩) := sk.fact 12 23 rfl (sd 12 rfl)
    exact Runs.load rfl h23 (load_part (hB.ext sE) 0 (vs := [.int .i64 (x), .slice (B) (n) (d)]) rfl Try.underlying24 rfl (by kernel_rfl)) ⟨Ext.refl _, rfl⟩
  · refine stepY (j := 7) (d := 18) (b := false) rfl rfl rfl (fun v w h => h) fun sdn sa sw sE sd sk => ?_
    have h24 : sa.eval (.tmp 24) = .agg #[.int .i64 (x), .slice (B) (n) (d)] := sk.fact 13 24 rfl (sd 13 rfl)
    refine Runs.call (f := 55) (vs := [.agg #[.int .i64 (x), .slice (B) (n) (d)]]) rfl rfl rfl (by simp only [List.map_toArray, List.map_cons, List.map_nil, h24] <;> rfl) (ent55 _ _) ((rbody_any _ _ _ _ _ sw (rR.ext sE)).mono ?_); rintro e w' ⟨A', n', c', rfl, own, hx⟩; exact ⟨_, rfl, hx, A', n', c', rfl, own⟩
  · refine stepY (j := 7) (d := 18) (b := false) rfl rfl rfl (fun v w h => h) fun sdn sa sw sE sd sk => ?_
    obtain ⟨A25, n25, c25, h25, r25⟩ := sk.fact 14 25 rfl (sd 14 rfl)
    exact Runs.conv rfl h25 (run_str r25) ⟨Ext.refl _, rfl⟩
  · refine stepY (j := 7) (d := 18) (b := false) rfl rfl rfl (fun v w h => h) fun sdn sa sw sE sd sk => ?_
    have h22 : sa.eval (.tmp 22) = .string (str (bodyC checkL x R)) := sk.fact 11 22 rfl (sd 11 rfl)
    have h26 : sa.eval (.tmp 26) = .string (str (bodyC checkL x R)) := sk.fact 15 26 rfl (sd 15 rfl)
    exact Runs.bin rfl h22 h26 (by rfl) (bin_nes _ _ _) ⟨Ext.refl _, congrArg Value.bool (by simp)⟩
  · refine stepE rfl fun sdn sa sw sE sd sk => ?_
    have h18 : sa.eval (.tmp 18) = .bool (false) := sk.fact 7 18 rfl (sd 7 rfl)
    have h27 : sa.eval (.tmp 27) = .bool (false) := sk.fact 16 27 rfl (sd 16 rfl)
    exact Runs.pick rfl h18 ⟨Ext.refl _, by first | exact h27 | simpa using h27⟩
  · refine stepE rfl fun sdn sa sw sE sd sk => ?_
    have h28 : sa.eval (.tmp 28) = .bool (false) := sk.fact 17 28 rfl (sd 17 rfl)
    exact Runs.move rfl h28 ⟨Ext.refl _, rfl⟩
  · refine stepY (j := 18) (d := 29) (b := false) rfl rfl rfl (fun v w h => h) fun sdn sa sw sE sd sk => ?_
    have h0 : sa.eval (.tmp 0) = .slice (X) (nx) (cx) := sk.old 0 rfl
    exact Runs.move rfl h0 ⟨Ext.refl _, rfl⟩
  · refine stepY (j := 18) (d := 29) (b := false) rfl rfl rfl (fun v w h => h) fun sdn sa sw sE sd sk => ?_
    have h3 : sa.eval (.tmp 3) = .pointer (some ⟨g0, 0, none⟩) := sk.old 3 rfl
    exact Runs.load rfl h3 (load_part (hB.ext sE) 0 (vs := [.int .i64 (x), .slice (B) (n) (d), .int .i64 (k), .slice (P) (np) (cp), .slice (Q) (nq) (cq)]) rfl Try.underlying41 rfl (by kernel_rfl)) ⟨Ext.refl _, rfl⟩
  · refine stepY (j := 18) (d := 29) (b := false) rfl rfl rfl (fun v w h => h) fun sdn sa sw sE sd sk => ?_
    have h30 : sa.eval (.tmp 30) = .slice (X) (nx) (cx) := sk.fact 19 30 rfl (sd 19 rfl)
    have h31 : sa.eval (.tmp 31) = .agg #[.int .i64 (x), .slice (B) (n) (d), .int .i64 (k), .slice (P) (np) (cp), .slice (Q) (nq) (cq)] := sk.fact 20 31 rfl (sd 20 rfl)
    refine Runs.call (f := 30) (vs := [.slice (X) (nx) (cx), .agg #[.int .i64 (x), .slice (B) (n) (d), .int .i64 (k), .slice (P) (np) (cp), .slice (Q) (nq) (cq)]]) rfl rfl rfl (by simp only [List.map_toArray, List.map_cons, List.map_nil, h30, h31] <;> rfl) (ent30 _ _) ((cverify_any _ _ _ _ _ _ _ _ _ _ _ _ _ _ _ _ _ _ sw (rX.ext sE) (rR.ext sE) (rP.ext sE) (rQ.ext sE)).mono ?_); rintro e w' ⟨rfl, hx⟩; exact ⟨_, rfl, hx, rfl⟩
  · refine stepY (j := 18) (d := 29) (b := false) rfl rfl rfl (fun v w h => h) fun sdn sa sw sE sd sk => ?_
    have h0 : sa.eval (.tmp 0) = .slice (X) (nx) (cx) := sk.old 0 rfl
    exact Runs.move rfl h0 ⟨Ext.refl _, rfl⟩
  · refine stepY (j := 18) (d := 29) (b := false) rfl rfl rfl (fun v w h => h) fun sdn sa sw sE sd sk => ?_
    have h3 : sa.eval (.tmp 3) = .pointer (some ⟨g0, 0, none⟩) := sk.old 3 rfl
    exact Runs.load rfl h3 (load_part (hB.ext sE) 0 (vs := [.int .i64 (x), .slice (B) (n) (d), .int .i64 (k), .slice (P) (np) (cp), .slice (Q) (nq) (cq)]) rfl Try.underlying41 rfl (by kernel_rfl)) ⟨Ext.refl _, rfl⟩
  · refine stepY (j := 18) (d := 29) (b := false) rfl rfl rfl (fun v w h => h) fun sdn sa sw sE sd sk => ?_
    have h33 : sa.eval (.tmp 33) = .slice (X) (nx) (cx) := sk.fact 22 33 rfl (sd 22 rfl)
    have h34 : sa.eval (.tmp 34) = .agg #[.int .i64 (x), .slice (B) (n) (d), .int .i64 (k), .slice (P) (np) (cp), .slice (Q) (nq) (cq)] := sk.fact 23 34 rfl (sd 23 rfl)
    refine Runs.call (f := 80) (vs := [.slice (X) (nx) (cx), .agg #[.int .i64 (x), .slice (B) (n) (d), .int .i64 (k), .slice (P) (np) (cp), .slice (Q) (nq) (cq)]]) rfl rfl rfl (by simp only [List.map_toArray, List.map_cons, List.map_nil, h33, h34] <;> rfl) (ent80 _ _) ((rcverify_any _ _ _ _ _ _ _ _ _ _ _ _ _ _ _ _ _ _ sw (rX.ext sE) (rR.ext sE) (rP.ext sE) (rQ.ext sE)).mono ?_); rintro e w' ⟨rfl, hx⟩; exact ⟨_, rfl, hx, rfl⟩
  · refine stepY (j := 18) (d := 29) (b := false) rfl rfl rfl (fun v w h => h) fun sdn sa sw sE sd sk => ?_
    have h32 : sa.eval (.tmp 32) = .bool (cverB XL x R k PS QS) := sk.fact 21 32 rfl (sd 21 rfl)
    have h35 : sa.eval (.tmp 35) = .bool (cverB XL x R k PS QS) := sk.fact 24 35 rfl (sd 24 rfl)
    exact Runs.bin rfl h32 h35 (by rfl) (bin_neb _ _) ⟨Ext.refl _, congrArg Value.bool (by simp)⟩
  · refine stepE rfl fun sdn sa sw sE sd sk => ?_
    have h29 : sa.eval (.tmp 29) = .bool (false) := sk.fact 18 29 rfl (sd 18 rfl)
    have h36 : sa.eval (.tmp 36) = .bool (false) := sk.fact 25 36 rfl (sd 25 rfl)
    exact Runs.pick rfl h29 ⟨Ext.refl _, by first | exact h36 | simpa using h36⟩
  intro vals W1 hE1 hv1
  have e0 : vals 0 = .pointer (some ⟨g0, 0, none⟩) := hv1 0 (by omega) 11 rfl
  have e1 : vals 1 = .agg #[.int .i64 (x), .slice (B) (n) (d)] := hv1 1 (by omega) 12 rfl
  have e2 : vals 2 = .bool (rightC x R) := hv1 2 (by omega) 13 rfl
  have e3 : vals 3 = .pointer (some ⟨g0, 0, none⟩) := hv1 3 (by omega) 14 rfl
  have e4 : vals 4 = .agg #[.int .i64 (x), .slice (B) (n) (d)] := hv1 4 (by omega) 15 rfl
  have e5 : vals 5 = .bool (rightC x R) := hv1 5 (by omega) 16 rfl
  have e6 : vals 6 = .bool (false) := hv1 6 (by omega) 17 rfl
  have e7 : vals 7 = .bool (false) := hv1 7 (by omega) 18 rfl
  have e8 : vals 8 = .pointer (some ⟨g0, 0, none⟩) := hv1 8 (by omega) 19 rfl
  have e9 : vals 9 = .agg #[.int .i64 (x), .slice (B) (n) (d)] := hv1 9 (by omega) 20 rfl
  obtain ⟨A21, n21, c21, e10, r21⟩ := hv1 10 (by omega) 21 rfl
  have e11 : vals 11 = .string (str (bodyC checkL x R)) := hv1 11 (by omega) 22 rfl
  have e12 : vals 12 = .pointer (some ⟨g0, 0, none⟩) := hv1 12 (by omega) 23 rfl
  have e13 : vals 13 = .agg #[.int .i64 (x), .slice (B) (n) (d)] := hv1 13 (by omega) 24 rfl
  obtain ⟨A25, n25, c25, e14, r25⟩ := hv1 14 (by omega) 25 rfl
  have e15 : vals 15 = .string (str (bodyC checkL x R)) := hv1 15 (by omega) 26 rfl
  have e16 : vals 16 = .bool (false) := hv1 16 (by omega) 27 rfl
  have e17 : vals 17 = .bool (false) := hv1 17 (by omega) 28 rfl
  have e18 : vals 18 = .bool (false) := hv1 18 (by omega) 29 rfl
  have e19 : vals 19 = .slice (X) (nx) (cx) := hv1 19 (by omega) 30 rfl
  have e20 : vals 20 = .agg #[.int .i64 (x), .slice (B) (n) (d), .int .i64 (k), .slice (P) (np) (cp), .slice (Q) (nq) (cq)] := hv1 20 (by omega) 31 rfl
  have e21 : vals 21 = .bool (cverB XL x R k PS QS) := hv1 21 (by omega) 32 rfl
  have e22 : vals 22 = .slice (X) (nx) (cx) := hv1 22 (by omega) 33 rfl
  have e23 : vals 23 = .agg #[.int .i64 (x), .slice (B) (n) (d), .int .i64 (k), .slice (P) (np) (cp), .slice (Q) (nq) (cq)] := hv1 23 (by omega) 34 rfl
  have e24 : vals 24 = .bool (cverB XL x R k PS QS) := hv1 24 (by omega) 35 rfl
  have e25 : vals 25 = .bool (false) := hv1 25 (by omega) 36 rfl
  have e26 : vals 26 = .bool (false) := hv1 26 (by omega) 37 rfl
  simp only [putAll, Act.put, List.take_succ_cons, List.take_zero, List.drop_succ_cons, List.drop_zero, List.drop_nil, List.take_nil, Nat.reduceAdd, List.setIfInBounds_toArray, List.set_cons_succ, List.set_cons_zero, e0, e1, e2, e3, e4, e5, e6, e7, e8, e9, e10, e11, e12, e13, e14, e15, e16, e17, e18, e19, e20, e21, e22, e23, e24, e25, e26]
  clear hv1 e0 e1 e2 e3 e4 e5 e6 e7 e8 e9 e10 e11 e12 e13 e14 e15 e16 e17 e18 e19 e20 e21 e22 e23 e24 e25 e26
  replace hB := hB.ext hE1
  replace rR := rR.ext hE1
  replace rP := rP.ext hE1
  replace rQ := rQ.ext hE1
  replace hEa := hEa.trans hE1
  clear hE1 rX
  have y0 := hB.cell (i := 0) (v := .int .i64 x) rfl
  have y1 := hB.cell (i := 1) (v := .slice B n d) rfl
  have y2 := hB.cell (i := 2) (v := .int .i64 k) rfl
  have y3 := hB.cell (i := 3) (v := .slice P np cp) rfl
  have y4 := hB.cell (i := 4) (v := .slice Q nq cq) rfl
  go_wp2_with fail
  refine (cencode_any B P Q n d np cp nq cq x k R PS QS W1 rR rP rQ).mono ?_
  rintro e w2 ⟨G, m, cg, rfl, own, hE⟩
  have rG := own.rb
  replace hB := hB.ext hE
  replace rR := rR.ext hE
  replace rP := rP.ext hE
  replace rQ := rQ.ext hE
  replace hEa := hEa.trans hE
  clear hE y0 y1 y2 y3 y4 own
  have y0 := hB.cell (i := 0) (v := .int .i64 x) rfl
  have y1 := hB.cell (i := 1) (v := .slice B n d) rfl
  have y2 := hB.cell (i := 2) (v := .int .i64 k) rfl
  have y3 := hB.cell (i := 3) (v := .slice P np cp) rfl
  have y4 := hB.cell (i := 4) (v := .slice Q nq cq) rfl
  go_wp2_with fail
  refine (rcput_any B P Q n d np cp nq cq x k R PS QS w2 rR rP rQ).mono ?_
  rintro e w3 ⟨H, m2, ch, rfl, rH, hE⟩
  replace hB := hB.ext hE
  replace rR := rR.ext hE
  replace rP := rP.ext hE
  replace rQ := rQ.ext hE
  replace rG := rG.ext hE
  replace hEa := hEa.trans hE
  clear hE y0 y1 y2 y3 y4
  go_wp2_with fail
  refine (wnew_any w3).mono ?_
  rintro e w4 ⟨p, rfl, hW, hE4⟩
  go_wp2_with fail
  have hby := wbyte_any w3 w4 p 0 0 none [] 7 hE4 hW (by omega)
  have e7 : u8i 7 = 7 := rfl
  rw [e7] at hby
  refine hby.mono ?_
  rintro e w5 ⟨rfl, A5, c5, hW5, hC5, hL5⟩
  have hE5 := hW.chg_ext hE4 hC5
  have hB5 := hB.ext hE5
  clear hW hC5 hL5 hby e7 hE4
  rw [List.nil_append, Nat.zero_add] at hW5
  have ha := hW5.away rR
  have y0 := hB5.cell (i := 0) (v := .int .i64 x) rfl
  have y1 := hB5.cell (i := 1) (v := .slice B n d) rfl
  have y2 := hB5.cell (i := 2) (v := .int .i64 k) rfl
  have y3 := hB5.cell (i := 3) (v := .slice P np cp) rfl
  have y4 := hB5.cell (i := 4) (v := .slice Q nq cq) rfl
  go_wp2_with fail
  refine (cput_any w3 w5 p 1 c5 A5 [7] B P Q n d np cp nq cq x k R PS QS hE5 hW5 (by omega) (rR.ext hE5) ha (rP.ext hE5) (rQ.ext hE5)).mono ?_
  rintro e w6 ⟨rfl, A6, c6, hW, hC6, hL6⟩
  have hE6 := hW5.chg_ext hE5 hC6
  replace rG := rG.ext hE6
  replace rH := rH.ext hE6
  replace hEa := hEa.trans hE6
  clear y0 y1 y2 y3 y4 hB5 hW5 hC6 hL6 hE6 hE5 ha rR rP rQ hB
  cases hv : putOK x R k PS QS with
  | true =>
    have he : errV true 12 = 0 := rfl
    have hlen : (putL x R k PS QS).length ≤ 1000000 := by
      rw [putL_yes hv]
      have h1 : rightC x R = true ∧ rightB k PS QS = true := by unfold putOK at hv; simpa using hv
      have := encS_len h1.2
      have := (rightC_true h1.1).2.2
      have h4 : (bytesOf (keyW x)).length = 4 := rfl
      simp only [List.length_append, h4]
      omega
    rw [he]
    clear he hv
    generalize putL x R k PS QS = M at *
    go_upto_region 10 with (fail)
    refine par_ext (n := 47) (by kernel_rfl) [.is (.int .i64 ((0 : Int))), .is (.bool (true)), .is (.bool (true)), .is (.bool (false)), .is (.bool (false)), .is (.bool (true)), .is (.bool (true)), .is (.bool (false)), .is (.bool (false)), .is (.bool (false)), .is (.bool (true)), .is (.bool (true)), .is (.slice (G) (m) (cg)), .is (.string (str (M))), .is (.slice (H) (m2) (ch)), .is (.string (str (M))), .is (.bool (false)), .is (.bool (false)), .is (.pointer (some ⟨p, 0, none⟩)), .rk (1 + M.length) ([7] ++ M), .is (.string (str ([7] ++ M))), .is (.slice (H) (m2) (ch)), .is (.string (str (M))), .is (.string (str ([7] ++ M))), .is (.bool (false)), .is (.bool (false)), .is (.bool (false)), .is (.bool (false)), .is (.bool (false)), .is (.bool (true)), .is (.bool (false)), .is (.bool (false)), .is undef, .is undef, .is undef, .is undef, .is undef, .is undef, .is undef, .is undef, .is undef, .is undef, .is undef, .is undef, .is undef, .is (.bool (false)), .is (.bool (false))] rfl ⟨?_, ?_, ?_, ?_, ?_, ?_, ?_, ?_, ?_, ?_, ?_, ?_, ?_, ?_, ?_, ?_, ?_, ?_, ?_, ?_, ?_, ?_, ?_, ?_, ?_, ?_, ?_, ?_, ?_, ?_, ?_, ?_, ?_, ?_, ?_, ?_, ?_, ?_, ?_, ?_, ?_, ?_, ?_, ?_, ?_, ?_, ?_, trivial⟩ ?_
    · refine stepE rfl fun sdn sa sw sE sd sk => ?_
      have h6 : sa.eval (.tmp 6) = .int .i64 ((0 : Int)) := sk.old 6 rfl
      exact Runs.move rfl h6 ⟨Ext.refl _, rfl⟩
    · refine stepE rfl fun sdn sa sw sE sd sk => ?_
      have h56 : sa.eval (.tmp 56) = .int .i64 ((0 : Int)) := sk.fact 0 56 rfl (sd 0 rfl)
      exact Runs.bin rfl h56 rfl (by rfl) (bin_eql _ _ _ _) ⟨Ext.refl _, congrArg Value.bool (by decide)⟩
    · refine stepE rfl fun sdn sa sw sE sd sk => ?_
      have h8 : sa.eval (.tmp 8) = .bool (true) := sk.old 8 rfl
      exact Runs.move rfl h8 ⟨Ext.refl _, rfl⟩
    · refine stepE rfl fun sdn sa sw sE sd sk => ?_
      have h57 : sa.eval (.tmp 57) = .bool (true) := sk.fact 1 57 rfl (sd 1 rfl)
      have h58 : sa.eval (.tmp 58) = .bool (true) := sk.fact 2 58 rfl (sd 2 rfl)
      exact Runs.bin rfl h57 h58 (by rfl) (bin_neb _ _) ⟨Ext.refl _, congrArg Value.bool (by decide)⟩
    · refine stepE rfl fun sdn sa sw sE sd sk => ?_
      have h59 : sa.eval (.tmp 59) = .bool (false) := sk.fact 3 59 rfl (sd 3 rfl)
      exact Runs.move rfl h59 ⟨Ext.refl _, rfl⟩
    · refine stepY (j := 4) (d := 60) (b := false) rfl rfl rfl (fun v w h => h) fun sdn sa sw sE sd sk => ?_
      have h10 : sa.eval (.tmp 10) = .bool (true) := sk.old 10 rfl
      exact Runs.move rfl h10 ⟨Ext.refl _, rfl⟩
    · refine stepY (j := 4) (d := 60) (b := false) rfl rfl rfl (fun v w h => h) fun sdn sa sw sE sd sk => ?_
      have h8 : sa.eval (.tmp 8) = .bool (true) := sk.old 8 rfl
      exact Runs.move rfl h8 ⟨Ext.refl _, rfl⟩
    · refine stepY (j := 4) (d := 60) (b := false) rfl rfl rfl (fun v w h => h) fun sdn sa sw sE sd sk => ?_
      have h61 : sa.eval (.tmp 61) = .bool (true) := sk.fact 5 61 rfl (sd 5 rfl)
      have h62 : sa.eval (.tmp 62) = .bool (true) := sk.fact 6 62 rfl (sd 6 rfl)
      exact Runs.bin rfl h61 h62 (by rfl) (bin_neb _ _) ⟨Ext.refl _, congrArg Value.bool (by decide)⟩
    · refine stepE rfl fun sdn sa sw sE sd sk => ?_
      have h60 : sa.eval (.tmp 60) = .bool (false) := sk.fact 4 60 rfl (sd 4 rfl)
      have h63 : sa.eval (.tmp 63) = .bool (false) := sk.fact 7 63 rfl (sd 7 rfl)
      exact Runs.pick rfl h60 ⟨Ext.refl _, by first | exact h63 | simpa using h63⟩
    · refine stepE rfl fun sdn sa sw sE sd sk => ?_
      have h64 : sa.eval (.tmp 64) = .bool (false) := sk.fact 8 64 rfl (sd 8 rfl)
      exact Runs.move rfl h64 ⟨Ext.refl _, rfl⟩
    · refine stepY (j := 9) (d := 65) (b := false) rfl rfl rfl (fun v w h => h) fun sdn sa sw sE sd sk => ?_
      have h8 : sa.eval (.tmp 8) = .bool (true) := sk.old 8 rfl
      exact Runs.move rfl h8 ⟨Ext.refl _, rfl⟩
    · refine stepY (j := 9) (d := 65) (b := false) rfl rfl rfl (fun v w h => h) fun sdn sa sw sE sd sk => ?_
      have h66 : sa.eval (.tmp 66) = .bool (true) := sk.fact 10 66 rfl (sd 10 rfl)
      exact Runs.move rfl h66 ⟨Ext.refl _, rfl⟩
    · refine stepY (j := 11) (d := 67) (b := true) rfl rfl rfl (fun v w h => h) fun sdn sa sw sE sd sk => ?_
      have h5 : sa.eval (.tmp 5) = .slice (G) (m) (cg) := sk.old 5 rfl
      exact Runs.move rfl h5 ⟨Ext.refl _, rfl⟩
    · refine stepY (j := 11) (d := 67) (b := true) rfl rfl rfl (fun v w h => h) fun sdn sa sw sE sd sk => ?_
      have h68 : sa.eval (.tmp 68) = .slice (G) (m) (cg) := sk.fact 12 68 rfl (sd 12 rfl)
      exact Runs.conv rfl h68 (run_str (rG.ext sE)) ⟨Ext.refl _, rfl⟩
    · refine stepY (j := 11) (d := 67) (b := true) rfl rfl rfl (fun v w h => h) fun sdn sa sw sE sd sk => ?_
      have h7 : sa.eval (.tmp 7) = .slice (H) (m2) (ch) := sk.old 7 rfl
      exact Runs.move rfl h7 ⟨Ext.refl _, rfl⟩
    · refine stepY (j := 11) (d := 67) (b := true) rfl rfl rfl (fun v w h => h) fun sdn sa sw sE sd sk => ?_
      have h70 : sa.eval (.tmp 70) = .slice (H) (m2) (ch) := sk.fact 14 70 rfl (sd 14 rfl)
      exact Runs.conv rfl h70 (run_str (rH.ext sE)) ⟨Ext.refl _, rfl⟩
    · refine stepY (j := 11) (d := 67) (b := true) rfl rfl rfl (fun v w h => h) fun sdn sa sw sE sd sk => ?_
      have h69 : sa.eval (.tmp 69) = .string (str (M)) := sk.fact 13 69 rfl (sd 13 rfl)
      have h71 : sa.eval (.tmp 71) = .string (str (M)) := sk.fact 15 71 rfl (sd 15 rfl)
      exact Runs.bin rfl h69 h71 (by rfl) (bin_nes _ _ _) ⟨Ext.refl _, congrArg Value.bool (by simp)⟩
    · refine stepY (j := 11) (d := 67) (b := true) rfl rfl rfl (fun v w h => h) fun sdn sa sw sE sd sk => ?_
      have h72 : sa.eval (.tmp 72) = .bool (false) := sk.fact 16 72 rfl (sd 16 rfl)
      exact Runs.move rfl h72 ⟨Ext.refl _, rfl⟩
    · refine stepY (j := 17) (d := 73) (b := false) rfl rfl rfl (fun v w h => h) fun sdn sa sw sE sd sk => ?_
      have h9 : sa.eval (.tmp 9) = .pointer (some ⟨p, 0, none⟩) := sk.old 9 rfl
      exact Runs.move rfl h9 ⟨Ext.refl _, rfl⟩
    · refine stepY (j := 17) (d := 73) (b := false) rfl rfl rfl (fun v w h => h) fun sdn sa sw sE sd sk => ?_
      have h74 : sa.eval (.tmp 74) = .pointer (some ⟨p, 0, none⟩) := sk.fact 18 74 rfl (sd 18 rfl)
      refine Runs.call (f := 25) (vs := [.pointer (some ⟨p, 0, none⟩)]) rfl rfl rfl (by simp only [List.map_toArray, List.map_cons, List.map_nil, h74] <;> rfl) (ent25 _ _) ((wdone_any _ _ _ _ _ _ _ (hW.ext sE) (by omega)).mono ?_); rintro e w' ⟨A', c', rfl, own, hx⟩; exact ⟨_, rfl, hx, A', c', rfl, own.rb⟩
    · refine stepY (j := 17) (d := 73) (b := false) rfl rfl rfl (fun v w h => h) fun sdn sa sw sE sd sk => ?_
      obtain ⟨A75, c75, h75, r75⟩ := sk.fact 19 75 rfl (sd 19 rfl)
      exact Runs.conv rfl h75 (run_str r75) ⟨Ext.refl _, rfl⟩
    · refine stepY (j := 17) (d := 73) (b := false) rfl rfl rfl (fun v w h => h) fun sdn sa sw sE sd sk => ?_
      have h7 : sa.eval (.tmp 7) = .slice (H) (m2) (ch) := sk.old 7 rfl
      exact Runs.move rfl h7 ⟨Ext.refl _, rfl⟩
    · refine stepY (j := 17) (d := 73) (b := false) rfl rfl rfl (fun v w h => h) fun sdn sa sw sE sd sk => ?_
      have h77 : sa.eval (.tmp 77) = .slice (H) (m2) (ch) := sk.fact 21 77 rfl (sd 21 rfl)
      exact Runs.conv rfl h77 (run_str (rH.ext sE)) ⟨Ext.refl _, rfl⟩
    · refine stepY (j := 17) (d := 73) (b := false) rfl rfl rfl (fun v w h => h) fun sdn sa sw sE sd sk => ?_
      have h78 : sa.eval (.tmp 78) = .string (str (M)) := sk.fact 22 78 rfl (sd 22 rfl)
      exact Runs.bin rfl (show _ = Value.string (str [7]) from rfl) h78 (by rfl) (bin_adds _ _ _ (by simp only [List.length_append, List.length_cons, List.length_nil]; omega)) ⟨Ext.refl _, rfl⟩
    · refine stepY (j := 17) (d := 73) (b := false) rfl rfl rfl (fun v w h => h) fun sdn sa sw sE sd sk => ?_
      have h76 : sa.eval (.tmp 76) = .string (str ([7] ++ M)) := sk.fact 20 76 rfl (sd 20 rfl)
      have h79 : sa.eval (.tmp 79) = .string (str ([7] ++ M)) := sk.fact 23 79 rfl (sd 23 rfl)
      exact Runs.bin rfl h76 h79 (by rfl) (bin_nes _ _ _) ⟨Ext.refl _, congrArg Value.bool (by simp)⟩
    · refine stepY (j := 11) (d := 67) (b := true) rfl rfl rfl (fun v w h => h) fun sdn sa sw sE sd sk => ?_
      have h73 : sa.eval (.tmp 73) = .bool (false) := sk.fact 17 73 rfl (sd 17 rfl)
      have h80 : sa.eval (.tmp 80) = .bool (false) := sk.fact 24 80 rfl (sd 24 rfl)
      exact Runs.pick rfl h73 ⟨Ext.refl _, by first | exact h80 | simpa using h80⟩
    · refine stepY (j := 9) (d := 65) (b := false) rfl rfl rfl (fun v w h => h) fun sdn sa sw sE sd sk => ?_
      have h67 : sa.eval (.tmp 67) = .bool (true) := sk.fact 11 67 rfl (sd 11 rfl)
      have h81 : sa.eval (.tmp 81) = .bool (false) := sk.fact 25 81 rfl (sd 25 rfl)
      exact Runs.pick rfl h67 ⟨Ext.refl _, by first | exact h81 | simpa using h81⟩
    · refine stepE rfl fun sdn sa sw sE sd sk => ?_
      have h65 : sa.eval (.tmp 65) = .bool (false) := sk.fact 9 65 rfl (sd 9 rfl)
      have h82 : sa.eval (.tmp 82) = .bool (false) := sk.fact 26 82 rfl (sd 26 rfl)
      exact Runs.pick rfl h65 ⟨Ext.refl _, by first | exact h82 | simpa using h82⟩
    · refine stepE rfl fun sdn sa sw sE sd sk => ?_
      have h83 : sa.eval (.tmp 83) = .bool (false) := sk.fact 27 83 rfl (sd 27 rfl)
      exact Runs.move rfl h83 ⟨Ext.refl _, rfl⟩
    · refine stepY (j := 28) (d := 84) (b := false) rfl rfl rfl (fun v w h => h) fun sdn sa sw sE sd sk => ?_
      have h8 : sa.eval (.tmp 8) = .bool (true) := sk.old 8 rfl
      exact Runs.move rfl h8 ⟨Ext.refl _, rfl⟩
    · refine stepY (j := 28) (d := 84) (b := false) rfl rfl rfl (fun v w h => h) fun sdn sa sw sE sd sk => ?_
      have h85 : sa.eval (.tmp 85) = .bool (true) := sk.fact 29 85 rfl (sd 29 rfl)
      exact Runs.un rfl h85 (by rfl) ⟨Ext.refl _, rfl⟩
    · refine stepY (j := 28) (d := 84) (b := false) rfl rfl rfl (fun v w h => h) fun sdn sa sw sE sd sk => ?_
      have h86 : sa.eval (.tmp 86) = .bool (false) := sk.fact 30 86 rfl (sd 30 rfl)
      exact Runs.move rfl h86 ⟨Ext.refl _, rfl⟩
    · exact stepN (j := 31) (d := 87) (b := false) rfl rfl rfl (fun v w h => h) fun w => rfl
    · exact stepN (j := 31) (d := 87) (b := false) rfl rfl rfl (fun v w h => h) fun w => rfl
    · exact stepN (j := 31) (d := 87) (b := false) rfl rfl rfl (fun v w h => h) fun w => rfl
    · exact stepU (j := 34) (d := 90) (b := false) rfl rfl rfl (fun v w h => h) fun w => rfl
    · exact stepU (j := 34) (d := 90) (b := false) rfl rfl rfl (fun v w h => h) fun w => rfl
    · exact stepU (j := 34) (d := 90) (b := false) rfl rfl rfl (fun v w h => h) fun w => rfl
    · exact stepN (j := 31) (d := 87) (b := false) rfl rfl rfl (fun v w h => h) fun w => rfl
    · exact stepN (j := 31) (d := 87) (b := false) rfl rfl rfl (fun v w h => h) fun w => rfl
    · exact stepU (j := 39) (d := 95) (b := false) rfl rfl rfl (fun v w h => h) fun w => rfl
    · exact stepU (j := 39) (d := 95) (b := false) rfl rfl rfl (fun v w h => h) fun w => rfl
    · exact stepU (j := 39) (d := 95) (b := false) rfl rfl rfl (fun v w h => h) fun w => rfl
    · exact stepU (j := 39) (d := 95) (b := false) rfl rfl rfl (fun v w h => h) fun w => rfl
    · exact stepN (j := 31) (d := 87) (b := false) rfl rfl rfl (fun v w h => h) fun w => rfl
    · refine stepY (j := 28) (d := 84) (b := false) rfl rfl rfl (fun v w h => h) fun sdn sa sw sE sd sk => ?_
      have h87 : sa.eval (.tmp 87) = .bool (false) := sk.fact 31 87 rfl (sd 31 rfl)
      exact Runs.pick rfl h87 ⟨Ext.refl _, rfl⟩
    · refine stepE rfl fun sdn sa sw sE sd sk => ?_
      have h84 : sa.eval (.tmp 84) = .bool (false) := sk.fact 28 84 rfl (sd 28 rfl)
      have h101 : sa.eval (.tmp 101) = .bool (false) := sk.fact 45 101 rfl (sd 45 rfl)
      exact Runs.pick rfl h84 ⟨Ext.refl _, by first | exact h101 | simpa using h101⟩
    intro vals W9 hE9 hv9
    have e0 : vals 0 = .int .i64 ((0 : Int)) := hv9 0 (by omega) 56 rfl
    have e1 : vals 1 = .bool (true) := hv9 1 (by omega) 57 rfl
    have e2 : vals 2 = .bool (true) := hv9 2 (by omega) 58 rfl
    have e3 : vals 3 = .bool (false) := hv9 3 (by omega) 59 rfl
    have e4 : vals 4 = .bool (false) := hv9 4 (by omega) 60 rfl
    have e5 : vals 5 = .bool (true) := hv9 5 (by omega) 61 rfl
    have e6 : vals 6 = .bool (true) := hv9 6 (by omega) 62 rfl
    have e7 : vals 7 = .bool (false) := hv9 7 (by omega) 63 rfl
    have e8 : vals 8 = .bool (false) := hv9 8 (by omega) 64 rfl
    have e9 : vals 9 = .bool (false) := hv9 9 (by omega) 65 rfl
    have e10 : vals 10 = .bool (true) := hv9 10 (by omega) 66 rfl
    have e11 : vals 11 = .bool (true) := hv9 11 (by omega) 67 rfl
    have e12 : vals 12 = .slice (G) (m) (cg) := hv9 12 (by omega) 68 rfl
    have e13 : vals 13 = .string (str (M)) := hv9 13 (by omega) 69 rfl
    have e14 : vals 14 = .slice (H) (m2) (ch) := hv9 14 (by omega) 70 rfl
    have e15 : vals 15 = .string (str (M)) := hv9 15 (by omega) 71 rfl
    have e16 : vals 16 = .bool (false) := hv9 16 (by omega) 72 rfl
    have e17 : vals 17 = .bool (false) := hv9 17 (by omega) 73 rfl
    have e18 : vals 18 = .pointer (some ⟨p, 0, none⟩) := hv9 18 (by omega) 74 rfl
    obtain ⟨A75, c75, e19, r75⟩ := hv9 19 (by omega) 75 rfl
    have e20 : vals 20 = .string (str ([7] ++ M)) := hv9 20 (by omega) 76 rfl
    have e21 : vals 21 = .slice (H) (m2) (ch) := hv9 21 (by omega) 77 rfl
    have e22 : vals 22 = .string (str (M)) := hv9 22 (by omega) 78 rfl
    have e23 : vals 23 = .string (str ([7] ++ M)) := hv9 23 (by omega) 79 rfl
    have e24 : vals 24 = .bool (false) := hv9 24 (by omega) 80 rfl
    have e25 : vals 25 = .bool (false) := hv9 25 (by omega) 81 rfl
    have e26 : vals 26 = .bool (false) := hv9 26 (by omega) 82 rfl
    have e27 : vals 27 = .bool (false) := hv9 27 (by omega) 83 rfl
    have e28 : vals 28 = .bool (false) := hv9 28 (by omega) 84 rfl
    have e29 : vals 29 = .bool (true) := hv9 29 (by omega) 85 rfl
    have e30 : vals 30 = .bool (false) := hv9 30 (by omega) 86 rfl
    have e31 : vals 31 = .bool (false) := hv9 31 (by omega) 87 rfl
    have e45 : vals 45 = .bool (false) := hv9 45 (by omega) 101 rfl
    have e46 : vals 46 = .bool (false) := hv9 46 (by omega) 102 rfl
    simp only [putAll, Act.put, List.take_succ_cons, List.take_zero, List.drop_succ_cons, List.drop_zero, List.drop_nil, List.take_nil, Nat.reduceAdd, List.setIfInBounds_toArray, List.set_cons_succ, List.set_cons_zero, e0, e1, e2, e3, e4, e5, e6, e7, e8, e9, e10, e11, e12, e13, e14, e15, e16, e17, e18, e19, e20, e21, e22, e23, e24, e25, e26, e27, e28, e29, e30, e31, e45, e46]
    clear hv9 e0 e1 e2 e3 e4 e5 e6 e7 e8 e9 e10 e11 e12 e13 e14 e15 e16 e17 e18 e19 e20 e21 e22 e23 e24 e25 e26 e27 e28 e29 e30 e31 e45 e46
    go_wp2_with fail
    go_ret
    exact ⟨rfl, hEa.trans hE9⟩
  | false =>
    have he : errV false 12 = 12 := rfl
    rw [putL_no hv] at hW rG rH
    replace hW : Wtr w6 w3.heap.size p A6 1 c6 [7] := hW
    obtain rfl : m = 0 := rG.len.symm
    rw [he]
    clear he hv
    go_upto_region 10 with (fail)
    refine par_ext (n := 47) (by kernel_rfl) [.is (.int .i64 ((12 : Int))), .is (.bool (false)), .is (.bool (false)), .is (.bool (false)), .is (.bool (false)), .is (.bool (false)), .is (.bool (false)), .is (.bool (false)), .is (.bool (false)), .is (.bool (false)), .is (.bool (false)), .is (.bool (false)), .is undef, .is undef, .is undef, .is undef, .is undef, .is undef, .is undef, .is undef, .is undef, .is undef, .is undef, .is undef, .is undef, .is undef, .is (.bool (false)), .is (.bool (false)), .is (.bool (false)), .is (.bool (false)), .is (.bool (true)), .is (.bool (true)), .is (.int .i64 ((12 : Int))), .is (.bool (false)), .is (.bool (false)), .is (.slice (G) (0) (cg)), .is (.int .i64 ((0 : Nat))), .is (.bool (false)), .is (.bool (false)), .is (.bool (false)), .is (.pointer (some ⟨p, 0, none⟩)), .rk (1) ([7]), .is (.int .i64 ((1 : Nat))), .is (.bool (false)), .is (.bool (false)), .is (.bool (false)), .is (.bool (false))] rfl ⟨?_, ?_, ?_, ?_, ?_, ?_, ?_, ?_, ?_, ?_, ?_, ?_, ?_, ?_, ?_, ?_, ?_, ?_, ?_, ?_, ?_, ?_, ?_, ?_, ?_, ?_, ?_, ?_, ?_, ?_, ?_, ?_, ?_, ?_, ?_, ?_, ?_, ?_, ?_, ?_, ?_, ?_, ?_, ?_, ?_, ?_, ?_, trivial⟩ ?_
    · refine stepE rfl fun sdn sa sw sE sd sk => ?_
      have h6 : sa.eval (.tmp 6) = .int .i64 ((12 : Int)) := sk.old 6 rfl
      exact Runs.move rfl h6 ⟨Ext.refl _, rfl⟩
    · refine stepE rfl fun sdn sa sw sE sd sk => ?_
      have h56 : sa.eval (.tmp 56) = .int .i64 ((12 : Int)) := sk.fact 0 56 rfl (sd 0 rfl)
      exact Runs.bin rfl h56 rfl (by rfl) (bin_eql _ _ _ _) ⟨Ext.refl _, congrArg Value.bool (by decide)⟩
    · refine stepE rfl fun sdn sa sw sE sd sk => ?_
      have h8 : sa.eval (.tmp 8) = .bool (false) := sk.old 8 rfl
      exact Runs.move rfl h8 ⟨Ext.refl _, rfl⟩
    · refine stepE rfl fun sdn sa sw sE sd sk => ?_
      have h57 : sa.eval (.tmp 57) = .bool (false) := sk.fact 1 57 rfl (sd 1 rfl)
      have h58 : sa.eval (.tmp 58) = .bool (false) := sk.fact 2 58 rfl (sd 2 rfl)
      exact Runs.bin rfl h57 h58 (by rfl) (bin_neb _ _) ⟨Ext.refl _, congrArg Value.bool (by decide)⟩
    · refine stepE rfl fun sdn sa sw sE sd sk => ?_
      have h59 : sa.eval (.tmp 59) = .bool (false) := sk.fact 3 59 rfl (sd 3 rfl)
      exact Runs.move rfl h59 ⟨Ext.refl _, rfl⟩
    · refine stepY (j := 4) (d := 60) (b := false) rfl rfl rfl (fun v w h => h) fun sdn sa sw sE sd sk => ?_
      have h10 : sa.eval (.tmp 10) = .bool (false) := sk.old 10 rfl
      exact Runs.move rfl h10 ⟨Ext.refl _, rfl⟩
    · refine stepY (j := 4) (d := 60) (b := false) rfl rfl rfl (fun v w h => h) fun sdn sa sw sE sd sk => ?_
      have h8 : sa.eval (.tmp 8) = .bool (false) := sk.old 8 rfl
      exact Runs.move rfl h8 ⟨Ext.refl _, rfl⟩
    · refine stepY (j := 4) (d := 60) (b := false) rfl rfl rfl (fun v w h => h) fun sdn sa sw sE sd sk => ?_
      have h61 : sa.eval (.tmp 61) = .bool (false) := sk.fact 5 61 rfl (sd 5 rfl)
      have h62 : sa.eval (.tmp 62) = .bool (false) := sk.fact 6 62 rfl (sd 6 rfl)
      exact Runs.bin rfl h61 h62 (by rfl) (bin_neb _ _) ⟨Ext.refl _, congrArg Value.bool (by decide)⟩
    · refine stepE rfl fun sdn sa sw sE sd sk => ?_
      have h60 : sa.eval (.tmp 60) = .bool (false) := sk.fact 4 60 rfl (sd 4 rfl)
      have h63 : sa.eval (.tmp 63) = .bool (false) := sk.fact 7 63 rfl (sd 7 rfl)
      exact Runs.pick rfl h60 ⟨Ext.refl _, by first | exact h63 | simpa using h63⟩
    · refine stepE rfl fun sdn sa sw sE sd sk => ?_
      have h64 : sa.eval (.tmp 64) = .bool (false) := sk.fact 8 64 rfl (sd 8 rfl)
      exact Runs.move rfl h64 ⟨Ext.refl _, rfl⟩
    · refine stepY (j := 9) (d := 65) (b := false) rfl rfl rfl (fun v w h => h) fun sdn sa sw sE sd sk => ?_
      have h8 : sa.eval (.tmp 8) = .bool (false) := sk.old 8 rfl
      exact Runs.move rfl h8 ⟨Ext.refl _, rfl⟩
    · refine stepY (j := 9) (d := 65) (b := false) rfl rfl rfl (fun v w h => h) fun sdn sa sw sE sd sk => ?_
      have h66 : sa.eval (.tmp 66) = .bool (false) := sk.fact 10 66 rfl (sd 10 rfl)
      exact Runs.move rfl h66 ⟨Ext.refl _, rfl⟩
    · exact stepN (j := 11) (d := 67) (b := false) rfl rfl rfl (fun v w h => h) fun w => rfl
    · exact stepN (j := 11) (d := 67) (b := false) rfl rfl rfl (fun v w h => h) fun w => rfl
    · exact stepN (j := 11) (d := 67) (b := false) rfl rfl rfl (fun v w h => h) fun w => rfl
    · exact stepN (j := 11) (d := 67) (b := false) rfl rfl rfl (fun v w h => h) fun w => rfl
    · exact stepN (j := 11) (d := 67) (b := false) rfl rfl rfl (fun v w h => h) fun w => rfl
    · exact stepN (j := 11) (d := 67) (b := false) rfl rfl rfl (fun v w h => h) fun w => rfl
    · exact stepU (j := 17) (d := 73) (b := false) rfl rfl rfl (fun v w h => h) fun w => rfl
    · exact stepU (j := 17) (d := 73) (b := false) rfl rfl rfl (fun v w h => h) fun w => rfl
    · exact stepU (j := 17) (d := 73) (b := false) rfl rfl rfl (fun v w h => h) fun w => rfl
    · exact stepU (j := 17) (d := 73) (b := false) rfl rfl rfl (fun v w h => h) fun w => rfl
    · exact stepU (j := 17) (d := 73) (b := false) rfl rfl rfl (fun v w h => h) fun w => rfl
    · exact stepU (j := 17) (d := 73) (b := false) rfl rfl rfl (fun v w h => h) fun w => rfl
    · exact stepU (j := 17) (d := 73) (b := false) rfl rfl rfl (fun v w h => h) fun w => rfl
    · exact stepN (j := 11) (d := 67) (b := false) rfl rfl rfl (fun v w h => h) fun w => rfl
    · refine stepY (j := 9) (d := 65) (b := false) rfl rfl rfl (fun v w h => h) fun sdn sa sw sE sd sk => ?_
      have h67 : sa.eval (.tmp 67) = .bool (false) := sk.fact 11 67 rfl (sd 11 rfl)
      exact Runs.pick rfl h67 ⟨Ext.refl _, rfl⟩
    · refine stepE rfl fun sdn sa sw sE sd sk => ?_
      have h65 : sa.eval (.tmp 65) = .bool (false) := sk.fact 9 65 rfl (sd 9 rfl)
      have h82 : sa.eval (.tmp 82) = .bool (false) := sk.fact 26 82 rfl (sd 26 rfl)
      exact Runs.pick rfl h65 ⟨Ext.refl _, by first | exact h82 | simpa using h82⟩
    · refine stepE rfl fun sdn sa sw sE sd sk => ?_
      have h83 : sa.eval (.tmp 83) = .bool (false) := sk.fact 27 83 rfl (sd 27 rfl)
      exact Runs.move rfl h83 ⟨Ext.refl _, rfl⟩
    · refine stepY (j := 28) (d := 84) (b := false) rfl rfl rfl (fun v w h => h) fun sdn sa sw sE sd sk => ?_
      have h8 : sa.eval (.tmp 8) = .bool (false) := sk.old 8 rfl
      exact Runs.move rfl h8 ⟨Ext.refl _, rfl⟩
    · refine stepY (j := 28) (d := 84) (b := false) rfl rfl rfl (fun v w h => h) fun sdn sa sw sE sd sk => ?_
      have h85 : sa.eval (.tmp 85) = .bool (false) := sk.fact 29 85 rfl (sd 29 rfl)
      exact Runs.un rfl h85 (by rfl) ⟨Ext.refl _, rfl⟩
    · refine stepY (j := 28) (d := 84) (b := false) rfl rfl rfl (fun v w h => h) fun sdn sa sw sE sd sk => ?_
      have h86 : sa.eval (.tmp 86) = .bool (true) := sk.fact 30 86 rfl (sd 30 rfl)
      exact Runs.move rfl h86 ⟨Ext.refl _, rfl⟩
    · refine stepY (j := 31) (d := 87) (b := true) rfl rfl rfl (fun v w h => h) fun sdn sa sw sE sd sk => ?_
      have h6 : sa.eval (.tmp 6) = .int .i64 ((12 : Int)) := sk.old 6 rfl
      exact Runs.move rfl h6 ⟨Ext.refl _, rfl⟩
    · refine stepY (j := 31) (d := 87) (b := true) rfl rfl rfl (fun v w h => h) fun sdn sa sw sE sd sk => ?_
      have h88 : sa.eval (.tmp 88) = .int .i64 ((12 : Int)) := sk.fact 32 88 rfl (sd 32 rfl)
      exact Runs.bin rfl h88 rfl (by rfl) (bin_neq _ _ _ _) ⟨Ext.refl _, congrArg Value.bool (by decide)⟩
    · refine stepY (j := 31) (d := 87) (b := true) rfl rfl rfl (fun v w h => h) fun sdn sa sw sE sd sk => ?_
      have h89 : sa.eval (.tmp 89) = .bool (false) := sk.fact 33 89 rfl (sd 33 rfl)
      exact Runs.move rfl h89 ⟨Ext.refl _, rfl⟩
    · refine stepY (j := 34) (d := 90) (b := false) rfl rfl rfl (fun v w h => h) fun sdn sa sw sE sd sk => ?_
      have h5 : sa.eval (.tmp 5) = .slice (G) (0) (cg) := sk.old 5 rfl
      exact Runs.move rfl h5 ⟨Ext.refl _, rfl⟩
    · refine stepY (j := 34) (d := 90) (b := false) rfl rfl rfl (fun v w h => h) fun sdn sa sw sE sd sk => ?_
      have h91 : sa.eval (.tmp 91) = .slice (G) (0) (cg) := sk.fact 35 91 rfl (sd 35 rfl)
      exact Runs.len Try.underlying22 rfl h91 ⟨Ext.refl _, rfl⟩
    · refine stepY (j := 34) (d := 90) (b := false) rfl rfl rfl (fun v w h => h) fun sdn sa sw sE sd sk => ?_
      have h92 : sa.eval (.tmp 92) = .int .i64 ((0 : Nat)) := sk.fact 36 92 rfl (sd 36 rfl)
      exact Runs.bin rfl h92 rfl (by rfl) (bin_neq _ _ _ _) ⟨Ext.refl _, congrArg Value.bool (by decide)⟩
    · refine stepY (j := 31) (d := 87) (b := true) rfl rfl rfl (fun v w h => h) fun sdn sa sw sE sd sk => ?_
      have h90 : sa.eval (.tmp 90) = .bool (false) := sk.fact 34 90 rfl (sd 34 rfl)
      have h93 : sa.eval (.tmp 93) = .bool (false) := sk.fact 37 93 rfl (sd 37 rfl)
      exact Runs.pick rfl h90 ⟨Ext.refl _, by first | exact h93 | simpa using h93⟩
    · refine stepY (j := 31) (d := 87) (b := true) rfl rfl rfl (fun v w h => h) fun sdn sa sw sE sd sk => ?_
      have h94 : sa.eval (.tmp 94) = .bool (false) := sk.fact 38 94 rfl (sd 38 rfl)
      exact Runs.move rfl h94 ⟨Ext.refl _, rfl⟩
    · refine stepY (j := 39) (d := 95) (b := false) rfl rfl rfl (fun v w h => h) fun sdn sa sw sE sd sk => ?_
      have h9 : sa.eval (.tmp 9) = .pointer (some ⟨p, 0, none⟩) := sk.old 9 rfl
      exact Runs.move rfl h9 ⟨Ext.refl _, rfl⟩
    · refine stepY (j := 39) (d := 95) (b := false) rfl rfl rfl (fun v w h => h) fun sdn sa sw sE sd sk => ?_
      have h96 : sa.eval (.tmp 96) = .pointer (some ⟨p, 0, none⟩) := sk.fact 40 96 rfl (sd 40 rfl)
      refine Runs.call (f := 25) (vs := [.pointer (some ⟨p, 0, none⟩)]) rfl rfl rfl (by simp only [List.map_toArray, List.map_cons, List.map_nil, h96] <;> rfl) (ent25 _ _) ((wdone_any _ _ _ _ _ _ _ (hW.ext sE) (by omega)).mono ?_); rintro e w' ⟨A', c', rfl, own, hx⟩; exact ⟨_, rfl, hx, A', c', rfl, own.rb⟩
    · refine stepY (j := 39) (d := 95) (b := false) rfl rfl rfl (fun v w h => h) fun sdn sa sw sE sd sk => ?_
      obtain ⟨A97, c97, h97, r97⟩ := sk.fact 41 97 rfl (sd 41 rfl)
      exact Runs.len Try.underlying22 rfl h97 ⟨Ext.refl _, rfl⟩
    · refine stepY (j := 39) (d := 95) (b := false) rfl rfl rfl (fun v w h => h) fun sdn sa sw sE sd sk => ?_
      have h98 : sa.eval (.tmp 98) = .int .i64 ((1 : Nat)) := sk.fact 42 98 rfl (sd 42 rfl)
      exact Runs.bin rfl h98 rfl (by rfl) (bin_neq _ _ _ _) ⟨Ext.refl _, congrArg Value.bool (by decide)⟩
    · refine stepY (j := 31) (d := 87) (b := true) rfl rfl rfl (fun v w h => h) fun sdn sa sw sE sd sk => ?_
      have h95 : sa.eval (.tmp 95) = .bool (false) := sk.fact 39 95 rfl (sd 39 rfl)
      have h99 : sa.eval (.tmp 99) = .bool (false) := sk.fact 43 99 rfl (sd 43 rfl)
      exact Runs.pick rfl h95 ⟨Ext.refl _, by first | exact h99 | simpa using h99⟩
    · refine stepY (j := 28) (d := 84) (b := false) rfl rfl rfl (fun v w h => h) fun sdn sa sw sE sd sk => ?_
      have h87 : sa.eval (.tmp 87) = .bool (true) := sk.fact 31 87 rfl (sd 31 rfl)
      have h100 : sa.eval (.tmp 100) = .bool (false) := sk.fact 44 100 rfl (sd 44 rfl)
      exact Runs.pick rfl h87 ⟨Ext.refl _, by first | exact h100 | simpa using h100⟩
    · refine stepE rfl fun sdn sa sw sE sd sk => ?_
      have h84 : sa.eval (.tmp 84) = .bool (false) := sk.fact 28 84 rfl (sd 28 rfl)
      have h101 : sa.eval (.tmp 101) = .bool (false) := sk.fact 45 101 rfl (sd 45 rfl)
      exact Runs.pick rfl h84 ⟨Ext.refl _, by first | exact h101 | simpa using h101⟩
    intro vals W9 hE9 hv9
    have e0 : vals 0 = .int .i64 ((12 : Int)) := hv9 0 (by omega) 56 rfl
    have e1 : vals 1 = .bool (false) := hv9 1 (by omega) 57 rfl
    have e2 : vals 2 = .bool (false) := hv9 2 (by omega) 58 rfl
    have e3 : vals 3 = .bool (false) := hv9 3 (by omega) 59 rfl
    have e4 : vals 4 = .bool (false) := hv9 4 (by omega) 60 rfl
    have e5 : vals 5 = .bool (false) := hv9 5 (by omega) 61 rfl
    have e6 : vals 6 = .bool (false) := hv9 6 (by omega) 62 rfl
    have e7 : vals 7 = .bool (false) := hv9 7 (by omega) 63 rfl
    have e8 : vals 8 = .bool (false) := hv9 8 (by omega) 64 rfl
    have e9 : vals 9 = .bool (false) := hv9 9 (by omega) 65 rfl
    have e10 : vals 10 = .bool (false) := hv9 10 (by omega) 66 rfl
    have e11 : vals 11 = .bool (false) := hv9 11 (by omega) 67 rfl
    have e26 : vals 26 = .bool (false) := hv9 26 (by omega) 82 rfl
    have e27 : vals 27 = .bool (false) := hv9 27 (by omega) 83 rfl
    have e28 : vals 28 = .bool (false) := hv9 28 (by omega) 84 rfl
    have e29 : vals 29 = .bool (false) := hv9 29 (by omega) 85 rfl
    have e30 : vals 30 = .bool (true) := hv9 30 (by omega) 86 rfl
    have e31 : vals 31 = .bool (true) := hv9 31 (by omega) 87 rfl
    have e32 : vals 32 = .int .i64 ((12 : Int)) := hv9 32 (by omega) 88 rfl
    have e33 : vals 33 = .bool (false) := hv9 33 (by omega) 89 rfl
    have e34 : vals 34 = .bool (false) := hv9 34 (by omega) 90 rfl
    have e35 : vals 35 = .slice (G) (0) (cg) := hv9 35 (by omega) 91 rfl
    have e36 : vals 36 = .int .i64 ((0 : Nat)) := hv9 36 (by omega) 92 rfl
    have e37 : vals 37 = .bool (false) := hv9 37 (by omega) 93 rfl
    have e38 : vals 38 = .bool (false) := hv9 38 (by omega) 94 rfl
    have e39 : vals 39 = .bool (false) := hv9 39 (by omega) 95 rfl
    have e40 : vals 40 = .pointer (some ⟨p, 0, none⟩) := hv9 40 (by omega) 96 rfl
    obtain ⟨A97, c97, e41, r97⟩ := hv9 41 (by omega) 97 rfl
    have e42 : vals 42 = .int .i64 ((1 : Nat)) := hv9 42 (by omega) 98 rfl
    have e43 : vals 43 = .bool (false) := hv9 43 (by omega) 99 rfl
    have e44 : vals 44 = .bool (false) := hv9 44 (by omega) 100 rfl
    have e45 : vals 45 = .bool (false) := hv9 45 (by omega) 101 rfl
    have e46 : vals 46 = .bool (false) := hv9 46 (by omega) 102 rfl
    simp only [putAll, Act.put, List.take_succ_cons, List.take_zero, List.drop_succ_cons, List.drop_zero, List.drop_nil, List.take_nil, Nat.reduceAdd, List.setIfInBounds_toArray, List.set_cons_succ, List.set_cons_zero, e0, e1, e2, e3, e4, e5, e6, e7, e8, e9, e10, e11, e26, e27, e28, e29, e30, e31, e32, e33, e34, e35, e36, e37, e38, e39, e40, e41, e42, e43, e44, e45, e46]
    clear hv9 e0 e1 e2 e3 e4 e5 e6 e7 e8 e9 e10 e11 e26 e27 e28 e29 e30 e31 e32 e33 e34 e35 e36 e37 e38 e39 e40 e41 e42 e43 e44 e45 e46
    go_wp2_with fail
    go_ret
    exact ⟨rfl, hEa.trans hE9⟩
set_option maxHeartbeats 8000000 in
theorem reads10_any (A : Option Addr) (n c : Nat) (L : List UInt8) (w : World) (rb : RB w A n c L) (hn : n ≤ 140737488355328) :
    Calls Try.prog 31 #[.slice A n c] w fun e w' => e = .returned (.bool true) ∧ Ext w w' := by
  go_enter Try.func31, Try.ntmps31
  go_wp2_with fail
  refine (rread_any A n c L w rb hn).mono ?_
  rintro e w1 ⟨q, rfl, hR, hEa⟩
  have hE1s := hEa.size
  replace rb := rb.ext hEa
  have hblt : 0 < n → ∀ k, blk A = some k → k < w1.heap.size := fun h0 k hk => rb_blk_lt rb h0 k hk
  have hEn := Ext.new w1 (.cells #[.slice A n c, .int .i64 0, .bool false] 98)
  have hBr := Blk.new w1 98 #[.slice A n c, .int .i64 ((0 : Nat) : Int), .bool false]
  have hQ : RR (w1.alloc (.cells #[.slice A n c, .int .i64 0, .bool false] 98)) w1.heap.size w1.heap.size L false :=
    ⟨A, n, c, 0, L, hBr, rb.ext hEn, Nat.zero_le _, hn, Nat.le_refl _, fun _ => rfl, (fun h => by cases h), hblt⟩
  replace rb := rb.ext hEn
  replace hR := hR.later hEn
  replace hEa := hEa.trans hEn
  have hqw := hR.blk_.1
  have hq1 := hR.lt_
  clear hEn hBr hblt
  go_wp2_with fail
  generalize w1.alloc (.cells #[.slice A n c, .int .i64 0, .bool false] 98) = w2 at *
  generalize hqr0 : w1.heap.size = qr at *
  have hqw1 : w.heap.size ≤ qr := hE1s
  clear hqr0
  refine (cget_any w2 _ q L false hR).mono ?_
  rintro e w3 ⟨hyes, hno, hR3, hG⟩
  obtain ⟨_, cs, hBq, hnoq⟩ := hR.blk_
  replace rb := rb.grown hG (rb.apart5 hBq hnoq)
  replace hQ := hQ.away hBq (by decide) hnoq hG
  replace hEa := hEa.then_grown hG (by intro k hk; cases hk; exact hqw)
  clear hG hBq hnoq hR
  have hqr := hQ.lt
  have hdk : dOK L = (gOK L false && (!(gS3 L false).2 && (gS3 L false).1.isEmpty)) := rfl
  have hrc := fun w h => rcget_any w qr qr L false h
  have hdc := fun w h => cdecode_any A n c L w h hn
  have Hrc := Lib.hid hrc
  have Hdc := Lib.hid hdc
  clear hrc hdc
  generalize decX (gY L false) = dx at *
  generalize decP (gY L false) = PS at *
  generalize decQ (gY L false) = QS at *
  generalize gS3 L false = s3 at *
  generalize gX L false = x at *
  generalize gR L false = R at *
  cases hg : gOK L false with
  | true =>
    obtain ⟨Bx, bx, Px, px, Qx, qx, rfl, rRx, oPx, oQx⟩ := hyes hg
    rw [hg, Bool.true_and] at hdk
    have Hdk := Lib.hid hdk
    have hEn := Ext.new w3 (.cells #[.int .i64 x, .slice Bx 32 bx, .int .i64 dx, .slice Px 64 px, .slice Qx 4 qx] 41)
    have hB5 := Blk.new w3 41 #[.int .i64 x, .slice Bx 32 bx, .int .i64 dx, .slice Px 64 px, .slice Qx 4 qx]
    replace rb := rb.ext hEn
    replace hQ := hQ.later hEn
    replace hR3 := hR3.later hEn
    replace rRx := rRx.ext hEn
    replace oPx := oPx.ext hEn
    replace oQx := oQx.ext hEn
    replace hEa := hEa.trans hEn
    clear hyes hno hEn hdk
    have Hg := Lib.hid hg
    clear hg
    go_wp2_with fail
    obtain ⟨g5, hg5⟩ : ∃ g5, g5 = w3.heap.size := ⟨_, rfl⟩
    rw [← hg5] at hB5 hqr ⊢
    clear hg5
    generalize w3.alloc (.cells #[.int .i64 x, .slice Bx 32 bx, .int .i64 dx, .slice Px 64 px, .slice Qx 4 qx] 41) = w4 at *
    refine (Hrc.out w4 hQ).mono ?_
    rintro e w5 ⟨hyes, hno, hQ5, hG⟩
    obtain ⟨By, b_y, Py, py, Qy, qy, rfl, rRy, rPy, rQy⟩ := hyes Hg.out
    obtain ⟨cs, hBq, hnoq⟩ := hQ.blk_
    replace rb := rb.grown hG (rb.apart5 hBq hnoq)
    replace hR3 := hR3.away hBq (by decide) hnoq hG
    replace hB5 := hB5.grown hG (by intro e; injection e with e; omega)
    replace rRx := rRx.grown hG (rRx.apart5 hBq hnoq)
    replace oPx := oPx.far hBq (by decide) hnoq hG
    replace oQx := oQx.far hBq (by decide) hnoq hG
    replace hEa := hEa.then_grown hG (by intro k hk; cases hk; exact hqw1)
    have hEn := Ext.new w5 (.cells #[.int .i64 x, .slice By 32 b_y, .int .i64 dx, .slice Py 64 py, .slice Qy 4 qy] 41)
    have hB7 := Blk.new w5 41 #[.int .i64 x, .slice By 32 b_y, .int .i64 dx, .slice Py 64 py, .slice Qy 4 qy]
    replace rb := rb.ext hEn
    replace hB5 := hB5.ext hEn
    replace hR3 := hR3.later hEn
    replace hQ5 := hQ5.later hEn
    replace rRx := rRx.ext hEn
    replace oPx := oPx.ext hEn
    replace oQx := oQx.ext hEn
    replace rRy := rRy.ext hEn
    replace rPy := rPy.ext hEn
    replace rQy := rQy.ext hEn
    replace hEa := hEa.trans hEn
    clear hyes hno hEn hG hQ hBq hnoq Hrc
    go_wp2_with fail
    generalize w5.alloc (.cells #[.int .i64 x, .slice By 32 b_y, .int .i64 dx, .slice Py 64 py, .slice Qy 4 qy] 41) = w6 at *
    generalize w5.heap.size = g7 at *
    refine (Hdc.out w6 rb).mono ?_
    rintro e w7 ⟨hyes, hno, hE⟩
    clear Hdc rb
    cases hz : (!s3.2 && s3.1.isEmpty) with
    | true =>
      have he : dOK L = true := by rw [Hdk.out]; exact hz
      obtain ⟨Bz, bz, Pz, pz, Qz, qz, rfl, rRz, rPz, rQz⟩ := hyes he
      have hEn := Ext.new w7 (.cells #[.int .i64 x, .slice Bz 32 bz, .int .i64 dx, .slice Pz 64 pz, .slice Qz 4 qz] 41)
      have hB9 := Blk.new w7 41 #[.int .i64 x, .slice Bz 32 bz, .int .i64 dx, .slice Pz 64 pz, .slice Qz 4 qz]
      replace hE := hE.trans hEn
      replace hB5 := hB5.ext hE
      replace hB7 := hB7.ext hE
      replace hR3 := hR3.later hE
      replace hQ5 := hQ5.later hE
      replace rRx := rRx.ext hE
      replace oPx := oPx.ext hE
      replace oQx := oQx.ext hE
      replace rRy := rRy.ext hE
      replace rPy := rPy.ext hE
      replace rQy := rQy.ext hE
      replace rRz := rRz.ext hEn
      replace rPz := rPz.ext hEn
      replace rQz := rQz.ext hEn
      replace hEa := hEa.trans hE
      clear hyes hno hE hEn he
      have hend := r1end_any _ _ qr _ _ hQ5
      rw [hz] at hend
      have Hend := Lib.hid hend
      clear hend hz
      go_wp2_with fail
      generalize w7.alloc (.cells #[.int .i64 x, .slice Bz 32 bz, .int .i64 dx, .slice Pz 64 pz, .slice Qz 4 qz] 41) = w8 at *
      generalize w7.heap.size = g9 at *
      refine Hend.out.mono ?_
      rintro e w9 ⟨rfl, hE⟩
      replace hB5 := hB5.ext hE
      replace hB7 := hB7.ext hE
      replace hB9 := hB9.ext hE
      replace hR3 := hR3.later hE
      replace hQ5 := hQ5.later hE
      replace rRx := rRx.ext hE
      replace oPx := oPx.ext hE
      replace oQx := oQx.ext hE
      replace rRy := rRy.ext hE
      replace rPy := rPy.ext hE
      replace rQy := rQy.ext hE
      replace rRz := rRz.ext hE
      replace rPz := rPz.ext hE
      replace rQz := rQz.ext hE
      replace hEa := hEa.trans hE
      have rPx := oPx.rbb
      have rQx := oQx.rbb
      clear hE Hend
      go_upto_region 8 with (fail)
      refine seq_ext (n := 38) (by kernel_rfl) [.is (.bool (true)), .is (.bool (true)), .is (.bool (false)), .is (.bool (false)), .is (.agg #[.int .i64 (x), .slice (Bx) (32) (bx), .int .i64 (dx), .slice (Px) (64) (px), .slice (Qx) (4) (qx)]), .is (.agg #[.int .i64 (x), .slice (By) (32) (b_y), .int .i64 (dx), .slice (Py) (64) (py), .slice (Qy) (4) (qy)]), .is (.bool (true)), .is (.bool (false)), .is (.bool (false)), .is (.bool (false)), .is (.int .i64 ((0 : Int))), .is (.bool (true)), .is (.bool (true)), .is (.bool (false)), .is (.bool (false)), .is (.bool (false)), .is (.bool (true)), .is (.bool (false)), .is (.bool (false)), .is undef, .is undef, .is undef, .is undef, .is undef, .is undef, .is undef, .is undef, .is (.bool (false)), .is (.bool (false)), .is (.bool (false)), .is (.bool (true)), .is (.bool (true)), .is (.agg #[.int .i64 (x), .slice (Bz) (32) (bz), .int .i64 (dx), .slice (Pz) (64) (pz), .slice (Qz) (4) (qz)]), .is (.agg #[.int .i64 (x), .slice (By) (32) (b_y), .int .i64 (dx), .slice (Py) (64) (py), .slice (Qy) (4) (qy)]), .is (.bool (true)), .is (.bool (false)), .is (.bool (false)), .is (.bool (false))] rfl ⟨?_, ?_, ?_, ?_, ?_, ?_, ?_, ?_, ?_, ?_, ?_, ?_, ?_, ?_, ?_, ?_, ?_, ?_, ?_, ?_, ?_, ?_, ?_, ?_, ?_, ?_, ?_, ?_, ?_, ?_, ?_, ?_, ?_, ?_, ?_, ?_, ?_, ?_, trivial⟩ ?_
      · refine stepE rfl fun sdn sa sw sE sd sk => ?_
        have h6 : sa.eval (.tmp 6) = .bool (true) := sk.old 6 rfl
        exact Runs.move rfl h6 ⟨Ext.refl _, rfl⟩
      · refine stepE rfl fun sdn sa sw sE sd sk => ?_
        have h8 : sa.eval (.tmp 8) = .bool (true) := sk.old 8 rfl
        exact Runs.move rfl h8 ⟨Ext.refl _, rfl⟩
      · refine stepE rfl fun sdn sa sw sE sd sk => ?_
        have h39 : sa.eval (.tmp 39) = .bool (true) := sk.fact 0 39 rfl (sd 0 rfl)
        have h40 : sa.eval (.tmp 40) = .bool (true) := sk.fact 1 40 rfl (sd 1 rfl)
        exact Runs.bin rfl h39 h40 (by rfl) (bin_neb _ _) ⟨Ext.refl _, congrArg Value.bool (by decide)⟩
      · refine stepE rfl fun sdn sa sw sE sd sk => ?_
        have h41 : sa.eval (.tmp 41) = .bool (false) := sk.fact 2 41 rfl (sd 2 rfl)
        exact Runs.move rfl h41 ⟨Ext.refl _, rfl⟩
      · refine stepY (j := 3) (d := 42) (b := false) rfl rfl rfl (fun v w h => h) fun sdn sa sw sE sd sk => ?_
        have h5 : sa.eval (.tmp 5) = .pointer (some ⟨g5, 0, none⟩) := sk.old 5 rfl
        exact Runs.load rfl h5 (load_part (hB5.ext sE) 0 (vs := [.int .i64 (x), .slice (Bx) (32) (bx), .int .i64 (dx), .slice (Px) (64) (px), .slice (Qx) (4) (qx)]) rfl Try.underlying41 rfl (by kernel_rfl)) ⟨Ext.refl _, rfl⟩
      · refine stepY (j := 3) (d := 42) (b := false) rfl rfl rfl (fun v w h => h) fun sdn sa sw sE sd sk => ?_
        have h7 : sa.eval (.tmp 7) = .pointer (some ⟨g7, 0, none⟩) := sk.old 7 rfl
        exact Runs.load rfl h7 (load_part (hB7.ext sE) 0 (vs := [.int .i64 (x), .slice (By) (32) (b_y), .int .i64 (dx), .slice (Py) (64) (py), .slice (Qy) (4) (qy)]) rfl Try.underlying41 rfl (by kernel_rfl)) ⟨Ext.refl _, rfl⟩
      · refine stepY (j := 3) (d := 42) (b := false) rfl rfl rfl (fun v w h => h) fun sdn sa sw sE sd sk => ?_
        have h43 : sa.eval (.tmp 43) = .agg #[.int .i64 (x), .slice (Bx) (32) (bx), .int .i64 (dx), .slice (Px) (64) (px), .slice (Qx) (4) (qx)] := sk.fact 4 43 rfl (sd 4 rfl)
        have h44 : sa.eval (.tmp 44) = .agg #[.int .i64 (x), .slice (By) (32) (b_y), .int .i64 (dx), .slice (Py) (64) (py), .slice (Qy) (4) (qy)] := sk.fact 5 44 rfl (sd 5 rfl)
        refine Runs.call (f := 27) (vs := [.agg #[.int .i64 (x), .slice (Bx) (32) (bx), .int .i64 (dx), .slice (Px) (64) (px), .slice (Qx) (4) (qx)], .agg #[.int .i64 (x), .slice (By) (32) (b_y), .int .i64 (dx), .slice (Py) (64) (py), .slice (Qy) (4) (qy)]]) rfl rfl rfl (by simp only [List.map_toArray, List.map_cons, List.map_nil, h43, h44] <;> rfl) (ent27 _ _) ((eq10_true _ _ _ _ _ _ _ _ _ _ _ _ _ _ _ _ _ _ _ _ _ _ _ sw (rRx.ext sE) (rPx.ext sE) (rQx.ext sE) (rRy.ext sE) (rPy.ext sE) (rQy.ext sE)).mono ?_); rintro e w' ⟨rfl, hx⟩; exact ⟨_, rfl, hx, rfl⟩
      · refine stepY (j := 3) (d := 42) (b := false) rfl rfl rfl (fun v w h => h) fun sdn sa sw sE sd sk => ?_
        have h45 : sa.eval (.tmp 45) = .bool (true) := sk.fact 6 45 rfl (sd 6 rfl)
        exact Runs.un rfl h45 (by rfl) ⟨Ext.refl _, rfl⟩
      · refine stepE rfl fun sdn sa sw sE sd sk => ?_
        have h42 : sa.eval (.tmp 42) = .bool (false) := sk.fact 3 42 rfl (sd 3 rfl)
        have h46 : sa.eval (.tmp 46) = .bool (false) := sk.fact 7 46 rfl (sd 7 rfl)
        exact Runs.pick rfl h42 ⟨Ext.refl _, by first | exact h46 | simpa using h46⟩
      · refine stepE rfl fun sdn sa sw sE sd sk => ?_
        have h47 : sa.eval (.tmp 47) = .bool (false) := sk.fact 8 47 rfl (sd 8 rfl)
        exact Runs.move rfl h47 ⟨Ext.refl _, rfl⟩
      · refine stepY (j := 9) (d := 48) (b := false) rfl rfl rfl (fun v w h => h) fun sdn sa sw sE sd sk => ?_
        have h10 : sa.eval (.tmp 10) = .int .i64 ((0 : Int)) := sk.old 10 rfl
        exact Runs.move rfl h10 ⟨Ext.refl _, rfl⟩
      · refine stepY (j := 9) (d := 48) (b := false) rfl rfl rfl (fun v w h => h) fun sdn sa sw sE sd sk => ?_
        have h49 : sa.eval (.tmp 49) = .int .i64 ((0 : Int)) := sk.fact 10 49 rfl (sd 10 rfl)
        exact Runs.bin rfl h49 rfl (by rfl) (bin_eql _ _ _ _) ⟨Ext.refl _, congrArg Value.bool (by decide)⟩
      · refine stepY (j := 9) (d := 48) (b := false) rfl rfl rfl (fun v w h => h) fun sdn sa sw sE sd sk => ?_
        have h11 : sa.eval (.tmp 11) = .bool (true) := sk.old 11 rfl
        exact Runs.move rfl h11 ⟨Ext.refl _, rfl⟩
      · refine stepY (j := 9) (d := 48) (b := false) rfl rfl rfl (fun v w h => h) fun sdn sa sw sE sd sk => ?_
        have h50 : sa.eval (.tmp 50) = .bool (true) := sk.fact 11 50 rfl (sd 11 rfl)
        have h51 : sa.eval (.tmp 51) = .bool (true) := sk.fact 12 51 rfl (sd 12 rfl)
        exact Runs.bin rfl h50 h51 (by rfl) (bin_neb _ _) ⟨Ext.refl _, congrArg Value.bool (by decide)⟩
      · refine stepE rfl fun sdn sa sw sE sd sk => ?_
        have h48 : sa.eval (.tmp 48) = .bool (false) := sk.fact 9 48 rfl (sd 9 rfl)
        have h52 : sa.eval (.tmp 52) = .bool (false) := sk.fact 13 52 rfl (sd 13 rfl)
        exact Runs.pick rfl h48 ⟨Ext.refl _, by first | exact h52 | simpa using h52⟩
      · refine stepE rfl fun sdn sa sw sE sd sk => ?_
        have h53 : sa.eval (.tmp 53) = .bool (false) := sk.fact 14 53 rfl (sd 14 rfl)
        exact Runs.move rfl h53 ⟨Ext.refl _, rfl⟩
      · refine stepY (j := 15) (d := 54) (b := false) rfl rfl rfl (fun v w h => h) fun sdn sa sw sE sd sk => ?_
        have h11 : sa.eval (.tmp 11) = .bool (true) := sk.old 11 rfl
        exact Runs.move rfl h11 ⟨Ext.refl _, rfl⟩
      · refine stepY (j := 15) (d := 54) (b := false) rfl rfl rfl (fun v w h => h) fun sdn sa sw sE sd sk => ?_
        have h55 : sa.eval (.tmp 55) = .bool (true) := sk.fact 16 55 rfl (sd 16 rfl)
        exact Runs.un rfl h55 (by rfl) ⟨Ext.refl _, rfl⟩
      · refine stepY (j := 15) (d := 54) (b := false) rfl rfl rfl (fun v w h => h) fun sdn sa sw sE sd sk => ?_
        have h56 : sa.eval (.tmp 56) = .bool (false) := sk.fact 17 56 rfl (sd 17 rfl)
        exact Runs.move rfl h56 ⟨Ext.refl _, rfl⟩
      · exact stepN (j := 18) (d := 57) (b := false) rfl rfl rfl (fun v w h => h) fun w => rfl
      · exact stepN (j := 18) (d := 57) (b := false) rfl rfl rfl (fun v w h => h) fun w => rfl
      · exact stepN (j := 18) (d := 57) (b := false) rfl rfl rfl (fun v w h => h) fun w => rfl
      · exact stepU (j := 21) (d := 60) (b := false) rfl rfl rfl (fun v w h => h) fun w => rfl
      · exact stepU (j := 21) (d := 60) (b := false) rfl rfl rfl (fun v w h => h) fun w => rfl
      · exact stepU (j := 21) (d := 60) (b := false) rfl rfl rfl (fun v w h => h) fun w => rfl
      · exact stepU (j := 21) (d := 60) (b := false) rfl rfl rfl (fun v w h => h) fun w => rfl
      · exact stepN (j := 18) (d := 57) (b := false) rfl rfl rfl (fun v w h => h) fun w => rfl
      · refine stepY (j := 15) (d := 54) (b := false) rfl rfl rfl (fun v w h => h) fun sdn sa sw sE sd sk => ?_
        have h57 : sa.eval (.tmp 57) = .bool (false) := sk.fact 18 57 rfl (sd 18 rfl)
        exact Runs.pick rfl h57 ⟨Ext.refl _, rfl⟩
      · refine stepE rfl fun sdn sa sw sE sd sk => ?_
        have h54 : sa.eval (.tmp 54) = .bool (false) := sk.fact 15 54 rfl (sd 15 rfl)
        have h66 : sa.eval (.tmp 66) = .bool (false) := sk.fact 27 66 rfl (sd 27 rfl)
        exact Runs.pick rfl h54 ⟨Ext.refl _, by first | exact h66 | simpa using h66⟩
      · refine stepE rfl fun sdn sa sw sE sd sk => ?_
        have h67 : sa.eval (.tmp 67) = .bool (false) := sk.fact 28 67 rfl (sd 28 rfl)
        exact Runs.move rfl h67 ⟨Ext.refl _, rfl⟩
      · refine stepY (j := 29) (d := 68) (b := false) rfl rfl rfl (fun v w h => h) fun sdn sa sw sE sd sk => ?_
        have h11 : sa.eval (.tmp 11) = .bool (true) := sk.old 11 rfl
        exact Runs.move rfl h11 ⟨Ext.refl _, rfl⟩
      · refine stepY (j := 29) (d := 68) (b := false) rfl rfl rfl (fun v w h => h) fun sdn sa sw sE sd sk => ?_
        have h69 : sa.eval (.tmp 69) = .bool (true) := sk.fact 30 69 rfl (sd 30 rfl)
        exact Runs.move rfl h69 ⟨Ext.refl _, rfl⟩
      · refine stepY (j := 31) (d := 70) (b := true) rfl rfl rfl (fun v w h => h) fun sdn sa sw sE sd sk => ?_
        have h9 : sa.eval (.tmp 9) = .pointer (some ⟨g9, 0, none⟩) := sk.old 9 rfl
        exact Runs.load rfl h9 (load_part (hB9.ext sE) 0 (vs := [.int .i64 (x), .slice (Bz) (32) (bz), .int .i64 (dx), .slice (Pz) (64) (pz), .slice (Qz) (4) (qz)]) rfl Try.underlying41 rfl (by kernel_rfl)) ⟨Ext.refl _, rfl⟩
      · refine stepY (j := 31) (d := 70) (b := true) rfl rfl rfl (fun v w h => h) fun sdn sa sw sE sd sk => ?_
        have h7 : sa.eval (.tmp 7) = .pointer (some ⟨g7, 0, none⟩) := sk.old 7 rfl
        exact Runs.load rfl h7 (load_part (hB7.ext sE) 0 (vs := [.int .i64 (x), .slice (By) (32) (b_y), .int .i64 (dx), .slice (Py) (64) (py), .slice (Qy) (4) (qy)]) rfl Try.underlying41 rfl (by kernel_rfl)) ⟨Ext.refl _, rfl⟩
      · refine stepY (j := 31) (d := 70) (b := true) rfl rfl rfl (fun v w h => h) fun sdn sa sw sE sd sk => ?_
        have h71 : sa.eval (.tmp 71) = .agg #[.int .i64 (x), .slice (Bz) (32) (bz), .int .i64 (dx), .slice (Pz) (64) (pz), .slice (Qz) (4) (qz)] := sk.fact 32 71 rfl (sd 32 rfl)
        have h72 : sa.eval (.tmp 72) = .agg #[.int .i64 (x), .slice (By) (32) (b_y), .int .i64 (dx), .slice (Py) (64) (py), .slice (Qy) (4) (qy)] := sk.fact 33 72 rfl (sd 33 rfl)
        refine Runs.call (f := 27) (vs := [.agg #[.int .i64 (x), .slice (Bz) (32) (bz), .int .i64 (dx), .slice (Pz) (64) (pz), .slice (Qz) (4) (qz)], .agg #[.int .i64 (x), .slice (By) (32) (b_y), .int .i64 (dx), .slice (Py) (64) (py), .slice (Qy) (4) (qy)]]) rfl rfl rfl (by simp only [List.map_toArray, List.map_cons, List.map_nil, h71, h72] <;> rfl) (ent27 _ _) ((eq10_true _ _ _ _ _ _ _ _ _ _ _ _ _ _ _ _ _ _ _ _ _ _ _ sw (rRz.ext sE) (rPz.ext sE) (rQz.ext sE) (rRy.ext sE) (rPy.ext sE) (rQy.ext sE)).mono ?_); rintro e w' ⟨rfl, hx⟩; exact ⟨_, rfl, hx, rfl⟩
      · refine stepY (j := 31) (d := 70) (b := true) rfl rfl rfl (fun v w h => h) fun sdn sa sw sE sd sk => ?_
        have h73 : sa.eval (.tmp 73) = .bool (true) := sk.fact 34 73 rfl (sd 34 rfl)
        exact Runs.un rfl h73 (by rfl) ⟨Ext.refl _, rfl⟩
      · refine stepY (j := 29) (d := 68) (b := false) rfl rfl rfl (fun v w h => h) fun sdn sa sw sE sd sk => ?_
        have h70 : sa.eval (.tmp 70) = .bool (true) := sk.fact 31 70 rfl (sd 31 rfl)
        have h74 : sa.eval (.tmp 74) = .bool (false) := sk.fact 35 74 rfl (sd 35 rfl)
        exact Runs.pick rfl h70 ⟨Ext.refl _, by first | exact h74 | simpa using h74⟩
      · refine stepE rfl fun sdn sa sw sE sd sk => ?_
        have h68 : sa.eval (.tmp 68) = .bool (false) := sk.fact 29 68 rfl (sd 29 rfl)
        have h75 : sa.eval (.tmp 75) = .bool (false) := sk.fact 36 75 rfl (sd 36 rfl)
        exact Runs.pick rfl h68 ⟨Ext.refl _, by first | exact h75 | simpa using h75⟩
      intro vals W8 hE8 hv8
      have e0 : vals 0 = .bool (true) := hv8 0 (by omega) 39 rfl
      have e1 : vals 1 = .bool (true) := hv8 1 (by omega) 40 rfl
      have e2 : vals 2 = .bool (false) := hv8 2 (by omega) 41 rfl
      have e3 : vals 3 = .bool (false) := hv8 3 (by omega) 42 rfl
      have e4 : vals 4 = .agg #[.int .i64 (x), .slice (Bx) (32) (bx), .int .i64 (dx), .slice (Px) (64) (px), .slice (Qx) (4) (qx)] := hv8 4 (by omega) 43 rfl
      have e5 : vals 5 = .agg #[.int .i64 (x), .slice (By) (32) (b_y), .int .i64 (dx), .slice (Py) (64) (py), .slice (Qy) (4) (qy)] := hv8 5 (by omega) 44 rfl
      have e6 : vals 6 = .bool (true) := hv8 6 (by omega) 45 rfl
      have e7 : vals 7 = .bool (false) := hv8 7 (by omega) 46 rfl
      have e8 : vals 8 = .bool (false) := hv8 8 (by omega) 47 rfl
      have e9 : vals 9 = .bool (false) := hv8 9 (by omega) 48 rfl
      have e10 : vals 10 = .int .i64 ((0 : Int)) := hv8 10 (by omega) 49 rfl
      have e11 : vals 11 = .bool (true) := hv8 11 (by omega) 50 rfl
      have e12 : vals 12 = .bool (true) := hv8 12 (by omega) 51 rfl
      have e13 : vals 13 = .bool (false) := hv8 13 (by omega) 52 rfl
      have e14 : vals 14 = .bool (false) := hv8 14 (by omega) 53 rfl
      have e15 : vals 15 = .bool (false) := hv8 15 (by omega) 54 rfl
      have e16 : vals 16 = .bool (true) := hv8 16 (by omega) 55 rfl
      have e17 : vals 17 = .bool (false) := hv8 17 (by omega) 56 rfl
      have e18 : vals 18 = .bool (false) := hv8 18 (by omega) 57 rfl
      have e27 : vals 27 = .bool (false) := hv8 27 (by omega) 66 rfl
      have e28 : vals 28 = .bool (false) := hv8 28 (by omega) 67 rfl
      have e29 : vals 29 = .bool (false) := hv8 29 (by omega) 68 rfl
      have e30 : vals 30 = .bool (true) := hv8 30 (by omega) 69 rfl
      have e31 : vals 31 = .bool (true) := hv8 31 (by omega) 70 rfl
      have e32 : vals 32 = .agg #[.int .i64 (x), .slice (Bz) (32) (bz), .int .i64 (dx), .slice (Pz) (64) (pz), .slice (Qz) (4) (qz)] := hv8 32 (by omega) 71 rfl
      have e33 : vals 33 = .agg #[.int .i64 (x), .slice (By) (32) (b_y), .int .i64 (dx), .slice (Py) (64) (py), .slice (Qy) (4) (qy)] := hv8 33 (by omega) 72 rfl
      have e34 : vals 34 = .bool (true) := hv8 34 (by omega) 73 rfl
      have e35 : vals 35 = .bool (false) := hv8 35 (by omega) 74 rfl
      have e36 : vals 36 = .bool (false) := hv8 36 (by omega) 75 rfl
      have e37 : vals 37 = .bool (false) := hv8 37 (by omega) 76 rfl
      simp only [putAll, Act.put, List.take_succ_cons, List.take_zero, List.drop_succ_cons, List.drop_zero, List.drop_nil, List.take_nil, Nat.reduceAdd, List.setIfInBounds_toArray, List.set_cons_succ, List.set_cons_zero, e0, e1, e2, e3, e4, e5, e6, e7, e8, e9, e10, e11, e12, e13, e14, e15, e16, e17, e18, e27, e28, e29, e30, e31, e32, e33, e34, e35, e36, e37]
      clear hv8 e0 e1 e2 e3 e4 e5 e6 e7 e8 e9 e10 e11 e12 e13 e14 e15 e16 e17 e18 e27 e28 e29 e30 e31 e32 e33 e34 e35 e36 e37
      replace hR3 := hR3.later hE8
      replace hQ5 := hQ5.later hE8
      replace hEa := hEa.trans hE8
      have hl1 := rleft_any _ _ q _ _ hR3
      have hl2 := r1left_any _ _ qr _ _ hQ5
      clear hE8
      go_wp2_with fail
      refine hl1.mono ?_
      rintro e _ ⟨rfl, rfl⟩
      go_wp2_with fail
      refine hl2.mono ?_
      rintro e w10 ⟨rfl, hE⟩
      go_wp2_with fail
      go_ret
      exact ⟨by simp, hEa.trans hE⟩
    | false =>
      have he : dOK L = false := by rw [Hdk.out]; exact hz
      obtain rfl := hno he
      have hEn := Ext.new w7 (.cells #[.int .i64 0, .slice none 0 0, .int .i64 0, .slice none 0 0, .slice none 0 0] 41)
      have hB9 := Blk.new w7 41 #[.int .i64 0, .slice none 0 0, .int .i64 0, .slice none 0 0, .slice none 0 0]
      replace hE := hE.trans hEn
      replace hB5 := hB5.ext hE
      replace hB7 := hB7.ext hE
      replace hR3 := hR3.later hE
      replace hQ5 := hQ5.later hE
      replace rRx := rRx.ext hE
      replace oPx := oPx.ext hE
      replace oQx := oQx.ext hE
      replace rRy := rRy.ext hE
      replace rPy := rPy.ext hE
      replace rQy := rQy.ext hE
      replace hEa := hEa.trans hE
      clear hyes hno hE hEn he
      have hend := r1end_any _ _ qr _ _ hQ5
      rw [hz] at hend
      have Hend := Lib.hid hend
      clear hend hz
      go_wp2_with fail
      generalize w7.alloc (.cells #[.int .i64 0, .slice none 0 0, .int .i64 0, .slice none 0 0, .slice none 0 0] 41) = w8 at *
      generalize w7.heap.size = g9 at *
      refine Hend.out.mono ?_
      rintro e w9 ⟨rfl, hE⟩
      replace hB5 := hB5.ext hE
      replace hB7 := hB7.ext hE
      replace hB9 := hB9.ext hE
      replace hR3 := hR3.later hE
      replace hQ5 := hQ5.later hE
      replace rRx := rRx.ext hE
      replace oPx := oPx.ext hE
      replace oQx := oQx.ext hE
      replace rRy := rRy.ext hE
      replace rPy := rPy.ext hE
      replace rQy := rQy.ext hE
      replace hEa := hEa.trans hE
      have rPx := oPx.rbb
      have rQx := oQx.rbb
      clear hE Hend
      go_upto_region 8 with (fail)
      refine seq_ext (n := 38) (by kernel_rfl) [.is (.bool (true)), .is (.bool (true)), .is (.bool (false)), .is (.bool (false)), .is (.agg #[.int .i64 (x), .slice (Bx) (32) (bx), .int .i64 (dx), .slice (Px) (64) (px), .slice (Qx) (4) (qx)]), .is (.agg #[.int .i64 (x), .slice (By) (32) (b_y), .int .i64 (dx), .slice (Py) (64) (py), .slice (Qy) (4) (qy)]), .is (.bool (true)), .is (.bool (false)), .is (.bool (false)), .is (.bool (false)), .is (.int .i64 ((12 : Int))), .is (.bool (false)), .is (.bool (false)), .is (.bool (false)), .is (.bool (false)), .is (.bool (false)), .is (.bool (false)), .is (.bool (true)), .is (.bool (true)), .is (.int .i64 ((12 : Int))), .is (.bool (false)), .is (.bool (false)), .is (.agg #[.int .i64 ((0 : Int)), .slice (none) (0) (0), .int .i64 ((0 : Int)), .slice (none) (0) (0), .slice (none) (0) (0)]), .is (.agg #[.int .i64 ((0 : Int)), .slice (none) (0) (0), .int .i64 ((0 : Int)), .slice (none) (0) (0), .slice (none) (0) (0)]), .is (.bool (true)), .is (.bool (false)), .is (.bool (false)), .is (.bool (false)), .is (.bool (false)), .is (.bool (false)), .is (.bool (false)), .is (.bool (false)), .is undef, .is undef, .is undef, .is undef, .is (.bool (false)), .is (.bool (false))] rfl ⟨?_, ?_, ?_, ?_, ?_, ?_, ?_, ?_, ?_, ?_, ?_, ?_, ?_, ?_, ?_, ?_, ?_, ?_, ?_, ?_, ?_, ?_, ?_, ?_, ?_, ?_, ?_, ?_, ?_, ?_, ?_, ?_, ?_, ?_, ?_, ?_, ?_, ?_, trivial⟩ ?_
      · refine stepE rfl fun sdn sa sw sE sd sk => ?_
        have h6 : sa.eval (.tmp 6) = .bool (true) := sk.old 6 rfl
        exact Runs.move rfl h6 ⟨Ext.refl _, rfl⟩
      · refine stepE rfl fun sdn sa sw sE sd sk => ?_
        have h8 : sa.eval (.tmp 8) = .bool (true) := sk.old 8 rfl
        exact Runs.move rfl h8 ⟨Ext.refl _, rfl⟩
      · refine stepE rfl fun sdn sa sw sE sd sk => ?_
        have h39 : sa.eval (.tmp 39) = .bool (true) := sk.fact 0 39 rfl (sd 0 rfl)
        have h40 : sa.eval (.tmp 40) = .bool (true) := sk.fact 1 40 rfl (sd 1 rfl)
        exact Runs.bin rfl h39 h40 (by rfl) (bin_neb _ _) ⟨Ext.refl _, congrArg Value.bool (by decide)⟩
      · refine stepE rfl fun sdn sa sw sE sd sk => ?_
        have h41 : sa.eval (.tmp 41) = .bool (false) := sk.fact 2 41 rfl (sd 2 rfl)
        exact Runs.move rfl h41 ⟨Ext.refl _, rfl⟩
      · refine stepY (j := 3) (d := 42) (b := false) rfl rfl rfl (fun v w h => h) fun sdn sa sw sE sd sk => ?_
        have h5 : sa.eval (.tmp 5) = .pointer (some ⟨g5, 0, none⟩) := sk.old 5 rfl
        exact Runs.load rfl h5 (load_part (hB5.ext sE) 0 (vs := [.int .i64 (x), .slice (Bx) (32) (bx), .int .i64 (dx), .slice (Px) (64) (px), .slice (Qx) (4) (qx)]) rfl Try.underlying41 rfl (by kernel_rfl)) ⟨Ext.refl _, rfl⟩
      · refine stepY (j := 3) (d := 42) (b := false) rfl rfl rfl (fun v w h => h) fun sdn sa sw sE sd sk => ?_
        have h7 : sa.eval (.tmp 7) = .pointer (some ⟨g7, 0, none⟩) := sk.old 7 rfl
        exact Runs.load rfl h7 (load_part (hB7.ext sE) 0 (vs := [.int .i64 (x), .slice (By) (32) (b_y), .int .i64 (dx), .slice (Py) (64) (py), .slice (Qy) (4) (qy)]) rfl Try.underlying41 rfl (by kernel_rfl)) ⟨Ext.refl _, rfl⟩
      · refine stepY (j := 3) (d := 42) (b := false) rfl rfl rfl (fun v w h => h) fun sdn sa sw sE sd sk => ?_
        have h43 : sa.eval (.tmp 43) = .agg #[.int .i64 (x), .slice (Bx) (32) (bx), .int .i64 (dx), .slice (Px) (64) (px), .slice (Qx) (4) (qx)] := sk.fact 4 43 rfl (sd 4 rfl)
        have h44 : sa.eval (.tmp 44) = .agg #[.int .i64 (x), .slice (By) (32) (b_y), .int .i64 (dx), .slice (Py) (64) (py), .slice (Qy) (4) (qy)] := sk.fact 5 44 rfl (sd 5 rfl)
        refine Runs.call (f := 27) (vs := [.agg #[.int .i64 (x), .slice (Bx) (32) (bx), .int .i64 (dx), .slice (Px) (64) (px), .slice (Qx) (4) (qx)], .agg #[.int .i64 (x), .slice (By) (32) (b_y), .int .i64 (dx), .slice (Py) (64) (py), .slice (Qy) (4) (qy)]]) rfl rfl rfl (by simp only [List.map_toArray, List.map_cons, List.map_nil, h43, h44] <;> rfl) (ent27 _ _) ((eq10_true _ _ _ _ _ _ _ _ _ _ _ _ _ _ _ _ _ _ _ _ _ _ _ sw (rRx.ext sE) (rPx.ext sE) (rQx.ext sE) (rRy.ext sE) (rPy.ext sE) (rQy.ext sE)).mono ?_); rintro e w' ⟨rfl, hx⟩; exact ⟨_, rfl, hx, rfl⟩
      · refine stepY (j := 3) (d := 42) (b := false) rfl rfl rfl (fun v w h => h) fun sdn sa sw sE sd sk => ?_
        have h45 : sa.eval (.tmp 45) = .bool (true) := sk.fact 6 45 rfl (sd 6 rfl)
        exact Runs.un rfl h45 (by rfl) ⟨Ext.refl _, rfl⟩
      · refine stepE rfl fun sdn sa sw sE sd sk => ?_
        have h42 : sa.eval (.tmp 42) = .bool (false) := sk.fact 3 42 rfl (sd 3 rfl)
        have h46 : sa.eval (.tmp 46) = .bool (false) := sk.fact 7 46 rfl (sd 7 rfl)
        exact Runs.pick rfl h42 ⟨Ext.refl _, by first | exact h46 | simpa using h46⟩
      · refine stepE rfl fun sdn sa sw sE sd sk => ?_
        have h47 : sa.eval (.tmp 47) = .bool (false) := sk.fact 8 47 rfl (sd 8 rfl)
        exact Runs.move rfl h47 ⟨Ext.refl _, rfl⟩
      · refine stepY (j := 9) (d := 48) (b := false) rfl rfl rfl (fun v w h => h) fun sdn sa sw sE sd sk => ?_
        have h10 : sa.eval (.tmp 10) = .int .i64 ((12 : Int)) := sk.old 10 rfl
        exact Runs.move rfl h10 ⟨Ext.refl _, rfl⟩
      · refine stepY (j := 9) (d := 48) (b := false) rfl rfl rfl (fun v w h => h) fun sdn sa sw sE sd sk => ?_
        have h49 : sa.eval (.tmp 49) = .int .i64 ((12 : Int)) := sk.fact 10 49 rfl (sd 10 rfl)
        exact Runs.bin rfl h49 rfl (by rfl) (bin_eql _ _ _ _) ⟨Ext.refl _, congrArg Value.bool (by decide)⟩
      · refine stepY (j := 9) (d := 48) (b := false) rfl rfl rfl (fun v w h => h) fun sdn sa sw sE sd sk => ?_
        have h11 : sa.eval (.tmp 11) = .bool (false) := sk.old 11 rfl
        exact Runs.move rfl h11 ⟨Ext.refl _, rfl⟩
      · refine stepY (j := 9) (d := 48) (b := false) rfl rfl rfl (fun v w h => h) fun sdn sa sw sE sd sk => ?_
        have h50 : sa.eval (.tmp 50) = .bool (false) := sk.fact 11 50 rfl (sd 11 rfl)
        have h51 : sa.eval (.tmp 51) = .bool (false) := sk.fact 12 51 rfl (sd 12 rfl)
        exact Runs.bin rfl h50 h51 (by rfl) (bin_neb _ _) ⟨Ext.refl _, congrArg Value.bool (by decide)⟩
      · refine stepE rfl fun sdn sa sw sE sd sk => ?_
        have h48 : sa.eval (.tmp 48) = .bool (false) := sk.fact 9 48 rfl (sd 9 rfl)
        have h52 : sa.eval (.tmp 52) = .bool (false) := sk.fact 13 52 rfl (sd 13 rfl)
        exact Runs.pick rfl h48 ⟨Ext.refl _, by first | exact h52 | simpa using h52⟩
      · refine stepE rfl fun sdn sa sw sE sd sk => ?_
        have h53 : sa.eval (.tmp 53) = .bool (false) := sk.fact 14 53 rfl (sd 14 rfl)
        exact Runs.move rfl h53 ⟨Ext.refl _, rfl⟩
      · refine stepY (j := 15) (d := 54) (b := false) rfl rfl rfl (fun v w h => h) fun sdn sa sw sE sd sk => ?_
        have h11 : sa.eval (.tmp 11) = .bool (false) := sk.old 11 rfl
        exact Runs.move rfl h11 ⟨Ext.refl _, rfl⟩
      · refine stepY (j := 15) (d := 54) (b := false) rfl rfl rfl (fun v w h => h) fun sdn sa sw sE sd sk => ?_
        have h55 : sa.eval (.tmp 55) = .bool (false) := sk.fact 16 55 rfl (sd 16 rfl)
        exact Runs.un rfl h55 (by rfl) ⟨Ext.refl _, rfl⟩
      · refine stepY (j := 15) (d := 54) (b := false) rfl rfl rfl (fun v w h => h) fun sdn sa sw sE sd sk => ?_
        have h56 : sa.eval (.tmp 56) = .bool (true) := sk.fact 17 56 rfl (sd 17 rfl)
        exact Runs.move rfl h56 ⟨Ext.refl _, rfl⟩
      · refine stepY (j := 18) (d := 57) (b := true) rfl rfl rfl (fun v w h => h) fun sdn sa sw sE sd sk => ?_
        have h10 : sa.eval (.tmp 10) = .int .i64 ((12 : Int)) := sk.old 10 rfl
        exact Runs.move rfl h10 ⟨Ext.refl _, rfl⟩
      · refine stepY (j := 18) (d := 57) (b := true) rfl rfl rfl (fun v w h => h) fun sdn sa sw sE sd sk => ?_
        have h58 : sa.eval (.tmp 58) = .int .i64 ((12 : Int)) := sk.fact 19 58 rfl (sd 19 rfl)
        exact Runs.bin rfl h58 rfl (by rfl) (bin_neq _ _ _ _) ⟨Ext.refl _, congrArg Value.bool (by decide)⟩
      · refine stepY (j := 18) (d := 57) (b := true) rfl rfl rfl (fun v w h => h) fun sdn sa sw sE sd sk => ?_
        have h59 : sa.eval (.tmp 59) = .bool (false) := sk.fact 20 59 rfl (sd 20 rfl)
        exact Runs.move rfl h59 ⟨Ext.refl _, rfl⟩
      · refine stepY (j := 21) (d := 60) (b := false) rfl rfl rfl (fun v w h => h) fun sdn sa sw sE sd sk => ?_
        have h9 : sa.eval (.tmp 9) = .pointer (some ⟨g9, 0, none⟩) := sk.old 9 rfl
        exact Runs.load rfl h9 (load_part (hB9.ext sE) 0 (vs := [.int .i64 ((0 : Int)), .slice (none) (0) (0), .int .i64 ((0 : Int)), .slice (none) (0) (0), .slice (none) (0) (0)]) rfl Try.underlying41 rfl (by kernel_rfl)) ⟨Ext.refl _, rfl⟩
      · refine stepY (j := 21) (d := 60) (b := false) rfl rfl rfl (fun v w h => h) fun sdn sa sw sE sd sk => ?_
        refine Runs.of_run (r := .agg #[.int .i64 ((0 : Int)), .slice (none) (0) (0), .int .i64 ((0 : Int)), .slice (none) (0) (0), .slice (none) (0) (0)]) (w' := sw) ?_ ⟨Ext.refl _, rfl⟩
        unfold execOp
        simp only [List.map_toArray, List.map_cons, List.map_nil]
        go_simp
      · refine stepY (j := 21) (d := 60) (b := false) rfl rfl rfl (fun v w h => h) fun sdn sa sw sE sd sk => ?_
        have h61 : sa.eval (.tmp 61) = .agg #[.int .i64 ((0 : Int)), .slice (none) (0) (0), .int .i64 ((0 : Int)), .slice (none) (0) (0), .slice (none) (0) (0)] := sk.fact 22 61 rfl (sd 22 rfl)
        have h62 : sa.eval (.tmp 62) = .agg #[.int .i64 ((0 : Int)), .slice (none) (0) (0), .int .i64 ((0 : Int)), .slice (none) (0) (0), .slice (none) (0) (0)] := sk.fact 23 62 rfl (sd 23 rfl)
        refine Runs.call (f := 27) (vs := [.agg #[.int .i64 ((0 : Int)), .slice (none) (0) (0), .int .i64 ((0 : Int)), .slice (none) (0) (0), .slice (none) (0) (0)], .agg #[.int .i64 ((0 : Int)), .slice (none) (0) (0), .int .i64 ((0 : Int)), .slice (none) (0) (0), .slice (none) (0) (0)]]) rfl rfl rfl (by simp only [List.map_toArray, List.map_cons, List.map_nil, h61, h62] <;> rfl) (ent27 _ _) ((eq10_true _ _ _ _ _ _ _ _ _ _ _ _ _ _ _ _ _ _ _ _ _ _ _ sw (RB.nil_ _) (RBB.nil_ _) (RBB.nil_ _) (RB.nil_ _) (RBB.nil_ _) (RBB.nil_ _)).mono ?_); rintro e w' ⟨rfl, hx⟩; exact ⟨_, rfl, hx, rfl⟩
      · refine stepY (j := 21) (d := 60) (b := false) rfl rfl rfl (fun v w h => h) fun sdn sa sw sE sd sk => ?_
        have h63 : sa.eval (.tmp 63) = .bool (true) := sk.fact 24 63 rfl (sd 24 rfl)
        exact Runs.un rfl h63 (by rfl) ⟨Ext.refl _, rfl⟩
      · refine stepY (j := 18) (d := 57) (b := true) rfl rfl rfl (fun v w h => h) fun sdn sa sw sE sd sk => ?_
        have h60 : sa.eval (.tmp 60) = .bool (false) := sk.fact 21 60 rfl (sd 21 rfl)
        have h64 : sa.eval (.tmp 64) = .bool (false) := sk.fact 25 64 rfl (sd 25 rfl)
        exact Runs.pick rfl h60 ⟨Ext.refl _, by first | exact h64 | simpa using h64⟩
      · refine stepY (j := 15) (d := 54) (b := false) rfl rfl rfl (fun v w h => h) fun sdn sa sw sE sd sk => ?_
        have h57 : sa.eval (.tmp 57) = .bool (true) := sk.fact 18 57 rfl (sd 18 rfl)
        have h65 : sa.eval (.tmp 65) = .bool (false) := sk.fact 26 65 rfl (sd 26 rfl)
        exact Runs.pick rfl h57 ⟨Ext.refl _, by first | exact h65 | simpa using h65⟩
      · refine stepE rfl fun sdn sa sw sE sd sk => ?_
        have h54 : sa.eval (.tmp 54) = .bool (false) := sk.fact 15 54 rfl (sd 15 rfl)
        have h66 : sa.eval (.tmp 66) = .bool (false) := sk.fact 27 66 rfl (sd 27 rfl)
        exact Runs.pick rfl h54 ⟨Ext.refl _, by first | exact h66 | simpa using h66⟩
      · refine stepE rfl fun sdn sa sw sE sd sk => ?_
        have h67 : sa.eval (.tmp 67) = .bool (false) := sk.fact 28 67 rfl (sd 28 rfl)
        exact Runs.move rfl h67 ⟨Ext.refl _, rfl⟩
      · refine stepY (j := 29) (d := 68) (b := false) rfl rfl rfl (fun v w h => h) fun sdn sa sw sE sd sk => ?_
        have h11 : sa.eval (.tmp 11) = .bool (false) := sk.old 11 rfl
        exact Runs.move rfl h11 ⟨Ext.refl _, rfl⟩
      · refine stepY (j := 29) (d := 68) (b := false) rfl rfl rfl (fun v w h => h) fun sdn sa sw sE sd sk => ?_
        have h69 : sa.eval (.tmp 69) = .bool (false) := sk.fact 30 69 rfl (sd 30 rfl)
        exact Runs.move rfl h69 ⟨Ext.refl _, rfl⟩
      · exact stepN (j := 31) (d := 70) (b := false) rfl rfl rfl (fun v w h => h) fun w => rfl
      · exact stepN (j := 31) (d := 70) (b := false) rfl rfl rfl (fun v w h => h) fun w => rfl
      · exact stepN (j := 31) (d := 70) (b := false) rfl rfl rfl (fun v w h => h) fun w => rfl
      · exact stepN (j := 31) (d := 70) (b := false) rfl rfl rfl (fun v w h => h) fun w => rfl
      · refine stepY (j := 29) (d := 68) (b := false) rfl rfl rfl (fun v w h => h) fun sdn sa sw sE sd sk => ?_
        have h70 : sa.eval (.tmp 70) = .bool (false) := sk.fact 31 70 rfl (sd 31 rfl)
        exact Runs.pick rfl h70 ⟨Ext.refl _, rfl⟩
      · refine stepE rfl fun sdn sa sw sE sd sk => ?_
        have h68 : sa.eval (.tmp 68) = .bool (false) := sk.fact 29 68 rfl (sd 29 rfl)
        have h75 : sa.eval (.tmp 75) = .bool (false) := sk.fact 36 75 rfl (sd 36 rfl)
        exact Runs.pick rfl h68 ⟨Ext.refl _, by first | exact h75 | simpa using h75⟩
      intro vals W8 hE8 hv8
      have e0 : vals 0 = .bool (true) := hv8 0 (by omega) 39 rfl
      have e1 : vals 1 = .bool (true) := hv8 1 (by omega) 40 rfl
      have e2 : vals 2 = .bool (false) := hv8 2 (by omega) 41 rfl
      have e3 : vals 3 = .bool (false) := hv8 3 (by omega) 42 rfl
      have e4 : vals 4 = .agg #[.int .i64 (x), .slice (Bx) (32) (bx), .int .i64 (dx), .slice (Px) (64) (px), .slice (Qx) (4) (qx)] := hv8 4 (by omega) 43 rfl
      have e5 : vals 5 = .agg #[.int .i64 (x), .slice (By) (32) (b_y), .int .i64 (dx), .slice (Py) (64) (py), .slice (Qy) (4) (qy)] := hv8 5 (by omega) 44 rfl
      have e6 : vals 6 = .bool (true) := hv8 6 (by omega) 45 rfl
      have e7 : vals 7 = .bool (false) := hv8 7 (by omega) 46 rfl
      have e8 : vals 8 = .bool (false) := hv8 8 (by omega) 47 rfl
      have e9 : vals 9 = .bool (false) := hv8 9 (by omega) 48 rfl
      have e10 : vals 10 = .int .i64 ((12 : Int)) := hv8 10 (by omega) 49 rfl
      have e11 : vals 11 = .bool (false) := hv8 11 (by omega) 50 rfl
      have e12 : vals 12 = .bool (false) := hv8 12 (by omega) 51 rfl
      have e13 : vals 13 = .bool (false) := hv8 13 (by omega) 52 rfl
      have e14 : vals 14 = .bool (false) := hv8 14 (by omega) 53 rfl
      have e15 : vals 15 = .bool (false) := hv8 15 (by omega) 54 rfl
      have e16 : vals 16 = .bool (false) := hv8 16 (by omega) 55 rfl
      have e17 : vals 17 = .bool (true) := hv8 17 (by omega) 56 rfl
      have e18 : vals 18 = .bool (true) := hv8 18 (by omega) 57 rfl
      have e19 : vals 19 = .int .i64 ((12 : Int)) := hv8 19 (by omega) 58 rfl
      have e20 : vals 20 = .bool (false) := hv8 20 (by omega) 59 rfl
      have e21 : vals 21 = .bool (false) := hv8 21 (by omega) 60 rfl
      have e22 : vals 22 = .agg #[.int .i64 ((0 : Int)), .slice (none) (0) (0), .int .i64 ((0 : Int)), .slice (none) (0) (0), .slice (none) (0) (0)] := hv8 22 (by omega) 61 rfl
      have e23 : vals 23 = .agg #[.int .i64 ((0 : Int)), .slice (none) (0) (0), .int .i64 ((0 : Int)), .slice (none) (0) (0), .slice (none) (0) (0)] := hv8 23 (by omega) 62 rfl
      have e24 : vals 24 = .bool (true) := hv8 24 (by omega) 63 rfl
      have e25 : vals 25 = .bool (false) := hv8 25 (by omega) 64 rfl
      have e26 : vals 26 = .bool (false) := hv8 26 (by omega) 65 rfl
      have e27 : vals 27 = .bool (false) := hv8 27 (by omega) 66 rfl
      have e28 : vals 28 = .bool (false) := hv8 28 (by omega) 67 rfl
      have e29 : vals 29 = .bool (false) := hv8 29 (by omega) 68 rfl
      have e30 : vals 30 = .bool (false) := hv8 30 (by omega) 69 rfl
      have e31 : vals 31 = .bool (false) := hv8 31 (by omega) 70 rfl
      have e36 : vals 36 = .bool (false) := hv8 36 (by omega) 75 rfl
      have e37 : vals 37 = .bool (false) := hv8 37 (by omega) 76 rfl
      simp only [putAll, Act.put, List.take_succ_cons, List.take_zero, List.drop_succ_cons, List.drop_zero, List.drop_nil, List.take_nil, Nat.reduceAdd, List.setIfInBounds_toArray, List.set_cons_succ, List.set_cons_zero, e0, e1, e2, e3, e4, e5, e6, e7, e8, e9, e10, e11, e12, e13, e14, e15, e16, e17, e18, e19, e20, e21, e22, e23, e24, e25, e26, e27, e28, e29, e30, e31, e36, e37]
      clear hv8 e0 e1 e2 e3 e4 e5 e6 e7 e8 e9 e10 e11 e12 e13 e14 e15 e16 e17 e18 e19 e20 e21 e22 e23 e24 e25 e26 e27 e28 e29 e30 e31 e36 e37
      replace hR3 := hR3.later hE8
      replace hQ5 := hQ5.later hE8
      replace hEa := hEa.trans hE8
      have hl1 := rleft_any _ _ q _ _ hR3
      have hl2 := r1left_any _ _ qr _ _ hQ5
      clear hE8
      go_wp2_with fail
      refine hl1.mono ?_
      rintro e _ ⟨rfl, rfl⟩
      go_wp2_with fail
      refine hl2.mono ?_
      rintro e w10 ⟨rfl, hE⟩
      go_wp2_with fail
      go_ret
      exact ⟨by simp, hEa.trans hE⟩
  | false =>
    obtain rfl := hno hg
    rw [hg, Bool.false_and] at hdk
    have Hdk := Lib.hid hdk
    have hEn := Ext.new w3 (.cells #[.int .i64 0, .slice none 0 0, .int .i64 0, .slice none 0 0, .slice none 0 0] 41)
    have hB5 := Blk.new w3 41 #[.int .i64 0, .slice none 0 0, .int .i64 0, .slice none 0 0, .slice none 0 0]
    replace rb := rb.ext hEn
    replace hQ := hQ.later hEn
    replace hR3 := hR3.later hEn
    replace hEa := hEa.trans hEn
    clear hyes hno hEn hdk
    have Hg := Lib.hid hg
    clear hg
    go_wp2_with fail
    obtain ⟨g5, hg5⟩ : ∃ g5, g5 = w3.heap.size := ⟨_, rfl⟩
    rw [← hg5] at hB5 hqr ⊢
    clear hg5
    generalize w3.alloc (.cells #[.int .i64 0, .slice none 0 0, .int .i64 0, .slice none 0 0, .slice none 0 0] 41) = w4 at *
    refine (Hrc.out w4 hQ).mono ?_
    rintro e w5 ⟨hyes, hno, hQ5, hG⟩
    obtain rfl := hno Hg.out
    obtain ⟨cs, hBq, hnoq⟩ := hQ.blk_
    replace rb := rb.grown hG (rb.apart5 hBq hnoq)
    replace hR3 := hR3.away hBq (by decide) hnoq hG
    replace hB5 := hB5.grown hG (by intro e; injection e with e; omega)
    replace hEa := hEa.then_grown hG (by intro k hk; cases hk; exact hqw1)
    have hEn := Ext.new w5 (.cells #[.int .i64 0, .slice none 0 0, .int .i64 0, .slice none 0 0, .slice none 0 0] 41)
    have hB7 := Blk.new w5 41 #[.int .i64 0, .slice none 0 0, .int .i64 0, .slice none 0 0, .slice none 0 0]
    replace rb := rb.ext hEn
    replace hB5 := hB5.ext hEn
    replace hR3 := hR3.later hEn
    replace hQ5 := hQ5.later hEn
    replace hEa := hEa.trans hEn
    clear hyes hno hEn hG hQ hBq hnoq Hrc
    go_wp2_with fail
    generalize w5.alloc (.cells #[.int .i64 0, .slice none 0 0, .int .i64 0, .slice none 0 0, .slice none 0 0] 41) = w6 at *
    generalize w5.heap.size = g7 at *
    refine (Hdc.out w6 rb).mono ?_
    rintro e w7 ⟨hyes, hno, hE⟩
    clear Hdc rb
    have he := Hdk.out
    obtain rfl := hno he
    have hEn := Ext.new w7 (.cells #[.int .i64 0, .slice none 0 0, .int .i64 0, .slice none 0 0, .slice none 0 0] 41)
    have hB9 := Blk.new w7 41 #[.int .i64 0, .slice none 0 0, .int .i64 0, .slice none 0 0, .slice none 0 0]
    replace hE := hE.trans hEn
    replace hB5 := hB5.ext hE
    replace hB7 := hB7.ext hE
    replace hR3 := hR3.later hE
    replace hQ5 := hQ5.later hE
    replace hEa := hEa.trans hE
    clear hyes hno hE hEn he
    go_upto_region 8 with (fail)
    generalize w7.alloc (.cells #[.int .i64 0, .slice none 0 0, .int .i64 0, .slice none 0 0, .slice none 0 0] 41) = w8 at *
    generalize w7.heap.size = g9 at *
    refine seq_ext (n := 38) (by kernel_rfl) [.is (.bool (false)), .is (.bool (false)), .is (.bool (false)), .is (.bool (false)), .is (.agg #[.int .i64 ((0 : Int)), .slice (none) (0) (0), .int .i64 ((0 : Int)), .slice (none) (0) (0), .slice (none) (0) (0)]), .is (.agg #[.int .i64 ((0 : Int)), .slice (none) (0) (0), .int .i64 ((0 : Int)), .slice (none) (0) (0), .slice (none) (0) (0)]), .is (.bool (true)), .is (.bool (false)), .is (.bool (false)), .is (.bool (false)), .is (.int .i64 ((12 : Int))), .is (.bool (false)), .is (.bool (false)), .is (.bool (false)), .is (.bool (false)), .is (.bool (false)), .is (.bool (false)), .is (.bool (true)), .is (.bool (true)), .is (.int .i64 ((12 : Int))), .is (.bool (false)), .is (.bool (false)), .is (.agg #[.int .i64 ((0 : Int)), .slice (none) (0) (0), .int .i64 ((0 : Int)), .slice (none) (0) (0), .slice (none) (0) (0)]), .is (.agg #[.int .i64 ((0 : Int)), .slice (none) (0) (0), .int .i64 ((0 : Int)), .slice (none) (0) (0), .slice (none) (0) (0)]), .is (.bool (true)), .is (.bool (false)), .is (.bool (false)), .is (.bool (false)), .is (.bool (false)), .is (.bool (false)), .is (.bool (false)), .is (.bool (false)), .is undef, .is undef, .is undef, .is undef, .is (.bool (false)), .is (.bool (false))] rfl ⟨?_, ?_, ?_, ?_, ?_, ?_, ?_, ?_, ?_, ?_, ?_, ?_, ?_, ?_, ?_, ?_, ?_, ?_, ?_, ?_, ?_, ?_, ?_, ?_, ?_, ?_, ?_, ?_, ?_, ?_, ?_, ?_, ?_, ?_, ?_, ?_, ?_, ?_, trivial⟩ ?_
    · refine stepE rfl fun sdn sa sw sE sd sk => ?_
      have h6 : sa.eval (.tmp 6) = .bool (false) := sk.old 6 rfl
      exact Runs.move rfl h6 ⟨Ext.refl _, rfl⟩
    · refine stepE rfl fun sdn sa sw sE sd sk => ?_
      have h8 : sa.eval (.tmp 8) = .bool (false) := sk.old 8 rfl
      exact Runs.move rfl h8 ⟨Ext.refl _, rfl⟩
    · refine stepE rfl fun sdn sa sw sE sd sk => ?_
      have h39 : sa.eval (.tmp 39) = .bool (false) := sk.fact 0 39 rfl (sd 0 rfl)
      have h40 : sa.eval (.tmp 40) = .bool (false) := sk.fact 1 40 rfl (sd 1 rfl)
      exact Runs.bin rfl h39 h40 (by rfl) (bin_neb _ _) ⟨Ext.refl _, congrArg Value.bool (by decide)⟩
    · refine stepE rfl fun sdn sa sw sE sd sk => ?_
      have h41 : sa.eval (.tmp 41) = .bool (false) := sk.fact 2 41 rfl (sd 2 rfl)
      exact Runs.move rfl h41 ⟨Ext.refl _, rfl⟩
    · refine stepY (j := 3) (d := 42) (b := false) rfl rfl rfl (fun v w h => h) fun sdn sa sw sE sd sk => ?_
      have h5 : sa.eval (.tmp 5) = .pointer (some ⟨g5, 0, none⟩) := sk.old 5 rfl
      exact Runs.load rfl h5 (load_part (hB5.ext sE) 0 (vs := [.int .i64 ((0 : Int)), .slice (none) (0) (0), .int .i64 ((0 : Int)), .slice (none) (0) (0), .slice (none) (0) (0)]) rfl Try.underlying41 rfl (by kernel_rfl)) ⟨Ext.refl _, rfl⟩
    · refine stepY (j := 3) (d := 42) (b := false) rfl rfl rfl (fun v w h => h) fun sdn sa sw sE sd sk => ?_
      have h7 : sa.eval (.tmp 7) = .pointer (some ⟨g7, 0, none⟩) := sk.old 7 rfl
      exact Runs.load rfl h7 (load_part (hB7.ext sE) 0 (vs := [.int .i64 ((0 : Int)), .slice (none) (0) (0), .int .i64 ((0 : Int)), .slice (none) (0) (0), .slice (none) (0) (0)]) rfl Try.underlying41 rfl (by kernel_rfl)) ⟨Ext.refl _, rfl⟩
    · refine stepY (j := 3) (d := 42) (b := false) rfl rfl rfl (fun v w h => h) fun sdn sa sw sE sd sk => ?_
      have h43 : sa.eval (.tmp 43) = .agg #[.int .i64 ((0 : Int)), .slice (none) (0) (0), .int .i64 ((0 : Int)), .slice (none) (0) (0), .slice (none) (0) (0)] := sk.fact 4 43 rfl (sd 4 rfl)
      have h44 : sa.eval (.tmp 44) = .agg #[.int .i64 ((0 : Int)), .slice (none) (0) (0), .int .i64 ((0 : Int)), .slice (none) (0) (0), .slice (none) (0) (0)] := sk.fact 5 44 rfl (sd 5 rfl)
      refine Runs.call (f := 27) (vs := [.agg #[.int .i64 ((0 : Int)), .slice (none) (0) (0), .int .i64 ((0 : Int)), .slice (none) (0) (0), .slice (none) (0) (0)], .agg #[.int .i64 ((0 : Int)), .slice (none) (0) (0), .int .i64 ((0 : Int)), .slice (none) (0) (0), .slice (none) (0) (0)]]) rfl rfl rfl (by simp only [List.map_toArray, List.map_cons, List.map_nil, h43, h44] <;> rfl) (ent27 _ _) ((eq10_true _ _ _ _ _ _ _ _ _ _ _ _ _ _ _ _ _ _ _ _ _ _ _ sw (RB.nil_ _) (RBB.nil_ _) (RBB.nil_ _) (RB.nil_ _) (RBB.nil_ _) (RBB.nil_ _)).mono ?_); rintro e w' ⟨rfl, hx⟩; exact ⟨_, rfl, hx, rfl⟩
    · refine stepY (j := 3) (d := 42) (b := false) rfl rfl rfl (fun v w h => h) fun sdn sa sw sE sd sk => ?_
      have h45 : sa.eval (.tmp 45) = .bool (true) := sk.fact 6 45 rfl (sd 6 rfl)
      exact Runs.un rfl h45 (by rfl) ⟨Ext.refl _, rfl⟩
    · refine stepE rfl fun sdn sa sw sE sd sk => ?_
      have h42 : sa.eval (.tmp 42) = .bool (false) := sk.fact 3 42 rfl (sd 3 rfl)
      have h46 : sa.eval (.tmp 46) = .bool (false) := sk.fact 7 46 rfl (sd 7 rfl)
      exact Runs.pick rfl h42 ⟨Ext.refl _, by first | exact h46 | simpa using h46⟩
    · refine stepE rfl fun sdn sa sw sE sd sk => ?_
      have h47 : sa.eval (.tmp 47) = .bool (false) := sk.fact 8 47 rfl (sd 8 rfl)
      exact Runs.move rfl h47 ⟨Ext.refl _, rfl⟩
    · refine stepY (j := 9) (d := 48) (b := false) rfl rfl rfl (fun v w h => h) fun sdn sa sw sE sd sk => ?_
      have h10 : sa.eval (.tmp 10) = .int .i64 ((12 : Int)) := sk.old 10 rfl
      exact Runs.move rfl h10 ⟨Ext.refl _, rfl⟩
    · refine stepY (j := 9) (d := 48) (b := false) rfl rfl rfl (fun v w h => h) fun sdn sa sw sE sd sk => ?_
      have h49 : sa.eval (.tmp 49) = .int .i64 ((12 : Int)) := sk.fact 10 49 rfl (sd 10 rfl)
      exact Runs.bin rfl h49 rfl (by rfl) (bin_eql _ _ _ _) ⟨Ext.refl _, congrArg Value.bool (by decide)⟩
    · refine stepY (j := 9) (d := 48) (b := false) rfl rfl rfl (fun v w h => h) fun sdn sa sw sE sd sk => ?_
      have h11 : sa.eval (.tmp 11) = .bool (false) := sk.old 11 rfl
      exact Runs.move rfl h11 ⟨Ext.refl _, rfl⟩
    · refine stepY (j := 9) (d := 48) (b := false) rfl rfl rfl (fun v w h => h) fun sdn sa sw sE sd sk => ?_
      have h50 : sa.eval (.tmp 50) = .bool (false) := sk.fact 11 50 rfl (sd 11 rfl)
      have h51 : sa.eval (.tmp 51) = .bool (false) := sk.fact 12 51 rfl (sd 12 rfl)
      exact Runs.bin rfl h50 h51 (by rfl) (bin_neb _ _) ⟨Ext.refl _, congrArg Value.bool (by decide)⟩
    · refine stepE rfl fun sdn sa sw sE sd sk => ?_
      have h48 : sa.eval (.tmp 48) = .bool (false) := sk.fact 9 48 rfl (sd 9 rfl)
      have h52 : sa.eval (.tmp 52) = .bool (false) := sk.fact 13 52 rfl (sd 13 rfl)
      exact Runs.pick rfl h48 ⟨Ext.refl _, by first | exact h52 | simpa using h52⟩
    · refine stepE rfl fun sdn sa sw sE sd sk => ?_
      have h53 : sa.eval (.tmp 53) = .bool (false) := sk.fact 14 53 rfl (sd 14 rfl)
      exact Runs.move rfl h53 ⟨Ext.refl _, rfl⟩
    · refine stepY (j := 15) (d := 54) (b := false) rfl rfl rfl (fun v w h => h) fun sdn sa sw sE sd sk => ?_
      have h11 : sa.eval (.tmp 11) = .bool (false) := sk.old 11 rfl
      exact Runs.move rfl h11 ⟨Ext.refl _, rfl⟩
    · refine stepY (j := 15) (d := 54) (b := false) rfl rfl rfl (fun v w h => h) fun sdn sa sw sE sd sk => ?_
      have h55 : sa.eval (.tmp 55) = .bool (false) := sk.fact 16 55 rfl (sd 16 rfl)
      exact Runs.un rfl h55 (by rfl) ⟨Ext.refl _, rfl⟩
    · refine stepY (j := 15) (d := 54) (b := false) rfl rfl rfl (fun v w h => h) fun sdn sa sw sE sd sk => ?_
      have h56 : sa.eval (.tmp 56) = .bool (true) := sk.fact 17 56 rfl (sd 17 rfl)
      exact Runs.move rfl h56 ⟨Ext.refl _, rfl⟩
    · refine stepY (j := 18) (d := 57) (b := true) rfl rfl rfl (fun v w h => h) fun sdn sa sw sE sd sk => ?_
      have h10 : sa.eval (.tmp 10) = .int .i64 ((12 : Int)) := sk.old 10 rfl
      exact Runs.move rfl h10 ⟨Ext.refl _, rfl⟩
    · refine stepY (j := 18) (d := 57) (b := true) rfl rfl rfl (fun v w h => h) fun sdn sa sw sE sd sk => ?_
      have h58 : sa.eval (.tmp 58) = .int .i64 ((12 : Int)) := sk.fact 19 58 rfl (sd 19 rfl)
      exact Runs.bin rfl h58 rfl (by rfl) (bin_neq _ _ _ _) ⟨Ext.refl _, congrArg Value.bool (by decide)⟩
    · refine stepY (j := 18) (d := 57) (b := true) rfl rfl rfl (fun v w h => h) fun sdn sa sw sE sd sk => ?_
      have h59 : sa.eval (.tmp 59) = .bool (false) := sk.fact 20 59 rfl (sd 20 rfl)
      exact Runs.move rfl h59 ⟨Ext.refl _, rfl⟩
    · refine stepY (j := 21) (d := 60) (b := false) rfl rfl rfl (fun v w h => h) fun sdn sa sw sE sd sk => ?_
      have h9 : sa.eval (.tmp 9) = .pointer (some ⟨g9, 0, none⟩) := sk.old 9 rfl
      exact Runs.load rfl h9 (load_part (hB9.ext sE) 0 (vs := [.int .i64 ((0 : Int)), .slice (none) (0) (0), .int .i64 ((0 : Int)), .slice (none) (0) (0), .slice (none) (0) (0)]) rfl Try.underlying41 rfl (by kernel_rfl)) ⟨Ext.refl _, rfl⟩
    · refine stepY (j := 21) (d := 60) (b := false) rfl rfl rfl (fun v w h => h) fun sdn sa sw sE sd sk => ?_
      refine Runs.of_run (r := .agg #[.int .i64 ((0 : Int)), .slice (none) (0) (0), .int .i64 ((0 : Int)), .slice (none) (0) (0), .slice (none) (0) (0)]) (w' := sw) ?_ ⟨Ext.refl _, rfl⟩
      unfold execOp
      simp only [List.map_toArray, List.map_cons, List.map_nil]
      go_simp
    · refine stepY (j := 21) (d := 60) (b := false) rfl rfl rfl (fun v w h => h) fun sdn sa sw sE sd sk => ?_
      have h61 : sa.eval (.tmp 61) = .agg #[.int .i64 ((0 : Int)), .slice (none) (0) (0), .int .i64 ((0 : Int)), .slice (none) (0) (0), .slice (none) (0) (0)] := sk.fact 22 61 rfl (sd 22 rfl)
      have h62 : sa.eval (.tmp 62) = .agg #[.int .i64 ((0 : Int)), .slice (none) (0) (0), .int .i64 ((0 : Int)), .slice (none) (0) (0), .slice (none) (0) (0)] := sk.fact 23 62 rfl (sd 23 rfl)
      refine Runs.call (f := 27) (vs := [.agg #[.int .i64 ((0 : Int)), .slice (none) (0) (0), .int .i64 ((0 : Int)), .slice (none) (0) (0), .slice (none) (0) (0)], .agg #[.int .i64 ((0 : Int)), .slice (none) (0) (0), .int .i64 ((0 : Int)), .slice (none) (0) (0), .slice (none) (0) (0)]]) rfl rfl rfl (by simp only [List.map_toArray, List.map_cons, List.map_nil, h61, h62] <;> rfl) (ent27 _ _) ((eq10_true _ _ _ _ _ _ _ _ _ _ _ _ _ _ _ _ _ _ _ _ _ _ _ sw (RB.nil_ _) (RBB.nil_ _) (RBB.nil_ _) (RB.nil_ _) (RBB.nil_ _) (RBB.nil_ _)).mono ?_); rintro e w' ⟨rfl, hx⟩; exact ⟨_, rfl, hx, rfl⟩
    · refine stepY (j := 21) (d := 60) (b := false) rfl rfl rfl (fun v w h => h) fun sdn sa sw sE sd sk => ?_
      have h63 : sa.eval (.tmp 63) = .bool (true) := sk.fact 24 63 rfl (sd 24 rfl)
      exact Runs.un rfl h63 (by rfl) ⟨Ext.refl _, rfl⟩
    · refine stepY (j := 18) (d := 57) (b := true) rfl rfl rfl (fun v w h => h) fun sdn sa sw sE sd sk => ?_
      have h60 : sa.eval (.tmp 60) = .bool (false) := sk.fact 21 60 rfl (sd 21 rfl)
      have h64 : sa.eval (.tmp 64) = .bool (false) := sk.fact 25 64 rfl (sd 25 rfl)
      exact Runs.pick rfl h60 ⟨Ext.refl _, by first | exact h64 | simpa using h64⟩
    · refine stepY (j := 15) (d := 54) (b := false) rfl rfl rfl (fun v w h => h) fun sdn sa sw sE sd sk => ?_
      have h57 : sa.eval (.tmp 57) = .bool (true) := sk.fact 18 57 rfl (sd 18 rfl)
      have h65 : sa.eval (.tmp 65) = .bool (false) := sk.fact 26 65 rfl (sd 26 rfl)
      exact Runs.pick rfl h57 ⟨Ext.refl _, by first | exact h65 | simpa using h65⟩
    · refine stepE rfl fun sdn sa sw sE sd sk => ?_
      have h54 : sa.eval (.tmp 54) = .bool (false) := sk.fact 15 54 rfl (sd 15 rfl)
      have h66 : sa.eval (.tmp 66) = .bool (false) := sk.fact 27 66 rfl (sd 27 rfl)
      exact Runs.pick rfl h54 ⟨Ext.refl _, by first | exact h66 | simpa using h66⟩
    · refine stepE rfl fun sdn sa sw sE sd sk => ?_
      have h67 : sa.eval (.tmp 67) = .bool (false) := sk.fact 28 67 rfl (sd 28 rfl)
      exact Runs.move rfl h67 ⟨Ext.refl _, rfl⟩
    · refine stepY (j := 29) (d := 68) (b := false) rfl rfl rfl (fun v w h => h) fun sdn sa sw sE sd sk => ?_
      have h11 : sa.eval (.tmp 11) = .bool (false) := sk.old 11 rfl
      exact Runs.move rfl h11 ⟨Ext.refl _, rfl⟩
    · refine stepY (j := 29) (d := 68) (b := false) rfl rfl rfl (fun v w h => h) fun sdn sa sw sE sd sk => ?_
      have h69 : sa.eval (.tmp 69) = .bool (false) := sk.fact 30 69 rfl (sd 30 rfl)
      exact Runs.move rfl h69 ⟨Ext.refl _, rfl⟩
    · exact stepN (j := 31) (d := 70) (b := false) rfl rfl rfl (fun v w h => h) fun w => rfl
    · exact stepN (j := 31) (d := 70) (b := false) rfl rfl rfl (fun v w h => h) fun w => rfl
    · exact stepN (j := 31) (d := 70) (b := false) rfl rfl rfl (fun v w h => h) fun w => rfl
    · exact stepN (j := 31) (d := 70) (b := false) rfl rfl rfl (fun v w h => h) fun w => rfl
    · refine stepY (j := 29) (d := 68) (b := false) rfl rfl rfl (fun v w h => h) fun sdn sa sw sE sd sk => ?_
      have h70 : sa.eval (.tmp 70) = .bool (false) := sk.fact 31 70 rfl (sd 31 rfl)
      exact Runs.pick rfl h70 ⟨Ext.refl _, rfl⟩
    · refine stepE rfl fun sdn sa sw sE sd sk => ?_
      have h68 : sa.eval (.tmp 68) = .bool (false) := sk.fact 29 68 rfl (sd 29 rfl)
      have h75 : sa.eval (.tmp 75) = .bool (false) := sk.fact 36 75 rfl (sd 36 rfl)
      exact Runs.pick rfl h68 ⟨Ext.refl _, by first | exact h75 | simpa using h75⟩
    intro vals W8 hE8 hv8
    have e0 : vals 0 = .bool (false) := hv8 0 (by omega) 39 rfl
    have e1 : vals 1 = .bool (false) := hv8 1 (by omega) 40 rfl
    have e2 : vals 2 = .bool (false) := hv8 2 (by omega) 41 rfl
    have e3 : vals 3 = .bool (false) := hv8 3 (by omega) 42 rfl
    have e4 : vals 4 = .agg #[.int .i64 ((0 : Int)), .slice (none) (0) (0), .int .i64 ((0 : Int)), .slice (none) (0) (0), .slice (none) (0) (0)] := hv8 4 (by omega) 43 rfl
    have e5 : vals 5 = .agg #[.int .i64 ((0 : Int)), .slice (none) (0) (0), .int .i64 ((0 : Int)), .slice (none) (0) (0), .slice (none) (0) (0)] := hv8 5 (by omega) 44 rfl
    have e6 : vals 6 = .bool (true) := hv8 6 (by omega) 45 rfl
    have e7 : vals 7 = .bool (false) := hv8 7 (by omega) 46 rfl
    have e8 : vals 8 = .bool (false) := hv8 8 (by omega) 47 rfl
    have e9 : vals 9 = .bool (false) := hv8 9 (by omega) 48 rfl
    have e10 : vals 10 = .int .i64 ((12 : Int)) := hv8 10 (by omega) 49 rfl
    have e11 : vals 11 = .bool (false) := hv8 11 (by omega) 50 rfl
    have e12 : vals 12 = .bool (false) := hv8 12 (by omega) 51 rfl
    have e13 : vals 13 = .bool (false) := hv8 13 (by omega) 52 rfl
    have e14 : vals 14 = .bool (false) := hv8 14 (by omega) 53 rfl
    have e15 : vals 15 = .bool (false) := hv8 15 (by omega) 54 rfl
    have e16 : vals 16 = .bool (false) := hv8 16 (by omega) 55 rfl
    have e17 : vals 17 = .bool (true) := hv8 17 (by omega) 56 rfl
    have e18 : vals 18 = .bool (true) := hv8 18 (by omega) 57 rfl
    have e19 : vals 19 = .int .i64 ((12 : Int)) := hv8 19 (by omega) 58 rfl
    have e20 : vals 20 = .bool (false) := hv8 20 (by omega) 59 rfl
    have e21 : vals 21 = .bool (false) := hv8 21 (by omega) 60 rfl
    have e22 : vals 22 = .agg #[.int .i64 ((0 : Int)), .slice (none) (0) (0), .int .i64 ((0 : Int)), .slice (none) (0) (0), .slice (none) (0) (0)] := hv8 22 (by omega) 61 rfl
    have e23 : vals 23 = .agg #[.int .i64 ((0 : Int)), .slice (none) (0) (0), .int .i64 ((0 : Int)), .slice (none) (0) (0), .slice (none) (0) (0)] := hv8 23 (by omega) 62 rfl
    have e24 : vals 24 = .bool (true) := hv8 24 (by omega) 63 rfl
    have e25 : vals 25 = .bool (false) := hv8 25 (by omega) 64 rfl
    have e26 : vals 26 = .bool (false) := hv8 26 (by omega) 65 rfl
    have e27 : vals 27 = .bool (false) := hv8 27 (by omega) 66 rfl
    have e28 : vals 28 = .bool (false) := hv8 28 (by omega) 67 rfl
    have e29 : vals 29 = .bool (false) := hv8 29 (by omega) 68 rfl
    have e30 : vals 30 = .bool (false) := hv8 30 (by omega) 69 rfl
    have e31 : vals 31 = .bool (false) := hv8 31 (by omega) 70 rfl
    have e36 : vals 36 = .bool (false) := hv8 36 (by omega) 75 rfl
    have e37 : vals 37 = .bool (false) := hv8 37 (by omega) 76 rfl
    simp only [putAll, Act.put, List.take_succ_cons, List.take_zero, List.drop_succ_cons, List.drop_zero, List.drop_nil, List.take_nil, Nat.reduceAdd, List.setIfInBounds_toArray, List.set_cons_succ, List.set_cons_zero, e0, e1, e2, e3, e4, e5, e6, e7, e8, e9, e10, e11, e12, e13, e14, e15, e16, e17, e18, e19, e20, e21, e22, e23, e24, e25, e26, e27, e28, e29, e30, e31, e36, e37]
    clear hv8 e0 e1 e2 e3 e4 e5 e6 e7 e8 e9 e10 e11 e12 e13 e14 e15 e16 e17 e18 e19 e20 e21 e22 e23 e24 e25 e26 e27 e28 e29 e30 e31 e36 e37
    go_wp2_with fail
    go_ret
    exact ⟨rfl, hEa.trans hE8⟩
end Go.Proofs.Ythggfbpdhkpkjaa
