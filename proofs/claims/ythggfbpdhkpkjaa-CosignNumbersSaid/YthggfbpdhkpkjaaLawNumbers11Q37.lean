/-
  law11's known, walked (under way).
-/
import Derived.Test.YthggfbpdhkpkjaaLawNumbers11Q31
import Derived.Test.YthggfbpdhkpkjaaLawNumbers11Q24
import Derived.Test.YthggfbpdhkpkjaaLawNumbers11Q36
namespace Go.Proofs.Ythggfbpdhkpkjaa
set_option maxRecDepth 100000
open Go Go.RowKit
set_option maxHeartbeats 8000000 in
theorem known11_any (w : World) : Calls Try.prog 47 #[] w fun e w' => e = .returned (.bool true) ∧ Ext w w' := by
  go_enter Try.func47, Try.ntmps47
  go_wp2_with fail
  refine (owners_any 2 (by omega) w).mono ?_
  rintro e w1 ⟨A, c, rfl, oA, hE1⟩
  obtain ⟨Ss, hSs⟩ : ∃ Ss, Ss = (List.range 2).map fun i => seedL ((i : Nat) : Int) := ⟨_, rfl⟩
  rw [← hSs] at oA
  have HSs := Lib.hid hSs
  clear hSs
  go_wp2_with fail
  refine (policy_any A 2 c w.heap.size 2 Ss (by omega) w1 oA).mono ?_
  rintro e w2 ⟨G, cg, Q2, dq, rfl, rG, rQ2, hE2⟩
  have hEn := Ext.new w2 (.cells #[.slice G 32 cg, .slice Q2 2 dq, .int .i64 2] 77)
  have hB2 := Blk.new w2 77 #[.slice G 32 cg, .slice Q2 2 dq, .int .i64 2]
  replace hE2 := hE2.trans hEn
  have hEa := hE1.trans hE2
  replace rG := rG.ext hEn
  replace rQ2 := rQ2.ext hEn
  replace oA := oA.ext hE2
  clear hEn hE1 hE2
  go_wp2_with fail
  generalize w2.alloc (.cells #[.slice G 32 cg, .slice Q2 2 dq, .int .i64 2] 77) = w3 at *
  generalize w2.heap.size = g2 at *
  refine (hash_any 1 w3 (by omega) (by omega)).mono ?_
  rintro e w4 ⟨B, d, rfl, oR, hE⟩
  obtain ⟨R, hR⟩ : ∃ R, R = khash 1 := ⟨_, rfl⟩
  rw [← hR] at oR
  have hc : rightC 1 R = true := by
    rw [hR]
    exact rightC_of (by omega) (by omega) (khash_length 1)
  have Hc := Lib.hid hc
  clear hR hc
  have rR := oR.rb
  have hEn := Ext.new w4 (.cells #[.int .i64 1, .slice B 32 d] 24)
  have hB3 := Blk.new w4 24 #[.int .i64 1, .slice B 32 d]
  replace hE := hE.trans hEn
  replace rG := rG.ext hE
  replace rQ2 := rQ2.ext hE
  replace hB2 := hB2.ext hE
  replace oA := oA.ext hE
  replace rR := rR.ext hEn
  replace hEa := hEa.trans hE
  clear hEn hE oR
  go_upto_region 4 with (fail)
  generalize w4.alloc (.cells #[.int .i64 1, .slice B 32 d] 24) = w5 at *
  generalize w4.heap.size = g3 at *
  obtain ⟨gA, gO, bO, BO, rfl, hcO0, oS⟩ := oA.cell (j := 1) (by omega)
  have hcO : w5.cell? ((⟨gA, 0, none⟩ : Addr).add 1) = some (.pointer (some ⟨gO, 0, none⟩)) := by rw [add_plain]; exact hcO0
  obtain ⟨Sd, hSd⟩ : ∃ Sd, Sd = lb Ss 1 := ⟨_, rfl⟩
  rw [← hSd] at oS
  have HSd := Lib.hid hSd
  clear hSd
  have oS0 := oS
  obtain ⟨cO, LA, lc, rS, hBO, _⟩ := oS
  have hcap := oA.room
  refine par_tup (n := 12) (jp := 11) (jq := 9) 10 4 (by kernel_rfl) [.is (.slice ((some ⟨gA, 0, none⟩)) (2) (c)), .is (.pointer (some ((⟨gA, 0, none⟩ : Addr).add (1)))), .is (.pointer (some ⟨gO, 0, none⟩)), .is (.pointer (some ⟨gO, 0, none⟩)), .is (.pointer (some ⟨gO, 0, none⟩)), .is (.slice (BO) (32) (cO)), .is (.agg #[.int .i64 (1), .slice (B) (32) (d)]), .tp [.val (.int .i64 (1)), .val (.int .i64 (((0 : Nat) : Int))), .bb (64) (sigP Sd (bodyC cosignL 1 R) 0), .bb (4) (pathL Sd 0)] (.int .i64 ((0 : Int))), .tp [.val (.int .i64 (1)), .val (.int .i64 (((0 : Nat) : Int))), .bb (64) (sigP Sd (bodyC cosignL 1 R) 0), .bb (4) (pathL Sd 0)] (.int .i64 ((0 : Int))), .ag [.val (.int .i64 (1)), .val (.int .i64 (((0 : Nat) : Int))), .bb (64) (sigP Sd (bodyC cosignL 1 R) 0), .bb (4) (pathL Sd 0)], .is (.int .i64 ((0 : Int))), .bk (w5.heap.size) 69 #[.int .i64 ((0 : Int)), .int .i64 ((0 : Int)), .slice (none) (0) (0), .slice (none) (0) (0)]] rfl rfl rfl rfl rfl rfl rfl rfl rfl rfl rfl (by decide) (by decide) (by decide) (by decide) (tup_bk _ rfl) (tup_ag _ rfl rfl) (by kernel_rfl) ⟨?_, ?_, ?_, ?_, ?_, ?_, ?_, ?_, ?_, ?_, ?_, ?_, trivial⟩ ?_
  · refine stepE rfl fun sdn sa sw sE sd sk => ?_
    have h1 : sa.eval (.tmp 1) = .slice ((some ⟨gA, 0, none⟩)) (2) (c) := sk.old 1 rfl
    exact Runs.move rfl h1 ⟨Ext.refl _, rfl⟩
  · refine stepE rfl fun sdn sa sw sE sd sk => ?_
    have h15 : sa.eval (.tmp 15) = .slice ((some ⟨gA, 0, none⟩)) (2) (c) := sk.fact 0 15 rfl (sd 0 rfl)
    exact Runs.idx rfl h15 rfl (run_idx_sl1 Try.underlying65 infO_eq infO_size (1) (by omega) (by omega)) ⟨Ext.refl _, rfl⟩
  · refine stepE rfl fun sdn sa sw sE sd sk => ?_
    have h16 : sa.eval (.tmp 16) = .pointer (some ((⟨gA, 0, none⟩ : Addr).add (1))) := sk.fact 1 16 rfl (sd 1 rfl)
    exact Runs.load rfl h16 (run_load1 Try.underlying75 rfl (sE.cell hcO)) ⟨Ext.refl _, rfl⟩
  · refine stepE rfl fun sdn sa sw sE sd sk => ?_
    have h17 : sa.eval (.tmp 17) = .pointer (some ⟨gO, 0, none⟩) := sk.fact 2 17 rfl (sd 2 rfl)
    exact Runs.nil_ rfl h17 ⟨Ext.refl _, rfl⟩
  · refine stepE rfl fun sdn sa sw sE sd sk => ?_
    have h18 : sa.eval (.tmp 18) = .pointer (some ⟨gO, 0, none⟩) := sk.fact 3 18 rfl (sd 3 rfl)
    refine Runs.of_run (r := .pointer (some ⟨gO, 0, none⟩)) (w' := sw) ?_ ⟨Ext.refl _, rfl⟩
    unfold execOp
    simp only [h18]
    go_simp
  · refine stepE rfl fun sdn sa sw sE sd sk => ?_
    have h19 : sa.eval (.tmp 19) = .pointer (some ⟨gO, 0, none⟩) := sk.fact 4 19 rfl (sd 4 rfl)
    exact Runs.load rfl h19 (run_load1 Try.underlying22 rfl ((hBO.ext sE).cell (i := 0) rfl)) ⟨Ext.refl _, rfl⟩
  · refine stepE rfl fun sdn sa sw sE sd sk => ?_
    have h3 : sa.eval (.tmp 3) = .pointer (some ⟨g3, 0, none⟩) := sk.old 3 rfl
    exact Runs.load rfl h3 (load_part (hB3.ext sE) 0 (vs := [.int .i64 (1), .slice (B) (32) (d)]) rfl Try.underlying24 rfl (by kernel_rfl)) ⟨Ext.refl _, rfl⟩
  · refine stepE rfl fun sdn sa sw sE sd sk => ?_
    have h20 : sa.eval (.tmp 20) = .slice (BO) (32) (cO) := sk.fact 5 20 rfl (sd 5 rfl)
    have h21 : sa.eval (.tmp 21) = .agg #[.int .i64 (1), .slice (B) (32) (d)] := sk.fact 6 21 rfl (sd 6 rfl)
    refine Runs.call (f := 40) (vs := [.slice (BO) (32) (cO), .int .i64 ((0 : Int)), .int .i64 ((1 : Int)), .agg #[.int .i64 (1), .slice (B) (32) (d)]]) rfl rfl rfl (by simp only [List.map_toArray, List.map_cons, List.map_nil, h20, h21] <;> rfl) (ent40 _ _) ((cosign_yes BO B cO 32 d 0 1 1 Sd R sw (rS.ext sE) (by decide) (rR.ext sE) Hc.out (by omega)).mono ?_); rintro e w' ⟨P, d1, Q, d2, rfl, h1, h2, hx⟩; exact ⟨_, rfl, hx, P, d1, h1, Q, d2, h2, rfl⟩
  · refine stepE rfl fun sdn sa sw sE sd sk => ?_
    obtain ⟨A22x0, c22x0, r22x0, A22x1, c22x1, r22x1, h22⟩ := sk.fact 7 22 rfl (sd 7 rfl)
    replace h22 : sa.eval (.tmp 22) = .tuple #[.agg #[.int .i64 (1), .int .i64 (((0 : Nat) : Int)), .slice (A22x0) (64) (c22x0), .slice (A22x1) (4) (c22x1)], .int .i64 ((0 : Int))] := h22
    exact Runs.move rfl h22 ⟨Ext.refl _, _, _, r22x0, _, _, r22x1, rfl⟩
  · refine stepE rfl fun sdn sa sw sE sd sk => ?_
    obtain ⟨A14x0, c14x0, r14x0, A14x1, c14x1, r14x1, h14⟩ := sk.fact 8 14 rfl (sd 8 rfl)
    replace h14 : sa.eval (.tmp 14) = .tuple #[.agg #[.int .i64 (1), .int .i64 (((0 : Nat) : Int)), .slice (A14x0) (64) (c14x0), .slice (A14x1) (4) (c14x1)], .int .i64 ((0 : Int))] := h14
    refine Runs.of_run (r := .agg #[.int .i64 (1), .int .i64 (((0 : Nat) : Int)), .slice (A14x0) (64) (c14x0), .slice (A14x1) (4) (c14x1)]) (w' := sw) ?_ ⟨Ext.refl _, _, _, r14x0, _, _, r14x1, rfl⟩
    unfold execOp
    simp only [h14]
    go_simp
  · refine stepE rfl fun sdn sa sw sE sd sk => ?_
    obtain ⟨A14x0, c14x0, r14x0, A14x1, c14x1, r14x1, h14⟩ := sk.fact 8 14 rfl (sd 8 rfl)
    replace h14 : sa.eval (.tmp 14) = .tuple #[.agg #[.int .i64 (1), .int .i64 (((0 : Nat) : Int)), .slice (A14x0) (64) (c14x0), .slice (A14x1) (4) (c14x1)], .int .i64 ((0 : Int))] := h14
    refine Runs.of_run (r := .int .i64 ((0 : Int))) (w' := sw) ?_ ⟨Ext.refl _, rfl⟩
    unfold execOp
    simp only [h14]
    go_simp
  · refine stepE rfl fun sdn sa sw sE sd sk => ?_
    refine Runs.of_run (r := .pointer (some ⟨sw.heap.size, 0, none⟩)) (w' := sw.alloc (.cells #[.int .i64 ((0 : Int)), .int .i64 ((0 : Int)), .slice (none) (0) (0), .slice (none) (0) (0)] 69)) ?_ ⟨Ext.new _ _, _, rfl, Blk.new _ _ _, sE.size⟩
    unfold execOp
    go_simp
  intro vals W4 hE4 hv4 gst vst hgst hvst
  have e0 : vals 0 = .slice ((some ⟨gA, 0, none⟩)) (2) (c) := hv4 0 (by omega) 15 rfl
  have e1 : vals 1 = .pointer (some ((⟨gA, 0, none⟩ : Addr).add (1))) := hv4 1 (by omega) 16 rfl
  have e2 : vals 2 = .pointer (some ⟨gO, 0, none⟩) := hv4 2 (by omega) 17 rfl
  have e3 : vals 3 = .pointer (some ⟨gO, 0, none⟩) := hv4 3 (by omega) 18 rfl
  have e4 : vals 4 = .pointer (some ⟨gO, 0, none⟩) := hv4 4 (by omega) 19 rfl
  have e5 : vals 5 = .slice (BO) (32) (cO) := hv4 5 (by omega) 20 rfl
  have e6 : vals 6 = .agg #[.int .i64 (1), .slice (B) (32) (d)] := hv4 6 (by omega) 21 rfl
  obtain ⟨A22x0, c22x0, r22x0, A22x1, c22x1, r22x1, e7⟩ := hv4 7 (by omega) 22 rfl
  replace e7 : vals 7 = .tuple #[.agg #[.int .i64 (1), .int .i64 (((0 : Nat) : Int)), .slice (A22x0) (64) (c22x0), .slice (A22x1) (4) (c22x1)], .int .i64 ((0 : Int))] := e7
  obtain ⟨A14x0, c14x0, r14x0, A14x1, c14x1, r14x1, e8⟩ := hv4 8 (by omega) 14 rfl
  replace e8 : vals 8 = .tuple #[.agg #[.int .i64 (1), .int .i64 (((0 : Nat) : Int)), .slice (A14x0) (64) (c14x0), .slice (A14x1) (4) (c14x1)], .int .i64 ((0 : Int))] := e8
  obtain ⟨A23x0, c23x0, r23x0, A23x1, c23x1, r23x1, e9⟩ := hv4 9 (by omega) 23 rfl
  replace e9 : vals 9 = .agg #[.int .i64 (1), .int .i64 (((0 : Nat) : Int)), .slice (A23x0) (64) (c23x0), .slice (A23x1) (4) (c23x1)] := e9
  have e10 : vals 10 = .int .i64 ((0 : Int)) := hv4 10 (by omega) 24 rfl
  obtain ⟨g4, e11, hb4, gb4⟩ := hv4 11 (by omega) 4 rfl
  obtain rfl : gst = g4 := pointer_eq hgst e11
  obtain rfl : vst = #[.int .i64 (1), .int .i64 (((0 : Nat) : Int)), .slice (A23x0) (64) (c23x0), .slice (A23x1) (4) (c23x1)] := Value.agg.inj (hvst.symm.trans e9)
  simp only [putAll, Act.put, List.take_succ_cons, List.take_zero, List.drop_succ_cons, List.drop_zero, List.drop_nil, List.take_nil, Nat.reduceAdd, List.setIfInBounds_toArray, List.set_cons_succ, List.set_cons_zero, e0, e1, e2, e3, e4, e5, e6, e7, e8, e9, e10, e11]
  clear hv4 e0 e1 e2 e3 e4 e5 e6 e7 e8 e9 e10 e11 hgst hvst
  have hGt := grown_setCells gst (#[.int .i64 (1), .int .i64 (((0 : Nat) : Int)), .slice (A23x0) (64) (c23x0), .slice (A23x1) (4) (c23x1)] : Array Value).toList 0 W4
  have hB4 := hb4.setAll (vs := #[.int .i64 (1), .int .i64 (((0 : Nat) : Int)), .slice (A23x0) (64) (c23x0), .slice (A23x1) (4) (c23x1)]) rfl
  have hE4s := hE4.then_grown hGt (by intro k hk; cases hk; exact gb4)
  replace r23x0 := r23x0.away hb4 (nou8 (by kernel_rfl)) hGt (fun _ => r23x0.apart3 hb4 (no3 (by kernel_rfl)) (by omega))
  replace r23x1 := r23x1.away hb4 (nou8 (by kernel_rfl)) hGt (fun _ => r23x1.apart3 hb4 (no3 (by kernel_rfl)) (by omega))
  clear hGt hb4 gb4
  generalize W4.setCells gst 0 (#[.int .i64 (1), .int .i64 (((0 : Nat) : Int)), .slice (A23x0) (64) (c23x0), .slice (A23x1) (4) (c23x1)] : Array Value).toList = W4b at *
  replace hcO : W4b.cell? ((⟨gA, 0, none⟩ : Addr).add 1) = some (.pointer (some ⟨gO, 0, none⟩)) := hE4s.cell hcO
  replace rG := rG.ext hE4s
  replace rQ2 := rQ2.ext hE4s
  replace hB2 := hB2.ext hE4s
  replace hB3 := hB3.ext hE4s
  replace rR := rR.ext hE4s
  replace hBO := hBO.ext hE4s
  replace rS := rS.ext hE4s
  replace hEa := hEa.trans hE4s
  obtain ⟨g4, rfl⟩ : ∃ g4, g4 = gst := ⟨_, rfl⟩
  have rP4 := r23x0
  have rQ4 := r23x1
  clear hE4 hE4s r22x0 r22x1 r14x0 r14x1 r23x0 r23x1 oA hcO0
  go_upto_region 5 with (fail)
  refine par_tup (n := 12) (jp := 11) (jq := 9) 10 4 (by kernel_rfl) [.is (.slice ((some ⟨gA, 0, none⟩)) (2) (c)), .is (.pointer (some ((⟨gA, 0, none⟩ : Addr).add (1)))), .is (.pointer (some ⟨gO, 0, none⟩)), .is (.pointer (some ⟨gO, 0, none⟩)), .is (.pointer (some ⟨gO, 0, none⟩)), .is (.slice (BO) (32) (cO)), .is (.agg #[.int .i64 (1), .slice (B) (32) (d)]), .is (.tuple #[.agg #[.int .i64 ((0 : Int)), .int .i64 ((0 : Int)), .slice (none) (0) (0), .slice (none) (0) (0)], .int .i64 ((1 : Int))]), .is (.tuple #[.agg #[.int .i64 ((0 : Int)), .int .i64 ((0 : Int)), .slice (none) (0) (0), .slice (none) (0) (0)], .int .i64 ((1 : Int))]), .is (.agg #[.int .i64 ((0 : Int)), .int .i64 ((0 : Int)), .slice (none) (0) (0), .slice (none) (0) (0)]), .is (.int .i64 ((1 : Int))), .bk (W4b.heap.size) 69 #[.int .i64 ((0 : Int)), .int .i64 ((0 : Int)), .slice (none) (0) (0), .slice (none) (0) (0)]] rfl rfl rfl rfl rfl rfl rfl rfl rfl rfl rfl (by decide) (by decide) (by decide) (by decide) (tup_bk _ rfl) (tup_is _ rfl rfl) (by kernel_rfl) ⟨?_, ?_, ?_, ?_, ?_, ?_, ?_, ?_, ?_, ?_, ?_, ?_, trivial⟩ ?_
  · refine stepE rfl fun sdn sa sw sE sd sk => ?_
    have h1 : sa.eval (.tmp 1) = .slice ((some ⟨gA, 0, none⟩)) (2) (c) := sk.old 1 rfl
    exact Runs.move rfl h1 ⟨Ext.refl _, rfl⟩
  · refine stepE rfl fun sdn sa sw sE sd sk => ?_
    have h26 : sa.eval (.tmp 26) = .slice ((some ⟨gA, 0, none⟩)) (2) (c) := sk.fact 0 26 rfl (sd 0 rfl)
    exact Runs.idx rfl h26 rfl (run_idx_sl1 Try.underlying65 infO_eq infO_size (1) (by omega) (by omega)) ⟨Ext.refl _, rfl⟩
  · refine stepE rfl fun sdn sa sw sE sd sk => ?_
    have h27 : sa.eval (.tmp 27) = .pointer (some ((⟨gA, 0, none⟩ : Addr).add (1))) := sk.fact 1 27 rfl (sd 1 rfl)
    exact Runs.load rfl h27 (run_load1 Try.underlying75 rfl (sE.cell hcO)) ⟨Ext.refl _, rfl⟩
  · refine stepE rfl fun sdn sa sw sE sd sk => ?_
    have h28 : sa.eval (.tmp 28) = .pointer (some ⟨gO, 0, none⟩) := sk.fact 2 28 rfl (sd 2 rfl)
    exact Runs.nil_ rfl h28 ⟨Ext.refl _, rfl⟩
  · refine stepE rfl fun sdn sa sw sE sd sk => ?_
    have h29 : sa.eval (.tmp 29) = .pointer (some ⟨gO, 0, none⟩) := sk.fact 3 29 rfl (sd 3 rfl)
    refine Runs.of_run (r := .pointer (some ⟨gO, 0, none⟩)) (w' := sw) ?_ ⟨Ext.refl _, rfl⟩
    unfold execOp
    simp only [h29]
    go_simp
  · refine stepE rfl fun sdn sa sw sE sd sk => ?_
    have h30 : sa.eval (.tmp 30) = .pointer (some ⟨gO, 0, none⟩) := sk.fact 4 30 rfl (sd 4 rfl)
    exact Runs.load rfl h30 (run_load1 Try.underlying22 rfl ((hBO.ext sE).cell (i := 0) rfl)) ⟨Ext.refl _, rfl⟩
  · refine stepE rfl fun sdn sa sw sE sd sk => ?_
    have h3 : sa.eval (.tmp 3) = .pointer (some ⟨g3, 0, none⟩) := sk.old 3 rfl
    exact Runs.load rfl h3 (load_part (hB3.ext sE) 0 (vs := [.int .i64 (1), .slice (B) (32) (d)]) rfl Try.underlying24 rfl (by kernel_rfl)) ⟨Ext.refl _, rfl⟩
  · refine stepE rfl fun sdn sa sw sE sd sk => ?_
    have h31 : sa.eval (.tmp 31) = .slice (BO) (32) (cO) := sk.fact 5 31 rfl (sd 5 rfl)
    have h32 : sa.eval (.tmp 32) = .agg #[.int .i64 (1), .slice (B) (32) (d)] := sk.fact 6 32 rfl (sd 6 rfl)
    refine Runs.call (f := 40) (vs := [.slice (BO) (32) (cO), .int .i64 ((0 : Int)), .int .i64 ((4 : Int)), .agg #[.int .i64 (1), .slice (B) (32) (d)]]) rfl rfl rfl (by simp only [List.map_toArray, List.map_cons, List.map_nil, h31, h32] <;> rfl) (ent40 _ _) ((cosign_arg BO B 32 cO 32 d 0 4 1 sw (by decide)).mono ?_); rintro e w' ⟨rfl, hx⟩; exact ⟨_, rfl, hx, rfl⟩
  · refine stepE rfl fun sdn sa sw sE sd sk => ?_
    have h33 : sa.eval (.tmp 33) = .tuple #[.agg #[.int .i64 ((0 : Int)), .int .i64 ((0 : Int)), .slice (none) (0) (0), .slice (none) (0) (0)], .int .i64 ((1 : Int))] := sk.fact 7 33 rfl (sd 7 rfl)
    exact Runs.move rfl h33 ⟨Ext.refl _, rfl⟩
  · refine stepE rfl fun sdn sa sw sE sd sk => ?_
    have h25 : sa.eval (.tmp 25) = .tuple #[.agg #[.int .i64 ((0 : Int)), .int .i64 ((0 : Int)), .slice (none) (0) (0), .slice (none) (0) (0)], .int .i64 ((1 : Int))] := sk.fact 8 25 rfl (sd 8 rfl)
    refine Runs.of_run (r := .agg #[.int .i64 ((0 : Int)), .int .i64 ((0 : Int)), .slice (none) (0) (0), .slice (none) (0) (0)]) (w' := sw) ?_ ⟨Ext.refl _, rfl⟩
    unfold execOp
    simp only [h25]
    go_simp
  · refine stepE rfl fun sdn sa sw sE sd sk => ?_
    have h25 : sa.eval (.tmp 25) = .tuple #[.agg #[.int .i64 ((0 : Int)), .int .i64 ((0 : Int)), .slice (none) (0) (0), .slice (none) (0) (0)], .int .i64 ((1 : Int))] := sk.fact 8 25 rfl (sd 8 rfl)
    refine Runs.of_run (r := .int .i64 ((1 : Int))) (w' := sw) ?_ ⟨Ext.refl _, rfl⟩
    unfold execOp
    simp only [h25]
    go_simp
  · refine stepE rfl fun sdn sa sw sE sd sk => ?_
    refine Runs.of_run (r := .pointer (some ⟨sw.heap.size, 0, none⟩)) (w' := sw.alloc (.cells #[.int .i64 ((0 : Int)), .int .i64 ((0 : Int)), .slice (none) (0) (0), .slice (none) (0) (0)] 69)) ?_ ⟨Ext.new _ _, _, rfl, Blk.new _ _ _, sE.size⟩
    unfold execOp
    go_simp
  intro vals W5 hE5 hv5 gst vst hgst hvst
  have e0 : vals 0 = .slice ((some ⟨gA, 0, none⟩)) (2) (c) := hv5 0 (by omega) 26 rfl
  have e1 : vals 1 = .pointer (some ((⟨gA, 0, none⟩ : Addr).add (1))) := hv5 1 (by omega) 27 rfl
  have e2 : vals 2 = .pointer (some ⟨gO, 0, none⟩) := hv5 2 (by omega) 28 rfl
  have e3 : vals 3 = .pointer (some ⟨gO, 0, none⟩) := hv5 3 (by omega) 29 rfl
  have e4 : vals 4 = .pointer (some ⟨gO, 0, none⟩) := hv5 4 (by omega) 30 rfl
  have e5 : vals 5 = .slice (BO) (32) (cO) := hv5 5 (by omega) 31 rfl
  have e6 : vals 6 = .agg #[.int .i64 (1), .slice (B) (32) (d)] := hv5 6 (by omega) 32 rfl
  have e7 : vals 7 = .tuple #[.agg #[.int .i64 ((0 : Int)), .int .i64 ((0 : Int)), .slice (none) (0) (0), .slice (none) (0) (0)], .int .i64 ((1 : Int))] := hv5 7 (by omega) 33 rfl
  have e8 : vals 8 = .tuple #[.agg #[.int .i64 ((0 : Int)), .int .i64 ((0 : Int)), .slice (none) (0) (0), .slice (none) (0) (0)], .int .i64 ((1 : Int))] := hv5 8 (by omega) 25 rfl
  have e9 : vals 9 = .agg #[.int .i64 ((0 : Int)), .int .i64 ((0 : Int)), .slice (none) (0) (0), .slice (none) (0) (0)] := hv5 9 (by omega) 34 rfl
  have e10 : vals 10 = .int .i64 ((1 : Int)) := hv5 10 (by omega) 35 rfl
  obtain ⟨g6, e11, hb6, gb6⟩ := hv5 11 (by omega) 6 rfl
  obtain rfl : gst = g6 := pointer_eq hgst e11
  obtain rfl : vst = #[.int .i64 ((0 : Int)), .int .i64 ((0 : Int)), .slice (none) (0) (0), .slice (none) (0) (0)] := Value.agg.inj (hvst.symm.trans e9)
  simp only [putAll, Act.put, List.take_succ_cons, List.take_zero, List.drop_succ_cons, List.drop_zero, List.drop_nil, List.take_nil, Nat.reduceAdd, List.setIfInBounds_toArray, List.set_cons_succ, List.set_cons_zero, e0, e1, e2, e3, e4, e5, e6, e7, e8, e9, e10, e11]
  clear hv5 e0 e1 e2 e3 e4 e5 e6 e7 e8 e9 e10 e11 hgst hvst
  have hGt := grown_setCells gst (#[.int .i64 ((0 : Int)), .int .i64 ((0 : Int)), .slice (none) (0) (0), .slice (none) (0) (0)] : Array Value).toList 0 W5
  have hB5 := hb6.setAll (vs := #[.int .i64 ((0 : Int)), .int .i64 ((0 : Int)), .slice (none) (0) (0), .slice (none) (0) (0)]) rfl
  have hE5s := hE5.then_grown hGt (by intro k hk; cases hk; exact gb6)
  clear hGt hb6 gb6
  generalize W5.setCells gst 0 (#[.int .i64 ((0 : Int)), .int .i64 ((0 : Int)), .slice (none) (0) (0), .slice (none) (0) (0)] : Array Value).toList = W5b at *
  replace rG := rG.ext hE5s
  replace rQ2 := rQ2.ext hE5s
  replace hB2 := hB2.ext hE5s
  replace hB3 := hB3.ext hE5s
  replace rR := rR.ext hE5s
  replace hB4 := hB4.ext hE5s
  replace rP4 := rP4.ext hE5s
  replace rQ4 := rQ4.ext hE5s
  replace hEa := hEa.trans hE5s
  clear hE5 hE5s hcO hBO rS
  have hSd : Sd = seedL ((1 : Nat) : Int) := by rw [HSd.out, HSs.out]; exact lb_range _ (by omega)
  have hK : (List.range 2).map (fun j => ownP (lb Ss j)) = keys 2 := by rw [HSs.out]; rfl
  rw [hK] at rQ2
  rw [hSd] at rP4 rQ4
  replace hB4 : Blk W5b g4 69 #[.int .i64 1, .int .i64 0, .slice A23x0 64 c23x0, .slice A23x1 4 c23x1] := hB4
  have hcos : cosB (khash 9) (keys 2) 2 1 R 1 0 (sigP (seedL ((1 : Nat) : Int)) (bodyC cosignL 1 R) 0) (pathL (seedL ((1 : Nat) : Int)) 0) = true := cos_own (n := 2) (j := 1) (k := 0) (by omega) (by omega) (q := 2) (x := 1) (y := 9) (R := R) (by omega) Hc.out (by omega)
  have Hcos := Lib.hid hcos
  clear hK hSd hcos
  generalize sigP (seedL ((1 : Nat) : Int)) (bodyC cosignL 1 R) 0 = PS at *
  generalize pathL (seedL ((1 : Nat) : Int)) 0 = QS at *
  have y20 := hB2.cell (i := 0) (v := .slice G 32 cg) rfl
  have y21 := hB2.cell (i := 1) (v := .slice Q2 2 dq) rfl
  have y22 := hB2.cell (i := 2) (v := .int .i64 2) rfl
  have hEn := Ext.new W5b (.cells #[.slice G 32 cg, .slice Q2 2 dq, .int .i64 0] 77)
  have hB8 := Blk.new W5b 77 #[.slice G 32 cg, .slice Q2 2 dq, .int .i64 0]
  go_upto_region 8 with (fail)
  replace rG := rG.ext hEn
  replace rQ2 := rQ2.ext hEn
  replace hB2 := hB2.ext hEn
  replace hB3 := hB3.ext hEn
  replace rR := rR.ext hEn
  replace hB4 := hB4.ext hEn
  replace rP4 := rP4.ext hEn
  replace rQ4 := rQ4.ext hEn
  replace hEa := hEa.trans hEn
  generalize W5b.alloc (.cells #[.slice G 32 cg, .slice Q2 2 dq, .int .i64 0] 77) = w8 at *
  generalize W5b.heap.size = g8 at *
  have hcnt : cntL (fun g : CSig => cosB (khash 9) (keys 2) 2 1 R g.wn g.k g.ps g.qs) [(⟨1, 0, PS, QS⟩ : CSig), ⟨1, 0, PS, QS⟩] = 1 := cnt_two Hcos.out rfl
  have Hcnt := Lib.hid hcnt
  have hm1 : (polB (khash 9) (keys 2) 2 && decide ((2 : Int) ≤ cntL (fun g : CSig => cosB (khash 9) (keys 2) 2 1 R g.wn g.k g.ps g.qs) [(⟨1, 0, PS, QS⟩ : CSig), ⟨1, 0, PS, QS⟩])) = false := by rw [hcnt]; simp
  have Hm1 := Lib.hid hm1
  have hm2 : polB (khash 9) (keys 2) 0 = false := by rw [keys_pol (by omega) (by omega)]; simp
  have Hm2 := Lib.hid hm2
  clear hEn hB5 y20 y21 y22 hcnt hm1 hm2
  have y20 := hB2.cell (i := 0) (v := .slice G 32 cg) rfl
  have y21 := hB2.cell (i := 1) (v := .slice Q2 2 dq) rfl
  have y22 := hB2.cell (i := 2) (v := .int .i64 2) rfl
  have y30 := hB3.cell (i := 0) (v := .int .i64 1) rfl
  have y31 := hB3.cell (i := 1) (v := .slice B 32 d) rfl
  have y40 := hB4.cell (i := 0) (v := .int .i64 1) rfl
  have y41 := hB4.cell (i := 1) (v := .int .i64 0) rfl
  have y42 := hB4.cell (i := 2) (v := .slice A23x0 64 c23x0) rfl
  have y43 := hB4.cell (i := 3) (v := .slice A23x1 4 c23x1) rfl
  go_wp2_with fail
  refine (cosverify_any G Q2 B A23x0 A23x1 32 cg 2 dq 32 d 64 c23x0 4 c23x1 2 1 1 0 (khash 9) R (keys 2) PS QS w8 rG rQ2 rR rP4 rQ4).mono ?_
  rintro e w9 ⟨rfl, hE⟩
  rw [Hcos.out]
  replace rG := rG.ext hE
  replace rQ2 := rQ2.ext hE
  replace rR := rR.ext hE
  replace rP4 := rP4.ext hE
  replace rQ4 := rQ4.ext hE
  replace hB2 := hB2.ext hE
  replace hB3 := hB3.ext hE
  replace hB4 := hB4.ext hE
  replace hB8 := hB8.ext hE
  replace hEa := hEa.trans hE
  clear hE y20 y21 y22 y30 y31 y40 y41 y42 y43
  have y20 := hB2.cell (i := 0) (v := .slice G 32 cg) rfl
  have y21 := hB2.cell (i := 1) (v := .slice Q2 2 dq) rfl
  have y22 := hB2.cell (i := 2) (v := .int .i64 2) rfl
  have y30 := hB3.cell (i := 0) (v := .int .i64 1) rfl
  have y31 := hB3.cell (i := 1) (v := .slice B 32 d) rfl
  have y40 := hB4.cell (i := 0) (v := .int .i64 1) rfl
  have y41 := hB4.cell (i := 1) (v := .int .i64 0) rfl
  have y42 := hB4.cell (i := 2) (v := .slice A23x0 64 c23x0) rfl
  have y43 := hB4.cell (i := 3) (v := .slice A23x1 4 c23x1) rfl
  obtain ⟨ws, hws⟩ : ∃ ws, ws = w9.alloc (.cells #[.int .i64 1, .int .i64 0, .slice A23x0 64 c23x0, .slice A23x1 4 c23x1, .int .i64 1, .int .i64 0, .slice A23x0 64 c23x0, .slice A23x1 4 c23x1] 69) := ⟨_, rfl⟩
  have hEn := Ext.new w9 (.cells #[.int .i64 1, .int .i64 0, .slice A23x0 64 c23x0, .slice A23x1 4 c23x1, .int .i64 1, .int .i64 0, .slice A23x0 64 c23x0, .slice A23x1 4 c23x1] 69)
  have hBS := Blk.new w9 69 #[.int .i64 1, .int .i64 0, .slice A23x0 64 c23x0, .slice A23x1 4 c23x1, .int .i64 1, .int .i64 0, .slice A23x0 64 c23x0, .slice A23x1 4 c23x1]
  rw [← hws] at hEn hBS
  replace rG := rG.ext hEn
  replace rQ2 := rQ2.ext hEn
  replace rR := rR.ext hEn
  replace rP4 := rP4.ext hEn
  replace rQ4 := rQ4.ext hEn
  replace hB2 := hB2.ext hEn
  replace hB3 := hB3.ext hEn
  replace hB4 := hB4.ext hEn
  replace hB8 := hB8.ext hEn
  have rL := RCS.two hBS rP4 rQ4
  replace hEa := hEa.trans hEn
  clear hEn
  go_wp2_with fail
  rw [← hws]
  clear hws
  refine (cCount_any G Q2 B _ 32 cg 2 dq 32 d 2 2 2 1 (khash 9) R (keys 2) _ ws rG rQ2 rR rL).mono ?_
  rintro e w10 ⟨rfl, hE⟩
  rw [Hcnt.out]
  replace rG := rG.ext hE
  replace rQ2 := rQ2.ext hE
  replace rR := rR.ext hE
  replace rP4 := rP4.ext hE
  replace rQ4 := rQ4.ext hE
  replace hB2 := hB2.ext hE
  replace hB3 := hB3.ext hE
  replace hB4 := hB4.ext hE
  replace hB8 := hB8.ext hE
  replace hEa := hEa.trans hE
  clear hE y20 y21 y22 y30 y31 y40 y41 y42 y43 hBS rL
  have y20 := hB2.cell (i := 0) (v := .slice G 32 cg) rfl
  have y21 := hB2.cell (i := 1) (v := .slice Q2 2 dq) rfl
  have y22 := hB2.cell (i := 2) (v := .int .i64 2) rfl
  have y30 := hB3.cell (i := 0) (v := .int .i64 1) rfl
  have y31 := hB3.cell (i := 1) (v := .slice B 32 d) rfl
  have y40 := hB4.cell (i := 0) (v := .int .i64 1) rfl
  have y41 := hB4.cell (i := 1) (v := .int .i64 0) rfl
  have y42 := hB4.cell (i := 2) (v := .slice A23x0 64 c23x0) rfl
  have y43 := hB4.cell (i := 3) (v := .slice A23x1 4 c23x1) rfl
  obtain ⟨ws, hws⟩ : ∃ ws, ws = w10.alloc (.cells #[.int .i64 1, .int .i64 0, .slice A23x0 64 c23x0, .slice A23x1 4 c23x1, .int .i64 1, .int .i64 0, .slice A23x0 64 c23x0, .slice A23x1 4 c23x1] 69) := ⟨_, rfl⟩
  have hEn := Ext.new w10 (.cells #[.int .i64 1, .int .i64 0, .slice A23x0 64 c23x0, .slice A23x1 4 c23x1, .int .i64 1, .int .i64 0, .slice A23x0 64 c23x0, .slice A23x1 4 c23x1] 69)
  have hBS := Blk.new w10 69 #[.int .i64 1, .int .i64 0, .slice A23x0 64 c23x0, .slice A23x1 4 c23x1, .int .i64 1, .int .i64 0, .slice A23x0 64 c23x0, .slice A23x1 4 c23x1]
  rw [← hws] at hEn hBS
  replace rG := rG.ext hEn
  replace rQ2 := rQ2.ext hEn
  replace rR := rR.ext hEn
  replace rP4 := rP4.ext hEn
  replace rQ4 := rQ4.ext hEn
  replace hB2 := hB2.ext hEn
  replace hB3 := hB3.ext hEn
  replace hB4 := hB4.ext hEn
  replace hB8 := hB8.ext hEn
  have rL := RCS.two hBS rP4 rQ4
  replace hEa := hEa.trans hEn
  clear hEn
  go_wp2_with fail
  rw [← hws]
  clear hws
  refine (cMet_any G Q2 B _ 32 cg 2 dq 32 d 2 2 2 1 (khash 9) R (keys 2) _ ws rG rQ2 rR rL).mono ?_
  rintro e w11 ⟨rfl, hE⟩
  rw [Hm1.out]
  replace rG := rG.ext hE
  replace rQ2 := rQ2.ext hE
  replace rR := rR.ext hE
  replace rP4 := rP4.ext hE
  replace rQ4 := rQ4.ext hE
  replace hB2 := hB2.ext hE
  replace hB3 := hB3.ext hE
  replace hB4 := hB4.ext hE
  replace hB8 := hB8.ext hE
  replace hEa := hEa.trans hE
  clear hE y20 y21 y22 y30 y31 y40 y41 y42 y43 hBS rL
  have y20 := hB2.cell (i := 0) (v := .slice G 32 cg) rfl
  have y21 := hB2.cell (i := 1) (v := .slice Q2 2 dq) rfl
  have y22 := hB2.cell (i := 2) (v := .int .i64 2) rfl
  have y30 := hB3.cell (i := 0) (v := .int .i64 1) rfl
  have y31 := hB3.cell (i := 1) (v := .slice B 32 d) rfl
  have y40 := hB4.cell (i := 0) (v := .int .i64 1) rfl
  have y41 := hB4.cell (i := 1) (v := .int .i64 0) rfl
  have y42 := hB4.cell (i := 2) (v := .slice A23x0 64 c23x0) rfl
  have y43 := hB4.cell (i := 3) (v := .slice A23x1 4 c23x1) rfl
  have y80 := hB8.cell (i := 0) (v := .slice G 32 cg) rfl
  have y81 := hB8.cell (i := 1) (v := .slice Q2 2 dq) rfl
  have y82 := hB8.cell (i := 2) (v := .int .i64 0) rfl
  obtain ⟨ws, hws⟩ : ∃ ws, ws = w11.alloc (.cells #[.int .i64 1, .int .i64 0, .slice A23x0 64 c23x0, .slice A23x1 4 c23x1] 69) := ⟨_, rfl⟩
  have hEn := Ext.new w11 (.cells #[.int .i64 1, .int .i64 0, .slice A23x0 64 c23x0, .slice A23x1 4 c23x1] 69)
  have hBS := Blk.new w11 69 #[.int .i64 1, .int .i64 0, .slice A23x0 64 c23x0, .slice A23x1 4 c23x1]
  rw [← hws] at hEn hBS
  replace rG := rG.ext hEn
  replace rQ2 := rQ2.ext hEn
  replace rR := rR.ext hEn
  replace rP4 := rP4.ext hEn
  replace rQ4 := rQ4.ext hEn
  replace hB2 := hB2.ext hEn
  replace hB3 := hB3.ext hEn
  replace hB4 := hB4.ext hEn
  replace hB8 := hB8.ext hEn
  have rL := RCS.one hBS rP4 rQ4
  replace hEa := hEa.trans hEn
  clear hEn
  go_wp2_with fail
  rw [← hws]
  clear hws
  refine (cMet_any G Q2 B _ 32 cg 2 dq 32 d 1 1 0 1 (khash 9) R (keys 2) _ ws rG rQ2 rR rL).mono ?_
  rintro e w12 ⟨rfl, hE⟩
  rw [Hm2.out]
  replace hEa := hEa.trans hE
  clear hE y20 y21 y22 y30 y31 y40 y41 y42 y43 hBS rL
  go_wp2_with fail
  go_ret
  exact ⟨rfl, hEa⟩
end Go.Proofs.Ythggfbpdhkpkjaa
