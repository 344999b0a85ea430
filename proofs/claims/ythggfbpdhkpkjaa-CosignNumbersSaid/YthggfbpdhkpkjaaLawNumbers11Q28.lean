/-
  cosign.Count, Met, Sign, walked.
-/
import Derived.Test.YthggfbpdhkpkjaaLawNumbers11Q27
namespace Go.Proofs.Ythggfbpdhkpkjaa
set_option maxRecDepth 100000
open Go Go.RowKit
set_option maxHeartbeats 4000000 in
theorem cCount_any (G A B L : Option Addr) (ng cg n c nb d nl cl : Nat) (q x : Int) (LG R : List UInt8) (Ws : List (List UInt8)) (gs : List CSig) (w : World) (rG : RB w G ng cg LG) (rW : RBB w A n c Ws) (rR : RB w B nb d R) (rL : RCS w L nl cl gs) :
    Calls Try.prog 44 #[.agg #[.slice G ng cg, .slice A n c, .int .i64 q], .agg #[.int .i64 x, .slice B nb d], .slice L nl cl] w fun e w' => e = .returned (.int .i64 (cntL (fun g => cosB LG Ws q x R g.wn g.k g.ps g.qs) gs)) ∧ Ext w w' := by
  have hEa := Ext.new w (.cells #[.slice G ng cg, .slice A n c, .int .i64 q] 77)
  have hB3 := Blk.new w 77 #[.slice G ng cg, .slice A n c, .int .i64 q]
  have hEn := Ext.new (w.alloc (.cells #[.slice G ng cg, .slice A n c, .int .i64 q] 77)) (.cells #[.int .i64 x, .slice B nb d] 24)
  have hB4 := Blk.new (w.alloc (.cells #[.slice G ng cg, .slice A n c, .int .i64 q] 77)) 24 #[.int .i64 x, .slice B nb d]
  rw [World.size_alloc] at hB4
  replace hB3 := hB3.ext hEn
  replace hEa := hEa.trans hEn
  replace rG := rG.ext hEa
  replace rW := rW.ext hEa
  replace rR := rR.ext hEa
  replace rL := rL.ext hEa
  clear hEn
  go_enter Try.func44, Try.ntmps44
  go_wp2_with fail
  refine (ccount_any G A B L ng cg n c nb d nl cl q x LG R Ws gs _ rG rW rR rL).mono ?_
  rintro e w2 ⟨rfl, hE⟩
  obtain ⟨z, hz⟩ : ∃ z, z = cntL (fun g => cosB LG Ws q x R g.wn g.k g.ps g.qs) gs := ⟨_, rfl⟩
  rw [← hz]
  have Hz := Lib.hid hz
  clear hz
  go_wp2_with fail
  go_ret
  exact ⟨by rw [← Hz.out]; rfl, hEa.trans hE⟩
set_option maxHeartbeats 4000000 in
theorem cMet_any (G A B L : Option Addr) (ng cg n c nb d nl cl : Nat) (q x : Int) (LG R : List UInt8) (Ws : List (List UInt8)) (gs : List CSig) (w : World) (rG : RB w G ng cg LG) (rW : RBB w A n c Ws) (rR : RB w B nb d R) (rL : RCS w L nl cl gs) :
    Calls Try.prog 43 #[.agg #[.slice G ng cg, .slice A n c, .int .i64 q], .agg #[.int .i64 x, .slice B nb d], .slice L nl cl] w fun e w' => e = .returned (.bool (polB LG Ws q && decide (q ≤ cntL (fun g => cosB LG Ws q x R g.wn g.k g.ps g.qs) gs))) ∧ Ext w w' := by
  have hEa := Ext.new w (.cells #[.slice G ng cg, .slice A n c, .int .i64 q] 77)
  have hB3 := Blk.new w 77 #[.slice G ng cg, .slice A n c, .int .i64 q]
  have hEn := Ext.new (w.alloc (.cells #[.slice G ng cg, .slice A n c, .int .i64 q] 77)) (.cells #[.int .i64 x, .slice B nb d] 24)
  have hB4 := Blk.new (w.alloc (.cells #[.slice G ng cg, .slice A n c, .int .i64 q] 77)) 24 #[.int .i64 x, .slice B nb d]
  rw [World.size_alloc] at hB4
  replace hB3 := hB3.ext hEn
  replace hEa := hEa.trans hEn
  replace rG := rG.ext hEa
  replace rW := rW.ext hEa
  replace rR := rR.ext hEa
  replace rL := rL.ext hEa
  clear hEn
  go_enter Try.func43, Try.ntmps43
  go_upto_region 1 with (fail)
  generalize (w.alloc (.cells #[.slice G ng cg, .slice A n c, .int .i64 q] 77)).alloc (.cells #[.int .i64 x, .slice B nb d] 24) = w1 at *
  generalize w.heap.size = g3 at *
  cases hpol : polB LG Ws q with
  | false =>
    refine par_ext (n := 12) (by kernel_rfl) [.is (.agg #[.slice (G) (ng) (cg), .slice (A) (n) (c), .int .i64 (q)]), .is (.bool (false)), .is (.bool (false)), .is undef, .is undef, .is undef, .is undef, .is undef, .is undef, .is undef, .is (.bool (false)), .is (.bool (false))] rfl ⟨?_, ?_, ?_, ?_, ?_, ?_, ?_, ?_, ?_, ?_, ?_, ?_, trivial⟩ ?_
    · refine stepE rfl fun sdn sa sw sE sd sk => ?_
      have h3 : sa.eval (.tmp 3) = .pointer (some ⟨g3, 0, none⟩) := sk.old 3 rfl
      exact Runs.load rfl h3 (load_part (hB3.ext sE) 0 (vs := [.slice (G) (ng) (cg), .slice (A) (n) (c), .int .i64 (q)]) rfl Try.underlying77 rfl (by kernel_rfl)) ⟨Ext.refl _, rfl⟩
    · refine stepE rfl fun sdn sa sw sE sd sk => ?_
      have h7 : sa.eval (.tmp 7) = .agg #[.slice (G) (ng) (cg), .slice (A) (n) (c), .int .i64 (q)] := sk.fact 0 7 rfl (sd 0 rfl)
      refine Runs.call (f := 42) (vs := [.agg #[.slice (G) (ng) (cg), .slice (A) (n) (c), .int .i64 (q)]]) rfl rfl rfl (by simp only [List.map_toArray, List.map_cons, List.map_nil, h7] <;> rfl) (ent42 _ _) ((cosright_any _ _ _ _ _ _ _ _ _ sw (rG.ext sE) (rW.ext sE)).mono ?_); rintro e w' ⟨rfl, hx⟩; exact ⟨_, rfl, hx, congrArg Value.bool (hpol)⟩
    · refine stepE rfl fun sdn sa sw sE sd sk => ?_
      have h8 : sa.eval (.tmp 8) = .bool (false) := sk.fact 1 8 rfl (sd 1 rfl)
      exact Runs.move rfl h8 ⟨Ext.refl _, rfl⟩
    · exact stepN (j := 2) (d := 9) (b := false) rfl rfl rfl (fun v w h => h) fun w => rfl
    · exact stepN (j := 2) (d := 9) (b := false) rfl rfl rfl (fun v w h => h) fun w => rfl
    · exact stepN (j := 2) (d := 9) (b := false) rfl rfl rfl (fun v w h => h) fun w => rfl
    · exact stepN (j := 2) (d := 9) (b := false) rfl rfl rfl (fun v w h => h) fun w => rfl
    · exact stepN (j := 2) (d := 9) (b := false) rfl rfl rfl (fun v w h => h) fun w => rfl
    · exact stepN (j := 2) (d := 9) (b := false) rfl rfl rfl (fun v w h => h) fun w => rfl
    · exact stepN (j := 2) (d := 9) (b := false) rfl rfl rfl (fun v w h => h) fun w => rfl
    · refine stepE rfl fun sdn sa sw sE sd sk => ?_
      have h9 : sa.eval (.tmp 9) = .bool (false) := sk.fact 2 9 rfl (sd 2 rfl)
      exact Runs.pick rfl h9 ⟨Ext.refl _, rfl⟩
    · refine stepE rfl fun sdn sa sw sE sd sk => ?_
      have h17 : sa.eval (.tmp 17) = .bool (false) := sk.fact 10 17 rfl (sd 10 rfl)
      exact Runs.assign rfl h17 ⟨Ext.refl _, rfl⟩
    intro vals W1 hE1 hv1
    have e0 : vals 0 = .agg #[.slice (G) (ng) (cg), .slice (A) (n) (c), .int .i64 (q)] := hv1 0 (by omega) 7 rfl
    have e1 : vals 1 = .bool (false) := hv1 1 (by omega) 8 rfl
    have e2 : vals 2 = .bool (false) := hv1 2 (by omega) 9 rfl
    have e10 : vals 10 = .bool (false) := hv1 10 (by omega) 17 rfl
    have e11 : vals 11 = .bool (false) := hv1 11 (by omega) 6 rfl
    simp only [putAll, Act.put, List.take_succ_cons, List.take_zero, List.drop_succ_cons, List.drop_zero, List.drop_nil, List.take_nil, Nat.reduceAdd, List.setIfInBounds_toArray, List.set_cons_succ, List.set_cons_zero, e0, e1, e2, e10, e11]
    clear hv1 e0 e1 e2 e10 e11
    go_wp2_with fail
    go_ret
    exact ⟨by first | (rw [hpol]; rfl) | rfl, hEa.trans hE1⟩
  | true =>
    by_cases hge : q ≤ cntL (fun g => cosB LG Ws q x R g.wn g.k g.ps g.qs) gs
    · have hres : (true && decide (q ≤ cntL (fun g => cosB LG Ws q x R g.wn g.k g.ps g.qs) gs)) = true := by simp [hge]
      have Hres := Lib.hid hres
      clear hres
      refine par_ext (n := 12) (by kernel_rfl) [.is (.agg #[.slice (G) (ng) (cg), .slice (A) (n) (c), .int .i64 (q)]), .is (.bool (true)), .is (.bool (true)), .is (.agg #[.slice (G) (ng) (cg), .slice (A) (n) (c), .int .i64 (q)]), .is (.agg #[.int .i64 (x), .slice (B) (nb) (d)]), .is (.slice (L) (nl) (cl)), .is (.int .i64 (cntL (fun g => cosB LG Ws q x R g.wn g.k g.ps g.qs) gs)), .is (.pointer (some ⟨g3, 2, none⟩)), .is (.int .i64 (q)), .is (.bool (true)), .is (.bool (true)), .is (.bool (true))] rfl ⟨?_, ?_, ?_, ?_, ?_, ?_, ?_, ?_, ?_, ?_, ?_, ?_, trivial⟩ ?_
      · refine stepE rfl fun sdn sa sw sE sd sk => ?_
        have h3 : sa.eval (.tmp 3) = .pointer (some ⟨g3, 0, none⟩) := sk.old 3 rfl
        exact Runs.load rfl h3 (load_part (hB3.ext sE) 0 (vs := [.slice (G) (ng) (cg), .slice (A) (n) (c), .int .i64 (q)]) rfl Try.underlying77 rfl (by kernel_rfl)) ⟨Ext.refl _, rfl⟩
      · refine stepE rfl fun sdn sa sw sE sd sk => ?_
        have h7 : sa.eval (.tmp 7) = .agg #[.slice (G) (ng) (cg), .slice (A) (n) (c), .int .i64 (q)] := sk.fact 0 7 rfl (sd 0 rfl)
        refine Runs.call (f := 42) (vs := [.agg #[.slice (G) (ng) (cg), .slice (A) (n) (c), .int .i64 (q)]]) rfl rfl rfl (by simp only [List.map_toArray, List.map_cons, List.map_nil, h7] <;> rfl) (ent42 _ _) ((cosright_any _ _ _ _ _ _ _ _ _ sw (rG.ext sE) (rW.ext sE)).mono ?_); rintro e w' ⟨rfl, hx⟩; exact ⟨_, rfl, hx, congrArg Value.bool (hpol)⟩
      · refine stepE rfl fun sdn sa sw sE sd sk => ?_
        have h8 : sa.eval (.tmp 8) = .bool (true) := sk.fact 1 8 rfl (sd 1 rfl)
        exact Runs.move rfl h8 ⟨Ext.refl _, rfl⟩
      · refine stepY (j := 2) (d := 9) (b := true) rfl rfl rfl (fun v w h => h) fun sdn sa sw sE sd sk => ?_
        have h3 : sa.eval (.tmp 3) = .pointer (some ⟨g3, 0, none⟩) := sk.old 3 rfl
        exact Runs.load rfl h3 (load_part (hB3.ext sE) 0 (vs := [.slice (G) (ng) (cg), .slice (A) (n) (c), .int .i64 (q)]) rfl Try.underlying77 rfl (by kernel_rfl)) ⟨Ext.refl _, rfl⟩
      · refine stepY (j := 2) (d := 9) (b := true) rfl rfl rfl (fun v w h => h) fun sdn sa sw sE sd sk => ?_
        have h4 : sa.eval (.tmp 4) = .pointer (some ⟨g3 + 1, 0, none⟩) := sk.old 4 rfl
        exact Runs.load rfl h4 (load_part (hB4.ext sE) 0 (vs := [.int .i64 (x), .slice (B) (nb) (d)]) rfl Try.underlying24 rfl (by kernel_rfl)) ⟨Ext.refl _, rfl⟩
      · refine stepY (j := 2) (d := 9) (b := true) rfl rfl rfl (fun v w h => h) fun sdn sa sw sE sd sk => ?_
        have h2 : sa.eval (.tmp 2) = .slice (L) (nl) (cl) := sk.old 2 rfl
        exact Runs.move rfl h2 ⟨Ext.refl _, rfl⟩
      · refine stepY (j := 2) (d := 9) (b := true) rfl rfl rfl (fun v w h => h) fun sdn sa sw sE sd sk => ?_
        have h10 : sa.eval (.tmp 10) = .agg #[.slice (G) (ng) (cg), .slice (A) (n) (c), .int .i64 (q)] := sk.fact 3 10 rfl (sd 3 rfl)
        have h11 : sa.eval (.tmp 11) = .agg #[.int .i64 (x), .slice (B) (nb) (d)] := sk.fact 4 11 rfl (sd 4 rfl)
        have h12 : sa.eval (.tmp 12) = .slice (L) (nl) (cl) := sk.fact 5 12 rfl (sd 5 rfl)
        refine Runs.call (f := 44) (vs := [.agg #[.slice (G) (ng) (cg), .slice (A) (n) (c), .int .i64 (q)], .agg #[.int .i64 (x), .slice (B) (nb) (d)], .slice (L) (nl) (cl)]) rfl rfl rfl (by simp only [List.map_toArray, List.map_cons, List.map_nil, h10, h11, h12] <;> rfl) (ent44 _ _) ((cCount_any _ _ _ _ _ _ _ _ _ _ _ _ _ _ _ _ _ _ sw (rG.ext sE) (rW.ext sE) (rR.ext sE) (rL.ext sE)).mono ?_); rintro e w' ⟨rfl, hx⟩; exact ⟨_, rfl, hx, rfl⟩
      · refine stepY (j := 2) (d := 9) (b := true) rfl rfl rfl (fun v w h => h) fun sdn sa sw sE sd sk => ?_
        have h3 : sa.eval (.tmp 3) = .pointer (some ⟨g3, 0, none⟩) := sk.old 3 rfl
        refine Runs.of_run (r := .pointer (some ⟨g3, 2, none⟩)) (w' := sw) ?_ ⟨Ext.refl _, rfl⟩
        unfold execOp
        simp only [h3]
        go_simp
      · refine stepY (j := 2) (d := 9) (b := true) rfl rfl rfl (fun v w h => h) fun sdn sa sw sE sd sk => ?_
        have h14 : sa.eval (.tmp 14) = .pointer (some ⟨g3, 2, none⟩) := sk.fact 7 14 rfl (sd 7 rfl)
        exact Runs.load rfl h14 (run_load1 Try.underlying3 rfl ((hB3.ext sE).cell (i := 2) rfl)) ⟨Ext.refl _, rfl⟩
      · refine stepY (j := 2) (d := 9) (b := true) rfl rfl rfl (fun v w h => h) fun sdn sa sw sE sd sk => ?_
        have h13 : sa.eval (.tmp 13) = .int .i64 (cntL (fun g => cosB LG Ws q x R g.wn g.k g.ps g.qs) gs) := sk.fact 6 13 rfl (sd 6 rfl)
        have h15 : sa.eval (.tmp 15) = .int .i64 (q) := sk.fact 8 15 rfl (sd 8 rfl)
        exact Runs.bin rfl h13 h15 (by rfl) (bin_geq _ _ _ _) ⟨Ext.refl _, congrArg Value.bool ((decide_eq_true hge))⟩
      · refine stepE rfl fun sdn sa sw sE sd sk => ?_
        have h9 : sa.eval (.tmp 9) = .bool (true) := sk.fact 2 9 rfl (sd 2 rfl)
        have h16 : sa.eval (.tmp 16) = .bool (true) := sk.fact 9 16 rfl (sd 9 rfl)
        exact Runs.pick rfl h9 ⟨Ext.refl _, by first | exact h16 | simpa using h16⟩
      · refine stepE rfl fun sdn sa sw sE sd sk => ?_
        have h17 : sa.eval (.tmp 17) = .bool (true) := sk.fact 10 17 rfl (sd 10 rfl)
        exact Runs.assign rfl h17 ⟨Ext.refl _, rfl⟩
      intro vals W1 hE1 hv1
      have e0 : vals 0 = .agg #[.slice (G) (ng) (cg), .slice (A) (n) (c), .int .i64 (q)] := hv1 0 (by omega) 7 rfl
      have e1 : vals 1 = .bool (true) := hv1 1 (by omega) 8 rfl
      have e2 : vals 2 = .bool (true) := hv1 2 (by omega) 9 rfl
      have e3 : vals 3 = .agg #[.slice (G) (ng) (cg), .slice (A) (n) (c), .int .i64 (q)] := hv1 3 (by omega) 10 rfl
      have e4 : vals 4 = .agg #[.int .i64 (x), .slice (B) (nb) (d)] := hv1 4 (by omega) 11 rfl
      have e5 : vals 5 = .slice (L) (nl) (cl) := hv1 5 (by omega) 12 rfl
      have e6 : vals 6 = .int .i64 (cntL (fun g => cosB LG Ws q x R g.wn g.k g.ps g.qs) gs) := hv1 6 (by omega) 13 rfl
      have e7 : vals 7 = .pointer (some ⟨g3, 2, none⟩) := hv1 7 (by omega) 14 rfl
      have e8 : vals 8 = .int .i64 (q) := hv1 8 (by omega) 15 rfl
      have e9 : vals 9 = .bool (true) := hv1 9 (by omega) 16 rfl
      have e10 : vals 10 = .bool (true) := hv1 10 (by omega) 17 rfl
      have e11 : vals 11 = .bool (true) := hv1 11 (by omega) 6 rfl
      simp only [putAll, Act.put, List.take_succ_cons, List.take_zero, List.drop_succ_cons, List.drop_zero, List.drop_nil, List.take_nil, Nat.reduceAdd, List.setIfInBounds_toArray, List.set_cons_succ, List.set_cons_zero, e0, e1, e2, e3, e4, e5, e6, e7, e8, e9, e10, e11]
      clear hv1 e0 e1 e2 e3 e4 e5 e6 e7 e8 e9 e10 e11
      go_wp2_with fail
      go_ret
      exact ⟨by first | (rw [hpol, Hres.out]; rfl) | (rw [Hres.out]; rfl) | (rw [decide_eq_false (by omega)]; rfl), hEa.trans hE1⟩
    · have hres : (true && decide (q ≤ cntL (fun g => cosB LG Ws q x R g.wn g.k g.ps g.qs) gs)) = false := by simp [hge]
      have Hres := Lib.hid hres
      clear hres
      refine par_ext (n := 12) (by kernel_rfl) [.is (.agg #[.slice (G) (ng) (cg), .slice (A) (n) (c), .int .i64 (q)]), .is (.bool (true)), .is (.bool (true)), .is (.agg #[.slice (G) (ng) (cg), .slice (A) (n) (c), .int .i64 (q)]), .is (.agg #[.int .i64 (x), .slice (B) (nb) (d)]), .is (.slice (L) (nl) (cl)), .is (.int .i64 (cntL (fun g => cosB LG Ws q x R g.wn g.k g.ps g.qs) gs)), .is (.pointer (some ⟨g3, 2, none⟩)), .is (.int .i64 (q)), .is (.bool (false)), .is (.bool (false)), .is (.bool (false))] rfl ⟨?_, ?_, ?_, ?_, ?_, ?_, ?_, ?_, ?_, ?_, ?_, ?_, trivial⟩ ?_
      · refine stepE rfl fun sdn sa sw sE sd sk => ?_
        have h3 : sa.eval (.tmp 3) = .pointer (some ⟨g3, 0, none⟩) := sk.old 3 rfl
        exact Runs.load rfl h3 (load_part (hB3.ext sE) 0 (vs := [.slice (G) (ng) (cg), .slice (A) (n) (c), .int .i64 (q)]) rfl Try.underlying77 rfl (by kernel_rfl)) ⟨Ext.refl _, rfl⟩
      · refine stepE rfl fun sdn sa sw sE sd sk => ?_
        have h7 : sa.eval (.tmp 7) = .agg #[.slice (G) (ng) (cg), .slice (A) (n) (c), .int .i64 (q)] := sk.fact 0 7 rfl (sd 0 rfl)
        refine Runs.call (f := 42) (vs := [.agg #[.slice (G) (ng) (cg), .slice (A) (n) (c), .int .i64 (q)]]) rfl rfl rfl (by simp only [List.map_toArray, List.map_cons, List.map_nil, h7] <;> rfl) (ent42 _ _) ((cosright_any _ _ _ _ _ _ _ _ _ sw (rG.ext sE) (rW.ext sE)).mono ?_); rintro e w' ⟨rfl, hx⟩; exact ⟨_, rfl, hx, congrArg Value.bool (hpol)⟩
      · refine stepE rfl fun sdn sa sw sE sd sk => ?_
        have h8 : sa.eval (.tmp 8) = .bool (true) := sk.fact 1 8 rfl (sd 1 rfl)
        exact Runs.move rfl h8 ⟨Ext.refl _, rfl⟩
      · refine stepY (j := 2) (d := 9) (b := true) rfl rfl rfl (fun v w h => h) fun sdn sa sw sE sd sk => ?_
        have h3 : sa.eval (.tmp 3) = .pointer (some ⟨g3, 0, none⟩) := sk.old 3 rfl
        exact Runs.load rfl h3 (load_part (hB3.ext sE) 0 (vs := [.slice (G) (ng) (cg), .slice (A) (n) (c), .int .i64 (q)]) rfl Try.underlying77 rfl (by kernel_rfl)) ⟨Ext.refl _, rfl⟩
      · refine stepY (j := 2) (d := 9) (b := true) rfl rfl rfl (fun v w h => h) fun sdn sa sw sE sd sk => ?_
        have h4 : sa.eval (.tmp 4) = .pointer (some ⟨g3 + 1, 0, none⟩) := sk.old 4 rfl
        exact Runs.load rfl h4 (load_part (hB4.ext sE) 0 (vs := [.int .i64 (x), .slice (B) (nb) (d)]) rfl Try.underlying24 rfl (by kernel_rfl)) ⟨Ext.refl _, rfl⟩
      · refine stepY (j := 2) (d := 9) (b := true) rfl rfl rfl (fun v w h => h) fun sdn sa sw sE sd sk => ?_
        have h2 : sa.eval (.tmp 2) = .slice (L) (nl) (cl) := sk.old 2 rfl
        exact Runs.move rfl h2 ⟨Ext.refl _, rfl⟩
      · refine stepY (j := 2) (d := 9) (b := true) rfl rfl rfl (fun v w h => h) fun sdn sa sw sE sd sk => ?_
        have h10 : sa.eval (.tmp 10) = .agg #[.slice (G) (ng) (cg), .slice (A) (n) (c), .int .i64 (q)] := sk.fact 3 10 rfl (sd 3 rfl)
        have h11 : sa.eval (.tmp 11) = .agg #[.int .i64 (x), .slice (B) (nb) (d)] := sk.fact 4 11 rfl (sd 4 rfl)
        have h12 : sa.eval (.tmp 12) = .slice (L) (nl) (cl) := sk.fact 5 12 rfl (sd 5 rfl)
        refine Runs.call (f := 44) (vs := [.agg #[.slice (G) (ng) (cg), .slice (A) (n) (c), .int .i64 (q)], .agg #[.int .i64 (x), .slice (B) (nb) (d)], .slice (L) (nl) (cl)]) rfl rfl rfl (by simp only [List.map_toArray, List.map_cons, List.map_nil, h10, h11, h12] <;> rfl) (ent44 _ _) ((cCount_any _ _ _ _ _ _ _ _ _ _ _ _ _ _ _ _ _ _ sw (rG.ext sE) (rW.ext sE) (rR.ext sE) (rL.ext sE)).mono ?_); rintro e w' ⟨rfl, hx⟩; exact ⟨_, rfl, hx, rfl⟩
      · refine stepY (j := 2) (d := 9) (b := true) rfl rfl rfl (fun v w h => h) fun sdn sa sw sE sd sk => ?_
        have h3 : sa.eval (.tmp 3) = .pointer (some ⟨g3, 0, none⟩) := sk.old 3 rfl
        refine Runs.of_run (r := .pointer (some ⟨g3, 2, none⟩)) (w' := sw) ?_ ⟨Ext.refl _, rfl⟩
        unfold execOp
        simp only [h3]
        go_simp
      · refine stepY (j := 2) (d := 9) (b := true) rfl rfl rfl (fun v w h => h) fun sdn sa sw sE sd sk => ?_
        have h14 : sa.eval (.tmp 14) = .pointer (some ⟨g3, 2, none⟩) := sk.fact 7 14 rfl (sd 7 rfl)
        exact Runs.load rfl h14 (run_load1 Try.underlying3 rfl ((hB3.ext sE).cell (i := 2) rfl)) ⟨Ext.refl _, rfl⟩
      · refine stepY (j := 2) (d := 9) (b := true) rfl rfl rfl (fun v w h => h) fun sdn sa sw sE sd sk => ?_
        have h13 : sa.eval (.tmp 13) = .int .i64 (cntL (fun g => cosB LG Ws q x R g.wn g.k g.ps g.qs) gs) := sk.fact 6 13 rfl (sd 6 rfl)
        have h15 : sa.eval (.tmp 15) = .int .i64 (q) := sk.fact 8 15 rfl (sd 8 rfl)
        exact Runs.bin rfl h13 h15 (by rfl) (bin_geq _ _ _ _) ⟨Ext.refl _, congrArg Value.bool ((decide_eq_false hge))⟩
      · refine stepE rfl fun sdn sa sw sE sd sk => ?_
        have h9 : sa.eval (.tmp 9) = .bool (true) := sk.fact 2 9 rfl (sd 2 rfl)
        have h16 : sa.eval (.tmp 16) = .bool (false) := sk.fact 9 16 rfl (sd 9 rfl)
        exact Runs.pick rfl h9 ⟨Ext.refl _, by first | exact h16 | simpa using h16⟩
      · refine stepE rfl fun sdn sa sw sE sd sk => ?_
        have h17 : sa.eval (.tmp 17) = .bool (false) := sk.fact 10 17 rfl (sd 10 rfl)
        exact Runs.assign rfl h17 ⟨Ext.refl _, rfl⟩
      intro vals W1 hE1 hv1
      have e0 : vals 0 = .agg #[.slice (G) (ng) (cg), .slice (A) (n) (c), .int .i64 (q)] := hv1 0 (by omega) 7 rfl
      have e1 : vals 1 = .bool (true) := hv1 1 (by omega) 8 rfl
      have e2 : vals 2 = .bool (true) := hv1 2 (by omega) 9 rfl
      have e3 : vals 3 = .agg #[.slice (G) (ng) (cg), .slice (A) (n) (c), .int .i64 (q)] := hv1 3 (by omega) 10 rfl
      have e4 : vals 4 = .agg #[.int .i64 (x), .slice (B) (nb) (d)] := hv1 4 (by omega) 11 rfl
      have e5 : vals 5 = .slice (L) (nl) (cl) := hv1 5 (by omega) 12 rfl
      have e6 : vals 6 = .int .i64 (cntL (fun g => cosB LG Ws q x R g.wn g.k g.ps g.qs) gs) := hv1 6 (by omega) 13 rfl
      have e7 : vals 7 = .pointer (some ⟨g3, 2, none⟩) := hv1 7 (by omega) 14 rfl
      have e8 : vals 8 = .int .i64 (q) := hv1 8 (by omega) 15 rfl
      have e9 : vals 9 = .bool (false) := hv1 9 (by omega) 16 rfl
      have e10 : vals 10 = .bool (false) := hv1 10 (by omega) 17 rfl
      have e11 : vals 11 = .bool (false) := hv1 11 (by omega) 6 rfl
      simp only [putAll, Act.put, List.take_succ_cons, List.take_zero, List.drop_succ_cons, List.drop_zero, List.drop_nil, List.take_nil, Nat.reduceAdd, List.setIfInBounds_toArray, List.set_cons_succ, List.set_cons_zero, e0, e1, e2, e3, e4, e5, e6, e7, e8, e9, e10, e11]
      clear hv1 e0 e1 e2 e3 e4 e5 e6 e7 e8 e9 e10 e11
      go_wp2_with fail
      go_ret
      exact ⟨by first | (rw [hpol, Hres.out]; rfl) | (rw [Hres.out]; rfl) | (rw [decide_eq_false (by omega)]; rfl), hEa.trans hE1⟩
end Go.Proofs.Ythggfbpdhkpkjaa
