/-
  law10.known, law10.equal, law10.signed, walked.
-/
import Derived.Test.YthggfbpdhkpkjaaLawMany10Q33
import Derived.Test.YthggfbpdhkpkjaaLawMany10Q35
namespace Go.Proofs.Ythggfbpdhkpkjaa
set_option maxRecDepth 100000
open Go Go.RowKit
theorem khash_length (x : Int) : (khash x).length = 32 := tagged_length _ _
theorem rightC_nat {k : Nat} {R : List UInt8} (hk : k ≤ 256) (hR : R.length = 32) : rightC (k : Int) R = true := by
  unfold rightC
  simp [hR]
  omega
theorem cverB_own (S R : List UInt8) (x : Int) (k : Nat) (hk : k < 16) (hc : rightC x R = true) : cverB (ownP S) x R (k : Int) (sigP S (bodyC checkL x R) k) (pathL S k) = true := by
  unfold cverB
  rw [hc, Bool.true_and]
  exact verB_own S _ k hk
set_option maxHeartbeats 4000000 in
theorem known10_any (w : World) : Calls Try.prog 20 #[] w fun e w' => e = .returned (.bool true) ∧ Ext w w' := by
  have hRl := khash_length 1
  go_enter Try.func20, Try.ntmps20
  go_wp2_with fail
  refine (seed_any 1 w (by omega) (by omega)).mono ?_
  rintro e w1 ⟨A1, c1, rfl, own1, hEa⟩
  obtain ⟨S, hS⟩ : ∃ S, S = seedL 1 := ⟨_, rfl⟩
  rw [← hS] at own1
  clear hS
  have rS := own1.rb
  clear own1
  go_wp2_with fail
  refine (rnew_any A1 c1 S w1 rS).mono ?_
  rintro e w2 ⟨g1, rfl, o1, hE⟩
  replace rS := rS.ext hE
  replace hEa := hEa.trans hE
  clear hE
  go_wp2_with fail
  refine (hash_any 1 w2 (by omega) (by omega)).mono ?_
  rintro e w3 ⟨B0, c0, rfl, own, hE⟩
  replace rS := rS.ext hE
  replace o1 := o1.ext hE
  replace hEa := hEa.trans hE
  have rR0 := own.rb
  generalize khash 1 = R at *
  have hc : rightC 3 R = true := rightC_nat (k := 3) (R := R) (by omega) hRl
  clear hE own
  go_wp2_with fail
  have hcs := csign_yes A1 B0 c1 32 c0 0 3 S R w3 rS rR0 hc (by omega)
  have e0 : ((0 : Nat) : Int) = 0 := rfl
  rw [e0] at hcs
  refine hcs.mono ?_
  rintro e w4 ⟨B, d, P, d1, Q, d2, rfl, rR, rP, rQ, hE⟩
  have hv := cverB_own S R 3 0 (by omega) hc
  rw [e0] at hv
  clear hcs
  obtain ⟨PS, hPS⟩ : ∃ PS, PS = sigP S (bodyC checkL 3 R) 0 := ⟨_, rfl⟩
  obtain ⟨QS, hQS⟩ : ∃ QS, QS = pathL S 0 := ⟨_, rfl⟩
  rw [← hPS] at rP hv
  rw [← hQS] at rQ hv
  have Hv := Lib.hid hv
  replace rS := rS.ext hE
  replace o1 := o1.ext hE
  replace hEa := hEa.trans hE
  have hEn := Ext.new w4 (.cells #[.int .i64 3, .slice B 32 d, .int .i64 0, .slice P 64 d1, .slice Q 4 d2] 41)
  have hBx := Blk.new w4 41 #[.int .i64 3, .slice B 32 d, .int .i64 0, .slice P 64 d1, .slice Q 4 d2]
  replace rS := rS.ext hEn
  replace o1 := o1.ext hEn
  replace rR := rR.ext hEn
  replace rP := rP.ext hEn
  replace rQ := rQ.ext hEn
  replace hEa := hEa.trans hEn
  clear hE hEn hv hPS hQS rR0 hc
  obtain ⟨w5, hw5⟩ : ∃ w5, w5 = w4.alloc (.cells #[.int .i64 3, .slice B 32 d, .int .i64 0, .slice P 64 d1, .slice Q 4 d2] 41) := ⟨_, rfl⟩
  rw [← hw5] at rS o1 rR rP rQ hEa hBx
  go_wp2_with (rw [← hw5]; refine make_law (k := 31) rfl rfl rfl rfl (by omega) ?_; intro w6 own6 hE6)
  have hs5 : w5.heap.size = w4.heap.size + 1 := by rw [hw5]; exact World.size_alloc _ _
  have r6 := own6.rb
  rw [hs5] at r6
  clear hw5 hs5
  generalize w4.heap.size = gx at *
  have hc2 : rightC 3 (List.replicate 31 0) = false := by decide
  refine (csign_no A1 _ 32 c1 31 31 0 3 _ w6 r6 hc2).mono ?_
  rintro e w7 ⟨rfl, hE⟩
  replace hE := hE6.trans hE
  have hEn := Ext.new w7 (.cells #[.int .i64 0, .slice none 0 0, .int .i64 0, .slice none 0 0, .slice none 0 0] 41)
  replace hE := hE.trans hEn
  replace o1 := o1.ext hE
  replace rR := rR.ext hE
  replace rP := rP.ext hE
  replace rQ := rQ.ext hE
  replace hBx := hBx.ext hE
  replace hEa := hEa.trans hE
  clear hE hEn hE6 own6 r6 hc2 rS
  go_upto_region 5 with (fail)
  generalize w7.alloc (.cells #[.int .i64 0, .slice none 0 0, .int .i64 0, .slice none 0 0, .slice none 0 0] 41) = w8 at *
  refine par_ext (n := 19) (by kernel_rfl) [.is (.int .i64 ((0 : Int))), .is (.bool (true)), .is (.bool (true)), .is (.pointer (some ⟨g1, 0, none⟩)), .rk (32) (ownP S), .is (.agg #[.int .i64 ((3 : Int)), .slice (B) (32) (d), .int .i64 ((0 : Int)), .slice (P) (64) (d1), .slice (Q) (4) (d2)]), .is (.bool (true)), .is (.bool (true)), .is (.bool (true)), .is (.pointer (some ⟨gx, 0, none⟩)), .is (.pointer (some ⟨gx, 0, none⟩)), .is (.int .i64 ((3 : Int))), .is (.bool (true)), .is (.bool (true)), .is (.bool (true)), .is (.int .i64 ((12 : Int))), .is (.bool (true)), .is (.bool (true)), .is (.bool (true))] rfl ⟨?_, ?_, ?_, ?_, ?_, ?_, ?_, ?_, ?_, ?_, ?_, ?_, ?_, ?_, ?_, ?_, ?_, ?_, ?_, trivial⟩ ?_
  · refine stepE rfl fun sdn sa sw sE sd sk => ?_
    have h4 : sa.eval (.tmp 4) = .int .i64 ((0 : Int)) := sk.old 4 rfl
    exact Runs.move rfl h4 ⟨Ext.refl _, rfl⟩
  · refine stepE rfl fun sdn sa sw sE sd sk => ?_
    have h24 : sa.eval (.tmp 24) = .int .i64 ((0 : Int)) := sk.fact 0 24 rfl (sd 0 rfl)
    exact Runs.bin rfl h24 rfl (by rfl) (bin_eql _ _ _ _) ⟨Ext.refl _, congrArg Value.bool (by decide)⟩
  · refine stepE rfl fun sdn sa sw sE sd sk => ?_
    have h25 : sa.eval (.tmp 25) = .bool (true) := sk.fact 1 25 rfl (sd 1 rfl)
    exact Runs.move rfl h25 ⟨Ext.refl _, rfl⟩
  · refine stepY (j := 2) (d := 26) (b := true) rfl rfl rfl (fun v w h => h) fun sdn sa sw sE sd sk => ?_
    have h2 : sa.eval (.tmp 2) = .pointer (some ⟨g1, 0, none⟩) := sk.old 2 rfl
    exact Runs.move rfl h2 ⟨Ext.refl _, rfl⟩
  · refine stepY (j := 2) (d := 26) (b := true) rfl rfl rfl (fun v w h => h) fun sdn sa sw sE sd sk => ?_
    have h27 : sa.eval (.tmp 27) = .pointer (some ⟨g1, 0, none⟩) := sk.fact 3 27 rfl (sd 3 rfl)
    refine Runs.call (f := 68) (vs := [.pointer (some ⟨g1, 0, none⟩)]) rfl rfl rfl (by simp only [List.map_toArray, List.map_cons, List.map_nil, h27] <;> rfl) (ent68 _ _) ((rpublic_any _ _ _ sw (o1.ext sE)).mono ?_); rintro e w' ⟨A', c', rfl, own, hx⟩; exact ⟨_, rfl, hx, A', c', rfl, own⟩
  · refine stepY (j := 2) (d := 26) (b := true) rfl rfl rfl (fun v w h => h) fun sdn sa sw sE sd sk => ?_
    have h3 : sa.eval (.tmp 3) = .pointer (some ⟨gx, 0, none⟩) := sk.old 3 rfl
    exact Runs.load rfl h3 (load_part (hBx.ext sE) 0 (vs := [.int .i64 ((3 : Int)), .slice (B) (32) (d), .int .i64 ((0 : Int)), .slice (P) (64) (d1), .slice (Q) (4) (d2)]) rfl Try.underlying41 rfl (by kernel_rfl)) ⟨Ext.refl _, rfl⟩
  · refine stepY (j := 2) (d := 26) (b := true) rfl rfl rfl (fun v w h => h) fun sdn sa sw sE sd sk => ?_
    obtain ⟨A28, c28, h28, r28⟩ := sk.fact 4 28 rfl (sd 4 rfl)
    have h29 : sa.eval (.tmp 29) = .agg #[.int .i64 ((3 : Int)), .slice (B) (32) (d), .int .i64 ((0 : Int)), .slice (P) (64) (d1), .slice (Q) (4) (d2)] := sk.fact 5 29 rfl (sd 5 rfl)
    refine Runs.call (f := 30) (vs := [.slice (A28) (32) (c28), .agg #[.int .i64 ((3 : Int)), .slice (B) (32) (d), .int .i64 ((0 : Int)), .slice (P) (64) (d1), .slice (Q) (4) (d2)]]) rfl rfl rfl (by simp only [List.map_toArray, List.map_cons, List.map_nil, h28, h29] <;> rfl) (ent30 _ _) ((cverify_any _ _ _ _ _ _ _ _ _ _ _ _ _ _ _ _ _ _ sw r28 (rR.ext sE) (rP.ext sE) (rQ.ext sE)).mono ?_); rintro e w' ⟨rfl, hx⟩; exact ⟨_, rfl, hx, congrArg Value.bool (Hv.out)⟩
  · refine stepE rfl fun sdn sa sw sE sd sk => ?_
    have h26 : sa.eval (.tmp 26) = .bool (true) := sk.fact 2 26 rfl (sd 2 rfl)
    have h30 : sa.eval (.tmp 30) = .bool (true) := sk.fact 6 30 rfl (sd 6 rfl)
    exact Runs.pick rfl h26 ⟨Ext.refl _, by first | exact h30 | simpa using h30⟩
  · refine stepE rfl fun sdn sa sw sE sd sk => ?_
    have h31 : sa.eval (.tmp 31) = .bool (true) := sk.fact 7 31 rfl (sd 7 rfl)
    exact Runs.move rfl h31 ⟨Ext.refl _, rfl⟩
  · refine stepY (j := 8) (d := 32) (b := true) rfl rfl rfl (fun v w h => h) fun sdn sa sw sE sd sk => ?_
    have h3 : sa.eval (.tmp 3) = .pointer (some ⟨gx, 0, none⟩) := sk.old 3 rfl
    refine Runs.of_run (r := .pointer (some ⟨gx, 0, none⟩)) (w' := sw) ?_ ⟨Ext.refl _, rfl⟩
    unfold execOp
    simp only [h3]
    go_simp
  · refine stepY (j := 8) (d := 32) (b := true) rfl rfl rfl (fun v w h => h) fun sdn sa sw sE sd sk => ?_
    have h33 : sa.eval (.tmp 33) = .pointer (some ⟨gx, 0, none⟩) := sk.fact 9 33 rfl (sd 9 rfl)
    refine Runs.of_run (r := .pointer (some ⟨gx, 0, none⟩)) (w' := sw) ?_ ⟨Ext.refl _, rfl⟩
    unfold execOp
    simp only [h33]
    go_simp
  · refine stepY (j := 8) (d := 32) (b := true) rfl rfl rfl (fun v w h => h) fun sdn sa sw sE sd sk => ?_
    have h34 : sa.eval (.tmp 34) = .pointer (some ⟨gx, 0, none⟩) := sk.fact 10 34 rfl (sd 10 rfl)
    exact Runs.load rfl h34 (run_load1 Try.underlying3 rfl ((hBx.ext sE).cell (i := 0) rfl)) ⟨Ext.refl _, rfl⟩
  · refine stepY (j := 8) (d := 32) (b := true) rfl rfl rfl (fun v w h => h) fun sdn sa sw sE sd sk => ?_
    have h35 : sa.eval (.tmp 35) = .int .i64 ((3 : Int)) := sk.fact 11 35 rfl (sd 11 rfl)
    exact Runs.bin rfl h35 rfl (by rfl) (bin_eql _ _ _ _) ⟨Ext.refl _, congrArg Value.bool (by decide)⟩
  · refine stepE rfl fun sdn sa sw sE sd sk => ?_
    have h32 : sa.eval (.tmp 32) = .bool (true) := sk.fact 8 32 rfl (sd 8 rfl)
    have h36 : sa.eval (.tmp 36) = .bool (true) := sk.fact 12 36 rfl (sd 12 rfl)
    exact Runs.pick rfl h32 ⟨Ext.refl _, by first | exact h36 | simpa using h36⟩
  · refine stepE rfl fun sdn sa sw sE sd sk => ?_
    have h37 : sa.eval (.tmp 37) = .bool (true) := sk.fact 13 37 rfl (sd 13 rfl)
    exact Runs.move rfl h37 ⟨Ext.refl _, rfl⟩
  · refine stepY (j := 14) (d := 38) (b := true) rfl rfl rfl (fun v w h => h) fun sdn sa sw sE sd sk => ?_
    have h6 : sa.eval (.tmp 6) = .int .i64 ((12 : Int)) := sk.old 6 rfl
    exact Runs.move rfl h6 ⟨Ext.refl _, rfl⟩
  · refine stepY (j := 14) (d := 38) (b := true) rfl rfl rfl (fun v w h => h) fun sdn sa sw sE sd sk => ?_
    have h39 : sa.eval (.tmp 39) = .int .i64 ((12 : Int)) := sk.fact 15 39 rfl (sd 15 rfl)
    exact Runs.bin rfl h39 rfl (by rfl) (bin_eql _ _ _ _) ⟨Ext.refl _, congrArg Value.bool (by decide)⟩
  · refine stepE rfl fun sdn sa sw sE sd sk => ?_
    have h38 : sa.eval (.tmp 38) = .bool (true) := sk.fact 14 38 rfl (sd 14 rfl)
    have h40 : sa.eval (.tmp 40) = .bool (true) := sk.fact 16 40 rfl (sd 16 rfl)
    exact Runs.pick rfl h38 ⟨Ext.refl _, by first | exact h40 | simpa using h40⟩
  · refine stepE rfl fun sdn sa sw sE sd sk => ?_
    have h41 : sa.eval (.tmp 41) = .bool (true) := sk.fact 17 41 rfl (sd 17 rfl)
    exact Runs.assign rfl h41 ⟨Ext.refl _, rfl⟩
  intro vals W5 hE5 hv5
  have e0 : vals 0 = .int .i64 ((0 : Int)) := hv5 0 (by omega) 24 rfl
  have e1 : vals 1 = .bool (true) := hv5 1 (by omega) 25 rfl
  have e2 : vals 2 = .bool (true) := hv5 2 (by omega) 26 rfl
  have e3 : vals 3 = .pointer (some ⟨g1, 0, none⟩) := hv5 3 (by omega) 27 rfl
  obtain ⟨A28, c28, e4, r28⟩ := hv5 4 (by omega) 28 rfl
  have e5 : vals 5 = .agg #[.int .i64 ((3 : Int)), .slice (B) (32) (d), .int .i64 ((0 : Int)), .slice (P) (64) (d1), .slice (Q) (4) (d2)] := hv5 5 (by omega) 29 rfl
  have e6 : vals 6 = .bool (true) := hv5 6 (by omega) 30 rfl
  have e7 : vals 7 = .bool (true) := hv5 7 (by omega) 31 rfl
  have e8 : vals 8 = .bool (true) := hv5 8 (by omega) 32 rfl
  have e9 : vals 9 = .pointer (some ⟨gx, 0, none⟩) := hv5 9 (by omega) 33 rfl
  have e10 : vals 10 = .pointer (some ⟨gx, 0, none⟩) := hv5 10 (by omega) 34 rfl
  have e11 : vals 11 = .int .i64 ((3 : Int)) := hv5 11 (by omega) 35 rfl
  have e12 : vals 12 = .bool (true) := hv5 12 (by omega) 36 rfl
  have e13 : vals 13 = .bool (true) := hv5 13 (by omega) 37 rfl
  have e14 : vals 14 = .bool (true) := hv5 14 (by omega) 38 rfl
  have e15 : vals 15 = .int .i64 ((12 : Int)) := hv5 15 (by omega) 39 rfl
  have e16 : vals 16 = .bool (true) := hv5 16 (by omega) 40 rfl
  have e17 : vals 17 = .bool (true) := hv5 17 (by omega) 41 rfl
  have e18 : vals 18 = .bool (true) := hv5 18 (by omega) 0 rfl
  simp only [putAll, Act.put, List.take_succ_cons, List.take_zero, List.drop_succ_cons, List.drop_zero, List.drop_nil, List.take_nil, Nat.reduceAdd, List.setIfInBounds_toArray, List.set_cons_succ, List.set_cons_zero, e0, e1, e2, e3, e4, e5, e6, e7, e8, e9, e10, e11, e12, e13, e14, e15, e16, e17, e18]
  clear hv5 e0 e1 e2 e3 e4 e5 e6 e7 e8 e9 e10 e11 e12 e13 e14 e15 e16 e17 e18
  go_wp2_with fail
  go_ret
  exact ⟨rfl, hEa.trans hE5⟩
theorem eq10_true (x k : Int) (B P Q B' P' Q' : Option Addr) (n d np cp nq cq n' d' np' cp' nq' cq' : Nat) (R : List UInt8) (Ps Qs : List (List UInt8)) (w : World) (rR : RB w B n d R) (rP : RBB w P np cp Ps) (rQ : RBB w Q nq cq Qs) (rR' : RB w B' n' d' R) (rP' : RBB w P' np' cp' Ps) (rQ' : RBB w Q' nq' cq' Qs) :
    Calls Try.prog 27 #[.agg #[.int .i64 x, .slice B n d, .int .i64 k, .slice P np cp, .slice Q nq cq], .agg #[.int .i64 x, .slice B' n' d', .int .i64 k, .slice P' np' cp', .slice Q' nq' cq']] w fun e w' => e = .returned (.bool true) ∧ Ext w w' := by
  have hEa := Ext.new w (.cells #[.int .i64 x, .slice B n d, .int .i64 k, .slice P np cp, .slice Q nq cq] 41)
  have hB := Blk.new w 41 #[.int .i64 x, .slice B n d, .int .i64 k, .slice P np cp, .slice Q nq cq]
  have hEn := Ext.new (w.alloc (.cells #[.int .i64 x, .slice B n d, .int .i64 k, .slice P np cp, .slice Q nq cq] 41)) (.cells #[.int .i64 x, .slice B' n' d', .int .i64 k, .slice P' np' cp', .slice Q' nq' cq'] 41)
  have hB' := Blk.new (w.alloc (.cells #[.int .i64 x, .slice B n d, .int .i64 k, .slice P np cp, .slice Q nq cq] 41)) 41 #[.int .i64 x, .slice B' n' d', .int .i64 k, .slice P' np' cp', .slice Q' nq' cq']
  rw [World.size_alloc] at hB'
  replace hB := hB.ext hEn
  replace hEa := hEa.trans hEn
  replace rR := rR.ext hEa
  replace rP := rP.ext hEa
  replace rQ := rQ.ext hEa
  replace rR' := rR'.ext hEa
  replace rP' := rP'.ext hEa
  replace rQ' := rQ'.ext hEa
  clear hEn
  go_enter Try.func27, Try.ntmps27
  go_wp2_with fail
  generalize (w.alloc (.cells #[.int .i64 x, .slice B n d, .int .i64 k, .slice P np cp, .slice Q nq cq] 41)).alloc (.cells #[.int .i64 x, .slice B' n' d', .int .i64 k, .slice P' np' cp', .slice Q' nq' cq'] 41) = w1 at *
  refine (rcsame_any x x B B' n d n' d' R R w1 rR rR').mono ?_
  rintro e w2 ⟨rfl, hE⟩
  have e1 : (decide (x = x) && decide (R = R)) = true := by simp
  rw [e1]
  replace hB := hB.ext hE
  replace hB' := hB'.ext hE
  replace rP := rP.ext hE
  replace rQ := rQ.ext hE
  replace rP' := rP'.ext hE
  replace rQ' := rQ'.ext hE
  replace hEa := hEa.trans hE
  clear e1 hE
  have y2 := hB.cell (i := 2) (v := .int .i64 k) rfl
  have y3 := hB.cell (i := 3) (v := .slice P np cp) rfl
  have y4 := hB.cell (i := 4) (v := .slice Q nq cq) rfl
  have z2 := hB'.cell (i := 2) (v := .int .i64 k) rfl
  have z3 := hB'.cell (i := 3) (v := .slice P' np' cp') rfl
  have z4 := hB'.cell (i := 4) (v := .slice Q' nq' cq') rfl
  go_wp2_with fail
  refine (rsame_true k P Q P' Q' np cp nq cq np' cp' nq' cq' Ps Qs w2 rP rQ rP' rQ').mono ?_
  rintro e w3 ⟨rfl, hE⟩
  go_wp2_with fail
  go_ret
  exact ⟨rfl, hEa.trans hE⟩
end Go.Proofs.Ythggfbpdhkpkjaa
