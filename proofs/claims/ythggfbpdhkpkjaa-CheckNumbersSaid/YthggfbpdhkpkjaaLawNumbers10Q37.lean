/-
  law10.known, law10.equal, law10.signed, walked. hash.Hex and the statements' own hex, walked: two signs a byte.
-/
import Derived.Test.YthggfbpdhkpkjaaLawNumbers10Q36
import Derived.Test.YthggfbpdhkpkjaaLawNumbers10Q11
import Derived.Test.YthggfbpdhkpkjaaLawNumbers10Q1
namespace Go.Proofs.Ythggfbpdhkpkjaa
set_option maxRecDepth 100000
open Go Go.RowKit
theorem rsign_len (B : Option Addr) (g b m e' k : Nat) (S M : List UInt8) (w : World) (ho : OwnR w b g S) (hm : RB w B m e' M) (hmn : M.length ≤ 1000000) (hk : k < 16) :
    Calls Try.prog 54 #[.pointer (some ⟨g, 0, none⟩), .int .i64 (k : Int), .slice B m e'] w fun e w' => ∃ P d Q d', e = .returned (.agg #[.int .i64 (k : Int), .slice P 64 d, .slice Q 4 d']) ∧ RBB w' P 64 d (sigP S M k) ∧ RBB w' Q 4 d' (pathL S k) ∧ Ext w w' :=
  rsign_any B g b m e' k S M w ho hm (by have := hm.len; omega) hk
theorem khash_length (x : Int) : (khash x).length = 32 := tagged_length _ _
theorem rightC_nat {k : Nat} {R : List UInt8} (hk : k ≤ 256) (hR : R.length = 32) : rightC (k : Int) R = true := by
  unfold rightC
  simp [hR]
  omega
theorem cverB_own (S R : List UInt8) (x : Int) (k : Nat) (hk : k < 16) (hc : rightC x R = true) : cverB (ownP S) x R (k : Int) (sigP S (bodyC checkL x R) k) (pathL S k) = true := by
  unfold cverB
  rw [hc, Bool.true_and]
  exact verB_own S _ k hk
set_option maxHeartbeats 4000000 in
theorem known10_any (w : World) : Calls Try.prog 20 #[] w fun e w' => e = .returned (.bool true) ∧ Ext w w' := by
  have hRl := khash_length 1
  go_enter Try.func20, Try.ntmps20
  go_wp2_with fail
  refine (seed_any 1 w (by omega) (by omega)).mono ?_
  rintro e w1 ⟨A1, c1, rfl, own1, hEa⟩
  obtain ⟨S, hS⟩ : ∃ S, S = seedL 1 := ⟨_, rfl⟩
  rw [← hS] at own1
  clear hS
  have rS := own1.rb
  clear own1
  go_wp2_with fail
  refine (rnew_any A1 c1 S w1 rS).mono ?_
  rintro e w2 ⟨g1, rfl, o1, hE⟩
  replace rS := rS.ext hE
  replace hEa := hEa.trans hE
  clear hE
  go_wp2_with fail
  refine (hash_any 1 w2 (by omega) (by omega)).mono ?_
  rintro e w3 ⟨B0, c0, rfl, own, hE⟩
  replace rS := rS.ext hE
  replace o1 := o1.ext hE
  replace hEa := hEa.trans hE
  have rR0 := own.rb
  generalize khash 1 = R at *
  have hc : rightC 3 R = true := rightC_nat (k := 3) (R := R) (by omega) hRl
  clear hE own
  go_wp2_with fail
  have hcs := csign_yes A1 B0 c1 32 c0 0 3 S R w3 rS rR0 hc (by omega)
  have e0 : ((0 : Nat) : Int) = 0 := rfl
  rw [e0] at hcs
  refine hcs.mono ?_
  rintro e w4 ⟨B, d, P, d1, Q, d2, rfl, rR, rP, rQ, hE⟩
  have hv := cverB_own S R 3 0 (by omega) hc
  rw [e0] at hv
  clear hcs
  obtain ⟨PS, hPS⟩ : ∃ PS, PS = sigP S (bodyC checkL 3 R) 0 := ⟨_, rfl⟩
  obtain ⟨QS, hQS⟩ : ∃ QS, QS = pathL S 0 := ⟨_, rfl⟩
  rw [← hPS] at rP hv
  rw [← hQS] at rQ hv
  have Hv := Lib.hid hv
  replace rS := rS.ext hE
  replace o1 := o1.ext hE
  replace hEa := hEa.trans hE
  have hEn := Ext.new w4 (.cells #[.int .i64 3, .slice B 32 d, .int .i64 0, .slice P 64 d1, .slice Q 4 d2] 41)
  have hBx := Blk.new w4 41 #[.int .i64 3, .slice B 32 d, .int .i64 0, .slice P 64 d1, .slice Q 4 d2]
  replace rS := rS.ext hEn
  replace o1 := o1.ext hEn
  replace rR := rR.ext hEn
  replace rP := rP.ext hEn
  replace rQ := rQ.ext hEn
  replace hEa := hEa.trans hEn
  clear hE hEn hv hPS hQS rR0 hc
  obtain ⟨w5, hw5⟩ : ∃ w5, w5 = w4.alloc (.cells #[.int .i64 3, .slice B 32 d, .int .i64 0, .slice P 64 d1, .slice Q 4 d2] 41) := ⟨_, rfl⟩
  rw [← hw5] at rS o1 rR rP rQ hEa hBx
  go_wp2_with (rw [← hw5]; refine make_law (k := 31) rfl rfl rfl rfl (by omega) ?_; intro w6 own6 hE6)
  have hs5 : w5.heap.size = w4.heap.size + 1 := by rw [hw5]; exact World.size_alloc _ _
  have r6 := own6.rb
  rw [hs5] at r6
  clear hw5 hs5
  generalize w4.heap.size = gx at *
  have hc2 : rightC 3 (List.replicate 31 0) = false := by decide
  refine (csign_no A1 _ 32 c1 31 31 0 3 _ w6 r6 hc2).mono ?_
  rintro e w7 ⟨rfl, hE⟩
  replace hE := hE6.trans hE
  have hEn := Ext.new w7 (.cells #[.int .i64 0, .slice none 0 0, .int .i64 0, .slice none 0 0, .slice none 0 0] 41)
  replace hE := hE.trans hEn
  replace o1 := o1.ext hE
  replace rR := rR.ext hE
  replace rP := rP.ext hE
  replace rQ := rQ.ext hE
  replace hBx := hBx.ext hE
  replace hEa := hEa.trans hE
  clear hE hEn hE6 own6 r6 hc2 rS
  go_upto_region 5 with (fail)
  generalize w7.alloc (.cells #[.int .i64 0, .slice none 0 0, .int .i64 0, .slice none 0 0, .slice none 0 0] 41) = w8 at *
  refine par_ext (n := 19) (by kernel_rfl) [.is (.int .i64 ((0 : Int))), .is (.bool (true)), .is (.bool (true)), .is (.pointer (some ⟨g1, 0, none⟩)), .rk (32) (ownP S), .is (.agg #[.int .i64 ((3 : Int)), .slice (B) (32) (d), .int .i64 ((0 : Int)), .slice (P) (64) (d1), .slice (Q) (4) (d2)]), .is (.bool (true)), .is (.bool (true)), .is (.bool (true)), .is (.pointer (some ⟨gx, 0, none⟩)), .is (.pointer (some ⟨gx, 0, none⟩)), .is (.int .i64 ((3 : Int))), .is (.bool (true)), .is (.bool (true)), .is (.bool (true)), .is (.int .i64 ((12 : Int))), .is (.bool (true)), .is (.bool (true)), .is (.bool (true))] rfl ⟨?_, ?_, ?_, ?_, ?_, ?_, ?_, ?_, ?_, ?_, ?_, ?_, ?_, ?_, ?_, ?_, ?_, ?_, ?_, trivial⟩ ?_
  · refine stepE rfl fun sdn sa sw sE sd sk => ?_
    have h4 : sa.eval (.tmp 4) = .int .i64 ((0 : Int)) := sk.old 4 rfl
    exact Runs.move rfl h4 ⟨Ext.refl _, rfl⟩
  · refine stepE rfl fun sdn sa sw sE sd sk => ?_
    have h24 : sa.eval (.tmp 24) = .int .i64 ((0 : Int)) := sk.fact 0 24 rfl (sd 0 rfl)
    exact Runs.bin rfl h24 rfl (by rfl) (bin_eql _ _ _ _) ⟨Ext.refl _, congrArg Value.bool (by decide)⟩
  · refine stepE rfl fun sdn sa sw sE sd sk => ?_
    have h25 : sa.eval (.tmp 25) = .bool (true) := sk.fact 1 25 rfl (sd 1 rfl)
    exact Runs.move rfl h25 ⟨Ext.refl _, rfl⟩
  · refine stepY (j := 2) (d := 26) (b := true) rfl rfl rfl (fun v w h => h) fun sdn sa sw sE sd sk => ?_
    have h2 : sa.eval (.tmp 2) = .pointer (some ⟨g1, 0, none⟩) := sk.old 2 rfl
    exact Runs.move rfl h2 ⟨Ext.refl _, rfl⟩
  · refine stepY (j := 2) (d := 26) (b := true) rfl rfl rfl (fun v w h => h) fun sdn sa sw sE sd sk => ?_
    have h27 : sa.eval (.tmp 27) = .pointer (some ⟨g1, 0, none⟩) := sk.fact 3 27 rfl (sd 3 rfl)
    refine Runs.call (f := 68) (vs := [.pointer (some ⟨g1, 0, none⟩)]) rfl rfl rfl (by simp only [List.map_toArray, List.map_cons, List.map_nil, h27] <;> rfl) (ent68 _ _) ((rpublic_any _ _ _ sw (o1.ext sE)).mono ?_); rintro e w' ⟨A', c', rfl, own, hx⟩; exact ⟨_, rfl, hx, A', c', rfl, own⟩
  · refine stepY (j := 2) (d := 26) (b := true) rfl rfl rfl (fun v w h => h) fun sdn sa sw sE sd sk => ?_
    have h3 : sa.eval (.tmp 3) = .pointer (some ⟨gx, 0, none⟩) := sk.old 3 rfl
    exact Runs.load rfl h3 (load_part (hBx.ext sE) 0 (vs := [.int .i64 ((3 : Int)), .slice (B) (32) (d), .int .i64 ((0 : Int)), .slice (P) (64) (d1), .slice (Q) (4) (d2)]) rfl Try.underlying41 rfl (by kernel_rfl)) ⟨Ext.refl _, rfl⟩
  · refine stepY (j := 2) (d := 26) (b := true) rfl rfl rfl (fun v w h => h) fun sdn sa sw sE sd sk => ?_
    obtain ⟨A28, c28, h28, r28⟩ := sk.fact 4 28 rfl (sd 4 rfl)
    have h29 : sa.eval (.tmp 29) = .agg #[.int .i64 ((3 : Int)), .slice (B) (32) (d), .int .i64 ((0 : Int)), .slice (P) (64) (d1), .slice (Q) (4) (d2)] := sk.fact 5 29 rfl (sd 5 rfl)
    refine Runs.call (f := 30) (vs := [.slice (A28) (32) (c28), .agg #[.int .i64 ((3 : Int)), .slice (B) (32) (d), .int .i64 ((0 : Int)), .slice (P) (64) (d1), .slice (Q) (4) (d2)]]) rfl rfl rfl (by simp only [List.map_toArray, List.map_cons, List.map_nil, h28, h29] <;> rfl) (ent30 _ _) ((cverify_any _ _ _ _ _ _ _ _ _ _ _ _ _ _ _ _ _ _ sw r28 (rR.ext sE) (rP.ext sE) (rQ.ext sE)).mono ?_); rintro e w' ⟨rfl, hx⟩; exact ⟨_, rfl, hx, congrArg Value.bool (Hv.out)⟩
  · refine stepE rfl fun sdn sa sw sE sd sk => ?_
    have h26 : sa.eval (.tmp 26) = .bool (true) := sk.fact 2 26 rfl (sd 2 rfl)
    have h30 : sa.eval (.tmp 30) = .bool (true) := sk.fact 6 30 rfl (sd 6 rfl)
    exact Runs.pick rfl h26 ⟨Ext.refl _, by first | exact h30 | simpa using h30⟩
  · refine stepE rfl fun sdn sa sw sE sd sk => ?_
    have h31 : sa.eval (.tmp 31) = .bool (true) := sk.fact 7 31 rfl (sd 7 rfl)
    exact Runs.move rfl h31 ⟨Ext.refl _, rfl⟩
  · refine stepY (j := 8) (d := 32) (b := true) rfl rfl rfl (fun v w h => h) fun sdn sa sw sE sd sk => ?_
    have h3 : sa.eval (.tmp 3) = .pointer (some ⟨gx, 0, none⟩) := sk.old 3 rfl
    refine Runs.of_run (r := .pointer (some ⟨gx, 0, none⟩)) (w' := sw) ?_ ⟨Ext.refl _, rfl⟩
    unfold execOp
    simp only [h3]
    go_simp
  · refine stepY (j := 8) (d := 32) (b := true) rfl rfl rfl (fun v w h => h) fun sdn sa sw sE sd sk => ?_
    have h33 : sa.eval (.tmp 33) = .pointer (some ⟨gx, 0, none⟩) := sk.fact 9 33 rfl (sd 9 rfl)
    refine Runs.of_run (r := .pointer (some ⟨gx, 0, none⟩)) (w' := sw) ?_ ⟨Ext.refl _, rfl⟩
    unfold execOp
    simp only [h33]
    go_simp
  · refine stepY (j := 8) (d := 32) (b := true) rfl rfl rfl (fun v w h => h) fun sdn sa sw sE sd sk => ?_
    have h34 : sa.eval (.tmp 34) = .pointer (some ⟨gx, 0, none⟩) := sk.fact 10 34 rfl (sd 10 rfl)
    exact Runs.load rfl h34 (run_load1 Try.underlying3 rfl ((hBx.ext sE).cell (i := 0) rfl)) ⟨Ext.refl _, rfl⟩
  · refine stepY (j := 8) (d := 32) (b := true) rfl rfl rfl (fun v w h => h) fun sdn sa sw sE sd sk => ?_
    have h35 : sa.eval (.tmp 35) = .int .i64 ((3 : Int)) := sk.fact 11 35 rfl (sd 11 rfl)
    exact Runs.bin rfl h35 rfl (by rfl) (bin_eql _ _ _ _) ⟨Ext.refl _, congrArg Value.bool (by decide)⟩
  · refine stepE rfl fun sdn sa sw sE sd sk => ?_
    have h32 : sa.eval (.tmp 32) = .bool (true) := sk.fact 8 32 rfl (sd 8 rfl)
    have h36 : sa.eval (.tmp 36) = .bool (true) := sk.fact 12 36 rfl (sd 12 rfl)
    exact Runs.pick rfl h32 ⟨Ext.refl _, by first | exact h36 | simpa using h36⟩
  · refine stepE rfl fun sdn sa sw sE sd sk => ?_
    have h37 : sa.eval (.tmp 37) = .bool (true) := sk.fact 13 37 rfl (sd 13 rfl)
    exact Runs.move rfl h37 ⟨Ext.refl _, rfl⟩
  · refine stepY (j := 14) (d := 38) (b := true) rfl rfl rfl (fun v w h => h) fun sdn sa sw sE sd sk => ?_
    have h6 : sa.eval (.tmp 6) = .int .i64 ((12 : Int)) := sk.old 6 rfl
    exact Runs.move rfl h6 ⟨Ext.refl _, rfl⟩
  · refine stepY (j := 14) (d := 38) (b := true) rfl rfl rfl (fun v w h => h) fun sdn sa sw sE sd sk => ?_
    have h39 : sa.eval (.tmp 39) = .int .i64 ((12 : Int)) := sk.fact 15 39 rfl (sd 15 rfl)
    exact Runs.bin rfl h39 rfl (by rfl) (bin_eql _ _ _ _) ⟨Ext.refl _, congrArg Value.bool (by decide)⟩
  · refine stepE rfl fun sdn sa sw sE sd sk => ?_
    have h38 : sa.eval (.tmp 38) = .bool (true) := sk.fact 14 38 rfl (sd 14 rfl)
    have h40 : sa.eval (.tmp 40) = .bool (true) := sk.fact 16 40 rfl (sd 16 rfl)
    exact Runs.pick rfl h38 ⟨Ext.refl _, by first | exact h40 | simpa using h40⟩
  · refine stepE rfl fun sdn sa sw sE sd sk => ?_
    have h41 : sa.eval (.tmp 41) = .bool (true) := sk.fact 17 41 rfl (sd 17 rfl)
    exact Runs.assign rfl h41 ⟨Ext.refl _, rfl⟩
  intro vals W5 hE5 hv5
  have e0 : vals 0 = .int .i64 ((0 : Int)) := hv5 0 (by omega) 24 rfl
  have e1 : vals 1 = .bool (true) := hv5 1 (by omega) 25 rfl
  have e2 : vals 2 = .bool (true) := hv5 2 (by omega) 26 rfl
  have e3 : vals 3 = .pointer (some ⟨g1, 0, none⟩) := hv5 3 (by omega) 27 rfl
  obtain ⟨A28, c28, e4, r28⟩ := hv5 4 (by omega) 28 rfl
  have e5 : vals 5 = .agg #[.int .i64 ((3 : Int)), .slice (B) (32) (d), .int .i64 ((0 : Int)), .slice (P) (64) (d1), .slice (Q) (4) (d2)] := hv5 5 (by omega) 29 rfl
  have e6 : vals 6 = .bool (true) := hv5 6 (by omega) 30 rfl
  have e7 : vals 7 = .bool (true) := hv5 7 (by omega) 31 rfl
  have e8 : vals 8 = .bool (true) := hv5 8 (by omega) 32 rfl
  have e9 : vals 9 = .pointer (some ⟨gx, 0, none⟩) := hv5 9 (by omega) 33 rfl
  have e10 : vals 10 = .pointer (some ⟨gx, 0, none⟩) := hv5 10 (by omega) 34 rfl
  have e11 : vals 11 = .int .i64 ((3 : Int)) := hv5 11 (by omega) 35 rfl
  have e12 : vals 12 = .bool (true) := hv5 12 (by omega) 36 rfl
  have e13 : vals 13 = .bool (true) := hv5 13 (by omega) 37 rfl
  have e14 : vals 14 = .bool (true) := hv5 14 (by omega) 38 rfl
  have e15 : vals 15 = .int .i64 ((12 : Int)) := hv5 15 (by omega) 39 rfl
  have e16 : vals 16 = .bool (true) := hv5 16 (by omega) 40 rfl
  have e17 : vals 17 = .bool (true) := hv5 17 (by omega) 41 rfl
  have e18 : vals 18 = .bool (true) := hv5 18 (by omega) 0 rfl
  simp only [putAll, Act.put, List.take_succ_cons, List.take_zero, List.drop_succ_cons, List.drop_zero, List.drop_nil, List.take_nil, Nat.reduceAdd, List.setIfInBounds_toArray, List.set_cons_succ, List.set_cons_zero, e0, e1, e2, e3, e4, e5, e6, e7, e8, e9, e10, e11, e12, e13, e14, e15, e16, e17, e18]
  clear hv5 e0 e1 e2 e3 e4 e5 e6 e7 e8 e9 e10 e11 e12 e13 e14 e15 e16 e17 e18
  go_wp2_with fail
  go_ret
  exact ⟨rfl, hEa.trans hE5⟩
theorem eq10_true (x k : Int) (B P Q B' P' Q' : Option Addr) (n d np cp nq cq n' d' np' cp' nq' cq' : Nat) (R : List UInt8) (Ps Qs : List (List UInt8)) (w : World) (rR : RB w B n d R) (rP : RBB w P np cp Ps) (rQ : RBB w Q nq cq Qs) (rR' : RB w B' n' d' R) (rP' : RBB w P' np' cp' Ps) (rQ' : RBB w Q' nq' cq' Qs) :
    Calls Try.prog 27 #[.agg #[.int .i64 x, .slice B n d, .int .i64 k, .slice P np cp, .slice Q nq cq], .agg #[.int .i64 x, .slice B' n' d', .int .i64 k, .slice P' np' cp', .slice Q' nq' cq']] w fun e w' => e = .returned (.bool true) ∧ Ext w w' := by
  have hEa := Ext.new w (.cells #[.int .i64 x, .slice B n d, .int .i64 k, .slice P np cp, .slice Q nq cq] 41)
  have hB := Blk.new w 41 #[.int .i64 x, .slice B n d, .int .i64 k, .slice P np cp, .slice Q nq cq]
  have hEn := Ext.new (w.alloc (.cells #[.int .i64 x, .slice B n d, .int .i64 k, .slice P np cp, .slice Q nq cq] 41)) (.cells #[.int .i64 x, .slice B' n' d', .int .i64 k, .slice P' np' cp', .slice Q' nq' cq'] 41)
  have hB' := Blk.new (w.alloc (.cells #[.int .i64 x, .slice B n d, .int .i64 k, .slice P np cp, .slice Q nq cq] 41)) 41 #[.int .i64 x, .slice B' n' d', .int .i64 k, .slice P' np' cp', .slice Q' nq' cq']
  rw [World.size_alloc] at hB'
  replace hB := hB.ext hEn
  replace hEa := hEa.trans hEn
  replace rR := rR.ext hEa
  replace rP := rP.ext hEa
  replace rQ := rQ.ext hEa
  replace rR' := rR'.ext hEa
  replace rP' := rP'.ext hEa
  replace rQ' := rQ'.ext hEa
  clear hEn
  go_enter Try.func27, Try.ntmps27
  go_wp2_with fail
  generalize (w.alloc (.cells #[.int .i64 x, .slice B n d, .int .i64 k, .slice P np cp, .slice Q nq cq] 41)).alloc (.cells #[.int .i64 x, .slice B' n' d', .int .i64 k, .slice P' np' cp', .slice Q' nq' cq'] 41) = w1 at *
  refine (rcsame_any x x B B' n d n' d' R R w1 rR rR').mono ?_
  rintro e w2 ⟨rfl, hE⟩
  have e1 : (decide (x = x) && decide (R = R)) = true := by simp
  rw [e1]
  replace hB := hB.ext hE
  replace hB' := hB'.ext hE
  replace rP := rP.ext hE
  replace rQ := rQ.ext hE
  replace rP' := rP'.ext hE
  replace rQ' := rQ'.ext hE
  replace hEa := hEa.trans hE
  clear e1 hE
  have y2 := hB.cell (i := 2) (v := .int .i64 k) rfl
  have y3 := hB.cell (i := 3) (v := .slice P np cp) rfl
  have y4 := hB.cell (i := 4) (v := .slice Q nq cq) rfl
  have z2 := hB'.cell (i := 2) (v := .int .i64 k) rfl
  have z3 := hB'.cell (i := 3) (v := .slice P' np' cp') rfl
  have z4 := hB'.cell (i := 4) (v := .slice Q' nq' cq') rfl
  go_wp2_with fail
  refine (rsame_true k P Q P' Q' np cp nq cq np' cp' nq' cq' Ps Qs w2 rP rQ rP' rQ').mono ?_
  rintro e w3 ⟨rfl, hE⟩
  go_wp2_with fail
  go_ret
  exact ⟨rfl, hEa.trans hE⟩
set_option maxHeartbeats 4000000 in
theorem signed_any (n index size root : Int) (w : World) (hn0 : -9223372036854775808 ≤ n) (hn1 : n ≤ 9223372036854775807) (hi0 : -9223372036854775808 ≤ index) (hi1 : index ≤ 9223372036854775807) (hs0 : -9223372036854775808 ≤ size) (hs1 : size ≤ 9223372036854775807) (hr0 : -9223372036854775808 ≤ root) (hr1 : root ≤ 9223372036854775807) :
    Calls Try.prog 22 #[.int .i64 n, .int .i64 index, .int .i64 size, .int .i64 root] w fun e w' => ∃ k : Nat, k = within index 0 15 ∧ k < 16 ∧ ∃ B d P d1 Q d2 X cx, e = .returned (.tuple #[.agg #[.int .i64 (within size 0 256), .slice B 32 d, .int .i64 (k : Int), .slice P 64 d1, .slice Q 4 d2], .slice X 32 cx]) ∧
      RB w' B 32 d (khash root) ∧ RBB w' P 64 d1 (sigP (seedL n) (bodyC checkL (within size 0 256) (khash root)) k) ∧ RBB w' Q 4 d2 (pathL (seedL n) k) ∧ RB w' X 32 cx (ownP (seedL n)) ∧ Ext w w' := by
  obtain ⟨k, hk⟩ : ∃ k : Nat, within index 0 15 = k := ⟨_, (Int.toNat_of_nonneg (within_in index 0 15 (by omega)).1).symm⟩
  have hk16 : k < 16 := by have := (within_in index 0 15 (by omega)).2; omega
  have hwi := fun w' => within_any index 0 15 w' hi0 hi1 (by omega) (by omega) (by omega)
  rw [hk] at hwi
  have Hwi := Lib.hid hwi
  have hws := fun w' => within_any size 0 256 w' hs0 hs1 (by omega) (by omega) (by omega)
  have Hws := Lib.hid hws
  have Hk := Lib.hid hk
  have hhs := fun w' => hash_any root w' hr0 hr1
  have Hhs := Lib.hid hhs
  have hsd := fun w' => seed_any n w' hn0 hn1
  have Hsd := Lib.hid hsd
  have hEa := Ext.new w (.cells #[.int .i64 0, .slice none 0 0, .int .i64 0, .slice none 0 0, .slice none 0 0] 41)
  have hB0 := Blk.new w 41 #[.int .i64 0, .slice none 0 0, .int .i64 0, .slice none 0 0, .slice none 0 0]
  clear hwi hk hws hhs hsd
  go_enter Try.func22, Try.ntmps22
  go_wp2_with fail
  generalize w.alloc (.cells #[.int .i64 0, .slice none 0 0, .int .i64 0, .slice none 0 0, .slice none 0 0] 41) = w0 at *
  refine (Hsd.out w0).mono ?_
  rintro e w1 ⟨A1, c1, rfl, own1, hE⟩
  obtain ⟨S, hS⟩ : ∃ S, S = seedL n := ⟨_, rfl⟩
  rw [← hS] at own1
  have rS := own1.rb
  have HS := Lib.hid hS
  replace hB0 := hB0.ext hE
  replace hEa := hEa.trans hE
  clear own1 hE hS Hsd
  go_wp2_with fail
  refine (rnew_any A1 c1 S w1 rS).mono ?_
  rintro e w2 ⟨g1, rfl, o1, hE⟩
  replace hB0 := hB0.ext hE
  replace hEa := hEa.trans hE
  clear hE rS
  go_wp2_with fail
  refine (Hws.out w2).mono ?_
  rintro e _ ⟨rfl, rfl⟩
  generalize hx : within size 0 256 = x at *
  have Hx := Lib.hid hx
  clear hx
  go_wp2_with fail
  refine (Hhs.out w2).mono ?_
  rintro e w3 ⟨B, d, rfl, own, hE⟩
  replace hB0 := hB0.ext hE
  replace o1 := o1.ext hE
  replace hEa := hEa.trans hE
  obtain ⟨R, hR⟩ : ∃ R, R = khash root := ⟨_, rfl⟩
  rw [← hR] at own
  have HR := Lib.hid hR
  have rR := own.rb
  have hEn := Ext.new w3 (.cells #[.int .i64 x, .slice B 32 d] 24)
  have hBc := Blk.new w3 24 #[.int .i64 x, .slice B 32 d]
  replace hB0 := hB0.ext hEn
  replace o1 := o1.ext hEn
  replace rR := rR.ext hEn
  replace hEa := hEa.trans hEn
  clear hE hEn own Hws Hhs hR
  go_upto_region 3 with (fail)
  generalize w3.alloc (.cells #[.int .i64 x, .slice B 32 d] 24) = w4 at *
  generalize w3.heap.size = gc at *
  refine par_ext (n := 10) (by kernel_rfl) [.is (.agg #[.int .i64 (x), .slice (B) (32) (d)]), .is (.pointer (some ⟨g1, 0, none⟩)), .is (.int .i64 (index)), .is (.int .i64 (((k : Nat) : Int))), .is (.agg #[.int .i64 (x), .slice (B) (32) (d)]), .rb (bodyC checkL x R), .ag [.val (.int .i64 (((k : Nat) : Int))), .bb (64) (sigP S (bodyC checkL x R) k), .bb (4) (pathL S k)], .ag [.val (.int .i64 (x)), .val (.slice (B) (32) (d)), .val (.int .i64 (((k : Nat) : Int))), .bb (64) (sigP S (bodyC checkL x R) k), .bb (4) (pathL S k)], .is (.pointer (some ⟨g1, 0, none⟩)), .rk (32) (ownP S)] rfl ⟨?_, ?_, ?_, ?_, ?_, ?_, ?_, ?_, ?_, ?_, trivial⟩ ?_
  · refine stepE rfl fun sdn sa sw sE sd sk => ?_
    have h11 : sa.eval (.tmp 11) = .pointer (some ⟨gc, 0, none⟩) := sk.old 11 rfl
    exact Runs.load rfl h11 (load_part (hBc.ext sE) 0 (vs := [.int .i64 (x), .slice (B) (32) (d)]) rfl Try.underlying24 rfl (by kernel_rfl)) ⟨Ext.refl _, rfl⟩
  · refine stepE rfl fun sdn sa sw sE sd sk => ?_
    have h10 : sa.eval (.tmp 10) = .pointer (some ⟨g1, 0, none⟩) := sk.old 10 rfl
    exact Runs.move rfl h10 ⟨Ext.refl _, rfl⟩
  · refine stepE rfl fun sdn sa sw sE sd sk => ?_
    have h1 : sa.eval (.tmp 1) = .int .i64 (index) := sk.old 1 rfl
    exact Runs.move rfl h1 ⟨Ext.refl _, rfl⟩
  · refine stepE rfl fun sdn sa sw sE sd sk => ?_
    have h22 : sa.eval (.tmp 22) = .int .i64 (index) := sk.fact 2 22 rfl (sd 2 rfl)
    refine Runs.call (f := 15) (vs := [.int .i64 (index), .int .i64 ((0 : Int)), .int .i64 ((15 : Int))]) rfl rfl rfl (by simp only [List.map_toArray, List.map_cons, List.map_nil, h22] <;> rfl) (ent15 _ _) ((Hwi.out sw).mono ?_); rintro e w' ⟨rfl, rfl⟩; exact ⟨_, rfl, Ext.refl _, rfl⟩
  · refine stepE rfl fun sdn sa sw sE sd sk => ?_
    have h11 : sa.eval (.tmp 11) = .pointer (some ⟨gc, 0, none⟩) := sk.old 11 rfl
    exact Runs.load rfl h11 (load_part (hBc.ext sE) 0 (vs := [.int .i64 (x), .slice (B) (32) (d)]) rfl Try.underlying24 rfl (by kernel_rfl)) ⟨Ext.refl _, rfl⟩
  · refine stepE rfl fun sdn sa sw sE sd sk => ?_
    have h24 : sa.eval (.tmp 24) = .agg #[.int .i64 (x), .slice (B) (32) (d)] := sk.fact 4 24 rfl (sd 4 rfl)
    refine Runs.call (f := 55) (vs := [.agg #[.int .i64 (x), .slice (B) (32) (d)]]) rfl rfl rfl (by simp only [List.map_toArray, List.map_cons, List.map_nil, h24] <;> rfl) (ent55 _ _) ((rbody_any _ _ _ _ _ sw (rR.ext sE)).mono ?_); rintro e w' ⟨A', n', c', rfl, own, hx⟩; exact ⟨_, rfl, hx, A', n', c', rfl, own⟩
  · refine stepE rfl fun sdn sa sw sE sd sk => ?_
    have h21 : sa.eval (.tmp 21) = .pointer (some ⟨g1, 0, none⟩) := sk.fact 1 21 rfl (sd 1 rfl)
    have h23 : sa.eval (.tmp 23) = .int .i64 (((k : Nat) : Int)) := sk.fact 3 23 rfl (sd 3 rfl)
    obtain ⟨A25, n25, c25, h25, r25⟩ := sk.fact 5 25 rfl (sd 5 rfl)
    refine Runs.call (f := 54) (vs := [.pointer (some ⟨g1, 0, none⟩), .int .i64 (((k : Nat) : Int)), .slice (A25) (n25) (c25)]) rfl rfl rfl (by simp only [List.map_toArray, List.map_cons, List.map_nil, h21, h23, h25] <;> rfl) (ent54 _ _) ((rsign_len _ _ _ _ _ k _ _ sw (o1.ext sE) r25 lenW (by omega)).mono ?_); rintro e w' ⟨P, d, Q, d', rfl, h1, h2, hx⟩; exact ⟨_, rfl, hx, P, d, h1, Q, d', h2, rfl⟩
  · refine stepE rfl fun sdn sa sw sE sd sk => ?_
    have h20 : sa.eval (.tmp 20) = .agg #[.int .i64 (x), .slice (B) (32) (d)] := sk.fact 0 20 rfl (sd 0 rfl)
    obtain ⟨A26x0, c26x0, r26x0, A26x1, c26x1, r26x1, h26⟩ := sk.fact 6 26 rfl (sd 6 rfl)
    replace h26 : sa.eval (.tmp 26) = .agg #[.int .i64 (((k : Nat) : Int)), .slice (A26x0) (64) (c26x0), .slice (A26x1) (4) (c26x1)] := h26
    refine Runs.of_run (r := .agg #[.int .i64 (x), .slice (B) (32) (d), .int .i64 (((k : Nat) : Int)), .slice (A26x0) (64) (c26x0), .slice (A26x1) (4) (c26x1)]) (w' := sw) ?_ ⟨Ext.refl _, ⟨_, _, r26x0, _, _, r26x1, rfl⟩⟩
    unfold execOp
    simp only [List.map_toArray, List.map_cons, List.map_nil, h20, h26]
    go_simp
  · refine stepE rfl fun sdn sa sw sE sd sk => ?_
    have h10 : sa.eval (.tmp 10) = .pointer (some ⟨g1, 0, none⟩) := sk.old 10 rfl
    exact Runs.move rfl h10 ⟨Ext.refl _, rfl⟩
  · refine stepE rfl fun sdn sa sw sE sd sk => ?_
    have h28 : sa.eval (.tmp 28) = .pointer (some ⟨g1, 0, none⟩) := sk.fact 8 28 rfl (sd 8 rfl)
    refine Runs.call (f := 68) (vs := [.pointer (some ⟨g1, 0, none⟩)]) rfl rfl rfl (by simp only [List.map_toArray, List.map_cons, List.map_nil, h28] <;> rfl) (ent68 _ _) ((rpublic_any _ _ _ sw (o1.ext sE)).mono ?_); rintro e w' ⟨A', c', rfl, own, hx⟩; exact ⟨_, rfl, hx, A', c', rfl, own⟩
  intro vals W3 hE3 hv3
  have e0 : vals 0 = .agg #[.int .i64 (x), .slice (B) (32) (d)] := hv3 0 (by omega) 20 rfl
  have e1 : vals 1 = .pointer (some ⟨g1, 0, none⟩) := hv3 1 (by omega) 21 rfl
  have e2 : vals 2 = .int .i64 (index) := hv3 2 (by omega) 22 rfl
  have e3 : vals 3 = .int .i64 (((k : Nat) : Int)) := hv3 3 (by omega) 23 rfl
  have e4 : vals 4 = .agg #[.int .i64 (x), .slice (B) (32) (d)] := hv3 4 (by omega) 24 rfl
  obtain ⟨A25, n25, c25, e5, r25⟩ := hv3 5 (by omega) 25 rfl
  obtain ⟨A26x0, c26x0, r26x0, A26x1, c26x1, r26x1, e6⟩ := hv3 6 (by omega) 26 rfl
  replace e6 : vals 6 = .agg #[.int .i64 (((k : Nat) : Int)), .slice (A26x0) (64) (c26x0), .slice (A26x1) (4) (c26x1)] := e6
  obtain ⟨A27x0, c27x0, r27x0, A27x1, c27x1, r27x1, e7⟩ := hv3 7 (by omega) 27 rfl
  replace e7 : vals 7 = .agg #[.int .i64 (x), .slice (B) (32) (d), .int .i64 (((k : Nat) : Int)), .slice (A27x0) (64) (c27x0), .slice (A27x1) (4) (c27x1)] := e7
  have e8 : vals 8 = .pointer (some ⟨g1, 0, none⟩) := hv3 8 (by omega) 28 rfl
  obtain ⟨A29, c29, e9, r29⟩ := hv3 9 (by omega) 29 rfl
  simp only [putAll, Act.put, List.take_succ_cons, List.take_zero, List.drop_succ_cons, List.drop_zero, List.drop_nil, List.take_nil, Nat.reduceAdd, List.setIfInBounds_toArray, List.set_cons_succ, List.set_cons_zero, e0, e1, e2, e3, e4, e5, e6, e7, e8, e9]
  clear hv3 e0 e1 e2 e3 e4 e5 e6 e7 e8 e9
  replace hB0 := hB0.ext hE3
  replace o1 := o1.ext hE3
  replace rR := rR.ext hE3
  replace hEa := hEa.trans hE3
  clear hE3
  have fhB00 := hB0.frozen 0
  have fhB01 := hB0.frozen 1
  have fhB02 := hB0.frozen 2
  have fhB03 := hB0.frozen 3
  have fhB04 := hB0.frozen 4
  have xhB00 := hB0.cell (i := 0) rfl
  have xhB01 := hB0.cell (i := 1) rfl
  have xhB02 := hB0.cell (i := 2) rfl
  have xhB03 := hB0.cell (i := 3) rfl
  have xhB04 := hB0.cell (i := 4) rfl
  go_wp2_with fail
  refine bodyPost_ret (results_sig rfl _ _ w.heap.size _ _ _ rfl (setall5 hB0 _ _ _ _ _) Try.underlying41 rfl rfl) rfl ?_
  rw [Hx.out, ← HR.out, ← HS.out]
  exact ⟨k, Hk.out.symm, hk16, _, _, _, _, _, _, _, _, rfl, rR.set5 hB0 _ _ _ _ _ _ _ _ _ _ _, r27x0.set5 (by omega) hB0 _ _ _ _ _ _ _ _ _ _ _, r27x1.set5 (by omega) hB0 _ _ _ _ _ _ _ _ _ _ _, r29.set5 hB0 _ _ _ _ _ _ _ _ _ _ _, ext5 hEa (Nat.le_refl _) _ _ _ _ _⟩
end Go.Proofs.Ythggfbpdhkpkjaa
namespace Go.Proofs.Ythggfbpdhkpkjaa
set_option maxRecDepth 100000
open Go Go.RowKit
theorem bin_adds {P : Program} {w : World} (t : TypeId) (L M : List UInt8) (h : L.length + M.length ≤ 9223372036854775807) : (binOp .add t (.string (str L)) (.string (str M))).run P w = .ok (.string (str (L ++ M))) w := by
  have e : str L ++ str M = str (L ++ M) := by
    apply ByteArray.ext
    simp [str]
  have h2 := run_string_add_sum (P := P) w (str L) (str M) (by rw [str_size, str_size]; exact h)
  rw [e] at h2
  simpa [binOp] using h2
theorem Runs.index {P : Program} {o : Oper} {ρ : Operand → Value} {w : World} {G : Value → World → Prop} {t : TypeId} {x i : Operand} {u v r : Value} (ho : o.op = .index t x i) (hx : ρ x = u) (hi : ρ i = v) (hr : (Instr.index t u v).run P w = .ok r w) (h : G r w) : Runs P o ρ w G := by
  refine Runs.of_run (r := r) (w' := w) ?_ h
  unfold execOp
  simp only [ho, hx, hi, Sem.run_bind, hr, Result.andThen_ok, Sem.run_pure]
end Go.Proofs.Ythggfbpdhkpkjaa
