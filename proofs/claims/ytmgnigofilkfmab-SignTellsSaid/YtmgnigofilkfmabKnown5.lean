/-
  law5.known, walked.
-/
import Derived.Test.YtmgnigofilkfmabSign3
import Derived.Test.YtmgnigofilkfmabParMk
import Derived.Test.YtmgnigofilkfmabSeed
namespace Go.Proofs.Ytmgnigofilkfmab
set_option maxRecDepth 100000
open Go Go.RowKit
theorem ssign_used (A B : Option Addr) (c m e' : Nat) (key : Int) (w : World) (h : key < 0 ∨ 16 ≤ key) :
    Calls Try.prog 32 #[.slice A 32 c, .int .i64 key, .slice B m e'] w fun e w' => e = .returned (.tuple #[.agg #[.int .i64 0, .slice none 0 0, .slice none 0 0], .int .i64 23]) ∧ Ext w w' := by
  have hB6 := Blk.new w 52 #[.int .i64 0, .slice none 0 0, .slice none 0 0]
  have hE := Ext.new w (.cells #[.int .i64 0, .slice none 0 0, .slice none 0 0] 52)
  go_enter Try.func32, Try.ntmps32
  by_cases h0 : key < 0
  · go_wp2_with fail
    refine bodyPost_ret (results_sig rfl _ _ w.heap.size _ _ _ rfl hB6 Try.underlying52 rfl rfl) rfl ?_
    exact ⟨rfl, hE⟩
  · have h1 : 16 ≤ key := by omega
    go_wp2_with fail
    refine bodyPost_ret (results_sig rfl _ _ w.heap.size _ _ _ rfl hB6 Try.underlying52 rfl rfl) rfl ?_
    exact ⟨rfl, hE⟩
theorem load_sig {w : World} {b : Nat} {v0 v1 v2 : Value} (hB : Blk w b 52 #[v0, v1, v2]) :
    (Instr.loadAt 52 (.pointer (some ⟨b, 0, none⟩))).run Try.prog w = .ok (.agg #[v0, v1, v2]) w := by
  have h0 : (Try.prog.info? 52).map (·.size) = some (#[v0, v1, v2] : Array Value).size := by kernel_rfl
  simp [Instr.loadAt, Instr.sureAddr, run_loadVar_row w b 52 52 #[v0, v1, v2] (0, 0) _ hB Try.underlying52 rfl h0]
theorem seedL_length (k : Int) : (seedL k).length = 32 := tagged_length _ _
theorem verB_own (S M : List UInt8) (k : Nat) (hk : k < 16) : verB (ownP S) M (k : Int) ((List.range 64).map (partS (digestW M) S k)) (pathL S k) = true := by
  obtain ⟨⟨h1, h2⟩, h3⟩ := root_sign M S (k : Int)
  have h4 : (pathL S k).length = 4 := by simp [pathL]
  have h5 : ∀ i, i < 4 → (lb (pathL S k) i).length = 32 := by
    intro i hi
    unfold pathL
    rw [lb_range _ hi]
    exact lb_lev_length S i _ (step_lt hk hi).1
  unfold verB rightB hashB
  rw [h3]
  have h6 : ((k : Int)).toNat = k := rfl
  rw [h6, climb_own S k hk]
  simp only [Bool.and_eq_true, decide_eq_true_eq]
  exact ⟨⟨⟨⟨by omega, by omega⟩, h1, fun i hi => h2 i (by omega)⟩, h4, fun i hi => h5 i (by omega)⟩, trivial⟩
theorem verB_none (X M : List UInt8) : verB X M 0 [] [] = false := by unfold verB rightB hashB; simp
set_option maxHeartbeats 4000000 in
theorem known5_any (w : World) : Calls Try.prog 34 #[] w fun e w' => e = .returned (.bool true) ∧ Ext w w' := by
  go_enter Try.func34, Try.ntmps34
  go_wp2_with fail
  refine (seed_any 1 w (by omega) (by omega)).mono ?_
  rintro e w1 ⟨A1, c1, rfl, own1, hE1⟩
  obtain ⟨S, hS⟩ : ∃ S, S = seedL 1 := ⟨_, rfl⟩
  rw [← hS] at own1
  clear hS
  have rS1 := own1.rb
  have es : (#[.int .u8 109] : Array Value).size = 1 := rfl
  have s0 := Lib.run_convert_bytes_const (P := Try.prog) w1 22 5 #[.int .u8 109] 1 1 Try.underlying22 Try.underlying5
  rw [es] at s0
  obtain ⟨w2, hw2⟩ : ∃ w2, w2 = w1.alloc (.cells #[.int .u8 109] 5 (1, 1 + 1)) := ⟨_, rfl⟩
  have rM2 : RB w2 (some ⟨w1.heap.size, 0, none⟩) 1 1 [109] := by rw [hw2]; exact RB.litM w1 [109] (1, 1 + 1) (n := 1) rfl (small_maxLen (by decide))
  have hE2 : Ext w1 w2 := by rw [hw2]; exact Ext.new w1 _
  rw [← hw2] at s0
  clear hw2
  go_wp2_with fail
  have hsg := ssign_any A1 (some ⟨w1.heap.size, 0, none⟩) c1 1 1 15 S [109] w2 (rS1.ext hE2) rM2 (by omega) (by omega)
  have e15 : ((15 : Nat) : Int) = 15 := rfl
  rw [e15] at hsg
  refine hsg.mono ?_
  rintro e w3 ⟨P, d, Q, d', rfl, rP, rQ, hE3⟩
  clear hsg s0
  have hE23 := hE2.trans hE3
  have hE4 := Ext.new w3 (.cells #[.int .i64 15, .slice P 64 d, .slice Q 4 d'] 52)
  have hB4 := Blk.new w3 52 #[.int .i64 15, .slice P 64 d, .slice Q 4 d']
  obtain ⟨w4, hw4⟩ : ∃ w4, w4 = w3.alloc (.cells #[.int .i64 15, .slice P 64 d, .slice Q 4 d'] 52) := ⟨_, rfl⟩
  rw [← hw4] at hE4 hB4
  have s1 := Lib.run_convert_bytes_const (P := Try.prog) w4 22 5 #[.int .u8 109] 1 1 Try.underlying22 Try.underlying5
  rw [es, hw4, World.size_alloc] at s1
  go_wp2_with fail
  rw [← hw4]
  have rM5 : RB (w4.alloc (.cells #[.int .u8 109] 5 (1, 1 + 1))) (some ⟨w4.heap.size, 0, none⟩) 1 1 [109] := RB.litM w4 [109] (1, 1 + 1) (n := 1) rfl (small_maxLen (by decide))
  have hE5 : Ext w4 (w4.alloc (.cells #[.int .u8 109] 5 (1, 1 + 1))) := Ext.new w4 _
  refine (ssign_used A1 _ c1 1 1 16 _ (.inr (by omega))).mono ?_
  rintro e w6 ⟨rfl, hE6⟩
  have hE46 := hE5.trans hE6
  have hE7 := Ext.new w6 (.cells #[.int .i64 0, .slice none 0 0, .slice none 0 0] 52)
  have hE47 := hE46.trans hE7
  have hE37 := hE4.trans hE47
  have rP7 := rP.ext hE37
  have rQ7 := rQ.ext hE37
  have hE27 := hE3.trans hE37
  have hB7 := hB4.ext hE47
  have rS7 := ((rS1.ext hE2).ext hE27)
  have hEa := (hE1.trans hE2).trans hE27
  clear s1 hw4 rM5 hE5 hE6 hE46 hE47 hE37 hE27 hB4 rS1 rM2 rP rQ hE1 hE2 hE23 hE3 hE4
  go_upto_region 4 with (fail)
  generalize w6.alloc (.cells #[.int .i64 0, .slice none 0 0, .slice none 0 0] 52) = w7 at *
  refine par_mk (n := 24) (by kernel_rfl) [.is (.int .i64 ((0 : Int))), .is (.bool (true)), .is (.bool (true)), .is (.slice (A1) (32) (c1)), .rbm (ownP S), .lit (w7.heap.size) 1 ([(109 : UInt8)]), .rbk (1) ([(109 : UInt8)]), .is (.agg #[.int .i64 15, .slice P 64 d, .slice Q 4 d']), .is (.bool (true)), .is (.bool (true)), .is (.bool (true)), .is (.int .i64 ((23 : Int))), .is (.bool (true)), .is (.bool (true)), .is (.bool (true)), .is (.slice (A1) (32) (c1)), .rbm (ownP S), .lit (w7.heap.size) 1 ([(109 : UInt8)]), .rbk (1) ([(109 : UInt8)]), .is (.agg #[.int .i64 0, .slice none 0 0, .slice none 0 0]), .is (.bool (false)), .is (.bool (true)), .is (.bool (true)), .is (.bool (true))] rfl ⟨?_, ?_, ?_, ?_, ?_, ?_, ?_, ?_, ?_, ?_, ?_, ?_, ?_, ?_, ?_, ?_, ?_, ?_, ?_, ?_, ?_, ?_, ?_, ?_, trivial⟩ ?_
  · refine stepEM rfl fun sdn sa sw sE sd sk => ?_
    have h3 : sa.eval (.tmp 3) = .int .i64 ((0 : Int)) := sk.old 3 rfl
    exact Runs.move rfl h3 ⟨Ext.refl _, rfl⟩
  · refine stepEM rfl fun sdn sa sw sE sd sk => ?_
    have h21 : sa.eval (.tmp 21) = .int .i64 ((0 : Int)) := sk.fact 0 21 rfl (sd 0 rfl)
    exact Runs.bin rfl h21 rfl (by rfl) (bin_eql _ _ _ _) ⟨Ext.refl _, congrArg Value.bool (decide_eq_true rfl)⟩
  · refine stepEM rfl fun sdn sa sw sE sd sk => ?_
    have h22 : sa.eval (.tmp 22) = .bool (true) := sk.fact 1 22 rfl (sd 1 rfl)
    exact Runs.move rfl h22 ⟨Ext.refl _, rfl⟩
  · refine stepYM (j := 2) (d := 23) (b := true) rfl rfl rfl (fun v w h => h) fun sdn sa sw sE sd sk => ?_
    have h1 : sa.eval (.tmp 1) = .slice (A1) (32) (c1) := sk.old 1 rfl
    exact Runs.move rfl h1 ⟨Ext.refl _, rfl⟩
  · refine stepYM (j := 2) (d := 23) (b := true) rfl rfl rfl (fun v w h => h) fun sdn sa sw sE sd sk => ?_
    have h24 : sa.eval (.tmp 24) = .slice (A1) (32) (c1) := sk.fact 3 24 rfl (sd 3 rfl)
    refine Runs.call (f := 31) (vs := [.slice (A1) (32) (c1)]) rfl rfl rfl (by simp only [List.map_toArray, List.map_cons, List.map_nil, h24] <;> rfl) (ent31 _ _) ((spublic_any _ _ _ sw (rS7.ext sE)).mono ?_); rintro e w' ⟨A', c', rfl, own, hx⟩; exact ⟨_, rfl, hx, A', 32, c', rfl, own.rb⟩
  · refine stepYM (j := 2) (d := 23) (b := true) rfl rfl rfl (fun v w h => h) fun sdn sa sw sE sd sk => ?_
    have hlit : (.int .u8 109 : Value) = .int .u8 (u8i (109 : UInt8)) := rfl
    exact Runs.lit1 (b0 := 109) rfl hlit (fun w1 e1 o1 => ⟨e1, _, rfl, o1.rb, o1.shape, sE.size, (o1.lt (k := _) rfl).2⟩)
  · refine stepYK (j := 2) (d := 23) (b := true) rfl rfl rfl (fun v w h => h) fun sdn sa sw sE sd sk => ?_
    obtain ⟨g26, h26, r26, s26, b26, l26⟩ := sk.fact 5 26 rfl (sd 5 rfl)
    exact Runs.conv_w rfl h26 (run_mark sw _ _ g26 1 1 1 Try.underlying22 Try.underlying5 s26) ⟨⟨Mk.freeze _ _ _, sE.freeze b26⟩, _, _, rfl, r26.mk_ (Mk.freeze _ _ _)⟩
  · refine stepYM (j := 2) (d := 23) (b := true) rfl rfl rfl (fun v w h => h) fun sdn sa sw sE sd sk => ?_
    have h2 : sa.eval (.tmp 2) = .pointer (some ⟨w3.heap.size, 0, none⟩) := sk.old 2 rfl
    exact Runs.load rfl h2 (load_sig (hB7.ext sE)) ⟨Ext.refl _, rfl⟩
  · refine stepYM (j := 2) (d := 23) (b := true) rfl rfl rfl (fun v w h => h) fun sdn sa sw sE sd sk => ?_
    obtain ⟨A25, n25, c25, h25, r25⟩ := sk.fact 4 25 rfl (sd 4 rfl)
    obtain ⟨A27, c27, h27, r27⟩ := sk.fact 6 27 rfl (sd 6 rfl)
    have h28 : sa.eval (.tmp 28) = .agg #[.int .i64 15, .slice P 64 d, .slice Q 4 d'] := sk.fact 7 28 rfl (sd 7 rfl)
    refine Runs.call (f := 33) (vs := [.slice (A25) (n25) (c25), .slice (A27) (1) (c27), .agg #[.int .i64 15, .slice P 64 d, .slice Q 4 d']]) rfl rfl rfl (by simp only [List.map_toArray, List.map_cons, List.map_nil, h25, h27, h28] <;> rfl) (ent33 _ _) ((sverify_any _ _ P Q _ _ _ _ 64 d 4 d' 15 _ [109] ((List.range 64).map (partS (digestW [109]) S (15 : Int))) (pathL S 15) sw r25 r27 (by omega) (rP7.ext sE) (rQ7.ext sE)).mono ?_); rintro e w' ⟨rfl, hx⟩; exact ⟨_, rfl, hx, congrArg Value.bool (verB_own S [109] 15 (by omega))⟩
  · refine stepEM rfl fun sdn sa sw sE sd sk => ?_
    have h23 : sa.eval (.tmp 23) = .bool (true) := sk.fact 2 23 rfl (sd 2 rfl)
    have h29 : sa.eval (.tmp 29) = .bool (true) := sk.fact 8 29 rfl (sd 8 rfl)
    exact Runs.pick rfl h23 ⟨Ext.refl _, by first | exact h29 | simpa using h29⟩
  · refine stepEM rfl fun sdn sa sw sE sd sk => ?_
    have h30 : sa.eval (.tmp 30) = .bool (true) := sk.fact 9 30 rfl (sd 9 rfl)
    exact Runs.move rfl h30 ⟨Ext.refl _, rfl⟩
  · refine stepYM (j := 10) (d := 31) (b := true) rfl rfl rfl (fun v w h => h) fun sdn sa sw sE sd sk => ?_
    have h5 : sa.eval (.tmp 5) = .int .i64 ((23 : Int)) := sk.old 5 rfl
    exact Runs.move rfl h5 ⟨Ext.refl _, rfl⟩
  · refine stepYM (j := 10) (d := 31) (b := true) rfl rfl rfl (fun v w h => h) fun sdn sa sw sE sd sk => ?_
    have h32 : sa.eval (.tmp 32) = .int .i64 ((23 : Int)) := sk.fact 11 32 rfl (sd 11 rfl)
    exact Runs.bin rfl h32 rfl (by rfl) (bin_eql _ _ _ _) ⟨Ext.refl _, congrArg Value.bool (decide_eq_true rfl)⟩
  · refine stepEM rfl fun sdn sa sw sE sd sk => ?_
    have h31 : sa.eval (.tmp 31) = .bool (true) := sk.fact 10 31 rfl (sd 10 rfl)
    have h33 : sa.eval (.tmp 33) = .bool (true) := sk.fact 12 33 rfl (sd 12 rfl)
    exact Runs.pick rfl h31 ⟨Ext.refl _, by first | exact h33 | simpa using h33⟩
  · refine stepEM rfl fun sdn sa sw sE sd sk => ?_
    have h34 : sa.eval (.tmp 34) = .bool (true) := sk.fact 13 34 rfl (sd 13 rfl)
    exact Runs.move rfl h34 ⟨Ext.refl _, rfl⟩
  · refine stepYM (j := 14) (d := 35) (b := true) rfl rfl rfl (fun v w h => h) fun sdn sa sw sE sd sk => ?_
    have h1 : sa.eval (.tmp 1) = .slice (A1) (32) (c1) := sk.old 1 rfl
    exact Runs.move rfl h1 ⟨Ext.refl _, rfl⟩
  · refine stepYM (j := 14) (d := 35) (b := true) rfl rfl rfl (fun v w h => h) fun sdn sa sw sE sd sk => ?_
    have h36 : sa.eval (.tmp 36) = .slice (A1) (32) (c1) := sk.fact 15 36 rfl (sd 15 rfl)
    refine Runs.call (f := 31) (vs := [.slice (A1) (32) (c1)]) rfl rfl rfl (by simp only [List.map_toArray, List.map_cons, List.map_nil, h36] <;> rfl) (ent31 _ _) ((spublic_any _ _ _ sw (rS7.ext sE)).mono ?_); rintro e w' ⟨A', c', rfl, own, hx⟩; exact ⟨_, rfl, hx, A', 32, c', rfl, own.rb⟩
  · refine stepYM (j := 14) (d := 35) (b := true) rfl rfl rfl (fun v w h => h) fun sdn sa sw sE sd sk => ?_
    have hlit : (.int .u8 109 : Value) = .int .u8 (u8i (109 : UInt8)) := rfl
    exact Runs.lit1 (b0 := 109) rfl hlit (fun w1 e1 o1 => ⟨e1, _, rfl, o1.rb, o1.shape, sE.size, (o1.lt (k := _) rfl).2⟩)
  · refine stepYK (j := 14) (d := 35) (b := true) rfl rfl rfl (fun v w h => h) fun sdn sa sw sE sd sk => ?_
    obtain ⟨g38, h38, r38, s38, b38, l38⟩ := sk.fact 17 38 rfl (sd 17 rfl)
    exact Runs.conv_w rfl h38 (run_mark sw _ _ g38 1 1 1 Try.underlying22 Try.underlying5 s38) ⟨⟨Mk.freeze _ _ _, sE.freeze b38⟩, _, _, rfl, r38.mk_ (Mk.freeze _ _ _)⟩
  · refine stepYM (j := 14) (d := 35) (b := true) rfl rfl rfl (fun v w h => h) fun sdn sa sw sE sd sk => ?_
    refine Runs.of_run (r := .agg #[.int .i64 0, .slice none 0 0, .slice none 0 0]) (w' := sw) ?_ ⟨Ext.refl _, rfl⟩
    unfold execOp
    simp only [List.map_toArray, List.map_cons, List.map_nil]
    go_simp
  · refine stepYM (j := 14) (d := 35) (b := true) rfl rfl rfl (fun v w h => h) fun sdn sa sw sE sd sk => ?_
    obtain ⟨A37, n37, c37, h37, r37⟩ := sk.fact 16 37 rfl (sd 16 rfl)
    obtain ⟨A39, c39, h39, r39⟩ := sk.fact 18 39 rfl (sd 18 rfl)
    have h40 : sa.eval (.tmp 40) = .agg #[.int .i64 0, .slice none 0 0, .slice none 0 0] := sk.fact 19 40 rfl (sd 19 rfl)
    refine Runs.call (f := 33) (vs := [.slice (A37) (n37) (c37), .slice (A39) (1) (c39), .agg #[.int .i64 0, .slice none 0 0, .slice none 0 0]]) rfl rfl rfl (by simp only [List.map_toArray, List.map_cons, List.map_nil, h37, h39, h40] <;> rfl) (ent33 _ _) ((sverify_any _ _ none none _ _ _ _ 0 0 0 0 0 _ [109] [] [] sw r37 r39 (by omega) (RBB.nil_ _) (RBB.nil_ _)).mono ?_); rintro e w' ⟨rfl, hx⟩; exact ⟨_, rfl, hx, congrArg Value.bool (verB_none _ _)⟩
  · refine stepYM (j := 14) (d := 35) (b := true) rfl rfl rfl (fun v w h => h) fun sdn sa sw sE sd sk => ?_
    have h41 : sa.eval (.tmp 41) = .bool (false) := sk.fact 20 41 rfl (sd 20 rfl)
    exact Runs.un rfl h41 (by rfl) ⟨Ext.refl _, rfl⟩
  · refine stepEM rfl fun sdn sa sw sE sd sk => ?_
    have h35 : sa.eval (.tmp 35) = .bool (true) := sk.fact 14 35 rfl (sd 14 rfl)
    have h42 : sa.eval (.tmp 42) = .bool (true) := sk.fact 21 42 rfl (sd 21 rfl)
    exact Runs.pick rfl h35 ⟨Ext.refl _, by first | exact h42 | simpa using h42⟩
  · refine stepEM rfl fun sdn sa sw sE sd sk => ?_
    have h43 : sa.eval (.tmp 43) = .bool (true) := sk.fact 22 43 rfl (sd 22 rfl)
    exact Runs.assign rfl h43 ⟨Ext.refl _, rfl⟩
  intro vals W9 hE hv
  have e0 : vals 0 = .int .i64 ((0 : Int)) := hv 0 (by omega) 21 rfl
  have e1 : vals 1 = .bool (true) := hv 1 (by omega) 22 rfl
  have e2 : vals 2 = .bool (true) := hv 2 (by omega) 23 rfl
  have e3 : vals 3 = .slice (A1) (32) (c1) := hv 3 (by omega) 24 rfl
  obtain ⟨A25, n25, c25, e4, r25⟩ := hv 4 (by omega) 25 rfl
  obtain ⟨g26, e5, r26, s26, b26, l26⟩ := hv 5 (by omega) 26 rfl
  obtain ⟨A27, c27, e6, r27⟩ := hv 6 (by omega) 27 rfl
  have e7 : vals 7 = .agg #[.int .i64 15, .slice P 64 d, .slice Q 4 d'] := hv 7 (by omega) 28 rfl
  have e8 : vals 8 = .bool (true) := hv 8 (by omega) 29 rfl
  have e9 : vals 9 = .bool (true) := hv 9 (by omega) 30 rfl
  have e10 : vals 10 = .bool (true) := hv 10 (by omega) 31 rfl
  have e11 : vals 11 = .int .i64 ((23 : Int)) := hv 11 (by omega) 32 rfl
  have e12 : vals 12 = .bool (true) := hv 12 (by omega) 33 rfl
  have e13 : vals 13 = .bool (true) := hv 13 (by omega) 34 rfl
  have e14 : vals 14 = .bool (true) := hv 14 (by omega) 35 rfl
  have e15 : vals 15 = .slice (A1) (32) (c1) := hv 15 (by omega) 36 rfl
  obtain ⟨A37, n37, c37, e16, r37⟩ := hv 16 (by omega) 37 rfl
  obtain ⟨g38, e17, r38, s38, b38, l38⟩ := hv 17 (by omega) 38 rfl
  obtain ⟨A39, c39, e18, r39⟩ := hv 18 (by omega) 39 rfl
  have e19 : vals 19 = .agg #[.int .i64 0, .slice none 0 0, .slice none 0 0] := hv 19 (by omega) 40 rfl
  have e20 : vals 20 = .bool (false) := hv 20 (by omega) 41 rfl
  have e21 : vals 21 = .bool (true) := hv 21 (by omega) 42 rfl
  have e22 : vals 22 = .bool (true) := hv 22 (by omega) 43 rfl
  have e23 : vals 23 = .bool (true) := hv 23 (by omega) 0 rfl
  simp only [putAll, Act.put, List.take_succ_cons, List.take_zero, List.drop_succ_cons, List.drop_zero, List.drop_nil, List.take_nil, Nat.reduceAdd, List.setIfInBounds_toArray, List.set_cons_succ, List.set_cons_zero, e0, e1, e2, e3, e4, e5, e6, e7, e8, e9, e10, e11, e12, e13, e14, e15, e16, e17, e18, e19, e20, e21, e22, e23]
  clear hv e0 e1 e2 e3 e4 e5 e6 e7 e8 e9 e10 e11 e12 e13 e14 e15 e16 e17 e18 e19 e20 e21 e22 e23
  go_wp2_with fail
  go_ret
  exact ⟨rfl, hEa.trans hE⟩
end Go.Proofs.Ytmgnigofilkfmab
