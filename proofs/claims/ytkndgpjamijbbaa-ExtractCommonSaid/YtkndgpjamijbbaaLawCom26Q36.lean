/-
  law26's known, walked.
-/
import Derived.Test.YtkndgpjamijbbaaLawCom26Q35
import Derived.Test.YtkndgpjamijbbaaLawCom26Q21
namespace Go.Proofs.Ytkndgpjamijbbaa
set_option maxRecDepth 100000
open Go Go.RowKit
theorem known_trees : treesB [[1]] [[1]] = false := by
  rw [treesB_is (by decide)]
  simp
theorem known_pair : pairL [[97], [98]] = none := by
  have h : clashB [[97], [98]] (1, 0) = false := by
    unfold clashB
    rw [decide_eq_false (show ¬ sha (lb [[97], [98]] (1, 0).2) = sha (lb [[97], [98]] (1, 0).1) from sha_ab)]
    rfl
  unfold pairL
  have e : pairsN [[(97 : UInt8)], [98]].length = [(1, 0)] := by decide
  rw [e]
  simp [h]
set_option maxHeartbeats 8000000 in
theorem known26_any (w : World) : Calls Try.prog 15 #[] w fun e w' => e = .returned (.bool true) ∧ Ext w w' := by
  have es : (#[.int .u8 97] : Array Value).size = 1 := rfl
  have s0 := Lib.run_convert_bytes_const (P := Try.prog) w 22 5 #[.int .u8 97] 1 1 Try.underlying22 Try.underlying5
  rw [es] at s0
  obtain ⟨w1, hw1⟩ : ∃ w1, w1 = w.alloc (.cells #[.int .u8 97] 5 (1, 1 + 1)) := ⟨_, rfl⟩
  have rA1 : RB w1 (some ⟨w.heap.size, 0, none⟩) 1 1 [97] := by rw [hw1]; exact RB.litM w [97] (1, 1 + 1) (n := 1) rfl (small_maxLen (by decide))
  have hE1 : Ext w w1 := by rw [hw1]; exact Ext.new w _
  rw [← hw1] at s0
  clear hw1
  have es2 : (#[.int .u8 98] : Array Value).size = 1 := rfl
  have s1 := Lib.run_convert_bytes_const (P := Try.prog) w1 22 5 #[.int .u8 98] 1 1 Try.underlying22 Try.underlying5
  rw [es2] at s1
  obtain ⟨w2, hw2⟩ : ∃ w2, w2 = w1.alloc (.cells #[.int .u8 98] 5 (1, 1 + 1)) := ⟨_, rfl⟩
  have rB2 : RB w2 (some ⟨w1.heap.size, 0, none⟩) 1 1 [98] := by rw [hw2]; exact RB.litM w1 [98] (1, 1 + 1) (n := 1) rfl (small_maxLen (by decide))
  have hE2 : Ext w1 w2 := by rw [hw2]; exact Ext.new w1 _
  rw [← hw2] at s1
  clear hw2 es es2
  go_enter Try.func15, Try.ntmps15
  go_wp2_with fail
  have hE3 := Ext.new w2 (.cells #[.slice (some ⟨w.heap.size, 0, none⟩) 1 1, .slice (some ⟨w1.heap.size, 0, none⟩) 1 1] 22)
  have rL := RBB.of2 (rA1.ext hE2) rB2 22
  have hEa := (hE1.trans hE2).trans hE3
  clear s0 s1 hE1 hE2 hE3 rA1 rB2
  refine (pair_any _ 2 2 _ _ rL (by omega) (by decide)).mono ?_
  rintro e w4 ⟨P, np, cp, Q, nq, cq, rfl, _, _, hE⟩
  replace hEa := hEa.trans hE
  clear hE rL
  rw [known_pair]
  go_upto_region 2 with (fail)
  refine seq_ext (n := 9) (by kernel_rfl) [.rk (1) ([(1 : UInt8)]), .rws (1) ([[(1 : UInt8)]]), .rk (1) ([(1 : UInt8)]), .rws (1) ([[(1 : UInt8)]]), .ssb (treesP ([[(1 : UInt8)]]) ([[(1 : UInt8)]])) (treesQ ([[(1 : UInt8)]]) ([[(1 : UInt8)]])) (false), .ssb (treesP ([[(1 : UInt8)]]) ([[(1 : UInt8)]])) (treesQ ([[(1 : UInt8)]]) ([[(1 : UInt8)]])) (false), .rb (treesP ([[(1 : UInt8)]]) ([[(1 : UInt8)]])), .rb (treesQ ([[(1 : UInt8)]]) ([[(1 : UInt8)]])), .is (.bool (false))] rfl ⟨?_, ?_, ?_, ?_, ?_, ?_, ?_, ?_, ?_, trivial⟩ ?_
  · refine stepE rfl fun sdn sa sw sE sd sk => ?_
    have hl0 : (.int .u8 1 : Value) = .int .u8 (u8i (1 : UInt8)) := rfl
    exact Runs.lit1 (b0 := (1 : UInt8)) rfl hl0 (fun w1 e1 o1 => ⟨e1, _, _, rfl, o1.rb⟩)
  · refine stepE rfl fun sdn sa sw sE sd sk => ?_
    obtain ⟨A20, c20, h20, r20⟩ := sk.fact 0 20 rfl (sd 0 rfl)
    exact Runs.ss1 rfl h20 r20 (fun w1 e1 b1 => ⟨e1, _, _, rfl, b1⟩)
  · refine stepE rfl fun sdn sa sw sE sd sk => ?_
    have hl0 : (.int .u8 1 : Value) = .int .u8 (u8i (1 : UInt8)) := rfl
    exact Runs.lit1 (b0 := (1 : UInt8)) rfl hl0 (fun w1 e1 o1 => ⟨e1, _, _, rfl, o1.rb⟩)
  · refine stepE rfl fun sdn sa sw sE sd sk => ?_
    obtain ⟨A22, c22, h22, r22⟩ := sk.fact 2 22 rfl (sd 2 rfl)
    exact Runs.ss1 rfl h22 r22 (fun w1 e1 b1 => ⟨e1, _, _, rfl, b1⟩)
  · refine stepE rfl fun sdn sa sw sE sd sk => ?_
    obtain ⟨A21, c21, h21, r21⟩ := sk.fact 1 21 rfl (sd 1 rfl)
    obtain ⟨A23, c23, h23, r23⟩ := sk.fact 3 23 rfl (sd 3 rfl)
    refine Runs.call (f := 14) (vs := [.slice (A21) (1) (c21), .slice (A23) (1) (c23)]) rfl rfl rfl (by simp only [List.map_toArray, List.map_cons, List.map_nil, h21, h23] <;> rfl) (ent14 _ _) ((trees_any _ _ _ _ _ _ _ _ sw r21 r23 (by omega) (by omega) (by decide) (by decide)).mono ?_); rintro e w' ⟨P', n', p', Q', m', q', rfl, rP, rQ, hx⟩; exact ⟨_, rfl, hx, _, _, _, _, _, _, congrArg (fun b => Value.tuple #[.slice P' n' p', .slice Q' m' q', .bool b]) (known_trees), rP, rQ⟩
  · refine stepE rfl fun sdn sa sw sE sd sk => ?_
    obtain ⟨A24, n24, c24, B24, m24, d24, h24, r24, s24⟩ := sk.fact 4 24 rfl (sd 4 rfl)
    exact Runs.move rfl h24 ⟨Ext.refl _, _, _, _, _, _, _, rfl, r24, s24⟩
  · refine stepE rfl fun sdn sa sw sE sd sk => ?_
    obtain ⟨A19, n19, c19, B19, m19, d19, h19, r19, s19⟩ := sk.fact 5 19 rfl (sd 5 rfl)
    refine Runs.of_run (r := .slice (A19) (n19) (c19)) (w' := sw) ?_ ⟨Ext.refl _, _, _, _, rfl, r19⟩
    unfold execOp
    simp only [h19]
    go_simp
  · refine stepE rfl fun sdn sa sw sE sd sk => ?_
    obtain ⟨A19, n19, c19, B19, m19, d19, h19, r19, s19⟩ := sk.fact 5 19 rfl (sd 5 rfl)
    refine Runs.of_run (r := .slice (B19) (m19) (d19)) (w' := sw) ?_ ⟨Ext.refl _, _, _, _, rfl, s19⟩
    unfold execOp
    simp only [h19]
    go_simp
  · refine stepE rfl fun sdn sa sw sE sd sk => ?_
    obtain ⟨A19, n19, c19, B19, m19, d19, h19, r19, s19⟩ := sk.fact 5 19 rfl (sd 5 rfl)
    refine Runs.of_run (r := .bool (false)) (w' := sw) ?_ ⟨Ext.refl _, rfl⟩
    unfold execOp
    simp only [h19]
    go_simp
  intro vals W2 hE2 hv2
  obtain ⟨A20, c20, e0, r20⟩ := hv2 0 (by omega) 20 rfl
  obtain ⟨A21, c21, e1, r21⟩ := hv2 1 (by omega) 21 rfl
  obtain ⟨A22, c22, e2, r22⟩ := hv2 2 (by omega) 22 rfl
  obtain ⟨A23, c23, e3, r23⟩ := hv2 3 (by omega) 23 rfl
  obtain ⟨A24, n24, c24, B24, m24, d24, e4, r24, s24⟩ := hv2 4 (by omega) 24 rfl
  obtain ⟨A19, n19, c19, B19, m19, d19, e5, r19, s19⟩ := hv2 5 (by omega) 19 rfl
  obtain ⟨A25, n25, c25, e6, r25⟩ := hv2 6 (by omega) 25 rfl
  obtain ⟨A26, n26, c26, e7, r26⟩ := hv2 7 (by omega) 26 rfl
  have e8 : vals 8 = .bool (false) := hv2 8 (by omega) 27 rfl
  simp only [putAll, Act.put, List.take_succ_cons, List.take_zero, List.drop_succ_cons, List.drop_zero, List.drop_nil, List.take_nil, Nat.reduceAdd, List.setIfInBounds_toArray, List.set_cons_succ, List.set_cons_zero, e0, e1, e2, e3, e4, e5, e6, e7, e8]
  clear hv2 e0 e1 e2 e3 e4 e5 e6 e7 e8
  replace hEa := hEa.trans hE2
  clear hE2 r25 r26 r20 r21 r22 r23
  go_wp2_with fail
  refine (seed_any 0 W2 (by omega) (by omega)).mono ?_
  rintro e w5 ⟨A1, c1, rfl, own1, hE⟩
  replace hEa := hEa.trans hE
  obtain ⟨S, hS⟩ : ∃ S, S = seedL 0 := ⟨_, rfl⟩
  rw [← hS] at own1
  clear hS hE
  have rS := own1.rb
  clear own1
  go_wp2_with fail
  refine (rnew_any A1 c1 S w5 rS).mono ?_
  rintro e w6 ⟨g7, rfl, o7, hE⟩
  replace hEa := hEa.trans hE
  clear hE rS
  have es : (#[.int .u8 109] : Array Value).size = 1 := rfl
  have s0 := Lib.run_convert_bytes_const (P := Try.prog) w6 22 5 #[.int .u8 109] 1 1 Try.underlying22 Try.underlying5
  rw [es] at s0
  obtain ⟨w2, hw2⟩ : ∃ w2, w2 = w6.alloc (.cells #[.int .u8 109] 5 (1, 1 + 1)) := ⟨_, rfl⟩
  have rM2 : RB w2 (some ⟨w6.heap.size, 0, none⟩) 1 1 [109] := by rw [hw2]; exact RB.litM w6 [109] (1, 1 + 1) (n := 1) rfl (small_maxLen (by decide))
  have hE2 : Ext w6 w2 := by rw [hw2]; exact Ext.new w6 _
  rw [← hw2] at s0
  clear hw2 es
  go_wp2_with fail
  have hsg := rsign_len (some ⟨w6.heap.size, 0, none⟩) g7 _ 1 1 0 S [109] w2 (o7.ext hE2) rM2 (by decide) (by omega)
  have e0 : ((0 : Nat) : Int) = 0 := rfl
  rw [e0] at hsg
  refine hsg.mono ?_
  rintro e w3 ⟨P1, d, Q1, dq, rfl, rP, rQ, hE⟩
  clear hsg s0 rM2
  replace hE := hE2.trans hE
  replace o7 := o7.ext hE
  replace hEa := hEa.trans hE
  have hv : verB (ownP S) [109] 0 (sigP S [109] 0) (pathL S 0) = true := verB_own S [109] 0 (by omega)
  have Hv := Lib.hid hv
  have hEn := Ext.new w3 (.cells #[.int .i64 0, .slice P1 64 d, .slice Q1 4 dq] 42)
  have hB8 := Blk.new w3 42 #[.int .i64 0, .slice P1 64 d, .slice Q1 4 dq]
  replace o7 := o7.ext hEn
  replace rP := rP.ext hEn
  replace rQ := rQ.ext hEn
  replace hEa := hEa.trans hEn
  clear hE hE2 hEn hv
  obtain ⟨w7, hw7⟩ : ∃ w7, w7 = w3.alloc (.cells #[.int .i64 0, .slice P1 64 d, .slice Q1 4 dq] 42) := ⟨_, rfl⟩
  rw [← hw7] at o7 rP rQ hB8 hEa
  go_upto_region 5 with (fail)
  rw [← hw7]
  clear hw7
  generalize w3.heap.size = g8 at *
  refine par_mk (n := 35) (by kernel_rfl) [.is (.bool (false)), .is (.bool (true)), .is (.bool (true)), .is (.bool (false)), .is (.bool (true)), .is (.bool (true)), .is (.bool (true)), .is (.pointer (some ⟨g7, 0, none⟩)), .rbk (32) (ownP S), .lit (w7.heap.size) 1 ([(109 : UInt8)]), .rbk (1) ([(109 : UInt8)]), .is (.agg #[.int .i64 (0), .slice (P1) (64) (d), .slice (Q1) (4) (dq)]), .is (.bool (true)), .is (.bool (true)), .is (.bool (true)), .is (.pointer (some ⟨g7, 0, none⟩)), .rbk (32) (ownP S), .lit (w7.heap.size) 1 ([(109 : UInt8)]), .rbk (1) ([(109 : UInt8)]), .rwsM (1) ([[(109 : UInt8)]]), .lit (w7.heap.size) 1 ([(109 : UInt8)]), .rbk (1) ([(109 : UInt8)]), .is (.agg #[.int .i64 (0), .slice (P1) (64) (d), .slice (Q1) (4) (dq)]), .is (.bool (false)), .is (.bool (true)), .is (.bool (true)), .is (.bool (true)), .rbk (1) ([(1 : UInt8)]), .rbk (1) ([(2 : UInt8)]), .rwsM (2) ([[(1 : UInt8)], [(2 : UInt8)]]), .rbk (1) ([(1 : UInt8)]), .rbk (1) ([(3 : UInt8)]), .rwsM (2) ([[(1 : UInt8)], [(3 : UInt8)]]), .is (.bool (true)), .is (.bool (true))] rfl ⟨?_, ?_, ?_, ?_, ?_, ?_, ?_, ?_, ?_, ?_, ?_, ?_, ?_, ?_, ?_, ?_, ?_, ?_, ?_, ?_, ?_, ?_, ?_, ?_, ?_, ?_, ?_, ?_, ?_, ?_, ?_, ?_, ?_, ?_, ?_, trivial⟩ ?_
  · refine stepEM rfl fun sdn sa sw sE sd sk => ?_
    have h3 : sa.eval (.tmp 3) = .bool (false) := sk.old 3 rfl
    exact Runs.move rfl h3 ⟨Ext.refl _, rfl⟩
  · refine stepEM rfl fun sdn sa sw sE sd sk => ?_
    have h34 : sa.eval (.tmp 34) = .bool (false) := sk.fact 0 34 rfl (sd 0 rfl)
    exact Runs.un rfl h34 (by rfl) ⟨Ext.refl _, rfl⟩
  · refine stepEM rfl fun sdn sa sw sE sd sk => ?_
    have h35 : sa.eval (.tmp 35) = .bool (true) := sk.fact 1 35 rfl (sd 1 rfl)
    exact Runs.move rfl h35 ⟨Ext.refl _, rfl⟩
  · refine stepYM (j := 2) (d := 36) (b := true) rfl rfl rfl (fun v w h => h) fun sdn sa sw sE sd sk => ?_
    have h6 : sa.eval (.tmp 6) = .bool (false) := sk.old 6 rfl
    exact Runs.move rfl h6 ⟨Ext.refl _, rfl⟩
  · refine stepYM (j := 2) (d := 36) (b := true) rfl rfl rfl (fun v w h => h) fun sdn sa sw sE sd sk => ?_
    have h37 : sa.eval (.tmp 37) = .bool (false) := sk.fact 3 37 rfl (sd 3 rfl)
    exact Runs.un rfl h37 (by rfl) ⟨Ext.refl _, rfl⟩
  · refine stepEM rfl fun sdn sa sw sE sd sk => ?_
    have h36 : sa.eval (.tmp 36) = .bool (true) := sk.fact 2 36 rfl (sd 2 rfl)
    have h38 : sa.eval (.tmp 38) = .bool (true) := sk.fact 4 38 rfl (sd 4 rfl)
    exact Runs.pick rfl h36 ⟨Ext.refl _, by first | exact h38 | simpa using h38⟩
  · refine stepEM rfl fun sdn sa sw sE sd sk => ?_
    have h39 : sa.eval (.tmp 39) = .bool (true) := sk.fact 5 39 rfl (sd 5 rfl)
    exact Runs.move rfl h39 ⟨Ext.refl _, rfl⟩
  · refine stepYM (j := 6) (d := 40) (b := true) rfl rfl rfl (fun v w h => h) fun sdn sa sw sE sd sk => ?_
    have h7 : sa.eval (.tmp 7) = .pointer (some ⟨g7, 0, none⟩) := sk.old 7 rfl
    exact Runs.move rfl h7 ⟨Ext.refl _, rfl⟩
  · refine stepYM (j := 6) (d := 40) (b := true) rfl rfl rfl (fun v w h => h) fun sdn sa sw sE sd sk => ?_
    have h41 : sa.eval (.tmp 41) = .pointer (some ⟨g7, 0, none⟩) := sk.fact 7 41 rfl (sd 7 rfl)
    refine Runs.call (f := 27) (vs := [.pointer (some ⟨g7, 0, none⟩)]) rfl rfl rfl (by simp only [List.map_toArray, List.map_cons, List.map_nil, h41] <;> rfl) (ent27 _ _) ((rpublic_any _ _ _ sw (o7.ext sE)).mono ?_); rintro e w' ⟨A', c', rfl, own, hx⟩; exact ⟨_, rfl, hx, A', c', rfl, own⟩
  · refine stepYM (j := 6) (d := 40) (b := true) rfl rfl rfl (fun v w h => h) fun sdn sa sw sE sd sk => ?_
    have hlit : (.int .u8 109 : Value) = .int .u8 (u8i (109 : UInt8)) := rfl
    exact Runs.lit1 (b0 := 109) rfl hlit (fun w1 e1 o1 => ⟨e1, _, rfl, o1.rb, o1.shape, sE.size, (o1.lt (k := _) rfl).2⟩)
  · refine stepYK (j := 6) (d := 40) (b := true) rfl rfl rfl (fun v w h => h) fun sdn sa sw sE sd sk => ?_
    obtain ⟨g43, h43, r43, s43, b43, l43⟩ := sk.fact 9 43 rfl (sd 9 rfl)
    exact Runs.conv_w rfl h43 (run_mark sw _ _ g43 1 1 1 Try.underlying22 Try.underlying5 s43) ⟨⟨Mk.freeze _ _ _, sE.freeze b43⟩, _, _, rfl, r43.mk_ (Mk.freeze _ _ _)⟩
  · refine stepYM (j := 6) (d := 40) (b := true) rfl rfl rfl (fun v w h => h) fun sdn sa sw sE sd sk => ?_
    have h8 : sa.eval (.tmp 8) = .pointer (some ⟨g8, 0, none⟩) := sk.old 8 rfl
    exact Runs.load rfl h8 (load_part (hB8.ext sE) 0 (vs := [.int .i64 (0), .slice (P1) (64) (d), .slice (Q1) (4) (dq)]) rfl Try.underlying42 rfl (by kernel_rfl)) ⟨Ext.refl _, rfl⟩
  · refine stepYM (j := 6) (d := 40) (b := true) rfl rfl rfl (fun v w h => h) fun sdn sa sw sE sd sk => ?_
    obtain ⟨A42, c42, h42, r42⟩ := sk.fact 8 42 rfl (sd 8 rfl)
    obtain ⟨A44, c44, h44, r44⟩ := sk.fact 10 44 rfl (sd 10 rfl)
    have h45 : sa.eval (.tmp 45) = .agg #[.int .i64 (0), .slice (P1) (64) (d), .slice (Q1) (4) (dq)] := sk.fact 11 45 rfl (sd 11 rfl)
    refine Runs.call (f := 26) (vs := [.slice (A42) (32) (c42), .slice (none) (0) (0), .slice (A44) (1) (c44), .agg #[.int .i64 (0), .slice (P1) (64) (d), .slice (Q1) (4) (dq)]]) rfl rfl rfl (by simp only [List.map_toArray, List.map_cons, List.map_nil, h42, h44, h45] <;> rfl) (ent26 _ _) ((forged_any _ _ _ _ _ _ _ _ _ _ _ _ _ _ _ _ _ _ _ _ _ sw r42 (RBB.nil_ _) r44 (by omega) (rP.ext sE) (rQ.ext sE)).mono ?_); rintro e w' ⟨rfl, hx⟩; exact ⟨_, rfl, hx, congrArg Value.bool (by rw [Hv.out]; rfl)⟩
  · refine stepEM rfl fun sdn sa sw sE sd sk => ?_
    have h40 : sa.eval (.tmp 40) = .bool (true) := sk.fact 6 40 rfl (sd 6 rfl)
    have h46 : sa.eval (.tmp 46) = .bool (true) := sk.fact 12 46 rfl (sd 12 rfl)
    exact Runs.pick rfl h40 ⟨Ext.refl _, by first | exact h46 | simpa using h46⟩
  · refine stepEM rfl fun sdn sa sw sE sd sk => ?_
    have h47 : sa.eval (.tmp 47) = .bool (true) := sk.fact 13 47 rfl (sd 13 rfl)
    exact Runs.move rfl h47 ⟨Ext.refl _, rfl⟩
  · refine stepYM (j := 14) (d := 48) (b := true) rfl rfl rfl (fun v w h => h) fun sdn sa sw sE sd sk => ?_
    have h7 : sa.eval (.tmp 7) = .pointer (some ⟨g7, 0, none⟩) := sk.old 7 rfl
    exact Runs.move rfl h7 ⟨Ext.refl _, rfl⟩
  · refine stepYM (j := 14) (d := 48) (b := true) rfl rfl rfl (fun v w h => h) fun sdn sa sw sE sd sk => ?_
    have h49 : sa.eval (.tmp 49) = .pointer (some ⟨g7, 0, none⟩) := sk.fact 15 49 rfl (sd 15 rfl)
    refine Runs.call (f := 27) (vs := [.pointer (some ⟨g7, 0, none⟩)]) rfl rfl rfl (by simp only [List.map_toArray, List.map_cons, List.map_nil, h49] <;> rfl) (ent27 _ _) ((rpublic_any _ _ _ sw (o7.ext sE)).mono ?_); rintro e w' ⟨A', c', rfl, own, hx⟩; exact ⟨_, rfl, hx, A', c', rfl, own⟩
  · refine stepYM (j := 14) (d := 48) (b := true) rfl rfl rfl (fun v w h => h) fun sdn sa sw sE sd sk => ?_
    have hlit : (.int .u8 109 : Value) = .int .u8 (u8i (109 : UInt8)) := rfl
    exact Runs.lit1 (b0 := 109) rfl hlit (fun w1 e1 o1 => ⟨e1, _, rfl, o1.rb, o1.shape, sE.size, (o1.lt (k := _) rfl).2⟩)
  · refine stepYK (j := 14) (d := 48) (b := true) rfl rfl rfl (fun v w h => h) fun sdn sa sw sE sd sk => ?_
    obtain ⟨g51, h51, r51, s51, b51, l51⟩ := sk.fact 17 51 rfl (sd 17 rfl)
    exact Runs.conv_w rfl h51 (run_mark sw _ _ g51 1 1 1 Try.underlying22 Try.underlying5 s51) ⟨⟨Mk.freeze _ _ _, sE.freeze b51⟩, _, _, rfl, r51.mk_ (Mk.freeze _ _ _)⟩
  · refine stepYM (j := 14) (d := 48) (b := true) rfl rfl rfl (fun v w h => h) fun sdn sa sw sE sd sk => ?_
    obtain ⟨A52, c52, h52, r52⟩ := sk.fact 18 52 rfl (sd 18 rfl)
    exact Runs.ss1 rfl h52 r52 (fun w1 e1 b1 => ⟨e1, _, _, rfl, b1⟩)
  · refine stepYM (j := 14) (d := 48) (b := true) rfl rfl rfl (fun v w h => h) fun sdn sa sw sE sd sk => ?_
    have hlit : (.int .u8 109 : Value) = .int .u8 (u8i (109 : UInt8)) := rfl
    exact Runs.lit1 (b0 := 109) rfl hlit (fun w1 e1 o1 => ⟨e1, _, rfl, o1.rb, o1.shape, sE.size, (o1.lt (k := _) rfl).2⟩)
  · refine stepYK (j := 14) (d := 48) (b := true) rfl rfl rfl (fun v w h => h) fun sdn sa sw sE sd sk => ?_
    obtain ⟨g54, h54, r54, s54, b54, l54⟩ := sk.fact 20 54 rfl (sd 20 rfl)
    exact Runs.conv_w rfl h54 (run_mark sw _ _ g54 1 1 1 Try.underlying22 Try.underlying5 s54) ⟨⟨Mk.freeze _ _ _, sE.freeze b54⟩, _, _, rfl, r54.mk_ (Mk.freeze _ _ _)⟩
  · refine stepYM (j := 14) (d := 48) (b := true) rfl rfl rfl (fun v w h => h) fun sdn sa sw sE sd sk => ?_
    have h8 : sa.eval (.tmp 8) = .pointer (some ⟨g8, 0, none⟩) := sk.old 8 rfl
    exact Runs.load rfl h8 (load_part (hB8.ext sE) 0 (vs := [.int .i64 (0), .slice (P1) (64) (d), .slice (Q1) (4) (dq)]) rfl Try.underlying42 rfl (by kernel_rfl)) ⟨Ext.refl _, rfl⟩
  · refine stepYM (j := 14) (d := 48) (b := true) rfl rfl rfl (fun v w h => h) fun sdn sa sw sE sd sk => ?_
    obtain ⟨A50, c50, h50, r50⟩ := sk.fact 16 50 rfl (sd 16 rfl)
    obtain ⟨A53, c53, h53, r53⟩ := sk.fact 19 53 rfl (sd 19 rfl)
    obtain ⟨A55, c55, h55, r55⟩ := sk.fact 21 55 rfl (sd 21 rfl)
    have h56 : sa.eval (.tmp 56) = .agg #[.int .i64 (0), .slice (P1) (64) (d), .slice (Q1) (4) (dq)] := sk.fact 22 56 rfl (sd 22 rfl)
    refine Runs.call (f := 26) (vs := [.slice (A50) (32) (c50), .slice (A53) (1) (c53), .slice (A55) (1) (c55), .agg #[.int .i64 (0), .slice (P1) (64) (d), .slice (Q1) (4) (dq)]]) rfl rfl rfl (by simp only [List.map_toArray, List.map_cons, List.map_nil, h50, h53, h55, h56] <;> rfl) (ent26 _ _) ((forged_any _ _ _ _ _ _ _ _ _ _ _ _ _ _ _ _ _ _ _ _ _ sw r50 r53 r55 (by omega) (rP.ext sE) (rQ.ext sE)).mono ?_); rintro e w' ⟨rfl, hx⟩; exact ⟨_, rfl, hx, congrArg Value.bool (by rw [Hv.out]; rfl)⟩
  · refine stepYM (j := 14) (d := 48) (b := true) rfl rfl rfl (fun v w h => h) fun sdn sa sw sE sd sk => ?_
    have h57 : sa.eval (.tmp 57) = .bool (false) := sk.fact 23 57 rfl (sd 23 rfl)
    exact Runs.un rfl h57 (by rfl) ⟨Ext.refl _, rfl⟩
  · refine stepEM rfl fun sdn sa sw sE sd sk => ?_
    have h48 : sa.eval (.tmp 48) = .bool (true) := sk.fact 14 48 rfl (sd 14 rfl)
    have h58 : sa.eval (.tmp 58) = .bool (true) := sk.fact 24 58 rfl (sd 24 rfl)
    exact Runs.pick rfl h48 ⟨Ext.refl _, by first | exact h58 | simpa using h58⟩
  · refine stepEM rfl fun sdn sa sw sE sd sk => ?_
    have h59 : sa.eval (.tmp 59) = .bool (true) := sk.fact 25 59 rfl (sd 25 rfl)
    exact Runs.move rfl h59 ⟨Ext.refl _, rfl⟩
  · refine stepYM (j := 26) (d := 60) (b := true) rfl rfl rfl (fun v w h => h) fun sdn sa sw sE sd sk => ?_
    have hl0 : (.int .u8 1 : Value) = .int .u8 (u8i (1 : UInt8)) := rfl
    exact Runs.lit1 (b0 := (1 : UInt8)) rfl hl0 (fun w1 e1 o1 => ⟨e1, _, _, rfl, o1.rb⟩)
  · refine stepYM (j := 26) (d := 60) (b := true) rfl rfl rfl (fun v w h => h) fun sdn sa sw sE sd sk => ?_
    have hl0 : (.int .u8 2 : Value) = .int .u8 (u8i (2 : UInt8)) := rfl
    exact Runs.lit1 (b0 := (2 : UInt8)) rfl hl0 (fun w1 e1 o1 => ⟨e1, _, _, rfl, o1.rb⟩)
  · refine stepYM (j := 26) (d := 60) (b := true) rfl rfl rfl (fun v w h => h) fun sdn sa sw sE sd sk => ?_
    obtain ⟨A61, c61, h61, r61⟩ := sk.fact 27 61 rfl (sd 27 rfl)
    obtain ⟨A62, c62, h62, r62⟩ := sk.fact 28 62 rfl (sd 28 rfl)
    exact Runs.ss2 rfl h61 h62 r61 r62 (fun w1 e1 b1 => ⟨e1, _, _, rfl, b1⟩)
  · refine stepYM (j := 26) (d := 60) (b := true) rfl rfl rfl (fun v w h => h) fun sdn sa sw sE sd sk => ?_
    have hl0 : (.int .u8 1 : Value) = .int .u8 (u8i (1 : UInt8)) := rfl
    exact Runs.lit1 (b0 := (1 : UInt8)) rfl hl0 (fun w1 e1 o1 => ⟨e1, _, _, rfl, o1.rb⟩)
  · refine stepYM (j := 26) (d := 60) (b := true) rfl rfl rfl (fun v w h => h) fun sdn sa sw sE sd sk => ?_
    have hl0 : (.int .u8 3 : Value) = .int .u8 (u8i (3 : UInt8)) := rfl
    exact Runs.lit1 (b0 := (3 : UInt8)) rfl hl0 (fun w1 e1 o1 => ⟨e1, _, _, rfl, o1.rb⟩)
  · refine stepYM (j := 26) (d := 60) (b := true) rfl rfl rfl (fun v w h => h) fun sdn sa sw sE sd sk => ?_
    obtain ⟨A64, c64, h64, r64⟩ := sk.fact 30 64 rfl (sd 30 rfl)
    obtain ⟨A65, c65, h65, r65⟩ := sk.fact 31 65 rfl (sd 31 rfl)
    exact Runs.ss2 rfl h64 h65 r64 r65 (fun w1 e1 b1 => ⟨e1, _, _, rfl, b1⟩)
  · refine stepYM (j := 26) (d := 60) (b := true) rfl rfl rfl (fun v w h => h) fun sdn sa sw sE sd sk => ?_
    obtain ⟨A63, c63, h63, r63⟩ := sk.fact 29 63 rfl (sd 29 rfl)
    obtain ⟨A66, c66, h66, r66⟩ := sk.fact 32 66 rfl (sd 32 rfl)
    refine Runs.call (f := 12) (vs := [.slice (A63) (2) (c63), .slice (A66) (2) (c66), .int .i64 ((1 : Int))]) rfl rfl rfl (by simp only [List.map_toArray, List.map_cons, List.map_nil, h63, h66] <;> rfl) (ent12 _ _) ((prefix_any _ _ _ _ _ _ _ _ _ sw r63 r66).mono ?_); rintro e w' ⟨rfl, hx⟩; exact ⟨_, rfl, hx, congrArg Value.bool (by decide)⟩
  · refine stepEM rfl fun sdn sa sw sE sd sk => ?_
    have h60 : sa.eval (.tmp 60) = .bool (true) := sk.fact 26 60 rfl (sd 26 rfl)
    have h67 : sa.eval (.tmp 67) = .bool (true) := sk.fact 33 67 rfl (sd 33 rfl)
    exact Runs.pick rfl h60 ⟨Ext.refl _, by first | exact h67 | simpa using h67⟩
  intro vals W5 hE5 hv5
  have e0 : vals 0 = .bool (false) := hv5 0 (by omega) 34 rfl
  have e1 : vals 1 = .bool (true) := hv5 1 (by omega) 35 rfl
  have e2 : vals 2 = .bool (true) := hv5 2 (by omega) 36 rfl
  have e3 : vals 3 = .bool (false) := hv5 3 (by omega) 37 rfl
  have e4 : vals 4 = .bool (true) := hv5 4 (by omega) 38 rfl
  have e5 : vals 5 = .bool (true) := hv5 5 (by omega) 39 rfl
  have e6 : vals 6 = .bool (true) := hv5 6 (by omega) 40 rfl
  have e7 : vals 7 = .pointer (some ⟨g7, 0, none⟩) := hv5 7 (by omega) 41 rfl
  obtain ⟨A42, c42, e8, r42⟩ := hv5 8 (by omega) 42 rfl
  obtain ⟨g43, e9, r43, s43, b43, l43⟩ := hv5 9 (by omega) 43 rfl
  obtain ⟨A44, c44, e10, r44⟩ := hv5 10 (by omega) 44 rfl
  have e11 : vals 11 = .agg #[.int .i64 (0), .slice (P1) (64) (d), .slice (Q1) (4) (dq)] := hv5 11 (by omega) 45 rfl
  have e12 : vals 12 = .bool (true) := hv5 12 (by omega) 46 rfl
  have e13 : vals 13 = .bool (true) := hv5 13 (by omega) 47 rfl
  have e14 : vals 14 = .bool (true) := hv5 14 (by omega) 48 rfl
  have e15 : vals 15 = .pointer (some ⟨g7, 0, none⟩) := hv5 15 (by omega) 49 rfl
  obtain ⟨A50, c50, e16, r50⟩ := hv5 16 (by omega) 50 rfl
  obtain ⟨g51, e17, r51, s51, b51, l51⟩ := hv5 17 (by omega) 51 rfl
  obtain ⟨A52, c52, e18, r52⟩ := hv5 18 (by omega) 52 rfl
  obtain ⟨A53, c53, e19, r53⟩ := hv5 19 (by omega) 53 rfl
  obtain ⟨g54, e20, r54, s54, b54, l54⟩ := hv5 20 (by omega) 54 rfl
  obtain ⟨A55, c55, e21, r55⟩ := hv5 21 (by omega) 55 rfl
  have e22 : vals 22 = .agg #[.int .i64 (0), .slice (P1) (64) (d), .slice (Q1) (4) (dq)] := hv5 22 (by omega) 56 rfl
  have e23 : vals 23 = .bool (false) := hv5 23 (by omega) 57 rfl
  have e24 : vals 24 = .bool (true) := hv5 24 (by omega) 58 rfl
  have e25 : vals 25 = .bool (true) := hv5 25 (by omega) 59 rfl
  have e26 : vals 26 = .bool (true) := hv5 26 (by omega) 60 rfl
  obtain ⟨A61, c61, e27, r61⟩ := hv5 27 (by omega) 61 rfl
  obtain ⟨A62, c62, e28, r62⟩ := hv5 28 (by omega) 62 rfl
  obtain ⟨A63, c63, e29, r63⟩ := hv5 29 (by omega) 63 rfl
  obtain ⟨A64, c64, e30, r64⟩ := hv5 30 (by omega) 64 rfl
  obtain ⟨A65, c65, e31, r65⟩ := hv5 31 (by omega) 65 rfl
  obtain ⟨A66, c66, e32, r66⟩ := hv5 32 (by omega) 66 rfl
  have e33 : vals 33 = .bool (true) := hv5 33 (by omega) 67 rfl
  have e34 : vals 34 = .bool (true) := hv5 34 (by omega) 68 rfl
  simp only [putAll, Act.put, List.take_succ_cons, List.take_zero, List.drop_succ_cons, List.drop_zero, List.drop_nil, List.take_nil, Nat.reduceAdd, List.setIfInBounds_toArray, List.set_cons_succ, List.set_cons_zero, e0, e1, e2, e3, e4, e5, e6, e7, e8, e9, e10, e11, e12, e13, e14, e15, e16, e17, e18, e19, e20, e21, e22, e23, e24, e25, e26, e27, e28, e29, e30, e31, e32, e33, e34]
  clear hv5 e0 e1 e2 e3 e4 e5 e6 e7 e8 e9 e10 e11 e12 e13 e14 e15 e16 e17 e18 e19 e20 e21 e22 e23 e24 e25 e26 e27 e28 e29 e30 e31 e32 e33 e34
  go_wp2_with fail
  go_ret
  exact ⟨rfl, hEa.trans hE5⟩
end Go.Proofs.Ytkndgpjamijbbaa
