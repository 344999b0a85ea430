/-
  law10.CheckTells, walked.
-/
import Derived.Test.YthggfbpdhkpkjaaLawTells10Q36
import Derived.Test.YthggfbpdhkpkjaaLawTells10Q37
import Derived.Test.YthggfbpdhkpkjaaLawTells10Q33
namespace Go.Proofs.Ythggfbpdhkpkjaa
set_option maxRecDepth 100000
open Go Go.RowKit
set_option maxHeartbeats 16000000 in
theorem tells10_law (D C : Option Addr) (nd cd nc cc : Nat) (Ld Lc : List UInt8) (n index size root y : Int) (w : World) (rD : RB w D nd cd Ld) (hnd : nd ≤ 140737488355328) (rC : RB w C nc cc Lc) (hn0 : -9223372036854775808 ≤ n) (hn1 : n ≤ 9223372036854775807) (hi0 : -9223372036854775808 ≤ index) (hi1 : index ≤ 9223372036854775807) (hs0 : -9223372036854775808 ≤ size) (hs1 : size ≤ 9223372036854775807) (hr0 : -9223372036854775808 ≤ root) (hr1 : root ≤ 9223372036854775807) :
    Calls Try.prog 7 #[.int .i64 n, .int .i64 index, .int .i64 size, .int .i64 root, .agg #[.int .i64 y, .slice C nc cc], .slice D nd cd] w fun e w' => e = .returned (.bool true) ∧ Ext w w' := by
  have hRl := khash_length root
  have hxw := within_in size 0 256 (by omega)
  have hsg := fun w' => signed_any n index size root w' hn0 hn1 hi0 hi1 hs0 hs1 hr0 hr1
  have Hsg := Lib.hid hsg
  have rC0 := rC.ext (Ext.new w (.cells #[.int .i64 y, .slice C nc cc] 24))
  clear hsg
  go_enter Try.func7, Try.ntmps7
  have hcu := cut_z C nc cc 40 Lc 40 rfl _ rC0 (by omega)
  go_wp2_with fail
  refine hcu.mono ?_
  rintro e w1 ⟨⟨rfl, _⟩, rfl⟩
  clear hcu rC0
  have rE := rC.cut_ 40
  generalize min nc 40 = ne at *
  generalize Lc.take 40 = T at *
  have hEa := Ext.new w (.cells #[.int .i64 y, .slice C ne cc] 24)
  have hB10 := Blk.new w 24 #[.int .i64 y, .slice C ne cc]
  replace rD := rD.ext hEa
  replace rE := rE.ext hEa
  clear rC
  go_wp2_with fail
  generalize w.alloc (.cells #[.int .i64 y, .slice C ne cc] 24) = w1 at *
  obtain ⟨g10, hg10⟩ : ∃ g10, g10 = w.heap.size := ⟨_, rfl⟩
  rw [← hg10] at hB10 ⊢
  clear hg10
  refine (Hsg.out w1).mono ?_
  rintro e w2 ⟨k, hkx, hk, B1, d1, P1, v1, Q1, u1, X, cx, rfl, rR1, rP1, rQ1, rX, hE⟩
  have hwi := fun w' => within_any index 0 15 w' hi0 hi1 (by omega) (by omega) (by omega)
  rw [← hkx] at hwi
  have Hwi := Lib.hid hwi
  clear hkx hwi Hsg
  have Hr0 := Lib.hid (And.intro hr0 hr1)
  generalize within size 0 256 = x at *
  generalize khash root = R at *
  have hc := rightC_of hxw.1 hxw.2 hRl
  have Hc := Lib.hid hc
  clear hc hxw hRl
  replace rD := rD.ext hE
  replace rE := rE.ext hE
  replace hB10 := hB10.ext hE
  replace hEa := hEa.trans hE
  have hEn := Ext.new w2 (.cells #[.int .i64 x, .slice B1 32 d1, .int .i64 (k : Int), .slice P1 64 v1, .slice Q1 4 u1] 41)
  have hB13 := Blk.new w2 41 #[.int .i64 x, .slice B1 32 d1, .int .i64 (k : Int), .slice P1 64 v1, .slice Q1 4 u1]
  replace rD := rD.ext hEn
  replace rE := rE.ext hEn
  replace hB10 := hB10.ext hEn
  replace rR1 := rR1.ext hEn
  replace rP1 := rP1.ext hEn
  replace rQ1 := rQ1.ext hEn
  replace rX := rX.ext hEn
  replace hEa := hEa.trans hEn
  clear hE hEn
  go_upto_region 3 with (fail)
  generalize w2.alloc (.cells #[.int .i64 x, .slice B1 32 d1, .int .i64 (k : Int), .slice P1 64 v1, .slice Q1 4 u1] 41) = w3 at *
  generalize w2.heap.size = g13 at *
  refine par_tup (n := 11) (jp := 10) (jq := 8) 9 5 (by kernel_rfl) [.is (.int .i64 (n)), .rk (32) (seedL n), .is (.int .i64 (index)), .is (.int .i64 (((k : Nat) : Int))), .is (.pointer (some ⟨g13, 0, none⟩)), .is (.agg #[.int .i64 (x), .slice (B1) (32) (d1)]), .tp [.val (.int .i64 (x)), .b8 (32) (R), .val (.int .i64 (((k : Nat) : Int))), .bb (64) (sigP (seedL n) (bodyC checkL x R) k), .bb (4) (pathL (seedL n) k)] (.int .i64 ((0 : Int))), .tp [.val (.int .i64 (x)), .b8 (32) (R), .val (.int .i64 (((k : Nat) : Int))), .bb (64) (sigP (seedL n) (bodyC checkL x R) k), .bb (4) (pathL (seedL n) k)] (.int .i64 ((0 : Int))), .ag [.val (.int .i64 (x)), .b8 (32) (R), .val (.int .i64 (((k : Nat) : Int))), .bb (64) (sigP (seedL n) (bodyC checkL x R) k), .bb (4) (pathL (seedL n) k)], .is (.int .i64 ((0 : Int))), .bk (w3.heap.size) 41 #[.int .i64 ((0 : Int)), .slice (none) (0) (0), .int .i64 ((0 : Int)), .slice (none) (0) (0), .slice (none) (0) (0)]] rfl rfl rfl rfl rfl rfl rfl rfl rfl rfl rfl (by decide) (by decide) (by decide) (by decide) (tup_bk _ rfl) (tup_ag _ rfl rfl) (by kernel_rfl) ⟨?_, ?_, ?_, ?_, ?_, ?_, ?_, ?_, ?_, ?_, ?_, trivial⟩ ?_
  · refine stepE rfl fun sdn sa sw sE sd sk => ?_
    have h0 : sa.eval (.tmp 0) = .int .i64 (n) := sk.old 0 rfl
    exact Runs.move rfl h0 ⟨Ext.refl _, rfl⟩
  · refine stepE rfl fun sdn sa sw sE sd sk => ?_
    have h33 : sa.eval (.tmp 33) = .int .i64 (n) := sk.fact 0 33 rfl (sd 0 rfl)
    refine Runs.call (f := 35) (vs := [.int .i64 (n)]) rfl rfl rfl (by simp only [List.map_toArray, List.map_cons, List.map_nil, h33] <;> rfl) (ent35 _ _) ((seed_any n sw (by omega) (by omega)).mono ?_); rintro e w' ⟨A', c', rfl, own, hx⟩; exact ⟨_, rfl, hx, A', c', rfl, own.rb⟩
  · refine stepE rfl fun sdn sa sw sE sd sk => ?_
    have h1 : sa.eval (.tmp 1) = .int .i64 (index) := sk.old 1 rfl
    exact Runs.move rfl h1 ⟨Ext.refl _, rfl⟩
  · refine stepE rfl fun sdn sa sw sE sd sk => ?_
    have h35 : sa.eval (.tmp 35) = .int .i64 (index) := sk.fact 2 35 rfl (sd 2 rfl)
    refine Runs.call (f := 15) (vs := [.int .i64 (index), .int .i64 ((0 : Int)), .int .i64 ((15 : Int))]) rfl rfl rfl (by simp only [List.map_toArray, List.map_cons, List.map_nil, h35] <;> rfl) (ent15 _ _) ((Hwi.out sw).mono ?_); rintro e w' ⟨rfl, rfl⟩; exact ⟨_, rfl, Ext.refl _, rfl⟩
  · refine stepE rfl fun sdn sa sw sE sd sk => ?_
    have h13 : sa.eval (.tmp 13) = .pointer (some ⟨g13, 0, none⟩) := sk.old 13 rfl
    refine Runs.of_run (r := .pointer (some ⟨g13, 0, none⟩)) (w' := sw) ?_ ⟨Ext.refl _, rfl⟩
    unfold execOp
    simp only [h13]
    go_simp
  · refine stepE rfl fun sdn sa sw sE sd sk => ?_
    have h37 : sa.eval (.tmp 37) = .pointer (some ⟨g13, 0, none⟩) := sk.fact 4 37 rfl (sd 4 rfl)
    exact Runs.load rfl h37 (load_part (hB13.ext sE) 0 (vs := [.int .i64 (x), .slice (B1) (32) (d1)]) rfl Try.underlying24 rfl (by kernel_rfl)) ⟨Ext.refl _, rfl⟩
  · refine stepE rfl fun sdn sa sw sE sd sk => ?_
    obtain ⟨A34, c34, h34, r34⟩ := sk.fact 1 34 rfl (sd 1 rfl)
    have h36 : sa.eval (.tmp 36) = .int .i64 (((k : Nat) : Int)) := sk.fact 3 36 rfl (sd 3 rfl)
    have h38 : sa.eval (.tmp 38) = .agg #[.int .i64 (x), .slice (B1) (32) (d1)] := sk.fact 5 38 rfl (sd 5 rfl)
    refine Runs.call (f := 34) (vs := [.slice (A34) (32) (c34), .int .i64 (((k : Nat) : Int)), .agg #[.int .i64 (x), .slice (B1) (32) (d1)]]) rfl rfl rfl (by simp only [List.map_toArray, List.map_cons, List.map_nil, h34, h36, h38] <;> rfl) (ent34 _ _) ((csign_yes _ _ _ _ _ k _ _ _ sw r34 (rR1.ext sE) (Hc.out) (by omega)).mono ?_); rintro e w' ⟨B', d', P, d1, Q, d2, rfl, h1, h2, h3, hx⟩; exact ⟨_, rfl, hx, B', d', h1, P, d1, h2, Q, d2, h3, rfl⟩
  · refine stepE rfl fun sdn sa sw sE sd sk => ?_
    obtain ⟨A39x0, c39x0, r39x0, A39x1, c39x1, r39x1, A39x2, c39x2, r39x2, h39⟩ := sk.fact 6 39 rfl (sd 6 rfl)
    replace h39 : sa.eval (.tmp 39) = .tuple #[.agg #[.int .i64 (x), .slice (A39x0) (32) (c39x0), .int .i64 (((k : Nat) : Int)), .slice (A39x1) (64) (c39x1), .slice (A39x2) (4) (c39x2)], .int .i64 ((0 : Int))] := h39
    exact Runs.move rfl h39 ⟨Ext.refl _, _, _, r39x0, _, _, r39x1, _, _, r39x2, rfl⟩
  · refine stepE rfl fun sdn sa sw sE sd sk => ?_
    obtain ⟨A32x0, c32x0, r32x0, A32x1, c32x1, r32x1, A32x2, c32x2, r32x2, h32⟩ := sk.fact 7 32 rfl (sd 7 rfl)
    replace h32 : sa.eval (.tmp 32) = .tuple #[.agg #[.int .i64 (x), .slice (A32x0) (32) (c32x0), .int .i64 (((k : Nat) : Int)), .slice (A32x1) (64) (c32x1), .slice (A32x2) (4) (c32x2)], .int .i64 ((0 : Int))] := h32
    refine Runs.of_run (r := .agg #[.int .i64 (x), .slice (A32x0) (32) (c32x0), .int .i64 (((k : Nat) : Int)), .slice (A32x1) (64) (c32x1), .slice (A32x2) (4) (c32x2)]) (w' := sw) ?_ ⟨Ext.refl _, _, _, r32x0, _, _, r32x1, _, _, r32x2, rfl⟩
    unfold execOp
    simp only [h32]
    go_simp
  · refine stepE rfl fun sdn sa sw sE sd sk => ?_
    obtain ⟨A32x0, c32x0, r32x0, A32x1, c32x1, r32x1, A32x2, c32x2, r32x2, h32⟩ := sk.fact 7 32 rfl (sd 7 rfl)
    replace h32 : sa.eval (.tmp 32) = .tuple #[.agg #[.int .i64 (x), .slice (A32x0) (32) (c32x0), .int .i64 (((k : Nat) : Int)), .slice (A32x1) (64) (c32x1), .slice (A32x2) (4) (c32x2)], .int .i64 ((0 : Int))] := h32
    refine Runs.of_run (r := .int .i64 ((0 : Int))) (w' := sw) ?_ ⟨Ext.refl _, rfl⟩
    unfold execOp
    simp only [h32]
    go_simp
  · refine stepE rfl fun sdn sa sw sE sd sk => ?_
    refine Runs.of_run (r := .pointer (some ⟨sw.heap.size, 0, none⟩)) (w' := sw.alloc (.cells #[.int .i64 ((0 : Int)), .slice (none) (0) (0), .int .i64 ((0 : Int)), .slice (none) (0) (0), .slice (none) (0) (0)] 41)) ?_ ⟨Ext.new _ _, _, rfl, Blk.new _ _ _, sE.size⟩
    unfold execOp
    go_simp
  intro vals W3 hE3 hv3 gst vst hgst hvst
  have e0 : vals 0 = .int .i64 (n) := hv3 0 (by omega) 33 rfl
  obtain ⟨A34, c34, e1, r34⟩ := hv3 1 (by omega) 34 rfl
  have e2 : vals 2 = .int .i64 (index) := hv3 2 (by omega) 35 rfl
  have e3 : vals 3 = .int .i64 (((k : Nat) : Int)) := hv3 3 (by omega) 36 rfl
  have e4 : vals 4 = .pointer (some ⟨g13, 0, none⟩) := hv3 4 (by omega) 37 rfl
  have e5 : vals 5 = .agg #[.int .i64 (x), .slice (B1) (32) (d1)] := hv3 5 (by omega) 38 rfl
  obtain ⟨A39x0, c39x0, r39x0, A39x1, c39x1, r39x1, A39x2, c39x2, r39x2, e6⟩ := hv3 6 (by omega) 39 rfl
  replace e6 : vals 6 = .tuple #[.agg #[.int .i64 (x), .slice (A39x0) (32) (c39x0), .int .i64 (((k : Nat) : Int)), .slice (A39x1) (64) (c39x1), .slice (A39x2) (4) (c39x2)], .int .i64 ((0 : Int))] := e6
  obtain ⟨A32x0, c32x0, r32x0, A32x1, c32x1, r32x1, A32x2, c32x2, r32x2, e7⟩ := hv3 7 (by omega) 32 rfl
  replace e7 : vals 7 = .tuple #[.agg #[.int .i64 (x), .slice (A32x0) (32) (c32x0), .int .i64 (((k : Nat) : Int)), .slice (A32x1) (64) (c32x1), .slice (A32x2) (4) (c32x2)], .int .i64 ((0 : Int))] := e7
  obtain ⟨A40x0, c40x0, r40x0, A40x1, c40x1, r40x1, A40x2, c40x2, r40x2, e8⟩ := hv3 8 (by omega) 40 rfl
  replace e8 : vals 8 = .agg #[.int .i64 (x), .slice (A40x0) (32) (c40x0), .int .i64 (((k : Nat) : Int)), .slice (A40x1) (64) (c40x1), .slice (A40x2) (4) (c40x2)] := e8
  have e9 : vals 9 = .int .i64 ((0 : Int)) := hv3 9 (by omega) 41 rfl
  obtain ⟨g15, e10, hb15, gb15⟩ := hv3 10 (by omega) 15 rfl
  obtain rfl : gst = g15 := pointer_eq hgst e10
  obtain rfl : vst = #[.int .i64 (x), .slice (A40x0) (32) (c40x0), .int .i64 (((k : Nat) : Int)), .slice (A40x1) (64) (c40x1), .slice (A40x2) (4) (c40x2)] := Value.agg.inj (hvst.symm.trans e8)
  simp only [putAll, Act.put, List.take_succ_cons, List.take_zero, List.drop_succ_cons, List.drop_zero, List.drop_nil, List.take_nil, Nat.reduceAdd, List.setIfInBounds_toArray, List.set_cons_succ, List.set_cons_zero, e0, e1, e2, e3, e4, e5, e6, e7, e8, e9, e10]
  clear hv3 e0 e1 e2 e3 e4 e5 e6 e7 e8 e9 e10 hgst hvst
  have hGt := grown_setCells gst (#[.int .i64 (x), .slice (A40x0) (32) (c40x0), .int .i64 (((k : Nat) : Int)), .slice (A40x1) (64) (c40x1), .slice (A40x2) (4) (c40x2)] : Array Value).toList 0 W3
  have hB3 := hb15.setAll (vs := #[.int .i64 (x), .slice (A40x0) (32) (c40x0), .int .i64 (((k : Nat) : Int)), .slice (A40x1) (64) (c40x1), .slice (A40x2) (4) (c40x2)]) rfl
  have hE3s := hE3.then_grown hGt (by intro k hk; cases hk; exact gb15)
  replace r40x0 := r40x0.grown hGt (r40x0.apart5 hb15 (nou8 (by kernel_rfl)))
  replace r40x1 := r40x1.away hb15 (nou8 (by kernel_rfl)) hGt (fun _ => r40x1.apart3 hb15 (no3 (by kernel_rfl)) (by omega))
  replace r40x2 := r40x2.away hb15 (nou8 (by kernel_rfl)) hGt (fun _ => r40x2.apart3 hb15 (no3 (by kernel_rfl)) (by omega))
  clear hGt hb15 gb15
  generalize W3.setCells gst 0 (#[.int .i64 (x), .slice (A40x0) (32) (c40x0), .int .i64 (((k : Nat) : Int)), .slice (A40x1) (64) (c40x1), .slice (A40x2) (4) (c40x2)] : Array Value).toList = W3b at *
  replace rD := rD.ext hE3s
  replace rE := rE.ext hE3s
  replace hB10 := hB10.ext hE3s
  replace rR1 := rR1.ext hE3s
  replace rP1 := rP1.ext hE3s
  replace rQ1 := rQ1.ext hE3s
  replace rX := rX.ext hE3s
  replace hB13 := hB13.ext hE3s
  replace hEa := hEa.trans hE3s
  go_upto_region 4 with (fail)
  refine seq_ext (n := 8) (by kernel_rfl) [.is (.int .i64 ((0 : Int))), .is (.bool (false)), .is (.bool (false)), .is (.agg #[.int .i64 (x), .slice (A40x0) (32) (c40x0), .int .i64 (((k : Nat) : Int)), .slice (A40x1) (64) (c40x1), .slice (A40x2) (4) (c40x2)]), .is (.agg #[.int .i64 (x), .slice (B1) (32) (d1), .int .i64 (((k : Nat) : Int)), .slice (P1) (64) (v1), .slice (Q1) (4) (u1)]), .is (.bool (true)), .is (.bool (false)), .is (.bool (false))] rfl ⟨?_, ?_, ?_, ?_, ?_, ?_, ?_, ?_, trivial⟩ ?_
  · refine stepE rfl fun sdn sa sw sE sd sk => ?_
    have h16 : sa.eval (.tmp 16) = .int .i64 ((0 : Int)) := sk.old 16 rfl
    exact Runs.move rfl h16 ⟨Ext.refl _, rfl⟩
  · refine stepE rfl fun sdn sa sw sE sd sk => ?_
    have h42 : sa.eval (.tmp 42) = .int .i64 ((0 : Int)) := sk.fact 0 42 rfl (sd 0 rfl)
    exact Runs.bin rfl h42 rfl (by rfl) (bin_neq _ _ _ _) ⟨Ext.refl _, congrArg Value.bool (by decide)⟩
  · refine stepE rfl fun sdn sa sw sE sd sk => ?_
    have h43 : sa.eval (.tmp 43) = .bool (false) := sk.fact 1 43 rfl (sd 1 rfl)
    exact Runs.move rfl h43 ⟨Ext.refl _, rfl⟩
  · refine stepY (j := 2) (d := 44) (b := false) rfl rfl rfl (fun v w h => h) fun sdn sa sw sE sd sk => ?_
    have h15 : sa.eval (.tmp 15) = .pointer (some ⟨gst, 0, none⟩) := sk.old 15 rfl
    exact Runs.load rfl h15 (load_part (hB3.ext sE) 0 (vs := [.int .i64 (x), .slice (A40x0) (32) (c40x0), .int .i64 (((k : Nat) : Int)), .slice (A40x1) (64) (c40x1), .slice (A40x2) (4) (c40x2)]) rfl Try.underlying41 rfl (by kernel_rfl)) ⟨Ext.refl _, rfl⟩
  · refine stepY (j := 2) (d := 44) (b := false) rfl rfl rfl (fun v w h => h) fun sdn sa sw sE sd sk => ?_
    have h13 : sa.eval (.tmp 13) = .pointer (some ⟨g13, 0, none⟩) := sk.old 13 rfl
    exact Runs.load rfl h13 (load_part (hB13.ext sE) 0 (vs := [.int .i64 (x), .slice (B1) (32) (d1), .int .i64 (((k : Nat) : Int)), .slice (P1) (64) (v1), .slice (Q1) (4) (u1)]) rfl Try.underlying41 rfl (by kernel_rfl)) ⟨Ext.refl _, rfl⟩
  · refine stepY (j := 2) (d := 44) (b := false) rfl rfl rfl (fun v w h => h) fun sdn sa sw sE sd sk => ?_
    have h45 : sa.eval (.tmp 45) = .agg #[.int .i64 (x), .slice (A40x0) (32) (c40x0), .int .i64 (((k : Nat) : Int)), .slice (A40x1) (64) (c40x1), .slice (A40x2) (4) (c40x2)] := sk.fact 3 45 rfl (sd 3 rfl)
    have h46 : sa.eval (.tmp 46) = .agg #[.int .i64 (x), .slice (B1) (32) (d1), .int .i64 (((k : Nat) : Int)), .slice (P1) (64) (v1), .slice (Q1) (4) (u1)] := sk.fact 4 46 rfl (sd 4 rfl)
    refine Runs.call (f := 27) (vs := [.agg #[.int .i64 (x), .slice (A40x0) (32) (c40x0), .int .i64 (((k : Nat) : Int)), .slice (A40x1) (64) (c40x1), .slice (A40x2) (4) (c40x2)], .agg #[.int .i64 (x), .slice (B1) (32) (d1), .int .i64 (((k : Nat) : Int)), .slice (P1) (64) (v1), .slice (Q1) (4) (u1)]]) rfl rfl rfl (by simp only [List.map_toArray, List.map_cons, List.map_nil, h45, h46] <;> rfl) (ent27 _ _) ((eq10_true _ _ _ _ _ _ _ _ _ _ _ _ _ _ _ _ _ _ _ _ _ _ _ sw (r40x0.ext sE) (r40x1.ext sE) (r40x2.ext sE) (rR1.ext sE) (rP1.ext sE) (rQ1.ext sE)).mono ?_); rintro e w' ⟨rfl, hx⟩; exact ⟨_, rfl, hx, rfl⟩
  · refine stepY (j := 2) (d := 44) (b := false) rfl rfl rfl (fun v w h => h) fun sdn sa sw sE sd sk => ?_
    have h47 : sa.eval (.tmp 47) = .bool (true) := sk.fact 5 47 rfl (sd 5 rfl)
    exact Runs.un rfl h47 (by rfl) ⟨Ext.refl _, rfl⟩
  · refine stepE rfl fun sdn sa sw sE sd sk => ?_
    have h44 : sa.eval (.tmp 44) = .bool (false) := sk.fact 2 44 rfl (sd 2 rfl)
    have h48 : sa.eval (.tmp 48) = .bool (false) := sk.fact 6 48 rfl (sd 6 rfl)
    exact Runs.pick rfl h44 ⟨Ext.refl _, by first | exact h48 | simpa using h48⟩
  intro vals W4 hE4 hv4
  have e0 : vals 0 = .int .i64 ((0 : Int)) := hv4 0 (by omega) 42 rfl
  have e1 : vals 1 = .bool (false) := hv4 1 (by omega) 43 rfl
  have e2 : vals 2 = .bool (false) := hv4 2 (by omega) 44 rfl
  have e3 : vals 3 = .agg #[.int .i64 (x), .slice (A40x0) (32) (c40x0), .int .i64 (((k : Nat) : Int)), .slice (A40x1) (64) (c40x1), .slice (A40x2) (4) (c40x2)] := hv4 3 (by omega) 45 rfl
  have e4 : vals 4 = .agg #[.int .i64 (x), .slice (B1) (32) (d1), .int .i64 (((k : Nat) : Int)), .slice (P1) (64) (v1), .slice (Q1) (4) (u1)] := hv4 4 (by omega) 46 rfl
  have e5 : vals 5 = .bool (true) := hv4 5 (by omega) 47 rfl
  have e6 : vals 6 = .bool (false) := hv4 6 (by omega) 48 rfl
  have e7 : vals 7 = .bool (false) := hv4 7 (by omega) 49 rfl
  simp only [putAll, Act.put, List.take_succ_cons, List.take_zero, List.drop_succ_cons, List.drop_zero, List.drop_nil, List.take_nil, Nat.reduceAdd, List.setIfInBounds_toArray, List.set_cons_succ, List.set_cons_zero, e0, e1, e2, e3, e4, e5, e6, e7]
  clear hv4 e0 e1 e2 e3 e4 e5 e6 e7
  replace rD := rD.ext hE4
  replace rE := rE.ext hE4
  replace hB10 := hB10.ext hE4
  replace rR1 := rR1.ext hE4
  replace rP1 := rP1.ext hE4
  replace rQ1 := rQ1.ext hE4
  replace rX := rX.ext hE4
  replace hB13 := hB13.ext hE4
  replace hEa := hEa.trans hE4
  clear hE4 hE3s hE3 hB3
  go_upto_region 6 with (fail)
  cases hd : rightC y T with
  | true =>
    have Hd := Lib.hid hd
    clear hd
    refine par_tup (n := 10) (jp := 9) (jq := 7) 8 5 (by kernel_rfl) [.is (.int .i64 (n)), .rk (32) (seedL n), .is (.int .i64 (index)), .is (.int .i64 (((k : Nat) : Int))), .is (.agg #[.int .i64 (y), .slice (C) (ne) (cc)]), .tp [.val (.int .i64 (y)), .b8 (32) (T), .val (.int .i64 (((k : Nat) : Int))), .bb (64) (sigP (seedL n) (bodyC checkL y T) k), .bb (4) (pathL (seedL n) k)] (.int .i64 ((0 : Int))), .tp [.val (.int .i64 (y)), .b8 (32) (T), .val (.int .i64 (((k : Nat) : Int))), .bb (64) (sigP (seedL n) (bodyC checkL y T) k), .bb (4) (pathL (seedL n) k)] (.int .i64 ((0 : Int))), .ag [.val (.int .i64 (y)), .b8 (32) (T), .val (.int .i64 (((k : Nat) : Int))), .bb (64) (sigP (seedL n) (bodyC checkL y T) k), .bb (4) (pathL (seedL n) k)], .is (.int .i64 ((0 : Int))), .bk (W4.heap.size) 41 #[.int .i64 ((0 : Int)), .slice (none) (0) (0), .int .i64 ((0 : Int)), .slice (none) (0) (0), .slice (none) (0) (0)]] rfl rfl rfl rfl rfl rfl rfl rfl rfl rfl rfl (by decide) (by decide) (by decide) (by decide) (tup_bk _ rfl) (tup_ag _ rfl rfl) (by kernel_rfl) ⟨?_, ?_, ?_, ?_, ?_, ?_, ?_, ?_, ?_, ?_, trivial⟩ ?_
    · refine stepE rfl fun sdn sa sw sE sd sk => ?_
      have h0 : sa.eval (.tmp 0) = .int .i64 (n) := sk.old 0 rfl
      exact Runs.move rfl h0 ⟨Ext.refl _, rfl⟩
    · refine stepE rfl fun sdn sa sw sE sd sk => ?_
      have h51 : sa.eval (.tmp 51) = .int .i64 (n) := sk.fact 0 51 rfl (sd 0 rfl)
      refine Runs.call (f := 35) (vs := [.int .i64 (n)]) rfl rfl rfl (by simp only [List.map_toArray, List.map_cons, List.map_nil, h51] <;> rfl) (ent35 _ _) ((seed_any n sw (by omega) (by omega)).mono ?_); rintro e w' ⟨A', c', rfl, own, hx⟩; exact ⟨_, rfl, hx, A', c', rfl, own.rb⟩
    · refine stepE rfl fun sdn sa sw sE sd sk => ?_
      have h1 : sa.eval (.tmp 1) = .int .i64 (index) := sk.old 1 rfl
      exact Runs.move rfl h1 ⟨Ext.refl _, rfl⟩
    · refine stepE rfl fun sdn sa sw sE sd sk => ?_
      have h53 : sa.eval (.tmp 53) = .int .i64 (index) := sk.fact 2 53 rfl (sd 2 rfl)
      refine Runs.call (f := 15) (vs := [.int .i64 (index), .int .i64 ((0 : Int)), .int .i64 ((15 : Int))]) rfl rfl rfl (by simp only [List.map_toArray, List.map_cons, List.map_nil, h53] <;> rfl) (ent15 _ _) ((Hwi.out sw).mono ?_); rintro e w' ⟨rfl, rfl⟩; exact ⟨_, rfl, Ext.refl _, rfl⟩
    · refine stepE rfl fun sdn sa sw sE sd sk => ?_
      have h10 : sa.eval (.tmp 10) = .pointer (some ⟨g10, 0, none⟩) := sk.old 10 rfl
      exact Runs.load rfl h10 (load_part (hB10.ext sE) 0 (vs := [.int .i64 (y), .slice (C) (ne) (cc)]) rfl Try.underlying24 rfl (by kernel_rfl)) ⟨Ext.refl _, rfl⟩
    · refine stepE rfl fun sdn sa sw sE sd sk => ?_
      obtain ⟨A52, c52, h52, r52⟩ := sk.fact 1 52 rfl (sd 1 rfl)
      have h54 : sa.eval (.tmp 54) = .int .i64 (((k : Nat) : Int)) := sk.fact 3 54 rfl (sd 3 rfl)
      have h55 : sa.eval (.tmp 55) = .agg #[.int .i64 (y), .slice (C) (ne) (cc)] := sk.fact 4 55 rfl (sd 4 rfl)
      refine Runs.call (f := 34) (vs := [.slice (A52) (32) (c52), .int .i64 (((k : Nat) : Int)), .agg #[.int .i64 (y), .slice (C) (ne) (cc)]]) rfl rfl rfl (by simp only [List.map_toArray, List.map_cons, List.map_nil, h52, h54, h55] <;> rfl) (ent34 _ _) ((csign_yes _ _ _ _ _ k _ _ _ sw r52 (rE.ext sE) (Hd.out) (by omega)).mono ?_); rintro e w' ⟨B', d', P, d1, Q, d2, rfl, h1, h2, h3, hx⟩; exact ⟨_, rfl, hx, B', d', h1, P, d1, h2, Q, d2, h3, rfl⟩
    · refine stepE rfl fun sdn sa sw sE sd sk => ?_
      obtain ⟨A56x0, c56x0, r56x0, A56x1, c56x1, r56x1, A56x2, c56x2, r56x2, h56⟩ := sk.fact 5 56 rfl (sd 5 rfl)
      replace h56 : sa.eval (.tmp 56) = .tuple #[.agg #[.int .i64 (y), .slice (A56x0) (32) (c56x0), .int .i64 (((k : Nat) : Int)), .slice (A56x1) (64) (c56x1), .slice (A56x2) (4) (c56x2)], .int .i64 ((0 : Int))] := h56
      exact Runs.move rfl h56 ⟨Ext.refl _, _, _, r56x0, _, _, r56x1, _, _, r56x2, rfl⟩
    · refine stepE rfl fun sdn sa sw sE sd sk => ?_
      obtain ⟨A50x0, c50x0, r50x0, A50x1, c50x1, r50x1, A50x2, c50x2, r50x2, h50⟩ := sk.fact 6 50 rfl (sd 6 rfl)
      replace h50 : sa.eval (.tmp 50) = .tuple #[.agg #[.int .i64 (y), .slice (A50x0) (32) (c50x0), .int .i64 (((k : Nat) : Int)), .slice (A50x1) (64) (c50x1), .slice (A50x2) (4) (c50x2)], .int .i64 ((0 : Int))] := h50
      refine Runs.of_run (r := .agg #[.int .i64 (y), .slice (A50x0) (32) (c50x0), .int .i64 (((k : Nat) : Int)), .slice (A50x1) (64) (c50x1), .slice (A50x2) (4) (c50x2)]) (w' := sw) ?_ ⟨Ext.refl _, _, _, r50x0, _, _, r50x1, _, _, r50x2, rfl⟩
      unfold execOp
      simp only [h50]
      go_simp
    · refine stepE rfl fun sdn sa sw sE sd sk => ?_
      obtain ⟨A50x0, c50x0, r50x0, A50x1, c50x1, r50x1, A50x2, c50x2, r50x2, h50⟩ := sk.fact 6 50 rfl (sd 6 rfl)
      replace h50 : sa.eval (.tmp 50) = .tuple #[.agg #[.int .i64 (y), .slice (A50x0) (32) (c50x0), .int .i64 (((k : Nat) : Int)), .slice (A50x1) (64) (c50x1), .slice (A50x2) (4) (c50x2)], .int .i64 ((0 : Int))] := h50
      refine Runs.of_run (r := .int .i64 ((0 : Int))) (w' := sw) ?_ ⟨Ext.refl _, rfl⟩
      unfold execOp
      simp only [h50]
      go_simp
    · refine stepE rfl fun sdn sa sw sE sd sk => ?_
      refine Runs.of_run (r := .pointer (some ⟨sw.heap.size, 0, none⟩)) (w' := sw.alloc (.cells #[.int .i64 ((0 : Int)), .slice (none) (0) (0), .int .i64 ((0 : Int)), .slice (none) (0) (0), .slice (none) (0) (0)] 41)) ?_ ⟨Ext.new _ _, _, rfl, Blk.new _ _ _, sE.size⟩
      unfold execOp
      go_simp
    intro vals W6 hE6 hv6 gst vst hgst hvst
    have e0 : vals 0 = .int .i64 (n) := hv6 0 (by omega) 51 rfl
    obtain ⟨A52, c52, e1, r52⟩ := hv6 1 (by omega) 52 rfl
    have e2 : vals 2 = .int .i64 (index) := hv6 2 (by omega) 53 rfl
    have e3 : vals 3 = .int .i64 (((k : Nat) : Int)) := hv6 3 (by omega) 54 rfl
    have e4 : vals 4 = .agg #[.int .i64 (y), .slice (C) (ne) (cc)] := hv6 4 (by omega) 55 rfl
    obtain ⟨A56x0, c56x0, r56x0, A56x1, c56x1, r56x1, A56x2, c56x2, r56x2, e5⟩ := hv6 5 (by omega) 56 rfl
    replace e5 : vals 5 = .tuple #[.agg #[.int .i64 (y), .slice (A56x0) (32) (c56x0), .int .i64 (((k : Nat) : Int)), .slice (A56x1) (64) (c56x1), .slice (A56x2) (4) (c56x2)], .int .i64 ((0 : Int))] := e5
    obtain ⟨A50x0, c50x0, r50x0, A50x1, c50x1, r50x1, A50x2, c50x2, r50x2, e6⟩ := hv6 6 (by omega) 50 rfl
    replace e6 : vals 6 = .tuple #[.agg #[.int .i64 (y), .slice (A50x0) (32) (c50x0), .int .i64 (((k : Nat) : Int)), .slice (A50x1) (64) (c50x1), .slice (A50x2) (4) (c50x2)], .int .i64 ((0 : Int))] := e6
    obtain ⟨A57x0, c57x0, r57x0, A57x1, c57x1, r57x1, A57x2, c57x2, r57x2, e7⟩ := hv6 7 (by omega) 57 rfl
    replace e7 : vals 7 = .agg #[.int .i64 (y), .slice (A57x0) (32) (c57x0), .int .i64 (((k : Nat) : Int)), .slice (A57x1) (64) (c57x1), .slice (A57x2) (4) (c57x2)] := e7
    have e8 : vals 8 = .int .i64 ((0 : Int)) := hv6 8 (by omega) 58 rfl
    obtain ⟨g17, e9, hb17, gb17⟩ := hv6 9 (by omega) 17 rfl
    obtain rfl : gst = g17 := pointer_eq hgst e9
    obtain rfl : vst = #[.int .i64 (y), .slice (A57x0) (32) (c57x0), .int .i64 (((k : Nat) : Int)), .slice (A57x1) (64) (c57x1), .slice (A57x2) (4) (c57x2)] := Value.agg.inj (hvst.symm.trans e7)
    simp only [putAll, Act.put, List.take_succ_cons, List.take_zero, List.drop_succ_cons, List.drop_zero, List.drop_nil, List.take_nil, Nat.reduceAdd, List.setIfInBounds_toArray, List.set_cons_succ, List.set_cons_zero, e0, e1, e2, e3, e4, e5, e6, e7, e8, e9]
    clear hv6 e0 e1 e2 e3 e4 e5 e6 e7 e8 e9 hgst hvst
    have hGt := grown_setCells gst (#[.int .i64 (y), .slice (A57x0) (32) (c57x0), .int .i64 (((k : Nat) : Int)), .slice (A57x1) (64) (c57x1), .slice (A57x2) (4) (c57x2)] : Array Value).toList 0 W6
    have hB6 := hb17.setAll (vs := #[.int .i64 (y), .slice (A57x0) (32) (c57x0), .int .i64 (((k : Nat) : Int)), .slice (A57x1) (64) (c57x1), .slice (A57x2) (4) (c57x2)]) rfl
    have hE6s := hE6.then_grown hGt (by intro k hk; cases hk; exact gb17)
    replace r57x0 := r57x0.grown hGt (r57x0.apart5 hb17 (nou8 (by kernel_rfl)))
    replace r57x1 := r57x1.away hb17 (nou8 (by kernel_rfl)) hGt (fun _ => r57x1.apart3 hb17 (no3 (by kernel_rfl)) (by omega))
    replace r57x2 := r57x2.away hb17 (nou8 (by kernel_rfl)) hGt (fun _ => r57x2.apart3 hb17 (no3 (by kernel_rfl)) (by omega))
    clear hGt hb17 gb17
    generalize W6.setCells gst 0 (#[.int .i64 (y), .slice (A57x0) (32) (c57x0), .int .i64 (((k : Nat) : Int)), .slice (A57x1) (64) (c57x1), .slice (A57x2) (4) (c57x2)] : Array Value).toList = W6b at *
    replace rD := rD.ext hE6s
    replace rE := rE.ext hE6s
    replace hB10 := hB10.ext hE6s
    replace rR1 := rR1.ext hE6s
    replace rP1 := rP1.ext hE6s
    replace rQ1 := rQ1.ext hE6s
    replace rX := rX.ext hE6s
    replace hB13 := hB13.ext hE6s
    replace hEa := hEa.trans hE6s
    go_upto_region 7 with (fail)
    refine seq_ext (n := 19) (by kernel_rfl) [.is (.int .i64 ((0 : Int))), .is (.bool (true)), .is (.agg #[.int .i64 (y), .slice (C) (ne) (cc)]), .is (.bool (true)), .is (.bool (false)), .is (.bool (false)), .is (.int .i64 ((0 : Int))), .is (.bool (false)), .is (.bool (false)), .is undef, .is undef, .is undef, .is undef, .is undef, .is undef, .is undef, .is undef, .is (.bool (false)), .is (.bool (false))] rfl ⟨?_, ?_, ?_, ?_, ?_, ?_, ?_, ?_, ?_, ?_, ?_, ?_, ?_, ?_, ?_, ?_, ?_, ?_, ?_, trivial⟩ ?_
    · refine stepE rfl fun sdn sa sw sE sd sk => ?_
      have h18 : sa.eval (.tmp 18) = .int .i64 ((0 : Int)) := sk.old 18 rfl
      exact Runs.move rfl h18 ⟨Ext.refl _, rfl⟩
    · refine stepE rfl fun sdn sa sw sE sd sk => ?_
      have h59 : sa.eval (.tmp 59) = .int .i64 ((0 : Int)) := sk.fact 0 59 rfl (sd 0 rfl)
      exact Runs.bin rfl h59 rfl (by rfl) (bin_eql _ _ _ _) ⟨Ext.refl _, congrArg Value.bool (by decide)⟩
    · refine stepE rfl fun sdn sa sw sE sd sk => ?_
      have h10 : sa.eval (.tmp 10) = .pointer (some ⟨g10, 0, none⟩) := sk.old 10 rfl
      exact Runs.load rfl h10 (load_part (hB10.ext sE) 0 (vs := [.int .i64 (y), .slice (C) (ne) (cc)]) rfl Try.underlying24 rfl (by kernel_rfl)) ⟨Ext.refl _, rfl⟩
    · refine stepE rfl fun sdn sa sw sE sd sk => ?_
      have h61 : sa.eval (.tmp 61) = .agg #[.int .i64 (y), .slice (C) (ne) (cc)] := sk.fact 2 61 rfl (sd 2 rfl)
      refine Runs.call (f := 36) (vs := [.agg #[.int .i64 (y), .slice (C) (ne) (cc)]]) rfl rfl rfl (by simp only [List.map_toArray, List.map_cons, List.map_nil, h61] <;> rfl) (ent36 _ _) ((rcright_any _ _ _ _ _ sw (rE.ext sE)).mono ?_); rintro e w' ⟨rfl, hx⟩; exact ⟨_, rfl, hx, congrArg Value.bool (Hd.out)⟩
    · refine stepE rfl fun sdn sa sw sE sd sk => ?_
      have h60 : sa.eval (.tmp 60) = .bool (true) := sk.fact 1 60 rfl (sd 1 rfl)
      have h62 : sa.eval (.tmp 62) = .bool (true) := sk.fact 3 62 rfl (sd 3 rfl)
      exact Runs.bin rfl h60 h62 (by rfl) (bin_neb _ _) ⟨Ext.refl _, congrArg Value.bool (by decide)⟩
    · refine stepE rfl fun sdn sa sw sE sd sk => ?_
      have h63 : sa.eval (.tmp 63) = .bool (false) := sk.fact 4 63 rfl (sd 4 rfl)
      exact Runs.move rfl h63 ⟨Ext.refl _, rfl⟩
    · refine stepY (j := 5) (d := 64) (b := false) rfl rfl rfl (fun v w h => h) fun sdn sa sw sE sd sk => ?_
      have h18 : sa.eval (.tmp 18) = .int .i64 ((0 : Int)) := sk.old 18 rfl
      exact Runs.move rfl h18 ⟨Ext.refl _, rfl⟩
    · refine stepY (j := 5) (d := 64) (b := false) rfl rfl rfl (fun v w h => h) fun sdn sa sw sE sd sk => ?_
      have h65 : sa.eval (.tmp 65) = .int .i64 ((0 : Int)) := sk.fact 6 65 rfl (sd 6 rfl)
      exact Runs.bin rfl h65 rfl (by rfl) (bin_neq _ _ _ _) ⟨Ext.refl _, congrArg Value.bool (by decide)⟩
    · refine stepY (j := 5) (d := 64) (b := false) rfl rfl rfl (fun v w h => h) fun sdn sa sw sE sd sk => ?_
      have h66 : sa.eval (.tmp 66) = .bool (false) := sk.fact 7 66 rfl (sd 7 rfl)
      exact Runs.move rfl h66 ⟨Ext.refl _, rfl⟩
    · exact stepN (j := 8) (d := 67) (b := false) rfl rfl rfl (fun v w h => h) fun w => rfl
    · exact stepN (j := 8) (d := 67) (b := false) rfl rfl rfl (fun v w h => h) fun w => rfl
    · exact stepN (j := 8) (d := 67) (b := false) rfl rfl rfl (fun v w h => h) fun w => rfl
    · exact stepU (j := 11) (d := 70) (b := false) rfl rfl rfl (fun v w h => h) fun w => rfl
    · exact stepU (j := 11) (d := 70) (b := false) rfl rfl rfl (fun v w h => h) fun w => rfl
    · exact stepU (j := 11) (d := 70) (b := false) rfl rfl rfl (fun v w h => h) fun w => rfl
    · exact stepU (j := 11) (d := 70) (b := false) rfl rfl rfl (fun v w h => h) fun w => rfl
    · exact stepN (j := 8) (d := 67) (b := false) rfl rfl rfl (fun v w h => h) fun w => rfl
    · refine stepY (j := 5) (d := 64) (b := false) rfl rfl rfl (fun v w h => h) fun sdn sa sw sE sd sk => ?_
      have h67 : sa.eval (.tmp 67) = .bool (false) := sk.fact 8 67 rfl (sd 8 rfl)
      exact Runs.pick rfl h67 ⟨Ext.refl _, rfl⟩
    · refine stepE rfl fun sdn sa sw sE sd sk => ?_
      have h64 : sa.eval (.tmp 64) = .bool (false) := sk.fact 5 64 rfl (sd 5 rfl)
      have h76 : sa.eval (.tmp 76) = .bool (false) := sk.fact 17 76 rfl (sd 17 rfl)
      exact Runs.pick rfl h64 ⟨Ext.refl _, by first | exact h76 | simpa using h76⟩
    intro vals W7 hE7 hv7
    have e0 : vals 0 = .int .i64 ((0 : Int)) := hv7 0 (by omega) 59 rfl
    have e1 : vals 1 = .bool (true) := hv7 1 (by omega) 60 rfl
    have e2 : vals 2 = .agg #[.int .i64 (y), .slice (C) (ne) (cc)] := hv7 2 (by omega) 61 rfl
    have e3 : vals 3 = .bool (true) := hv7 3 (by omega) 62 rfl
    have e4 : vals 4 = .bool (false) := hv7 4 (by omega) 63 rfl
    have e5 : vals 5 = .bool (false) := hv7 5 (by omega) 64 rfl
    have e6 : vals 6 = .int .i64 ((0 : Int)) := hv7 6 (by omega) 65 rfl
    have e7 : vals 7 = .bool (false) := hv7 7 (by omega) 66 rfl
    have e8 : vals 8 = .bool (false) := hv7 8 (by omega) 67 rfl
    have e17 : vals 17 = .bool (false) := hv7 17 (by omega) 76 rfl
    have e18 : vals 18 = .bool (false) := hv7 18 (by omega) 77 rfl
    simp only [putAll, Act.put, List.take_succ_cons, List.take_zero, List.drop_succ_cons, List.drop_zero, List.drop_nil, List.take_nil, Nat.reduceAdd, List.setIfInBounds_toArray, List.set_cons_succ, List.set_cons_zero, e0, e1, e2, e3, e4, e5, e6, e7, e8, e17, e18]
    clear hv7 e0 e1 e2 e3 e4 e5 e6 e7 e8 e17 e18
    replace rD := rD.ext hE7
    replace rE := rE.ext hE7
    replace hB10 := hB10.ext hE7
    replace rR1 := rR1.ext hE7
    replace rP1 := rP1.ext hE7
    replace rQ1 := rQ1.ext hE7
    replace rX := rX.ext hE7
    replace hB13 := hB13.ext hE7
    replace hEa := hEa.trans hE7
    clear hE7 hE6s hE6 hB6
    have y0 := hB13.cell (i := 0) (v := .int .i64 x) rfl
    have y1 := hB13.cell (i := 1) (v := .slice B1 32 d1) rfl
    have y2 := hB13.cell (i := 2) (v := .int .i64 (k : Int)) rfl
    have y3 := hB13.cell (i := 3) (v := .slice P1 64 v1) rfl
    have y4 := hB13.cell (i := 4) (v := .slice Q1 4 u1) rfl
    have hBz := hB10.ext (Ext.new W7 (.cells #[.int .i64 x, .slice B1 32 d1, .int .i64 (k : Int), .slice P1 64 v1, .slice Q1 4 u1] 41))
    have z0 := hBz.cell (i := 0) (v := .int .i64 y) rfl
    have z1 := hBz.cell (i := 1) (v := .slice C ne cc) rfl
    clear hBz
    have hEn := Ext.new W7 (.cells #[.int .i64 y, .slice C ne cc, .int .i64 (k : Int), .slice P1 64 v1, .slice Q1 4 u1] 41)
    have hB19 := Blk.new W7 41 #[.int .i64 y, .slice C ne cc, .int .i64 (k : Int), .slice P1 64 v1, .slice Q1 4 u1]
    replace rD := rD.ext hEn
    replace rE := rE.ext hEn
    replace hB10 := hB10.ext hEn
    replace rR1 := rR1.ext hEn
    replace rP1 := rP1.ext hEn
    replace rQ1 := rQ1.ext hEn
    replace rX := rX.ext hEn
    replace hB13 := hB13.ext hEn
    replace hEa := hEa.trans hEn
    clear hEn
    go_upto_region 11 with (fail)
    clear y0 y1 y2 y3 y4 z0 z1
    generalize W7.alloc (.cells #[.int .i64 y, .slice C ne cc, .int .i64 (k : Int), .slice P1 64 v1, .slice Q1 4 u1] 41) = w8 at *
    generalize W7.heap.size = g19 at *
    obtain ⟨hr0, hr1⟩ := Hr0.out
    refine par_ext (n := 32) (by kernel_rfl) [.is (.slice (X) (32) (cx)), .is (.agg #[.int .i64 (x), .slice (B1) (32) (d1), .int .i64 (((k : Nat) : Int)), .slice (P1) (64) (v1), .slice (Q1) (4) (u1)]), .is (.bool (true)), .is (.bool (true)), .is (.slice (X) (32) (cx)), .is (.agg #[.int .i64 (y), .slice (C) (ne) (cc), .int .i64 (((k : Nat) : Int)), .slice (P1) (64) (v1), .slice (Q1) (4) (u1)]), .is (.bool (true)), .is (.bool (true)), .is (.bool (true)), .is (.int .i64 (root)), .rk (32) (khash root), .is (.agg #[.int .i64 (x), .slice (B1) (32) (d1), .int .i64 (((k : Nat) : Int)), .slice (P1) (64) (v1), .slice (Q1) (4) (u1)]), .is (.bool (true)), .is (.bool (true)), .is (.bool (true)), .is (.slice (D) (nd) (cd)), .is (.bool (true)), .is (.bool (true)), .is (.bool (true)), .is (.pointer (some ⟨g13, 0, none⟩)), .is (.agg #[.int .i64 (x), .slice (B1) (32) (d1)]), .is (.agg #[.int .i64 (y), .slice (C) (ne) (cc)]), .is (.bool (decide (x = y) && decide (R = T))), .is (.pointer (some ⟨g13, 0, none⟩)), .is (.agg #[.int .i64 (x), .slice (B1) (32) (d1)]), .is (.agg #[.int .i64 (y), .slice (C) (ne) (cc)]), .is (.bool (decide (x = y) && decide (R = T))), .is (.bool (true)), .is (.bool (true)), .is (.bool (true)), .is (.bool (true)), .is (.bool (true))] rfl ⟨?_, ?_, ?_, ?_, ?_, ?_, ?_, ?_, ?_, ?_, ?_, ?_, ?_, ?_, ?_, ?_, ?_, ?_, ?_, ?_, ?_, ?_, ?_, ?_, ?_, ?_, ?_, ?_, ?_, ?_, ?_, ?_, trivial⟩ ?_
    · refine stepE rfl fun sdn sa sw sE sd sk => ?_
      have h14 : sa.eval (.tmp 14) = .slice (X) (32) (cx) := sk.old 14 rfl
      exact Runs.move rfl h14 ⟨Ext.refl _, rfl⟩
    · refine stepE rfl fun sdn sa sw sE sd sk => ?_
      have h13 : sa.eval (.tmp 13) = .pointer (some ⟨g13, 0, none⟩) := sk.old 13 rfl
      exact Runs.load rfl h13 (load_part (hB13.ext sE) 0 (vs := [.int .i64 (x), .slice (B1) (32) (d1), .int .i64 (((k : Nat) : Int)), .slice (P1) (64) (v1), .slice (Q1) (4) (u1)]) rfl Try.underlying41 rfl (by kernel_rfl)) ⟨Ext.refl _, rfl⟩
    · refine stepE rfl fun sdn sa sw sE sd sk => ?_
      have h81 : sa.eval (.tmp 81) = .slice (X) (32) (cx) := sk.fact 0 81 rfl (sd 0 rfl)
      have h82 : sa.eval (.tmp 82) = .agg #[.int .i64 (x), .slice (B1) (32) (d1), .int .i64 (((k : Nat) : Int)), .slice (P1) (64) (v1), .slice (Q1) (4) (u1)] := sk.fact 1 82 rfl (sd 1 rfl)
      refine Runs.call (f := 32) (vs := [.slice (X) (32) (cx), .agg #[.int .i64 (x), .slice (B1) (32) (d1), .int .i64 (((k : Nat) : Int)), .slice (P1) (64) (v1), .slice (Q1) (4) (u1)]]) rfl rfl rfl (by simp only [List.map_toArray, List.map_cons, List.map_nil, h81, h82] <;> rfl) (ent32 _ _) ((same10_any _ _ _ _ _ _ _ _ _ _ _ _ _ _ _ _ _ _ sw (rX.ext sE) (rR1.ext sE) (rP1.ext sE) (rQ1.ext sE)).mono ?_); rintro e w' ⟨rfl, hx⟩; exact ⟨_, rfl, hx, rfl⟩
    · refine stepE rfl fun sdn sa sw sE sd sk => ?_
      have h83 : sa.eval (.tmp 83) = .bool (true) := sk.fact 2 83 rfl (sd 2 rfl)
      exact Runs.move rfl h83 ⟨Ext.refl _, rfl⟩
    · refine stepY (j := 3) (d := 84) (b := true) rfl rfl rfl (fun v w h => h) fun sdn sa sw sE sd sk => ?_
      have h14 : sa.eval (.tmp 14) = .slice (X) (32) (cx) := sk.old 14 rfl
      exact Runs.move rfl h14 ⟨Ext.refl _, rfl⟩
    · refine stepY (j := 3) (d := 84) (b := true) rfl rfl rfl (fun v w h => h) fun sdn sa sw sE sd sk => ?_
      have h19 : sa.eval (.tmp 19) = .pointer (some ⟨g19, 0, none⟩) := sk.old 19 rfl
      exact Runs.load rfl h19 (load_part (hB19.ext sE) 0 (vs := [.int .i64 (y), .slice (C) (ne) (cc), .int .i64 (((k : Nat) : Int)), .slice (P1) (64) (v1), .slice (Q1) (4) (u1)]) rfl Try.underlying41 rfl (by kernel_rfl)) ⟨Ext.refl _, rfl⟩
    · refine stepY (j := 3) (d := 84) (b := true) rfl rfl rfl (fun v w h => h) fun sdn sa sw sE sd sk => ?_
      have h85 : sa.eval (.tmp 85) = .slice (X) (32) (cx) := sk.fact 4 85 rfl (sd 4 rfl)
      have h86 : sa.eval (.tmp 86) = .agg #[.int .i64 (y), .slice (C) (ne) (cc), .int .i64 (((k : Nat) : Int)), .slice (P1) (64) (v1), .slice (Q1) (4) (u1)] := sk.fact 5 86 rfl (sd 5 rfl)
      refine Runs.call (f := 32) (vs := [.slice (X) (32) (cx), .agg #[.int .i64 (y), .slice (C) (ne) (cc), .int .i64 (((k : Nat) : Int)), .slice (P1) (64) (v1), .slice (Q1) (4) (u1)]]) rfl rfl rfl (by simp only [List.map_toArray, List.map_cons, List.map_nil, h85, h86] <;> rfl) (ent32 _ _) ((same10_any _ _ _ _ _ _ _ _ _ _ _ _ _ _ _ _ _ _ sw (rX.ext sE) (rE.ext sE) (rP1.ext sE) (rQ1.ext sE)).mono ?_); rintro e w' ⟨rfl, hx⟩; exact ⟨_, rfl, hx, rfl⟩
    · refine stepE rfl fun sdn sa sw sE sd sk => ?_
      have h84 : sa.eval (.tmp 84) = .bool (true) := sk.fact 3 84 rfl (sd 3 rfl)
      have h87 : sa.eval (.tmp 87) = .bool (true) := sk.fact 6 87 rfl (sd 6 rfl)
      exact Runs.pick rfl h84 ⟨Ext.refl _, by first | exact h87 | simpa using h87⟩
    · refine stepE rfl fun sdn sa sw sE sd sk => ?_
      have h88 : sa.eval (.tmp 88) = .bool (true) := sk.fact 7 88 rfl (sd 7 rfl)
      exact Runs.move rfl h88 ⟨Ext.refl _, rfl⟩
    · refine stepY (j := 8) (d := 89) (b := true) rfl rfl rfl (fun v w h => h) fun sdn sa sw sE sd sk => ?_
      have h3 : sa.eval (.tmp 3) = .int .i64 (root) := sk.old 3 rfl
      exact Runs.move rfl h3 ⟨Ext.refl _, rfl⟩
    · refine stepY (j := 8) (d := 89) (b := true) rfl rfl rfl (fun v w h => h) fun sdn sa sw sE sd sk => ?_
      have h90 : sa.eval (.tmp 90) = .int .i64 (root) := sk.fact 9 90 rfl (sd 9 rfl)
      refine Runs.call (f := 37) (vs := [.int .i64 (root)]) rfl rfl rfl (by simp only [List.map_toArray, List.map_cons, List.map_nil, h90] <;> rfl) (ent37 _ _) ((hash_any root sw (by omega) (by omega)).mono ?_); rintro e w' ⟨A', c', rfl, own, hx⟩; exact ⟨_, rfl, hx, A', c', rfl, own.rb⟩
    · refine stepY (j := 8) (d := 89) (b := true) rfl rfl rfl (fun v w h => h) fun sdn sa sw sE sd sk => ?_
      have h13 : sa.eval (.tmp 13) = .pointer (some ⟨g13, 0, none⟩) := sk.old 13 rfl
      exact Runs.load rfl h13 (load_part (hB13.ext sE) 0 (vs := [.int .i64 (x), .slice (B1) (32) (d1), .int .i64 (((k : Nat) : Int)), .slice (P1) (64) (v1), .slice (Q1) (4) (u1)]) rfl Try.underlying41 rfl (by kernel_rfl)) ⟨Ext.refl _, rfl⟩
    · refine stepY (j := 8) (d := 89) (b := true) rfl rfl rfl (fun v w h => h) fun sdn sa sw sE sd sk => ?_
      obtain ⟨A91, c91, h91, r91⟩ := sk.fact 10 91 rfl (sd 10 rfl)
      have h92 : sa.eval (.tmp 92) = .agg #[.int .i64 (x), .slice (B1) (32) (d1), .int .i64 (((k : Nat) : Int)), .slice (P1) (64) (v1), .slice (Q1) (4) (u1)] := sk.fact 11 92 rfl (sd 11 rfl)
      refine Runs.call (f := 32) (vs := [.slice (A91) (32) (c91), .agg #[.int .i64 (x), .slice (B1) (32) (d1), .int .i64 (((k : Nat) : Int)), .slice (P1) (64) (v1), .slice (Q1) (4) (u1)]]) rfl rfl rfl (by simp only [List.map_toArray, List.map_cons, List.map_nil, h91, h92] <;> rfl) (ent32 _ _) ((same10_any _ _ _ _ _ _ _ _ _ _ _ _ _ _ _ _ _ _ sw r91 (rR1.ext sE) (rP1.ext sE) (rQ1.ext sE)).mono ?_); rintro e w' ⟨rfl, hx⟩; exact ⟨_, rfl, hx, rfl⟩
    · refine stepE rfl fun sdn sa sw sE sd sk => ?_
      have h89 : sa.eval (.tmp 89) = .bool (true) := sk.fact 8 89 rfl (sd 8 rfl)
      have h93 : sa.eval (.tmp 93) = .bool (true) := sk.fact 12 93 rfl (sd 12 rfl)
      exact Runs.pick rfl h89 ⟨Ext.refl _, by first | exact h93 | simpa using h93⟩
    · refine stepE rfl fun sdn sa sw sE sd sk => ?_
      have h94 : sa.eval (.tmp 94) = .bool (true) := sk.fact 13 94 rfl (sd 13 rfl)
      exact Runs.move rfl h94 ⟨Ext.refl _, rfl⟩
    · refine stepY (j := 14) (d := 95) (b := true) rfl rfl rfl (fun v w h => h) fun sdn sa sw sE sd sk => ?_
      have h5 : sa.eval (.tmp 5) = .slice (D) (nd) (cd) := sk.old 5 rfl
      exact Runs.move rfl h5 ⟨Ext.refl _, rfl⟩
    · refine stepY (j := 14) (d := 95) (b := true) rfl rfl rfl (fun v w h => h) fun sdn sa sw sE sd sk => ?_
      have h96 : sa.eval (.tmp 96) = .slice (D) (nd) (cd) := sk.fact 15 96 rfl (sd 15 rfl)
      refine Runs.call (f := 31) (vs := [.slice (D) (nd) (cd)]) rfl rfl rfl (by simp only [List.map_toArray, List.map_cons, List.map_nil, h96] <;> rfl) (ent31 _ _) ((reads10_any _ _ _ _ sw (rD.ext sE) (by omega)).mono ?_); rintro e w' ⟨rfl, hx⟩; exact ⟨_, rfl, hx, rfl⟩
    · refine stepE rfl fun sdn sa sw sE sd sk => ?_
      have h95 : sa.eval (.tmp 95) = .bool (true) := sk.fact 14 95 rfl (sd 14 rfl)
      have h97 : sa.eval (.tmp 97) = .bool (true) := sk.fact 16 97 rfl (sd 16 rfl)
      exact Runs.pick rfl h95 ⟨Ext.refl _, by first | exact h97 | simpa using h97⟩
    · refine stepE rfl fun sdn sa sw sE sd sk => ?_
      have h98 : sa.eval (.tmp 98) = .bool (true) := sk.fact 17 98 rfl (sd 17 rfl)
      exact Runs.move rfl h98 ⟨Ext.refl _, rfl⟩
    · refine stepY (j := 18) (d := 99) (b := true) rfl rfl rfl (fun v w h => h) fun sdn sa sw sE sd sk => ?_
      have h13 : sa.eval (.tmp 13) = .pointer (some ⟨g13, 0, none⟩) := sk.old 13 rfl
      refine Runs.of_run (r := .pointer (some ⟨g13, 0, none⟩)) (w' := sw) ?_ ⟨Ext.refl _, rfl⟩
      unfold execOp
      simp only [h13]
      go_simp
    · refine stepY (j := 18) (d := 99) (b := true) rfl rfl rfl (fun v w h => h) fun sdn sa sw sE sd sk => ?_
      have h100 : sa.eval (.tmp 100) = .pointer (some ⟨g13, 0, none⟩) := sk.fact 19 100 rfl (sd 19 rfl)
      exact Runs.load rfl h100 (load_part (hB13.ext sE) 0 (vs := [.int .i64 (x), .slice (B1) (32) (d1)]) rfl Try.underlying24 rfl (by kernel_rfl)) ⟨Ext.refl _, rfl⟩
    · refine stepY (j := 18) (d := 99) (b := true) rfl rfl rfl (fun v w h => h) fun sdn sa sw sE sd sk => ?_
      have h10 : sa.eval (.tmp 10) = .pointer (some ⟨g10, 0, none⟩) := sk.old 10 rfl
      exact Runs.load rfl h10 (load_part (hB10.ext sE) 0 (vs := [.int .i64 (y), .slice (C) (ne) (cc)]) rfl Try.underlying24 rfl (by kernel_rfl)) ⟨Ext.refl _, rfl⟩
    · refine stepY (j := 18) (d := 99) (b := true) rfl rfl rfl (fun v w h => h) fun sdn sa sw sE sd sk => ?_
      have h101 : sa.eval (.tmp 101) = .agg #[.int .i64 (x), .slice (B1) (32) (d1)] := sk.fact 20 101 rfl (sd 20 rfl)
      have h102 : sa.eval (.tmp 102) = .agg #[.int .i64 (y), .slice (C) (ne) (cc)] := sk.fact 21 102 rfl (sd 21 rfl)
      refine Runs.call (f := 18) (vs := [.agg #[.int .i64 (x), .slice (B1) (32) (d1)], .agg #[.int .i64 (y), .slice (C) (ne) (cc)]]) rfl rfl rfl (by simp only [List.map_toArray, List.map_cons, List.map_nil, h101, h102] <;> rfl) (ent18 _ _) ((csame_any _ _ _ _ _ _ _ _ _ _ sw (rR1.ext sE) (rE.ext sE)).mono ?_); rintro e w' ⟨rfl, hx⟩; exact ⟨_, rfl, hx, rfl⟩
    · refine stepY (j := 18) (d := 99) (b := true) rfl rfl rfl (fun v w h => h) fun sdn sa sw sE sd sk => ?_
      have h13 : sa.eval (.tmp 13) = .pointer (some ⟨g13, 0, none⟩) := sk.old 13 rfl
      refine Runs.of_run (r := .pointer (some ⟨g13, 0, none⟩)) (w' := sw) ?_ ⟨Ext.refl _, rfl⟩
      unfold execOp
      simp only [h13]
      go_simp
    · refine stepY (j := 18) (d := 99) (b := true) rfl rfl rfl (fun v w h => h) fun sdn sa sw sE sd sk => ?_
      have h104 : sa.eval (.tmp 104) = .pointer (some ⟨g13, 0, none⟩) := sk.fact 23 104 rfl (sd 23 rfl)
      exact Runs.load rfl h104 (load_part (hB13.ext sE) 0 (vs := [.int .i64 (x), .slice (B1) (32) (d1)]) rfl Try.underlying24 rfl (by kernel_rfl)) ⟨Ext.refl _, rfl⟩
    · refine stepY (j := 18) (d := 99) (b := true) rfl rfl rfl (fun v w h => h) fun sdn sa sw sE sd sk => ?_
      have h10 : sa.eval (.tmp 10) = .pointer (some ⟨g10, 0, none⟩) := sk.old 10 rfl
      exact Runs.load rfl h10 (load_part (hB10.ext sE) 0 (vs := [.int .i64 (y), .slice (C) (ne) (cc)]) rfl Try.underlying24 rfl (by kernel_rfl)) ⟨Ext.refl _, rfl⟩
    · refine stepY (j := 18) (d := 99) (b := true) rfl rfl rfl (fun v w h => h) fun sdn sa sw sE sd sk => ?_
      have h105 : sa.eval (.tmp 105) = .agg #[.int .i64 (x), .slice (B1) (32) (d1)] := sk.fact 24 105 rfl (sd 24 rfl)
      have h106 : sa.eval (.tmp 106) = .agg #[.int .i64 (y), .slice (C) (ne) (cc)] := sk.fact 25 106 rfl (sd 25 rfl)
      refine Runs.call (f := 38) (vs := [.agg #[.int .i64 (x), .slice (B1) (32) (d1)], .agg #[.int .i64 (y), .slice (C) (ne) (cc)]]) rfl rfl rfl (by simp only [List.map_toArray, List.map_cons, List.map_nil, h105, h106] <;> rfl) (ent38 _ _) ((rcsame_any _ _ _ _ _ _ _ _ _ _ sw (rR1.ext sE) (rE.ext sE)).mono ?_); rintro e w' ⟨rfl, hx⟩; exact ⟨_, rfl, hx, rfl⟩
    · refine stepY (j := 18) (d := 99) (b := true) rfl rfl rfl (fun v w h => h) fun sdn sa sw sE sd sk => ?_
      have h103 : sa.eval (.tmp 103) = .bool (decide (x = y) && decide (R = T)) := sk.fact 22 103 rfl (sd 22 rfl)
      have h107 : sa.eval (.tmp 107) = .bool (decide (x = y) && decide (R = T)) := sk.fact 26 107 rfl (sd 26 rfl)
      exact Runs.bin rfl h103 h107 (by rfl) (bin_eqb _ _) ⟨Ext.refl _, congrArg Value.bool (by simp)⟩
    · refine stepE rfl fun sdn sa sw sE sd sk => ?_
      have h99 : sa.eval (.tmp 99) = .bool (true) := sk.fact 18 99 rfl (sd 18 rfl)
      have h108 : sa.eval (.tmp 108) = .bool (true) := sk.fact 27 108 rfl (sd 27 rfl)
      exact Runs.pick rfl h99 ⟨Ext.refl _, by first | exact h108 | simpa using h108⟩
    · refine stepE rfl fun sdn sa sw sE sd sk => ?_
      have h109 : sa.eval (.tmp 109) = .bool (true) := sk.fact 28 109 rfl (sd 28 rfl)
      exact Runs.move rfl h109 ⟨Ext.refl _, rfl⟩
    · refine stepY (j := 29) (d := 110) (b := true) rfl rfl rfl (fun v w h => h) fun sdn sa sw sE sd sk => ?_
      refine Runs.call (f := 20) (vs := []) rfl rfl rfl (by simp only [List.map_toArray, List.map_cons, List.map_nil] <;> rfl) (ent20 _ _) ((known10_any sw).mono ?_); rintro e w' ⟨rfl, hx⟩; exact ⟨_, rfl, hx, rfl⟩
    · refine stepE rfl fun sdn sa sw sE sd sk => ?_
      have h110 : sa.eval (.tmp 110) = .bool (true) := sk.fact 29 110 rfl (sd 29 rfl)
      have h111 : sa.eval (.tmp 111) = .bool (true) := sk.fact 30 111 rfl (sd 30 rfl)
      exact Runs.pick rfl h110 ⟨Ext.refl _, by first | exact h111 | simpa using h111⟩
    intro vals W11 hE11 hv11
    have e0 : vals 0 = .slice (X) (32) (cx) := hv11 0 (by omega) 81 rfl
    have e1 : vals 1 = .agg #[.int .i64 (x), .slice (B1) (32) (d1), .int .i64 (((k : Nat) : Int)), .slice (P1) (64) (v1), .slice (Q1) (4) (u1)] := hv11 1 (by omega) 82 rfl
    have e2 : vals 2 = .bool (true) := hv11 2 (by omega) 83 rfl
    have e3 : vals 3 = .bool (true) := hv11 3 (by omega) 84 rfl
    have e4 : vals 4 = .slice (X) (32) (cx) := hv11 4 (by omega) 85 rfl
    have e5 : vals 5 = .agg #[.int .i64 (y), .slice (C) (ne) (cc), .int .i64 (((k : Nat) : Int)), .slice (P1) (64) (v1), .slice (Q1) (4) (u1)] := hv11 5 (by omega) 86 rfl
    have e6 : vals 6 = .bool (true) := hv11 6 (by omega) 87 rfl
    have e7 : vals 7 = .bool (true) := hv11 7 (by omega) 88 rfl
    have e8 : vals 8 = .bool (true) := hv11 8 (by omega) 89 rfl
    have e9 : vals 9 = .int .i64 (root) := hv11 9 (by omega) 90 rfl
    obtain ⟨A91, c91, e10, r91⟩ := hv11 10 (by omega) 91 rfl
    have e11 : vals 11 = .agg #[.int .i64 (x), .slice (B1) (32) (d1), .int .i64 (((k : Nat) : Int)), .slice (P1) (64) (v1), .slice (Q1) (4) (u1)] := hv11 11 (by omega) 92 rfl
    have e12 : vals 12 = .bool (true) := hv11 12 (by omega) 93 rfl
    have e13 : vals 13 = .bool (true) := hv11 13 (by omega) 94 rfl
    have e14 : vals 14 = .bool (true) := hv11 14 (by omega) 95 rfl
    have e15 : vals 15 = .slice (D) (nd) (cd) := hv11 15 (by omega) 96 rfl
    have e16 : vals 16 = .bool (true) := hv11 16 (by omega) 97 rfl
    have e17 : vals 17 = .bool (true) := hv11 17 (by omega) 98 rfl
    have e18 : vals 18 = .bool (true) := hv11 18 (by omega) 99 rfl
    have e19 : vals 19 = .pointer (some ⟨g13, 0, none⟩) := hv11 19 (by omega) 100 rfl
    have e20 : vals 20 = .agg #[.int .i64 (x), .slice (B1) (32) (d1)] := hv11 20 (by omega) 101 rfl
    have e21 : vals 21 = .agg #[.int .i64 (y), .slice (C) (ne) (cc)] := hv11 21 (by omega) 102 rfl
    have e22 : vals 22 = .bool (decide (x = y) && decide (R = T)) := hv11 22 (by omega) 103 rfl
    have e23 : vals 23 = .pointer (some ⟨g13, 0, none⟩) := hv11 23 (by omega) 104 rfl
    have e24 : vals 24 = .agg #[.int .i64 (x), .slice (B1) (32) (d1)] := hv11 24 (by omega) 105 rfl
    have e25 : vals 25 = .agg #[.int .i64 (y), .slice (C) (ne) (cc)] := hv11 25 (by omega) 106 rfl
    have e26 : vals 26 = .bool (decide (x = y) && decide (R = T)) := hv11 26 (by omega) 107 rfl
    have e27 : vals 27 = .bool (true) := hv11 27 (by omega) 108 rfl
    have e28 : vals 28 = .bool (true) := hv11 28 (by omega) 109 rfl
    have e29 : vals 29 = .bool (true) := hv11 29 (by omega) 110 rfl
    have e30 : vals 30 = .bool (true) := hv11 30 (by omega) 111 rfl
    have e31 : vals 31 = .bool (true) := hv11 31 (by omega) 112 rfl
    simp only [putAll, Act.put, List.take_succ_cons, List.take_zero, List.drop_succ_cons, List.drop_zero, List.drop_nil, List.take_nil, Nat.reduceAdd, List.setIfInBounds_toArray, List.set_cons_succ, List.set_cons_zero, e0, e1, e2, e3, e4, e5, e6, e7, e8, e9, e10, e11, e12, e13, e14, e15, e16, e17, e18, e19, e20, e21, e22, e23, e24, e25, e26, e27, e28, e29, e30, e31]
    clear hv11 e0 e1 e2 e3 e4 e5 e6 e7 e8 e9 e10 e11 e12 e13 e14 e15 e16 e17 e18 e19 e20 e21 e22 e23 e24 e25 e26 e27 e28 e29 e30 e31
    go_wp2_with fail
    go_ret
    exact ⟨rfl, hEa.trans hE11⟩
  | false =>
    have Hd := Lib.hid hd
    clear hd
    refine par_tup (n := 10) (jp := 9) (jq := 7) 8 5 (by kernel_rfl) [.is (.int .i64 (n)), .rk (32) (seedL n), .is (.int .i64 (index)), .is (.int .i64 (((k : Nat) : Int))), .is (.agg #[.int .i64 (y), .slice (C) (ne) (cc)]), .is (.tuple #[.agg #[.int .i64 ((0 : Int)), .slice (none) (0) (0), .int .i64 ((0 : Int)), .slice (none) (0) (0), .slice (none) (0) (0)], .int .i64 ((12 : Int))]), .is (.tuple #[.agg #[.int .i64 ((0 : Int)), .slice (none) (0) (0), .int .i64 ((0 : Int)), .slice (none) (0) (0), .slice (none) (0) (0)], .int .i64 ((12 : Int))]), .is (.agg #[.int .i64 ((0 : Int)), .slice (none) (0) (0), .int .i64 ((0 : Int)), .slice (none) (0) (0), .slice (none) (0) (0)]), .is (.int .i64 ((12 : Int))), .bk (W4.heap.size) 41 #[.int .i64 ((0 : Int)), .slice (none) (0) (0), .int .i64 ((0 : Int)), .slice (none) (0) (0), .slice (none) (0) (0)]] rfl rfl rfl rfl rfl rfl rfl rfl rfl rfl rfl (by decide) (by decide) (by decide) (by decide) (tup_bk _ rfl) (tup_is _ rfl rfl) (by kernel_rfl) ⟨?_, ?_, ?_, ?_, ?_, ?_, ?_, ?_, ?_, ?_, trivial⟩ ?_
    · refine stepE rfl fun sdn sa sw sE sd sk => ?_
      have h0 : sa.eval (.tmp 0) = .int .i64 (n) := sk.old 0 rfl
      exact Runs.move rfl h0 ⟨Ext.refl _, rfl⟩
    · refine stepE rfl fun sdn sa sw sE sd sk => ?_
      have h51 : sa.eval (.tmp 51) = .int .i64 (n) := sk.fact 0 51 rfl (sd 0 rfl)
      refine Runs.call (f := 35) (vs := [.int .i64 (n)]) rfl rfl rfl (by simp only [List.map_toArray, List.map_cons, List.map_nil, h51] <;> rfl) (ent35 _ _) ((seed_any n sw (by omega) (by omega)).mono ?_); rintro e w' ⟨A', c', rfl, own, hx⟩; exact ⟨_, rfl, hx, A', c', rfl, own.rb⟩
    · refine stepE rfl fun sdn sa sw sE sd sk => ?_
      have h1 : sa.eval (.tmp 1) = .int .i64 (index) := sk.old 1 rfl
      exact Runs.move rfl h1 ⟨Ext.refl _, rfl⟩
    · refine stepE rfl fun sdn sa sw sE sd sk => ?_
      have h53 : sa.eval (.tmp 53) = .int .i64 (index) := sk.fact 2 53 rfl (sd 2 rfl)
      refine Runs.call (f := 15) (vs := [.int .i64 (index), .int .i64 ((0 : Int)), .int .i64 ((15 : Int))]) rfl rfl rfl (by simp only [List.map_toArray, List.map_cons, List.map_nil, h53] <;> rfl) (ent15 _ _) ((Hwi.out sw).mono ?_); rintro e w' ⟨rfl, rfl⟩; exact ⟨_, rfl, Ext.refl _, rfl⟩
    · refine stepE rfl fun sdn sa sw sE sd sk => ?_
      have h10 : sa.eval (.tmp 10) = .pointer (some ⟨g10, 0, none⟩) := sk.old 10 rfl
      exact Runs.load rfl h10 (load_part (hB10.ext sE) 0 (vs := [.int .i64 (y), .slice (C) (ne) (cc)]) rfl Try.underlying24 rfl (by kernel_rfl)) ⟨Ext.refl _, rfl⟩
    · refine stepE rfl fun sdn sa sw sE sd sk => ?_
      obtain ⟨A52, c52, h52, r52⟩ := sk.fact 1 52 rfl (sd 1 rfl)
      have h54 : sa.eval (.tmp 54) = .int .i64 (((k : Nat) : Int)) := sk.fact 3 54 rfl (sd 3 rfl)
      have h55 : sa.eval (.tmp 55) = .agg #[.int .i64 (y), .slice (C) (ne) (cc)] := sk.fact 4 55 rfl (sd 4 rfl)
      refine Runs.call (f := 34) (vs := [.slice (A52) (32) (c52), .int .i64 (((k : Nat) : Int)), .agg #[.int .i64 (y), .slice (C) (ne) (cc)]]) rfl rfl rfl (by simp only [List.map_toArray, List.map_cons, List.map_nil, h52, h54, h55] <;> rfl) (ent34 _ _) ((csign_no _ _ _ _ _ _ _ _ _ sw (rE.ext sE) (Hd.out)).mono ?_); rintro e w' ⟨rfl, hx⟩; exact ⟨_, rfl, hx, rfl⟩
    · refine stepE rfl fun sdn sa sw sE sd sk => ?_
      have h56 : sa.eval (.tmp 56) = .tuple #[.agg #[.int .i64 ((0 : Int)), .slice (none) (0) (0), .int .i64 ((0 : Int)), .slice (none) (0) (0), .slice (none) (0) (0)], .int .i64 ((12 : Int))] := sk.fact 5 56 rfl (sd 5 rfl)
      exact Runs.move rfl h56 ⟨Ext.refl _, rfl⟩
    · refine stepE rfl fun sdn sa sw sE sd sk => ?_
      have h50 : sa.eval (.tmp 50) = .tuple #[.agg #[.int .i64 ((0 : Int)), .slice (none) (0) (0), .int .i64 ((0 : Int)), .slice (none) (0) (0), .slice (none) (0) (0)], .int .i64 ((12 : Int))] := sk.fact 6 50 rfl (sd 6 rfl)
      refine Runs.of_run (r := .agg #[.int .i64 ((0 : Int)), .slice (none) (0) (0), .int .i64 ((0 : Int)), .slice (none) (0) (0), .slice (none) (0) (0)]) (w' := sw) ?_ ⟨Ext.refl _, rfl⟩
      unfold execOp
      simp only [h50]
      go_simp
    · refine stepE rfl fun sdn sa sw sE sd sk => ?_
      have h50 : sa.eval (.tmp 50) = .tuple #[.agg #[.int .i64 ((0 : Int)), .slice (none) (0) (0), .int .i64 ((0 : Int)), .slice (none) (0) (0), .slice (none) (0) (0)], .int .i64 ((12 : Int))] := sk.fact 6 50 rfl (sd 6 rfl)
      refine Runs.of_run (r := .int .i64 ((12 : Int))) (w' := sw) ?_ ⟨Ext.refl _, rfl⟩
      unfold execOp
      simp only [h50]
      go_simp
    · refine stepE rfl fun sdn sa sw sE sd sk => ?_
      refine Runs.of_run (r := .pointer (some ⟨sw.heap.size, 0, none⟩)) (w' := sw.alloc (.cells #[.int .i64 ((0 : Int)), .slice (none) (0) (0), .int .i64 ((0 : Int)), .slice (none) (0) (0), .slice (none) (0) (0)] 41)) ?_ ⟨Ext.new _ _, _, rfl, Blk.new _ _ _, sE.size⟩
      unfold execOp
      go_simp
    intro vals W6 hE6 hv6 gst vst hgst hvst
    have e0 : vals 0 = .int .i64 (n) := hv6 0 (by omega) 51 rfl
    obtain ⟨A52, c52, e1, r52⟩ := hv6 1 (by omega) 52 rfl
    have e2 : vals 2 = .int .i64 (index) := hv6 2 (by omega) 53 rfl
    have e3 : vals 3 = .int .i64 (((k : Nat) : Int)) := hv6 3 (by omega) 54 rfl
    have e4 : vals 4 = .agg #[.int .i64 (y), .slice (C) (ne) (cc)] := hv6 4 (by omega) 55 rfl
    have e5 : vals 5 = .tuple #[.agg #[.int .i64 ((0 : Int)), .slice (none) (0) (0), .int .i64 ((0 : Int)), .slice (none) (0) (0), .slice (none) (0) (0)], .int .i64 ((12 : Int))] := hv6 5 (by omega) 56 rfl
    have e6 : vals 6 = .tuple #[.agg #[.int .i64 ((0 : Int)), .slice (none) (0) (0), .int .i64 ((0 : Int)), .slice (none) (0) (0), .slice (none) (0) (0)], .int .i64 ((12 : Int))] := hv6 6 (by omega) 50 rfl
    have e7 : vals 7 = .agg #[.int .i64 ((0 : Int)), .slice (none) (0) (0), .int .i64 ((0 : Int)), .slice (none) (0) (0), .slice (none) (0) (0)] := hv6 7 (by omega) 57 rfl
    have e8 : vals 8 = .int .i64 ((12 : Int)) := hv6 8 (by omega) 58 rfl
    obtain ⟨g17, e9, hb17, gb17⟩ := hv6 9 (by omega) 17 rfl
    obtain rfl : gst = g17 := pointer_eq hgst e9
    obtain rfl : vst = #[.int .i64 ((0 : Int)), .slice (none) (0) (0), .int .i64 ((0 : Int)), .slice (none) (0) (0), .slice (none) (0) (0)] := Value.agg.inj (hvst.symm.trans e7)
    simp only [putAll, Act.put, List.take_succ_cons, List.take_zero, List.drop_succ_cons, List.drop_zero, List.drop_nil, List.take_nil, Nat.reduceAdd, List.setIfInBounds_toArray, List.set_cons_succ, List.set_cons_zero, e0, e1, e2, e3, e4, e5, e6, e7, e8, e9]
    clear hv6 e0 e1 e2 e3 e4 e5 e6 e7 e8 e9 hgst hvst
    have hGt := grown_setCells gst (#[.int .i64 ((0 : Int)), .slice (none) (0) (0), .int .i64 ((0 : Int)), .slice (none) (0) (0), .slice (none) (0) (0)] : Array Value).toList 0 W6
    have hB6 := hb17.setAll (vs := #[.int .i64 ((0 : Int)), .slice (none) (0) (0), .int .i64 ((0 : Int)), .slice (none) (0) (0), .slice (none) (0) (0)]) rfl
    have hE6s := hE6.then_grown hGt (by intro k hk; cases hk; exact gb17)
    clear hGt hb17 gb17
    generalize W6.setCells gst 0 (#[.int .i64 ((0 : Int)), .slice (none) (0) (0), .int .i64 ((0 : Int)), .slice (none) (0) (0), .slice (none) (0) (0)] : Array Value).toList = W6b at *
    replace rD := rD.ext hE6s
    replace rE := rE.ext hE6s
    replace hB10 := hB10.ext hE6s
    replace rR1 := rR1.ext hE6s
    replace rP1 := rP1.ext hE6s
    replace rQ1 := rQ1.ext hE6s
    replace rX := rX.ext hE6s
    replace hB13 := hB13.ext hE6s
    replace hEa := hEa.trans hE6s
    go_upto_region 7 with (fail)
    refine seq_ext (n := 19) (by kernel_rfl) [.is (.int .i64 ((12 : Int))), .is (.bool (false)), .is (.agg #[.int .i64 (y), .slice (C) (ne) (cc)]), .is (.bool (false)), .is (.bool (false)), .is (.bool (false)), .is (.int .i64 ((12 : Int))), .is (.bool (true)), .is (.bool (true)), .is (.int .i64 ((12 : Int))), .is (.bool (false)), .is (.bool (false)), .is (.agg #[.int .i64 ((0 : Int)), .slice (none) (0) (0), .int .i64 ((0 : Int)), .slice (none) (0) (0), .slice (none) (0) (0)]), .is (.agg #[.int .i64 ((0 : Int)), .slice (none) (0) (0), .int .i64 ((0 : Int)), .slice (none) (0) (0), .slice (none) (0) (0)]), .is (.bool (true)), .is (.bool (false)), .is (.bool (false)), .is (.bool (false)), .is (.bool (false))] rfl ⟨?_, ?_, ?_, ?_, ?_, ?_, ?_, ?_, ?_, ?_, ?_, ?_, ?_, ?_, ?_, ?_, ?_, ?_, ?_, trivial⟩ ?_
    · refine stepE rfl fun sdn sa sw sE sd sk => ?_
      have h18 : sa.eval (.tmp 18) = .int .i64 ((12 : Int)) := sk.old 18 rfl
      exact Runs.move rfl h18 ⟨Ext.refl _, rfl⟩
    · refine stepE rfl fun sdn sa sw sE sd sk => ?_
      have h59 : sa.eval (.tmp 59) = .int .i64 ((12 : Int)) := sk.fact 0 59 rfl (sd 0 rfl)
      exact Runs.bin rfl h59 rfl (by rfl) (bin_eql _ _ _ _) ⟨Ext.refl _, congrArg Value.bool (by decide)⟩
    · refine stepE rfl fun sdn sa sw sE sd sk => ?_
      have h10 : sa.eval (.tmp 10) = .pointer (some ⟨g10, 0, none⟩) := sk.old 10 rfl
      exact Runs.load rfl h10 (load_part (hB10.ext sE) 0 (vs := [.int .i64 (y), .slice (C) (ne) (cc)]) rfl Try.underlying24 rfl (by kernel_rfl)) ⟨Ext.refl _, rfl⟩
    · refine stepE rfl fun sdn sa sw sE sd sk => ?_
      have h61 : sa.eval (.tmp 61) = .agg #[.int .i64 (y), .slice (C) (ne) (cc)] := sk.fact 2 61 rfl (sd 2 rfl)
      refine Runs.call (f := 36) (vs := [.agg #[.int .i64 (y), .slice (C) (ne) (cc)]]) rfl rfl rfl (by simp only [List.map_toArray, List.map_cons, List.map_nil, h61] <;> rfl) (ent36 _ _) ((rcright_any _ _ _ _ _ sw (rE.ext sE)).mono ?_); rintro e w' ⟨rfl, hx⟩; exact ⟨_, rfl, hx, congrArg Value.bool (Hd.out)⟩
    · refine stepE rfl fun sdn sa sw sE sd sk => ?_
      have h60 : sa.eval (.tmp 60) = .bool (false) := sk.fact 1 60 rfl (sd 1 rfl)
      have h62 : sa.eval (.tmp 62) = .bool (false) := sk.fact 3 62 rfl (sd 3 rfl)
      exact Runs.bin rfl h60 h62 (by rfl) (bin_neb _ _) ⟨Ext.refl _, congrArg Value.bool (by decide)⟩
    · refine stepE rfl fun sdn sa sw sE sd sk => ?_
      have h63 : sa.eval (.tmp 63) = .bool (false) := sk.fact 4 63 rfl (sd 4 rfl)
      exact Runs.move rfl h63 ⟨Ext.refl _, rfl⟩
    · refine stepY (j := 5) (d := 64) (b := false) rfl rfl rfl (fun v w h => h) fun sdn sa sw sE sd sk => ?_
      have h18 : sa.eval (.tmp 18) = .int .i64 ((12 : Int)) := sk.old 18 rfl
      exact Runs.move rfl h18 ⟨Ext.refl _, rfl⟩
    · refine stepY (j := 5) (d := 64) (b := false) rfl rfl rfl (fun v w h => h) fun sdn sa sw sE sd sk => ?_
      have h65 : sa.eval (.tmp 65) = .int .i64 ((12 : Int)) := sk.fact 6 65 rfl (sd 6 rfl)
      exact Runs.bin rfl h65 rfl (by rfl) (bin_neq _ _ _ _) ⟨Ext.refl _, congrArg Value.bool (by decide)⟩
    · refine stepY (j := 5) (d := 64) (b := false) rfl rfl rfl (fun v w h => h) fun sdn sa sw sE sd sk => ?_
      have h66 : sa.eval (.tmp 66) = .bool (true) := sk.fact 7 66 rfl (sd 7 rfl)
      exact Runs.move rfl h66 ⟨Ext.refl _, rfl⟩
    · refine stepY (j := 8) (d := 67) (b := true) rfl rfl rfl (fun v w h => h) fun sdn sa sw sE sd sk => ?_
      have h18 : sa.eval (.tmp 18) = .int .i64 ((12 : Int)) := sk.old 18 rfl
      exact Runs.move rfl h18 ⟨Ext.refl _, rfl⟩
    · refine stepY (j := 8) (d := 67) (b := true) rfl rfl rfl (fun v w h => h) fun sdn sa sw sE sd sk => ?_
      have h68 : sa.eval (.tmp 68) = .int .i64 ((12 : Int)) := sk.fact 9 68 rfl (sd 9 rfl)
      exact Runs.bin rfl h68 rfl (by rfl) (bin_neq _ _ _ _) ⟨Ext.refl _, congrArg Value.bool (by decide)⟩
    · refine stepY (j := 8) (d := 67) (b := true) rfl rfl rfl (fun v w h => h) fun sdn sa sw sE sd sk => ?_
      have h69 : sa.eval (.tmp 69) = .bool (false) := sk.fact 10 69 rfl (sd 10 rfl)
      exact Runs.move rfl h69 ⟨Ext.refl _, rfl⟩
    · refine stepY (j := 11) (d := 70) (b := false) rfl rfl rfl (fun v w h => h) fun sdn sa sw sE sd sk => ?_
      have h17 : sa.eval (.tmp 17) = .pointer (some ⟨gst, 0, none⟩) := sk.old 17 rfl
      exact Runs.load rfl h17 (load_part (hB6.ext sE) 0 (vs := [.int .i64 ((0 : Int)), .slice (none) (0) (0), .int .i64 ((0 : Int)), .slice (none) (0) (0), .slice (none) (0) (0)]) rfl Try.underlying41 rfl (by kernel_rfl)) ⟨Ext.refl _, rfl⟩
    · refine stepY (j := 11) (d := 70) (b := false) rfl rfl rfl (fun v w h => h) fun sdn sa sw sE sd sk => ?_
      refine Runs.of_run (r := .agg #[.int .i64 ((0 : Int)), .slice (none) (0) (0), .int .i64 ((0 : Int)), .slice (none) (0) (0), .slice (none) (0) (0)]) (w' := sw) ?_ ⟨Ext.refl _, rfl⟩
      unfold execOp
      simp only [List.map_toArray, List.map_cons, List.map_nil]
      go_simp
    · refine stepY (j := 11) (d := 70) (b := false) rfl rfl rfl (fun v w h => h) fun sdn sa sw sE sd sk => ?_
      have h71 : sa.eval (.tmp 71) = .agg #[.int .i64 ((0 : Int)), .slice (none) (0) (0), .int .i64 ((0 : Int)), .slice (none) (0) (0), .slice (none) (0) (0)] := sk.fact 12 71 rfl (sd 12 rfl)
      have h72 : sa.eval (.tmp 72) = .agg #[.int .i64 ((0 : Int)), .slice (none) (0) (0), .int .i64 ((0 : Int)), .slice (none) (0) (0), .slice (none) (0) (0)] := sk.fact 13 72 rfl (sd 13 rfl)
      refine Runs.call (f := 27) (vs := [.agg #[.int .i64 ((0 : Int)), .slice (none) (0) (0), .int .i64 ((0 : Int)), .slice (none) (0) (0), .slice (none) (0) (0)], .agg #[.int .i64 ((0 : Int)), .slice (none) (0) (0), .int .i64 ((0 : Int)), .slice (none) (0) (0), .slice (none) (0) (0)]]) rfl rfl rfl (by simp only [List.map_toArray, List.map_cons, List.map_nil, h71, h72] <;> rfl) (ent27 _ _) ((eq10_true _ _ _ _ _ _ _ _ _ _ _ _ _ _ _ _ _ _ _ _ _ _ _ sw (RB.nil_ _) (RBB.nil_ _) (RBB.nil_ _) (RB.nil_ _) (RBB.nil_ _) (RBB.nil_ _)).mono ?_); rintro e w' ⟨rfl, hx⟩; exact ⟨_, rfl, hx, rfl⟩
    · refine stepY (j := 11) (d := 70) (b := false) rfl rfl rfl (fun v w h => h) fun sdn sa sw sE sd sk => ?_
      have h73 : sa.eval (.tmp 73) = .bool (true) := sk.fact 14 73 rfl (sd 14 rfl)
      exact Runs.un rfl h73 (by rfl) ⟨Ext.refl _, rfl⟩
    · refine stepY (j := 8) (d := 67) (b := true) rfl rfl rfl (fun v w h => h) fun sdn sa sw sE sd sk => ?_
      have h70 : sa.eval (.tmp 70) = .bool (false) := sk.fact 11 70 rfl (sd 11 rfl)
      have h74 : sa.eval (.tmp 74) = .bool (false) := sk.fact 15 74 rfl (sd 15 rfl)
      exact Runs.pick rfl h70 ⟨Ext.refl _, by first | exact h74 | simpa using h74⟩
    · refine stepY (j := 5) (d := 64) (b := false) rfl rfl rfl (fun v w h => h) fun sdn sa sw sE sd sk => ?_
      have h67 : sa.eval (.tmp 67) = .bool (true) := sk.fact 8 67 rfl (sd 8 rfl)
      have h75 : sa.eval (.tmp 75) = .bool (false) := sk.fact 16 75 rfl (sd 16 rfl)
      exact Runs.pick rfl h67 ⟨Ext.refl _, by first | exact h75 | simpa using h75⟩
    · refine stepE rfl fun sdn sa sw sE sd sk => ?_
      have h64 : sa.eval (.tmp 64) = .bool (false) := sk.fact 5 64 rfl (sd 5 rfl)
      have h76 : sa.eval (.tmp 76) = .bool (false) := sk.fact 17 76 rfl (sd 17 rfl)
      exact Runs.pick rfl h64 ⟨Ext.refl _, by first | exact h76 | simpa using h76⟩
    intro vals W7 hE7 hv7
    have e0 : vals 0 = .int .i64 ((12 : Int)) := hv7 0 (by omega) 59 rfl
    have e1 : vals 1 = .bool (false) := hv7 1 (by omega) 60 rfl
    have e2 : vals 2 = .agg #[.int .i64 (y), .slice (C) (ne) (cc)] := hv7 2 (by omega) 61 rfl
    have e3 : vals 3 = .bool (false) := hv7 3 (by omega) 62 rfl
    have e4 : vals 4 = .bool (false) := hv7 4 (by omega) 63 rfl
    have e5 : vals 5 = .bool (false) := hv7 5 (by omega) 64 rfl
    have e6 : vals 6 = .int .i64 ((12 : Int)) := hv7 6 (by omega) 65 rfl
    have e7 : vals 7 = .bool (true) := hv7 7 (by omega) 66 rfl
    have e8 : vals 8 = .bool (true) := hv7 8 (by omega) 67 rfl
    have e9 : vals 9 = .int .i64 ((12 : Int)) := hv7 9 (by omega) 68 rfl
    have e10 : vals 10 = .bool (false) := hv7 10 (by omega) 69 rfl
    have e11 : vals 11 = .bool (false) := hv7 11 (by omega) 70 rfl
    have e12 : vals 12 = .agg #[.int .i64 ((0 : Int)), .slice (none) (0) (0), .int .i64 ((0 : Int)), .slice (none) (0) (0), .slice (none) (0) (0)] := hv7 12 (by omega) 71 rfl
    have e13 : vals 13 = .agg #[.int .i64 ((0 : Int)), .slice (none) (0) (0), .int .i64 ((0 : Int)), .slice (none) (0) (0), .slice (none) (0) (0)] := hv7 13 (by omega) 72 rfl
    have e14 : vals 14 = .bool (true) := hv7 14 (by omega) 73 rfl
    have e15 : vals 15 = .bool (false) := hv7 15 (by omega) 74 rfl
    have e16 : vals 16 = .bool (false) := hv7 16 (by omega) 75 rfl
    have e17 : vals 17 = .bool (false) := hv7 17 (by omega) 76 rfl
    have e18 : vals 18 = .bool (false) := hv7 18 (by omega) 77 rfl
    simp only [putAll, Act.put, List.take_succ_cons, List.take_zero, List.drop_succ_cons, List.drop_zero, List.drop_nil, List.take_nil, Nat.reduceAdd, List.setIfInBounds_toArray, List.set_cons_succ, List.set_cons_zero, e0, e1, e2, e3, e4, e5, e6, e7, e8, e9, e10, e11, e12, e13, e14, e15, e16, e17, e18]
    clear hv7 e0 e1 e2 e3 e4 e5 e6 e7 e8 e9 e10 e11 e12 e13 e14 e15 e16 e17 e18
    replace rD := rD.ext hE7
    replace rE := rE.ext hE7
    replace hB10 := hB10.ext hE7
    replace rR1 := rR1.ext hE7
    replace rP1 := rP1.ext hE7
    replace rQ1 := rQ1.ext hE7
    replace rX := rX.ext hE7
    replace hB13 := hB13.ext hE7
    replace hEa := hEa.trans hE7
    clear hE7 hE6s hE6 hB6
    have y0 := hB13.cell (i := 0) (v := .int .i64 x) rfl
    have y1 := hB13.cell (i := 1) (v := .slice B1 32 d1) rfl
    have y2 := hB13.cell (i := 2) (v := .int .i64 (k : Int)) rfl
    have y3 := hB13.cell (i := 3) (v := .slice P1 64 v1) rfl
    have y4 := hB13.cell (i := 4) (v := .slice Q1 4 u1) rfl
    have hBz := hB10.ext (Ext.new W7 (.cells #[.int .i64 x, .slice B1 32 d1, .int .i64 (k : Int), .slice P1 64 v1, .slice Q1 4 u1] 41))
    have z0 := hBz.cell (i := 0) (v := .int .i64 y) rfl
    have z1 := hBz.cell (i := 1) (v := .slice C ne cc) rfl
    clear hBz
    have hEn := Ext.new W7 (.cells #[.int .i64 y, .slice C ne cc, .int .i64 (k : Int), .slice P1 64 v1, .slice Q1 4 u1] 41)
    have hB19 := Blk.new W7 41 #[.int .i64 y, .slice C ne cc, .int .i64 (k : Int), .slice P1 64 v1, .slice Q1 4 u1]
    replace rD := rD.ext hEn
    replace rE := rE.ext hEn
    replace hB10 := hB10.ext hEn
    replace rR1 := rR1.ext hEn
    replace rP1 := rP1.ext hEn
    replace rQ1 := rQ1.ext hEn
    replace rX := rX.ext hEn
    replace hB13 := hB13.ext hEn
    replace hEa := hEa.trans hEn
    clear hEn
    go_upto_region 11 with (fail)
    clear y0 y1 y2 y3 y4 z0 z1
    generalize W7.alloc (.cells #[.int .i64 y, .slice C ne cc, .int .i64 (k : Int), .slice P1 64 v1, .slice Q1 4 u1] 41) = w8 at *
    generalize W7.heap.size = g19 at *
    obtain ⟨hr0, hr1⟩ := Hr0.out
    refine par_ext (n := 32) (by kernel_rfl) [.is (.slice (X) (32) (cx)), .is (.agg #[.int .i64 (x), .slice (B1) (32) (d1), .int .i64 (((k : Nat) : Int)), .slice (P1) (64) (v1), .slice (Q1) (4) (u1)]), .is (.bool (true)), .is (.bool (true)), .is (.slice (X) (32) (cx)), .is (.agg #[.int .i64 (y), .slice (C) (ne) (cc), .int .i64 (((k : Nat) : Int)), .slice (P1) (64) (v1), .slice (Q1) (4) (u1)]), .is (.bool (true)), .is (.bool (true)), .is (.bool (true)), .is (.int .i64 (root)), .rk (32) (khash root), .is (.agg #[.int .i64 (x), .slice (B1) (32) (d1), .int .i64 (((k : Nat) : Int)), .slice (P1) (64) (v1), .slice (Q1) (4) (u1)]), .is (.bool (true)), .is (.bool (true)), .is (.bool (true)), .is (.slice (D) (nd) (cd)), .is (.bool (true)), .is (.bool (true)), .is (.bool (true)), .is (.pointer (some ⟨g13, 0, none⟩)), .is (.agg #[.int .i64 (x), .slice (B1) (32) (d1)]), .is (.agg #[.int .i64 (y), .slice (C) (ne) (cc)]), .is (.bool (decide (x = y) && decide (R = T))), .is (.pointer (some ⟨g13, 0, none⟩)), .is (.agg #[.int .i64 (x), .slice (B1) (32) (d1)]), .is (.agg #[.int .i64 (y), .slice (C) (ne) (cc)]), .is (.bool (decide (x = y) && decide (R = T))), .is (.bool (true)), .is (.bool (true)), .is (.bool (true)), .is (.bool (true)), .is (.bool (true))] rfl ⟨?_, ?_, ?_, ?_, ?_, ?_, ?_, ?_, ?_, ?_, ?_, ?_, ?_, ?_, ?_, ?_, ?_, ?_, ?_, ?_, ?_, ?_, ?_, ?_, ?_, ?_, ?_, ?_, ?_, ?_, ?_, ?_, trivial⟩ ?_
    · refine stepE rfl fun sdn sa sw sE sd sk => ?_
      have h14 : sa.eval (.tmp 14) = .slice (X) (32) (cx) := sk.old 14 rfl
      exact Runs.move rfl h14 ⟨Ext.refl _, rfl⟩
    · refine stepE rfl fun sdn sa sw sE sd sk => ?_
      have h13 : sa.eval (.tmp 13) = .pointer (some ⟨g13, 0, none⟩) := sk.old 13 rfl
      exact Runs.load rfl h13 (load_part (hB13.ext sE) 0 (vs := [.int .i64 (x), .slice (B1) (32) (d1), .int .i64 (((k : Nat) : Int)), .slice (P1) (64) (v1), .slice (Q1) (4) (u1)]) rfl Try.underlying41 rfl (by kernel_rfl)) ⟨Ext.refl _, rfl⟩
    · refine stepE rfl fun sdn sa sw sE sd sk => ?_
      have h81 : sa.eval (.tmp 81) = .slice (X) (32) (cx) := sk.fact 0 81 rfl (sd 0 rfl)
      have h82 : sa.eval (.tmp 82) = .agg #[.int .i64 (x), .slice (B1) (32) (d1), .int .i64 (((k : Nat) : Int)), .slice (P1) (64) (v1), .slice (Q1) (4) (u1)] := sk.fact 1 82 rfl (sd 1 rfl)
      refine Runs.call (f := 32) (vs := [.slice (X) (32) (cx), .agg #[.int .i64 (x), .slice (B1) (32) (d1), .int .i64 (((k : Nat) : Int)), .slice (P1) (64) (v1), .slice (Q1) (4) (u1)]]) rfl rfl rfl (by simp only [List.map_toArray, List.map_cons, List.map_nil, h81, h82] <;> rfl) (ent32 _ _) ((same10_any _ _ _ _ _ _ _ _ _ _ _ _ _ _ _ _ _ _ sw (rX.ext sE) (rR1.ext sE) (rP1.ext sE) (rQ1.ext sE)).mono ?_); rintro e w' ⟨rfl, hx⟩; exact ⟨_, rfl, hx, rfl⟩
    · refine stepE rfl fun sdn sa sw sE sd sk => ?_
      have h83 : sa.eval (.tmp 83) = .bool (true) := sk.fact 2 83 rfl (sd 2 rfl)
      exact Runs.move rfl h83 ⟨Ext.refl _, rfl⟩
    · refine stepY (j := 3) (d := 84) (b := true) rfl rfl rfl (fun v w h => h) fun sdn sa sw sE sd sk => ?_
      have h14 : sa.eval (.tmp 14) = .slice (X) (32) (cx) := sk.old 14 rfl
      exact Runs.move rfl h14 ⟨Ext.refl _, rfl⟩
    · refine stepY (j := 3) (d := 84) (b := true) rfl rfl rfl (fun v w h => h) fun sdn sa sw sE sd sk => ?_
      have h19 : sa.eval (.tmp 19) = .pointer (some ⟨g19, 0, none⟩) := sk.old 19 rfl
      exact Runs.load rfl h19 (load_part (hB19.ext sE) 0 (vs := [.int .i64 (y), .slice (C) (ne) (cc), .int .i64 (((k : Nat) : Int)), .slice (P1) (64) (v1), .slice (Q1) (4) (u1)]) rfl Try.underlying41 rfl (by kernel_rfl)) ⟨Ext.refl _, rfl⟩
    · refine stepY (j := 3) (d := 84) (b := true) rfl rfl rfl (fun v w h => h) fun sdn sa sw sE sd sk => ?_
      have h85 : sa.eval (.tmp 85) = .slice (X) (32) (cx) := sk.fact 4 85 rfl (sd 4 rfl)
      have h86 : sa.eval (.tmp 86) = .agg #[.int .i64 (y), .slice (C) (ne) (cc), .int .i64 (((k : Nat) : Int)), .slice (P1) (64) (v1), .slice (Q1) (4) (u1)] := sk.fact 5 86 rfl (sd 5 rfl)
      refine Runs.call (f := 32) (vs := [.slice (X) (32) (cx), .agg #[.int .i64 (y), .slice (C) (ne) (cc), .int .i64 (((k : Nat) : Int)), .slice (P1) (64) (v1), .slice (Q1) (4) (u1)]]) rfl rfl rfl (by simp only [List.map_toArray, List.map_cons, List.map_nil, h85, h86] <;> rfl) (ent32 _ _) ((same10_any _ _ _ _ _ _ _ _ _ _ _ _ _ _ _ _ _ _ sw (rX.ext sE) (rE.ext sE) (rP1.ext sE) (rQ1.ext sE)).mono ?_); rintro e w' ⟨rfl, hx⟩; exact ⟨_, rfl, hx, rfl⟩
    · refine stepE rfl fun sdn sa sw sE sd sk => ?_
      have h84 : sa.eval (.tmp 84) = .bool (true) := sk.fact 3 84 rfl (sd 3 rfl)
      have h87 : sa.eval (.tmp 87) = .bool (true) := sk.fact 6 87 rfl (sd 6 rfl)
      exact Runs.pick rfl h84 ⟨Ext.refl _, by first | exact h87 | simpa using h87⟩
    · refine stepE rfl fun sdn sa sw sE sd sk => ?_
      have h88 : sa.eval (.tmp 88) = .bool (true) := sk.fact 7 88 rfl (sd 7 rfl)
      exact Runs.move rfl h88 ⟨Ext.refl _, rfl⟩
    · refine stepY (j := 8) (d := 89) (b := true) rfl rfl rfl (fun v w h => h) fun sdn sa sw sE sd sk => ?_
      have h3 : sa.eval (.tmp 3) = .int .i64 (root) := sk.old 3 rfl
      exact Runs.move rfl h3 ⟨Ext.refl _, rfl⟩
    · refine stepY (j := 8) (d := 89) (b := true) rfl rfl rfl (fun v w h => h) fun sdn sa sw sE sd sk => ?_
      have h90 : sa.eval (.tmp 90) = .int .i64 (root) := sk.fact 9 90 rfl (sd 9 rfl)
      refine Runs.call (f := 37) (vs := [.int .i64 (root)]) rfl rfl rfl (by simp only [List.map_toArray, List.map_cons, List.map_nil, h90] <;> rfl) (ent37 _ _) ((hash_any root sw (by omega) (by omega)).mono ?_); rintro e w' ⟨A', c', rfl, own, hx⟩; exact ⟨_, rfl, hx, A', c', rfl, own.rb⟩
    · refine stepY (j := 8) (d := 89) (b := true) rfl rfl rfl (fun v w h => h) fun sdn sa sw sE sd sk => ?_
      have h13 : sa.eval (.tmp 13) = .pointer (some ⟨g13, 0, none⟩) := sk.old 13 rfl
      exact Runs.load rfl h13 (load_part (hB13.ext sE) 0 (vs := [.int .i64 (x), .slice (B1) (32) (d1), .int .i64 (((k : Nat) : Int)), .slice (P1) (64) (v1), .slice (Q1) (4) (u1)]) rfl Try.underlying41 rfl (by kernel_rfl)) ⟨Ext.refl _, rfl⟩
    · refine stepY (j := 8) (d := 89) (b := true) rfl rfl rfl (fun v w h => h) fun sdn sa sw sE sd sk => ?_
      obtain ⟨A91, c91, h91, r91⟩ := sk.fact 10 91 rfl (sd 10 rfl)
      have h92 : sa.eval (.tmp 92) = .agg #[.int .i64 (x), .slice (B1) (32) (d1), .int .i64 (((k : Nat) : Int)), .slice (P1) (64) (v1), .slice (Q1) (4) (u1)] := sk.fact 11 92 rfl (sd 11 rfl)
      refine Runs.call (f := 32) (vs := [.slice (A91) (32) (c91), .agg #[.int .i64 (x), .slice (B1) (32) (d1), .int .i64 (((k : Nat) : Int)), .slice (P1) (64) (v1), .slice (Q1) (4) (u1)]]) rfl rfl rfl (by simp only [List.map_toArray, List.map_cons, List.map_nil, h91, h92] <;> rfl) (ent32 _ _) ((same10_any _ _ _ _ _ _ _ _ _ _ _ _ _ _ _ _ _ _ sw r91 (rR1.ext sE) (rP1.ext sE) (rQ1.ext sE)).mono ?_); rintro e w' ⟨rfl, hx⟩; exact ⟨_, rfl, hx, rfl⟩
    · refine stepE rfl fun sdn sa sw sE sd sk => ?_
      have h89 : sa.eval (.tmp 89) = .bool (true) := sk.fact 8 89 rfl (sd 8 rfl)
      have h93 : sa.eval (.tmp 93) = .bool (true) := sk.fact 12 93 rfl (sd 12 rfl)
      exact Runs.pick rfl h89 ⟨Ext.refl _, by first | exact h93 | simpa using h93⟩
    · refine stepE rfl fun sdn sa sw sE sd sk => ?_
      have h94 : sa.eval (.tmp 94) = .bool (true) := sk.fact 13 94 rfl (sd 13 rfl)
      exact Runs.move rfl h94 ⟨Ext.refl _, rfl⟩
    · refine stepY (j := 14) (d := 95) (b := true) rfl rfl rfl (fun v w h => h) fun sdn sa sw sE sd sk => ?_
      have h5 : sa.eval (.tmp 5) = .slice (D) (nd) (cd) := sk.old 5 rfl
      exact Runs.move rfl h5 ⟨Ext.refl _, rfl⟩
    · refine stepY (j := 14) (d := 95) (b := true) rfl rfl rfl (fun v w h => h) fun sdn sa sw sE sd sk => ?_
      have h96 : sa.eval (.tmp 96) = .slice (D) (nd) (cd) := sk.fact 15 96 rfl (sd 15 rfl)
      refine Runs.call (f := 31) (vs := [.slice (D) (nd) (cd)]) rfl rfl rfl (by simp only [List.map_toArray, List.map_cons, List.map_nil, h96] <;> rfl) (ent31 _ _) ((reads10_any _ _ _ _ sw (rD.ext sE) (by omega)).mono ?_); rintro e w' ⟨rfl, hx⟩; exact ⟨_, rfl, hx, rfl⟩
    · refine stepE rfl fun sdn sa sw sE sd sk => ?_
      have h95 : sa.eval (.tmp 95) = .bool (true) := sk.fact 14 95 rfl (sd 14 rfl)
      have h97 : sa.eval (.tmp 97) = .bool (true) := sk.fact 16 97 rfl (sd 16 rfl)
      exact Runs.pick rfl h95 ⟨Ext.refl _, by first | exact h97 | simpa using h97⟩
    · refine stepE rfl fun sdn sa sw sE sd sk => ?_
      have h98 : sa.eval (.tmp 98) = .bool (true) := sk.fact 17 98 rfl (sd 17 rfl)
      exact Runs.move rfl h98 ⟨Ext.refl _, rfl⟩
    · refine stepY (j := 18) (d := 99) (b := true) rfl rfl rfl (fun v w h => h) fun sdn sa sw sE sd sk => ?_
      have h13 : sa.eval (.tmp 13) = .pointer (some ⟨g13, 0, none⟩) := sk.old 13 rfl
      refine Runs.of_run (r := .pointer (some ⟨g13, 0, none⟩)) (w' := sw) ?_ ⟨Ext.refl _, rfl⟩
      unfold execOp
      simp only [h13]
      go_simp
    · refine stepY (j := 18) (d := 99) (b := true) rfl rfl rfl (fun v w h => h) fun sdn sa sw sE sd sk => ?_
      have h100 : sa.eval (.tmp 100) = .pointer (some ⟨g13, 0, none⟩) := sk.fact 19 100 rfl (sd 19 rfl)
      exact Runs.load rfl h100 (load_part (hB13.ext sE) 0 (vs := [.int .i64 (x), .slice (B1) (32) (d1)]) rfl Try.underlying24 rfl (by kernel_rfl)) ⟨Ext.refl _, rfl⟩
    · refine stepY (j := 18) (d := 99) (b := true) rfl rfl rfl (fun v w h => h) fun sdn sa sw sE sd sk => ?_
      have h10 : sa.eval (.tmp 10) = .pointer (some ⟨g10, 0, none⟩) := sk.old 10 rfl
      exact Runs.load rfl h10 (load_part (hB10.ext sE) 0 (vs := [.int .i64 (y), .slice (C) (ne) (cc)]) rfl Try.underlying24 rfl (by kernel_rfl)) ⟨Ext.refl _, rfl⟩
    · refine stepY (j := 18) (d := 99) (b := true) rfl rfl rfl (fun v w h => h) fun sdn sa sw sE sd sk => ?_
      have h101 : sa.eval (.tmp 101) = .agg #[.int .i64 (x), .slice (B1) (32) (d1)] := sk.fact 20 101 rfl (sd 20 rfl)
      have h102 : sa.eval (.tmp 102) = .agg #[.int .i64 (y), .slice (C) (ne) (cc)] := sk.fact 21 102 rfl (sd 21 rfl)
      refine Runs.call (f := 18) (vs := [.agg #[.int .i64 (x), .slice (B1) (32) (d1)], .agg #[.int .i64 (y), .slice (C) (ne) (cc)]]) rfl rfl rfl (by simp only [List.map_toArray, List.map_cons, List.map_nil, h101, h102] <;> rfl) (ent18 _ _) ((csame_any _ _ _ _ _ _ _ _ _ _ sw (rR1.ext sE) (rE.ext sE)).mono ?_); rintro e w' ⟨rfl, hx⟩; exact ⟨_, rfl, hx, rfl⟩
    · refine stepY (j := 18) (d := 99) (b := true) rfl rfl rfl (fun v w h => h) fun sdn sa sw sE sd sk => ?_
      have h13 : sa.eval (.tmp 13) = .pointer (some ⟨g13, 0, none⟩) := sk.old 13 rfl
      refine Runs.of_run (r := .pointer (some ⟨g13, 0, none⟩)) (w' := sw) ?_ ⟨Ext.refl _, rfl⟩
      unfold execOp
      simp only [h13]
      go_simp
    · refine stepY (j := 18) (d := 99) (b := true) rfl rfl rfl (fun v w h => h) fun sdn sa sw sE sd sk => ?_
      have h104 : sa.eval (.tmp 104) = .pointer (some ⟨g13, 0, none⟩) := sk.fact 23 104 rfl (sd 23 rfl)
      exact Runs.load rfl h104 (load_part (hB13.ext sE) 0 (vs := [.int .i64 (x), .slice (B1) (32) (d1)]) rfl Try.underlying24 rfl (by kernel_rfl)) ⟨Ext.refl _, rfl⟩
    · refine stepY (j := 18) (d := 99) (b := true) rfl rfl rfl (fun v w h => h) fun sdn sa sw sE sd sk => ?_
      have h10 : sa.eval (.tmp 10) = .pointer (some ⟨g10, 0, none⟩) := sk.old 10 rfl
      exact Runs.load rfl h10 (load_part (hB10.ext sE) 0 (vs := [.int .i64 (y), .slice (C) (ne) (cc)]) rfl Try.underlying24 rfl (by kernel_rfl)) ⟨Ext.refl _, rfl⟩
    · refine stepY (j := 18) (d := 99) (b := true) rfl rfl rfl (fun v w h => h) fun sdn sa sw sE sd sk => ?_
      have h105 : sa.eval (.tmp 105) = .agg #[.int .i64 (x), .slice (B1) (32) (d1)] := sk.fact 24 105 rfl (sd 24 rfl)
      have h106 : sa.eval (.tmp 106) = .agg #[.int .i64 (y), .slice (C) (ne) (cc)] := sk.fact 25 106 rfl (sd 25 rfl)
      refine Runs.call (f := 38) (vs := [.agg #[.int .i64 (x), .slice (B1) (32) (d1)], .agg #[.int .i64 (y), .slice (C) (ne) (cc)]]) rfl rfl rfl (by simp only [List.map_toArray, List.map_cons, List.map_nil, h105, h106] <;> rfl) (ent38 _ _) ((rcsame_any _ _ _ _ _ _ _ _ _ _ sw (rR1.ext sE) (rE.ext sE)).mono ?_); rintro e w' ⟨rfl, hx⟩; exact ⟨_, rfl, hx, rfl⟩
    · refine stepY (j := 18) (d := 99) (b := true) rfl rfl rfl (fun v w h => h) fun sdn sa sw sE sd sk => ?_
      have h103 : sa.eval (.tmp 103) = .bool (decide (x = y) && decide (R = T)) := sk.fact 22 103 rfl (sd 22 rfl)
      have h107 : sa.eval (.tmp 107) = .bool (decide (x = y) && decide (R = T)) := sk.fact 26 107 rfl (sd 26 rfl)
      exact Runs.bin rfl h103 h107 (by rfl) (bin_eqb _ _) ⟨Ext.refl _, congrArg Value.bool (by simp)⟩
    · refine stepE rfl fun sdn sa sw sE sd sk => ?_
      have h99 : sa.eval (.tmp 99) = .bool (true) := sk.fact 18 99 rfl (sd 18 rfl)
      have h108 : sa.eval (.tmp 108) = .bool (true) := sk.fact 27 108 rfl (sd 27 rfl)
      exact Runs.pick rfl h99 ⟨Ext.refl _, by first | exact h108 | simpa using h108⟩
    · refine stepE rfl fun sdn sa sw sE sd sk => ?_
      have h109 : sa.eval (.tmp 109) = .bool (true) := sk.fact 28 109 rfl (sd 28 rfl)
      exact Runs.move rfl h109 ⟨Ext.refl _, rfl⟩
    · refine stepY (j := 29) (d := 110) (b := true) rfl rfl rfl (fun v w h => h) fun sdn sa sw sE sd sk => ?_
      refine Runs.call (f := 20) (vs := []) rfl rfl rfl (by simp only [List.map_toArray, List.map_cons, List.map_nil] <;> rfl) (ent20 _ _) ((known10_any sw).mono ?_); rintro e w' ⟨rfl, hx⟩; exact ⟨_, rfl, hx, rfl⟩
    · refine stepE rfl fun sdn sa sw sE sd sk => ?_
      have h110 : sa.eval (.tmp 110) = .bool (true) := sk.fact 29 110 rfl (sd 29 rfl)
      have h111 : sa.eval (.tmp 111) = .bool (true) := sk.fact 30 111 rfl (sd 30 rfl)
      exact Runs.pick rfl h110 ⟨Ext.refl _, by first | exact h111 | simpa using h111⟩
    intro vals W11 hE11 hv11
    have e0 : vals 0 = .slice (X) (32) (cx) := hv11 0 (by omega) 81 rfl
    have e1 : vals 1 = .agg #[.int .i64 (x), .slice (B1) (32) (d1), .int .i64 (((k : Nat) : Int)), .slice (P1) (64) (v1), .slice (Q1) (4) (u1)] := hv11 1 (by omega) 82 rfl
    have e2 : vals 2 = .bool (true) := hv11 2 (by omega) 83 rfl
    have e3 : vals 3 = .bool (true) := hv11 3 (by omega) 84 rfl
    have e4 : vals 4 = .slice (X) (32) (cx) := hv11 4 (by omega) 85 rfl
    have e5 : vals 5 = .agg #[.int .i64 (y), .slice (C) (ne) (cc), .int .i64 (((k : Nat) : Int)), .slice (P1) (64) (v1), .slice (Q1) (4) (u1)] := hv11 5 (by omega) 86 rfl
    have e6 : vals 6 = .bool (true) := hv11 6 (by omega) 87 rfl
    have e7 : vals 7 = .bool (true) := hv11 7 (by omega) 88 rfl
    have e8 : vals 8 = .bool (true) := hv11 8 (by omega) 89 rfl
    have e9 : vals 9 = .int .i64 (root) := hv11 9 (by omega) 90 rfl
    obtain ⟨A91, c91, e10, r91⟩ := hv11 10 (by omega) 91 rfl
    have e11 : vals 11 = .agg #[.int .i64 (x), .slice (B1) (32) (d1), .int .i64 (((k : Nat) : Int)), .slice (P1) (64) (v1), .slice (Q1) (4) (u1)] := hv11 11 (by omega) 92 rfl
    have e12 : vals 12 = .bool (true) := hv11 12 (by omega) 93 rfl
    have e13 : vals 13 = .bool (true) := hv11 13 (by omega) 94 rfl
    have e14 : vals 14 = .bool (true) := hv11 14 (by omega) 95 rfl
    have e15 : vals 15 = .slice (D) (nd) (cd) := hv11 15 (by omega) 96 rfl
    have e16 : vals 16 = .bool (true) := hv11 16 (by omega) 97 rfl
    have e17 : vals 17 = .bool (true) := hv11 17 (by omega) 98 rfl
    have e18 : vals 18 = .bool (true) := hv11 18 (by omega) 99 rfl
    have e19 : vals 19 = .pointer (some ⟨g13, 0, none⟩) := hv11 19 (by omega) 100 rfl
    have e20 : vals 20 = .agg #[.int .i64 (x), .slice (B1) (32) (d1)] := hv11 20 (by omega) 101 rfl
    have e21 : vals 21 = .agg #[.int .i64 (y), .slice (C) (ne) (cc)] := hv11 21 (by omega) 102 rfl
    have e22 : vals 22 = .bool (decide (x = y) && decide (R = T)) := hv11 22 (by omega) 103 rfl
    have e23 : vals 23 = .pointer (some ⟨g13, 0, none⟩) := hv11 23 (by omega) 104 rfl
    have e24 : vals 24 = .agg #[.int .i64 (x), .slice (B1) (32) (d1)] := hv11 24 (by omega) 105 rfl
    have e25 : vals 25 = .agg #[.int .i64 (y), .slice (C) (ne) (cc)] := hv11 25 (by omega) 106 rfl
    have e26 : vals 26 = .bool (decide (x = y) && decide (R = T)) := hv11 26 (by omega) 107 rfl
    have e27 : vals 27 = .bool (true) := hv11 27 (by omega) 108 rfl
    have e28 : vals 28 = .bool (true) := hv11 28 (by omega) 109 rfl
    have e29 : vals 29 = .bool (true) := hv11 29 (by omega) 110 rfl
    have e30 : vals 30 = .bool (true) := hv11 30 (by omega) 111 rfl
    have e31 : vals 31 = .bool (true) := hv11 31 (by omega) 112 rfl
    simp only [putAll, Act.put, List.take_succ_cons, List.take_zero, List.drop_succ_cons, List.drop_zero, List.drop_nil, List.take_nil, Nat.reduceAdd, List.setIfInBounds_toArray, List.set_cons_succ, List.set_cons_zero, e0, e1, e2, e3, e4, e5, e6, e7, e8, e9, e10, e11, e12, e13, e14, e15, e16, e17, e18, e19, e20, e21, e22, e23, e24, e25, e26, e27, e28, e29, e30, e31]
    clear hv11 e0 e1 e2 e3 e4 e5 e6 e7 e8 e9 e10 e11 e12 e13 e14 e15 e16 e17 e18 e19 e20 e21 e22 e23 e24 e25 e26 e27 e28 e29 e30 e31
    go_wp2_with fail
    go_ret
    exact ⟨rfl, hEa.trans hE11⟩
end Go.Proofs.Ythggfbpdhkpkjaa
