/-
  law9.ManifestNewer, walked.
-/
import Derived.Test.YtmgnigofilkfmabManPar
import Derived.Test.YtmgnigofilkfmabKnown9
namespace Go.Proofs.Ytmgnigofilkfmab
set_option maxRecDepth 100000
open Go Go.RowKit
theorem man_cells (m : Man) (F : Option Addr) (nf cf : Nat) (N : Option Addr) (nn cn : Nat) : manV m F nf cf N nn cn = .agg #[.string (str m.name), .int .u32 (u32i m.ver), .slice F nf cf, .slice N nn cn] := rfl
theorem str_app (a b : List UInt8) : str a ++ str b = str (a ++ b) := by
  apply ByteArray.ext
  simp [str]
set_option maxHeartbeats 4000000 in
theorem mnewer_law (a b : Man) (F N F' N' : Option Addr) (nf cf nn cn nf' cf' nn' cn' : Nat) (n v z : Int) (w : World) (hF : RB w F nf cf a.fw) (hN : RB w N nn cn a.notes) (hF' : RB w F' nf' cf' b.fw) (hN' : RB w N' nn' cn' b.notes)
    (hn0 : -9223372036854775808 ≤ n) (hn1 : n ≤ 9223372036854775807) (hv0 : -9223372036854775808 ≤ v) (hv1 : v ≤ 9223372036854775807) (hz0 : -9223372036854775808 ≤ z) (hz1 : z ≤ 9223372036854775807) :
    Calls Try.prog 5 #[manV a F nf cf N nn cn, manV b F' nf' cf' N' nn' cn', .int .i64 n, .int .i64 v, .int .i64 z] w fun e w' => e = .returned (.bool true) ∧ Ext w w' := by
  obtain ⟨x, hx⟩ : ∃ x, x = kman n v 0 := ⟨_, rfl⟩
  obtain ⟨y, hy⟩ : ∃ y, y = kman n z 1 := ⟨_, rfl⟩
  have hxy : x.name = y.name := by rw [hx, hy]; rfl
  rw [man_cells a, man_cells b]
  go_enter Try.func5, Try.ntmps5
  go_upto_region 1 with (fail)
  obtain ⟨w1, hw1⟩ : ∃ w1, w1 = w.alloc (.cells #[.string (str a.name), .int .u32 (u32i a.ver), .slice F nf cf, .slice N nn cn] 27) := ⟨_, rfl⟩
  have hA1 : Blk w1 w.heap.size 27 #[.string (str a.name), .int .u32 (u32i a.ver), .slice F nf cf, .slice N nn cn] := by rw [hw1]; exact Blk.new w _ _
  have hE1 : Ext w w1 := by rw [hw1]; exact Ext.new w _
  have hsz : w1.heap.size = w.heap.size + 1 := by rw [hw1]; simp
  rw [← hw1]
  try rw [← hsz]
  obtain ⟨w2, hw2⟩ : ∃ w2, w2 = w1.alloc (.cells #[.string (str b.name), .int .u32 (u32i b.ver), .slice F' nf' cf', .slice N' nn' cn'] 27) := ⟨_, rfl⟩
  have hB2 : Blk w2 w1.heap.size 27 #[.string (str b.name), .int .u32 (u32i b.ver), .slice F' nf' cf', .slice N' nn' cn'] := by rw [hw2]; exact Blk.new w1 _ _
  have hE12 : Ext w1 w2 := by rw [hw2]; exact Ext.new w1 _
  have hA2 := hA1.ext hE12
  have hE2 := hE1.trans hE12
  rw [← hw2]
  clear hw1 hw2 hsz
  have hk1 := kman_any n v 0 w2 hn0 hn1 hv0 hv1 (by omega) (by omega)
  rw [← hx] at hk1
  have Hx := Lib.hid hx
  have Hy := Lib.hid hy
  have Hnm0 := Lib.hid hxy
  clear hx hy hxy
  go_wp2_with fail
  refine hk1.mono ?_
  rintro e w4 ⟨F1, nf1, cf1, N1, nn1, cn1, rfl, hF1, hN1, hE4⟩
  have hk2 := kman_any n z 1 w4 hn0 hn1 hz0 hz1 (by omega) (by omega)
  rw [← Hy.out] at hk2
  clear hk1
  rw [man_cells x]
  go_wp2_with fail
  refine hk2.mono ?_
  rintro e w5 ⟨F2, nf2, cf2, N2, nn2, cn2, rfl, hF2, hN2, hE5⟩
  clear hk2
  rw [man_cells y]
  go_upto_region 2 with (fail)
  obtain ⟨w6, hw6⟩ : ∃ w6, w6 = w5.alloc (.cells #[.string (str x.name), .int .u32 (u32i x.ver), .slice F1 nf1 cf1, .slice N1 nn1 cn1] 27) := ⟨_, rfl⟩
  have hX6 : Blk w6 w5.heap.size 27 #[.string (str x.name), .int .u32 (u32i x.ver), .slice F1 nf1 cf1, .slice N1 nn1 cn1] := by rw [hw6]; exact Blk.new w5 _ _
  have hE6 : Ext w5 w6 := by rw [hw6]; exact Ext.new w5 _
  have hsz : w6.heap.size = w5.heap.size + 1 := by rw [hw6]; simp
  rw [← hw6]
  try rw [← hsz]
  obtain ⟨w7, hw7⟩ : ∃ w7, w7 = w6.alloc (.cells #[.string (str y.name), .int .u32 (u32i y.ver), .slice F2 nf2 cf2, .slice N2 nn2 cn2] 27) := ⟨_, rfl⟩
  have hY7 : Blk w7 w6.heap.size 27 #[.string (str y.name), .int .u32 (u32i y.ver), .slice F2 nf2 cf2, .slice N2 nn2 cn2] := by rw [hw7]; exact Blk.new w6 _ _
  have hE67 : Ext w6 w7 := by rw [hw7]; exact Ext.new w6 _
  rw [← hw7]
  have hX7 := hX6.ext hE67
  have hA7 := hA2.ext ((hE4.trans hE5).trans (hE6.trans hE67))
  have hB7 := hB2.ext ((hE4.trans hE5).trans (hE6.trans hE67))
  have hE7 := hE2.trans ((hE4.trans hE5).trans (hE6.trans hE67))
  have hlt67 : w5.heap.size < w6.heap.size := by omega
  have hlt1 : w1.heap.size < w6.heap.size := Nat.lt_of_lt_of_le hB2.lt ((hE4.trans hE5).trans hE6).size
  have hlt0 : w.heap.size < w6.heap.size := Nat.lt_of_lt_of_le hA2.lt ((hE4.trans hE5).trans hE6).size
  clear hw6 hw7 hsz hX6 hA2 hA1 hB2 hE67 hE6 hE5 hE4 hE12 hE1 hF1 hN1 hF2 hN2
  have hyl : (str y.name).size ≤ 20 := by
    rw [str_size, Hy.out]
    exact (right_is (kman_right n z 1)).1.2.1
  have Hyl := Lib.hid hyl
  clear hyl
  have hxx : newerM x x = false := by simp [newerM]
  have Hxx := Lib.hid hxx
  clear hxx
  have key : ∃ q : Bool, newerM x y = q ∧ decide (u32i y.ver < u32i x.ver) = q ∧ (q = true → newerM y x = false) := by
    refine ⟨decide (u32i y.ver < u32i x.ver), by simp only [newerM, Hnm0.out, decide_true, Bool.true_and], rfl, fun h => ?_⟩
    rw [decide_eq_true_eq] at h
    have h2 : ¬ u32i x.ver < u32i y.ver := by omega
    simp only [newerM, decide_eq_false h2, Bool.and_false]
  obtain ⟨q, hxy, hb, hyx⟩ := key
  have hn1' : newerM x ⟨y.name ++ [122], y.ver, y.fw, y.notes⟩ = false := by
    have h2 : ¬ x.name = y.name ++ [122] := by
      rw [Hnm0.out]
      intro e
      have := congrArg List.length e
      simp at this
    simp only [newerM, decide_eq_false h2, Bool.false_and]
  have hn2' : newerM ⟨y.name ++ [122], y.ver, y.fw, y.notes⟩ x = false := by
    have h2 : ¬ y.name ++ [122] = x.name := by
      rw [Hnm0.out]
      intro e
      have := congrArg List.length e
      simp at this
    simp only [newerM, decide_eq_false h2, Bool.false_and]
  have haa : sameM a a = true := by simp [sameM]
  have Hn1 := Lib.hid hn1'
  have Hn2 := Lib.hid hn2'
  have Haa := Lib.hid haa
  clear hn1' hn2' haa
  cases q
  · have Hxy := Lib.hid hxy
    have Hb := Lib.hid hb
    clear hxy hb hyx
    refine par_ext (n := 24) (by kernel_rfl) [.is (manV x F1 nf1 cf1 N1 nn1 cn1), .is (manV y F2 nf2 cf2 N2 nn2 cn2), .is (.bool (false)), .is (.pointer (some ⟨w5.heap.size, 1, none⟩)), .is (.int .u32 (u32i (x.ver))), .is (.pointer (some ⟨w6.heap.size, 1, none⟩)), .is (.int .u32 (u32i (y.ver))), .is (.bool (false)), .is (.bool (false)), .is (.bool (false)), .is (manV x F1 nf1 cf1 N1 nn1 cn1), .is (manV x F1 nf1 cf1 N1 nn1 cn1), .is (.bool (false)), .is (.bool (false)), .is (.bool (false)), .is (manV x F1 nf1 cf1 N1 nn1 cn1), .is (manV y F2 nf2 cf2 N2 nn2 cn2), .is (.bool (false)), .is (.bool (false)), .any, .any, .any, .is (.bool (false)), .is (.bool (false))] rfl ⟨?_, ?_, ?_, ?_, ?_, ?_, ?_, ?_, ?_, ?_, ?_, ?_, ?_, ?_, ?_, ?_, ?_, ?_, ?_, ?_, ?_, ?_, ?_, ?_, trivial⟩ ?_
    · refine stepE rfl fun sdn sa sw sE sd sk => ?_
      have h11 : sa.eval (.tmp 11) = .pointer (some ⟨w5.heap.size, 0, none⟩) := sk.old 11 rfl
      exact Runs.load rfl h11 (load_man (hX7.ext sE)) ⟨Ext.refl _, rfl⟩
    · refine stepE rfl fun sdn sa sw sE sd sk => ?_
      have h12 : sa.eval (.tmp 12) = .pointer (some ⟨w6.heap.size, 0, none⟩) := sk.old 12 rfl
      exact Runs.load rfl h12 (load_man (hY7.ext sE)) ⟨Ext.refl _, rfl⟩
    · refine stepE rfl fun sdn sa sw sE sd sk => ?_
      have h19 : sa.eval (.tmp 19) = manV x F1 nf1 cf1 N1 nn1 cn1 := sk.fact 0 19 rfl (sd 0 rfl)
      have h20 : sa.eval (.tmp 20) = manV y F2 nf2 cf2 N2 nn2 cn2 := sk.fact 1 20 rfl (sd 1 rfl)
      refine Runs.call (f := 24) (vs := [manV x F1 nf1 cf1 N1 nn1 cn1, manV y F2 nf2 cf2 N2 nn2 cn2]) rfl rfl rfl (by simp only [List.map_toArray, List.map_cons, List.map_nil, h19, h20] <;> rfl) (ent24 _ _) ((newer_any _ _ _ _ _ _ _ _ _ _ _ _ _ _ sw).mono ?_); rintro e w' ⟨rfl, hx⟩; exact ⟨_, rfl, hx, congrArg Value.bool Hxy.out⟩
    · refine stepE rfl fun sdn sa sw sE sd sk => ?_
      have h11 : sa.eval (.tmp 11) = .pointer (some ⟨w5.heap.size, 0, none⟩) := sk.old 11 rfl
      refine Runs.of_run (r := .pointer (some ⟨w5.heap.size, 1, none⟩)) (w' := sw) ?_ ⟨Ext.refl _, rfl⟩
      unfold execOp
      simp only [h11]
      go_simp
    · refine stepE rfl fun sdn sa sw sE sd sk => ?_
      have h22 : sa.eval (.tmp 22) = .pointer (some ⟨w5.heap.size, 1, none⟩) := sk.fact 3 22 rfl (sd 3 rfl)
      exact Runs.load rfl h22 (run_load1 Try.underlying25 rfl ((hX7.ext sE).cell (i := 1) rfl)) ⟨Ext.refl _, rfl⟩
    · refine stepE rfl fun sdn sa sw sE sd sk => ?_
      have h12 : sa.eval (.tmp 12) = .pointer (some ⟨w6.heap.size, 0, none⟩) := sk.old 12 rfl
      refine Runs.of_run (r := .pointer (some ⟨w6.heap.size, 1, none⟩)) (w' := sw) ?_ ⟨Ext.refl _, rfl⟩
      unfold execOp
      simp only [h12]
      go_simp
    · refine stepE rfl fun sdn sa sw sE sd sk => ?_
      have h24 : sa.eval (.tmp 24) = .pointer (some ⟨w6.heap.size, 1, none⟩) := sk.fact 5 24 rfl (sd 5 rfl)
      exact Runs.load rfl h24 (run_load1 Try.underlying25 rfl ((hY7.ext sE).cell (i := 1) rfl)) ⟨Ext.refl _, rfl⟩
    · refine stepE rfl fun sdn sa sw sE sd sk => ?_
      have h23 : sa.eval (.tmp 23) = .int .u32 (u32i (x.ver)) := sk.fact 4 23 rfl (sd 4 rfl)
      have h25 : sa.eval (.tmp 25) = .int .u32 (u32i (y.ver)) := sk.fact 6 25 rfl (sd 6 rfl)
      exact Runs.bin rfl h23 h25 (by rfl) (bin_gtr _ _ _ _) ⟨Ext.refl _, congrArg Value.bool Hb.out⟩
    · refine stepE rfl fun sdn sa sw sE sd sk => ?_
      have h21 : sa.eval (.tmp 21) = .bool (false) := sk.fact 2 21 rfl (sd 2 rfl)
      have h26 : sa.eval (.tmp 26) = .bool (false) := sk.fact 7 26 rfl (sd 7 rfl)
      exact Runs.bin rfl h21 h26 (by rfl) (bin_neb _ _) ⟨Ext.refl _, congrArg Value.bool (by simp)⟩
    · refine stepE rfl fun sdn sa sw sE sd sk => ?_
      have h27 : sa.eval (.tmp 27) = .bool (false) := sk.fact 8 27 rfl (sd 8 rfl)
      exact Runs.move rfl h27 ⟨Ext.refl _, rfl⟩
    · refine stepY (j := 9) (d := 28) (b := false) rfl rfl rfl (fun v w h => h) fun sdn sa sw sE sd sk => ?_
      have h11 : sa.eval (.tmp 11) = .pointer (some ⟨w5.heap.size, 0, none⟩) := sk.old 11 rfl
      exact Runs.load rfl h11 (load_man (hX7.ext sE)) ⟨Ext.refl _, rfl⟩
    · refine stepY (j := 9) (d := 28) (b := false) rfl rfl rfl (fun v w h => h) fun sdn sa sw sE sd sk => ?_
      have h11 : sa.eval (.tmp 11) = .pointer (some ⟨w5.heap.size, 0, none⟩) := sk.old 11 rfl
      exact Runs.load rfl h11 (load_man (hX7.ext sE)) ⟨Ext.refl _, rfl⟩
    · refine stepY (j := 9) (d := 28) (b := false) rfl rfl rfl (fun v w h => h) fun sdn sa sw sE sd sk => ?_
      have h29 : sa.eval (.tmp 29) = manV x F1 nf1 cf1 N1 nn1 cn1 := sk.fact 10 29 rfl (sd 10 rfl)
      have h30 : sa.eval (.tmp 30) = manV x F1 nf1 cf1 N1 nn1 cn1 := sk.fact 11 30 rfl (sd 11 rfl)
      refine Runs.call (f := 24) (vs := [manV x F1 nf1 cf1 N1 nn1 cn1, manV x F1 nf1 cf1 N1 nn1 cn1]) rfl rfl rfl (by simp only [List.map_toArray, List.map_cons, List.map_nil, h29, h30] <;> rfl) (ent24 _ _) ((newer_any _ _ _ _ _ _ _ _ _ _ _ _ _ _ sw).mono ?_); rintro e w' ⟨rfl, hx⟩; exact ⟨_, rfl, hx, congrArg Value.bool Hxx.out⟩
    · refine stepE rfl fun sdn sa sw sE sd sk => ?_
      have h28 : sa.eval (.tmp 28) = .bool (false) := sk.fact 9 28 rfl (sd 9 rfl)
      have h31 : sa.eval (.tmp 31) = .bool (false) := sk.fact 12 31 rfl (sd 12 rfl)
      exact Runs.pick rfl h28 ⟨Ext.refl _, by first | exact h31 | simpa using h31⟩
    · refine stepE rfl fun sdn sa sw sE sd sk => ?_
      have h32 : sa.eval (.tmp 32) = .bool (false) := sk.fact 13 32 rfl (sd 13 rfl)
      exact Runs.move rfl h32 ⟨Ext.refl _, rfl⟩
    · refine stepY (j := 14) (d := 33) (b := false) rfl rfl rfl (fun v w h => h) fun sdn sa sw sE sd sk => ?_
      have h11 : sa.eval (.tmp 11) = .pointer (some ⟨w5.heap.size, 0, none⟩) := sk.old 11 rfl
      exact Runs.load rfl h11 (load_man (hX7.ext sE)) ⟨Ext.refl _, rfl⟩
    · refine stepY (j := 14) (d := 33) (b := false) rfl rfl rfl (fun v w h => h) fun sdn sa sw sE sd sk => ?_
      have h12 : sa.eval (.tmp 12) = .pointer (some ⟨w6.heap.size, 0, none⟩) := sk.old 12 rfl
      exact Runs.load rfl h12 (load_man (hY7.ext sE)) ⟨Ext.refl _, rfl⟩
    · refine stepY (j := 14) (d := 33) (b := false) rfl rfl rfl (fun v w h => h) fun sdn sa sw sE sd sk => ?_
      have h34 : sa.eval (.tmp 34) = manV x F1 nf1 cf1 N1 nn1 cn1 := sk.fact 15 34 rfl (sd 15 rfl)
      have h35 : sa.eval (.tmp 35) = manV y F2 nf2 cf2 N2 nn2 cn2 := sk.fact 16 35 rfl (sd 16 rfl)
      refine Runs.call (f := 24) (vs := [manV x F1 nf1 cf1 N1 nn1 cn1, manV y F2 nf2 cf2 N2 nn2 cn2]) rfl rfl rfl (by simp only [List.map_toArray, List.map_cons, List.map_nil, h34, h35] <;> rfl) (ent24 _ _) ((newer_any _ _ _ _ _ _ _ _ _ _ _ _ _ _ sw).mono ?_); rintro e w' ⟨rfl, hx⟩; exact ⟨_, rfl, hx, congrArg Value.bool Hxy.out⟩
    · refine stepY (j := 14) (d := 33) (b := false) rfl rfl rfl (fun v w h => h) fun sdn sa sw sE sd sk => ?_
      have h36 : sa.eval (.tmp 36) = .bool (false) := sk.fact 17 36 rfl (sd 17 rfl)
      exact Runs.move rfl h36 ⟨Ext.refl _, rfl⟩
    · exact stepN (j := 18) (d := 37) (b := false) rfl rfl rfl (fun v w h => h) fun w => trivial
    · exact stepN (j := 18) (d := 37) (b := false) rfl rfl rfl (fun v w h => h) fun w => trivial
    · exact stepN (j := 18) (d := 37) (b := false) rfl rfl rfl (fun v w h => h) fun w => trivial
    · refine stepY (j := 14) (d := 33) (b := false) rfl rfl rfl (fun v w h => h) fun sdn sa sw sE sd sk => ?_
      have h37 : sa.eval (.tmp 37) = .bool (false) := sk.fact 18 37 rfl (sd 18 rfl)
      exact Runs.pick rfl h37 ⟨Ext.refl _, rfl⟩
    · refine stepE rfl fun sdn sa sw sE sd sk => ?_
      have h33 : sa.eval (.tmp 33) = .bool (false) := sk.fact 14 33 rfl (sd 14 rfl)
      have h41 : sa.eval (.tmp 41) = .bool (false) := sk.fact 22 41 rfl (sd 22 rfl)
      exact Runs.pick rfl h33 ⟨Ext.refl _, by first | exact h41 | simpa using h41⟩
    intro vals W1 hE hv
    have e0 : vals 0 = manV x F1 nf1 cf1 N1 nn1 cn1 := hv 0 (by omega) 19 rfl
    have e1 : vals 1 = manV y F2 nf2 cf2 N2 nn2 cn2 := hv 1 (by omega) 20 rfl
    have e2 : vals 2 = .bool (false) := hv 2 (by omega) 21 rfl
    have e3 : vals 3 = .pointer (some ⟨w5.heap.size, 1, none⟩) := hv 3 (by omega) 22 rfl
    have e4 : vals 4 = .int .u32 (u32i (x.ver)) := hv 4 (by omega) 23 rfl
    have e5 : vals 5 = .pointer (some ⟨w6.heap.size, 1, none⟩) := hv 5 (by omega) 24 rfl
    have e6 : vals 6 = .int .u32 (u32i (y.ver)) := hv 6 (by omega) 25 rfl
    have e7 : vals 7 = .bool (false) := hv 7 (by omega) 26 rfl
    have e8 : vals 8 = .bool (false) := hv 8 (by omega) 27 rfl
    have e9 : vals 9 = .bool (false) := hv 9 (by omega) 28 rfl
    have e10 : vals 10 = manV x F1 nf1 cf1 N1 nn1 cn1 := hv 10 (by omega) 29 rfl
    have e11 : vals 11 = manV x F1 nf1 cf1 N1 nn1 cn1 := hv 11 (by omega) 30 rfl
    have e12 : vals 12 = .bool (false) := hv 12 (by omega) 31 rfl
    have e13 : vals 13 = .bool (false) := hv 13 (by omega) 32 rfl
    have e14 : vals 14 = .bool (false) := hv 14 (by omega) 33 rfl
    have e15 : vals 15 = manV x F1 nf1 cf1 N1 nn1 cn1 := hv 15 (by omega) 34 rfl
    have e16 : vals 16 = manV y F2 nf2 cf2 N2 nn2 cn2 := hv 16 (by omega) 35 rfl
    have e17 : vals 17 = .bool (false) := hv 17 (by omega) 36 rfl
    have e18 : vals 18 = .bool (false) := hv 18 (by omega) 37 rfl
    have e22 : vals 22 = .bool (false) := hv 22 (by omega) 41 rfl
    have e23 : vals 23 = .bool (false) := hv 23 (by omega) 42 rfl
    simp only [putAll, Act.put, List.take_succ_cons, List.take_zero, List.drop_succ_cons, List.drop_zero, List.drop_nil, List.take_nil, Nat.reduceAdd, List.setIfInBounds_toArray, List.set_cons_succ, List.set_cons_zero, e0, e1, e2, e3, e4, e5, e6, e7, e8, e9, e10, e11, e12, e13, e14, e15, e16, e17, e18, e22, e23]
    clear hv e0 e1 e2 e3 e4 e5 e6 e7 e8 e9 e10 e11 e12 e13 e14 e15 e16 e17 e18 e22 e23
    have hA8 := hA7.ext hE
    have hB8 := hB7.ext hE
    have hX8 := hX7.ext hE
    have hY8 := hY7.ext hE
    have hE8 := hE7.trans hE
    clear hA7 hB7 hX7 hY7 hE7 hE
    have y0 := hY8.cell (i := 0) rfl
    have z0 := hY8.frozen 0
    have hyl := Hyl.out
    go_upto_region 5 with (fail)
    rw [show str y.name ++ ⟨#[122]⟩ = str (y.name ++ [122]) from str_app y.name [122]]
    obtain ⟨w9, hw9⟩ : ∃ w9, w9 = W1.setCell ⟨w6.heap.size, 0, none⟩ (.string (str (y.name ++ [122]))) := ⟨_, rfl⟩
    have g9 : W1.grownBy w9 (some w6.heap.size) := by rw [hw9]; exact grownBy_setCell W1 ⟨w6.heap.size, 0, none⟩ _
    have hY9 : Blk w9 w6.heap.size 27 #[.string (str (y.name ++ [122])), .int .u32 (u32i y.ver), .slice F2 nf2 cf2, .slice N2 nn2 cn2] := by rw [hw9]; exact hY8.set 0 _
    have hX9 := hX8.grown g9 (by intro e; injection e with e; omega)
    have hA9 := hA8.grown g9 (by intro e; injection e with e; omega)
    have hB9 := hB8.grown g9 (by intro e; injection e with e; omega)
    have hE9 := hE8.then_grown g9 (by intro k hk; cases hk; omega)
    rw [← hw9]
    clear hw9 g9 hA8 hB8 hX8 hY8 hE8 y0 z0 hyl
    by_cases hnm : a.name = b.name
    · have hab : newerM a b = decide (u32i b.ver < u32i a.ver) := by simp only [newerM, hnm, decide_true, Bool.true_and]
      have Hab := Lib.hid hab
      have Hnm := Lib.hid (decide_eq_true hnm)
      clear hab hnm
      refine par_ext (n := 46) (by kernel_rfl) [.is (manV x F1 nf1 cf1 N1 nn1 cn1), .is (manV ⟨y.name ++ [122], y.ver, y.fw, y.notes⟩ F2 nf2 cf2 N2 nn2 cn2), .is (.bool (false)), .is (.bool (true)), .is (.bool (true)), .is (manV ⟨y.name ++ [122], y.ver, y.fw, y.notes⟩ F2 nf2 cf2 N2 nn2 cn2), .is (manV x F1 nf1 cf1 N1 nn1 cn1), .is (.bool (false)), .is (.bool (true)), .is (.bool (true)), .is (.bool (true)), .is (manV a F nf cf N nn cn), .is (manV b F' nf' cf' N' nn' cn'), .is (.bool (decide (u32i (b.ver) < u32i (a.ver)))), .is (.pointer (some ⟨w.heap.size, 0, none⟩)), .is (.string (str (a.name))), .is (.pointer (some ⟨w1.heap.size, 0, none⟩)), .is (.string (str (b.name))), .is (.bool (true)), .is (.bool (true)), .is (.pointer (some ⟨w.heap.size, 1, none⟩)), .is (.int .u32 (u32i (a.ver))), .is (.pointer (some ⟨w1.heap.size, 1, none⟩)), .is (.int .u32 (u32i (b.ver))), .is (.bool (decide (u32i (b.ver) < u32i (a.ver)))), .is (.bool (decide (u32i (b.ver) < u32i (a.ver)))), .is (.bool (true)), .is (.bool (true)), .is (.bool (true)), .is (manV a F nf cf N nn cn), .is (manV b F' nf' cf' N' nn' cn'), .is (.bool (sameM a b)), .is (manV a F nf cf N nn cn), .is (manV b F' nf' cf' N' nn' cn'), .is (.bool (sameM a b)), .is (.bool (true)), .is (.bool (true)), .is (.bool (true)), .is (manV a F nf cf N nn cn), .is (manV a F nf cf N nn cn), .is (.bool (true)), .is (.bool (true)), .is (.bool (true)), .is (.bool (true)), .is (.bool (true)), .is (.bool (true))] rfl ⟨?_, ?_, ?_, ?_, ?_, ?_, ?_, ?_, ?_, ?_, ?_, ?_, ?_, ?_, ?_, ?_, ?_, ?_, ?_, ?_, ?_, ?_, ?_, ?_, ?_, ?_, ?_, ?_, ?_, ?_, ?_, ?_, ?_, ?_, ?_, ?_, ?_, ?_, ?_, ?_, ?_, ?_, ?_, ?_, ?_, ?_, trivial⟩ ?_
      · refine stepE rfl fun sdn sa sw sE sd sk => ?_
        have h11 : sa.eval (.tmp 11) = .pointer (some ⟨w5.heap.size, 0, none⟩) := sk.old 11 rfl
        exact Runs.load rfl h11 (load_man (hX9.ext sE)) ⟨Ext.refl _, rfl⟩
      · refine stepE rfl fun sdn sa sw sE sd sk => ?_
        have h12 : sa.eval (.tmp 12) = .pointer (some ⟨w6.heap.size, 0, none⟩) := sk.old 12 rfl
        exact Runs.load rfl h12 (load_man (hY9.ext sE)) ⟨Ext.refl _, rfl⟩
      · refine stepE rfl fun sdn sa sw sE sd sk => ?_
        have h47 : sa.eval (.tmp 47) = manV x F1 nf1 cf1 N1 nn1 cn1 := sk.fact 0 47 rfl (sd 0 rfl)
        have h48 : sa.eval (.tmp 48) = manV ⟨y.name ++ [122], y.ver, y.fw, y.notes⟩ F2 nf2 cf2 N2 nn2 cn2 := sk.fact 1 48 rfl (sd 1 rfl)
        refine Runs.call (f := 24) (vs := [manV x F1 nf1 cf1 N1 nn1 cn1, manV ⟨y.name ++ [122], y.ver, y.fw, y.notes⟩ F2 nf2 cf2 N2 nn2 cn2]) rfl rfl rfl (by simp only [List.map_toArray, List.map_cons, List.map_nil, h47, h48] <;> rfl) (ent24 _ _) ((newer_any _ _ _ _ _ _ _ _ _ _ _ _ _ _ sw).mono ?_); rintro e w' ⟨rfl, hx⟩; exact ⟨_, rfl, hx, congrArg Value.bool Hn1.out⟩
      · refine stepE rfl fun sdn sa sw sE sd sk => ?_
        have h49 : sa.eval (.tmp 49) = .bool (false) := sk.fact 2 49 rfl (sd 2 rfl)
        exact Runs.un rfl h49 (by rfl) ⟨Ext.refl _, rfl⟩
      · refine stepE rfl fun sdn sa sw sE sd sk => ?_
        have h50 : sa.eval (.tmp 50) = .bool (true) := sk.fact 3 50 rfl (sd 3 rfl)
        exact Runs.move rfl h50 ⟨Ext.refl _, rfl⟩
      · refine stepY (j := 4) (d := 51) (b := true) rfl rfl rfl (fun v w h => h) fun sdn sa sw sE sd sk => ?_
        have h12 : sa.eval (.tmp 12) = .pointer (some ⟨w6.heap.size, 0, none⟩) := sk.old 12 rfl
        exact Runs.load rfl h12 (load_man (hY9.ext sE)) ⟨Ext.refl _, rfl⟩
      · refine stepY (j := 4) (d := 51) (b := true) rfl rfl rfl (fun v w h => h) fun sdn sa sw sE sd sk => ?_
        have h11 : sa.eval (.tmp 11) = .pointer (some ⟨w5.heap.size, 0, none⟩) := sk.old 11 rfl
        exact Runs.load rfl h11 (load_man (hX9.ext sE)) ⟨Ext.refl _, rfl⟩
      · refine stepY (j := 4) (d := 51) (b := true) rfl rfl rfl (fun v w h => h) fun sdn sa sw sE sd sk => ?_
        have h52 : sa.eval (.tmp 52) = manV ⟨y.name ++ [122], y.ver, y.fw, y.notes⟩ F2 nf2 cf2 N2 nn2 cn2 := sk.fact 5 52 rfl (sd 5 rfl)
        have h53 : sa.eval (.tmp 53) = manV x F1 nf1 cf1 N1 nn1 cn1 := sk.fact 6 53 rfl (sd 6 rfl)
        refine Runs.call (f := 24) (vs := [manV ⟨y.name ++ [122], y.ver, y.fw, y.notes⟩ F2 nf2 cf2 N2 nn2 cn2, manV x F1 nf1 cf1 N1 nn1 cn1]) rfl rfl rfl (by simp only [List.map_toArray, List.map_cons, List.map_nil, h52, h53] <;> rfl) (ent24 _ _) ((newer_any _ _ _ _ _ _ _ _ _ _ _ _ _ _ sw).mono ?_); rintro e w' ⟨rfl, hx⟩; exact ⟨_, rfl, hx, congrArg Value.bool Hn2.out⟩
      · refine stepY (j := 4) (d := 51) (b := true) rfl rfl rfl (fun v w h => h) fun sdn sa sw sE sd sk => ?_
        have h54 : sa.eval (.tmp 54) = .bool (false) := sk.fact 7 54 rfl (sd 7 rfl)
        exact Runs.un rfl h54 (by rfl) ⟨Ext.refl _, rfl⟩
      · refine stepE rfl fun sdn sa sw sE sd sk => ?_
        have h51 : sa.eval (.tmp 51) = .bool (true) := sk.fact 4 51 rfl (sd 4 rfl)
        have h55 : sa.eval (.tmp 55) = .bool (true) := sk.fact 8 55 rfl (sd 8 rfl)
        exact Runs.pick rfl h51 ⟨Ext.refl _, by first | exact h55 | simpa using h55⟩
      · refine stepE rfl fun sdn sa sw sE sd sk => ?_
        have h56 : sa.eval (.tmp 56) = .bool (true) := sk.fact 9 56 rfl (sd 9 rfl)
        exact Runs.move rfl h56 ⟨Ext.refl _, rfl⟩
      · refine stepY (j := 10) (d := 57) (b := true) rfl rfl rfl (fun v w h => h) fun sdn sa sw sE sd sk => ?_
        have h5 : sa.eval (.tmp 5) = .pointer (some ⟨w.heap.size, 0, none⟩) := sk.old 5 rfl
        exact Runs.load rfl h5 (load_man (hA9.ext sE)) ⟨Ext.refl _, rfl⟩
      · refine stepY (j := 10) (d := 57) (b := true) rfl rfl rfl (fun v w h => h) fun sdn sa sw sE sd sk => ?_
        have h6 : sa.eval (.tmp 6) = .pointer (some ⟨w1.heap.size, 0, none⟩) := sk.old 6 rfl
        exact Runs.load rfl h6 (load_man (hB9.ext sE)) ⟨Ext.refl _, rfl⟩
      · refine stepY (j := 10) (d := 57) (b := true) rfl rfl rfl (fun v w h => h) fun sdn sa sw sE sd sk => ?_
        have h58 : sa.eval (.tmp 58) = manV a F nf cf N nn cn := sk.fact 11 58 rfl (sd 11 rfl)
        have h59 : sa.eval (.tmp 59) = manV b F' nf' cf' N' nn' cn' := sk.fact 12 59 rfl (sd 12 rfl)
        refine Runs.call (f := 24) (vs := [manV a F nf cf N nn cn, manV b F' nf' cf' N' nn' cn']) rfl rfl rfl (by simp only [List.map_toArray, List.map_cons, List.map_nil, h58, h59] <;> rfl) (ent24 _ _) ((newer_any _ _ _ _ _ _ _ _ _ _ _ _ _ _ sw).mono ?_); rintro e w' ⟨rfl, hx⟩; exact ⟨_, rfl, hx, congrArg Value.bool Hab.out⟩
      · refine stepY (j := 10) (d := 57) (b := true) rfl rfl rfl (fun v w h => h) fun sdn sa sw sE sd sk => ?_
        have h5 : sa.eval (.tmp 5) = .pointer (some ⟨w.heap.size, 0, none⟩) := sk.old 5 rfl
        refine Runs.of_run (r := .pointer (some ⟨w.heap.size, 0, none⟩)) (w' := sw) ?_ ⟨Ext.refl _, rfl⟩
        unfold execOp
        simp only [h5]
        go_simp
      · refine stepY (j := 10) (d := 57) (b := true) rfl rfl rfl (fun v w h => h) fun sdn sa sw sE sd sk => ?_
        have h61 : sa.eval (.tmp 61) = .pointer (some ⟨w.heap.size, 0, none⟩) := sk.fact 14 61 rfl (sd 14 rfl)
        exact Runs.load rfl h61 (run_load1 Try.underlying9 rfl ((hA9.ext sE).cell (i := 0) rfl)) ⟨Ext.refl _, rfl⟩
      · refine stepY (j := 10) (d := 57) (b := true) rfl rfl rfl (fun v w h => h) fun sdn sa sw sE sd sk => ?_
        have h6 : sa.eval (.tmp 6) = .pointer (some ⟨w1.heap.size, 0, none⟩) := sk.old 6 rfl
        refine Runs.of_run (r := .pointer (some ⟨w1.heap.size, 0, none⟩)) (w' := sw) ?_ ⟨Ext.refl _, rfl⟩
        unfold execOp
        simp only [h6]
        go_simp
      · refine stepY (j := 10) (d := 57) (b := true) rfl rfl rfl (fun v w h => h) fun sdn sa sw sE sd sk => ?_
        have h63 : sa.eval (.tmp 63) = .pointer (some ⟨w1.heap.size, 0, none⟩) := sk.fact 16 63 rfl (sd 16 rfl)
        exact Runs.load rfl h63 (run_load1 Try.underlying9 rfl ((hB9.ext sE).cell (i := 0) rfl)) ⟨Ext.refl _, rfl⟩
      · refine stepY (j := 10) (d := 57) (b := true) rfl rfl rfl (fun v w h => h) fun sdn sa sw sE sd sk => ?_
        have h62 : sa.eval (.tmp 62) = .string (str (a.name)) := sk.fact 15 62 rfl (sd 15 rfl)
        have h64 : sa.eval (.tmp 64) = .string (str (b.name)) := sk.fact 17 64 rfl (sd 17 rfl)
        exact Runs.bin rfl h62 h64 (by rfl) (bin_eqs _ _ _) ⟨Ext.refl _, by rw [Hnm.out]; rfl⟩
      · refine stepY (j := 10) (d := 57) (b := true) rfl rfl rfl (fun v w h => h) fun sdn sa sw sE sd sk => ?_
        have h65 : sa.eval (.tmp 65) = .bool (true) := sk.fact 18 65 rfl (sd 18 rfl)
        exact Runs.move rfl h65 ⟨Ext.refl _, rfl⟩
      · refine stepY (j := 19) (d := 66) (b := true) rfl rfl rfl (fun v w h => h) fun sdn sa sw sE sd sk => ?_
        have h5 : sa.eval (.tmp 5) = .pointer (some ⟨w.heap.size, 0, none⟩) := sk.old 5 rfl
        refine Runs.of_run (r := .pointer (some ⟨w.heap.size, 1, none⟩)) (w' := sw) ?_ ⟨Ext.refl _, rfl⟩
        unfold execOp
        simp only [h5]
        go_simp
      · refine stepY (j := 19) (d := 66) (b := true) rfl rfl rfl (fun v w h => h) fun sdn sa sw sE sd sk => ?_
        have h67 : sa.eval (.tmp 67) = .pointer (some ⟨w.heap.size, 1, none⟩) := sk.fact 20 67 rfl (sd 20 rfl)
        exact Runs.load rfl h67 (run_load1 Try.underlying25 rfl ((hA9.ext sE).cell (i := 1) rfl)) ⟨Ext.refl _, rfl⟩
      · refine stepY (j := 19) (d := 66) (b := true) rfl rfl rfl (fun v w h => h) fun sdn sa sw sE sd sk => ?_
        have h6 : sa.eval (.tmp 6) = .pointer (some ⟨w1.heap.size, 0, none⟩) := sk.old 6 rfl
        refine Runs.of_run (r := .pointer (some ⟨w1.heap.size, 1, none⟩)) (w' := sw) ?_ ⟨Ext.refl _, rfl⟩
        unfold execOp
        simp only [h6]
        go_simp
      · refine stepY (j := 19) (d := 66) (b := true) rfl rfl rfl (fun v w h => h) fun sdn sa sw sE sd sk => ?_
        have h69 : sa.eval (.tmp 69) = .pointer (some ⟨w1.heap.size, 1, none⟩) := sk.fact 22 69 rfl (sd 22 rfl)
        exact Runs.load rfl h69 (run_load1 Try.underlying25 rfl ((hB9.ext sE).cell (i := 1) rfl)) ⟨Ext.refl _, rfl⟩
      · refine stepY (j := 19) (d := 66) (b := true) rfl rfl rfl (fun v w h => h) fun sdn sa sw sE sd sk => ?_
        have h68 : sa.eval (.tmp 68) = .int .u32 (u32i (a.ver)) := sk.fact 21 68 rfl (sd 21 rfl)
        have h70 : sa.eval (.tmp 70) = .int .u32 (u32i (b.ver)) := sk.fact 23 70 rfl (sd 23 rfl)
        exact Runs.bin rfl h68 h70 (by rfl) (bin_gtr _ _ _ _) ⟨Ext.refl _, rfl⟩
      · refine stepY (j := 10) (d := 57) (b := true) rfl rfl rfl (fun v w h => h) fun sdn sa sw sE sd sk => ?_
        have h66 : sa.eval (.tmp 66) = .bool (true) := sk.fact 19 66 rfl (sd 19 rfl)
        have h71 : sa.eval (.tmp 71) = .bool (decide (u32i (b.ver) < u32i (a.ver))) := sk.fact 24 71 rfl (sd 24 rfl)
        exact Runs.pick rfl h66 ⟨Ext.refl _, by first | exact h71 | simpa using h71⟩
      · refine stepY (j := 10) (d := 57) (b := true) rfl rfl rfl (fun v w h => h) fun sdn sa sw sE sd sk => ?_
        have h60 : sa.eval (.tmp 60) = .bool (decide (u32i (b.ver) < u32i (a.ver))) := sk.fact 13 60 rfl (sd 13 rfl)
        have h72 : sa.eval (.tmp 72) = .bool (decide (u32i (b.ver) < u32i (a.ver))) := sk.fact 25 72 rfl (sd 25 rfl)
        exact Runs.bin rfl h60 h72 (by rfl) (bin_eqb _ _) ⟨Ext.refl _, congrArg Value.bool (by simp)⟩
      · refine stepE rfl fun sdn sa sw sE sd sk => ?_
        have h57 : sa.eval (.tmp 57) = .bool (true) := sk.fact 10 57 rfl (sd 10 rfl)
        have h73 : sa.eval (.tmp 73) = .bool (true) := sk.fact 26 73 rfl (sd 26 rfl)
        exact Runs.pick rfl h57 ⟨Ext.refl _, by first | exact h73 | simpa using h73⟩
      · refine stepE rfl fun sdn sa sw sE sd sk => ?_
        have h74 : sa.eval (.tmp 74) = .bool (true) := sk.fact 27 74 rfl (sd 27 rfl)
        exact Runs.move rfl h74 ⟨Ext.refl _, rfl⟩
      · refine stepY (j := 28) (d := 75) (b := true) rfl rfl rfl (fun v w h => h) fun sdn sa sw sE sd sk => ?_
        have h5 : sa.eval (.tmp 5) = .pointer (some ⟨w.heap.size, 0, none⟩) := sk.old 5 rfl
        exact Runs.load rfl h5 (load_man (hA9.ext sE)) ⟨Ext.refl _, rfl⟩
      · refine stepY (j := 28) (d := 75) (b := true) rfl rfl rfl (fun v w h => h) fun sdn sa sw sE sd sk => ?_
        have h6 : sa.eval (.tmp 6) = .pointer (some ⟨w1.heap.size, 0, none⟩) := sk.old 6 rfl
        exact Runs.load rfl h6 (load_man (hB9.ext sE)) ⟨Ext.refl _, rfl⟩
      · refine stepY (j := 28) (d := 75) (b := true) rfl rfl rfl (fun v w h => h) fun sdn sa sw sE sd sk => ?_
        have h76 : sa.eval (.tmp 76) = manV a F nf cf N nn cn := sk.fact 29 76 rfl (sd 29 rfl)
        have h77 : sa.eval (.tmp 77) = manV b F' nf' cf' N' nn' cn' := sk.fact 30 77 rfl (sd 30 rfl)
        refine Runs.call (f := 23) (vs := [manV a F nf cf N nn cn, manV b F' nf' cf' N' nn' cn']) rfl rfl rfl (by simp only [List.map_toArray, List.map_cons, List.map_nil, h76, h77] <;> rfl) (ent23 _ _) ((msame_any _ _ _ _ _ _ _ _ _ _ _ _ _ _ sw (hF.ext (hE9.trans sE)) (hN.ext (hE9.trans sE)) (hF'.ext (hE9.trans sE)) (hN'.ext (hE9.trans sE))).mono ?_); rintro e w' ⟨rfl, hx⟩; exact ⟨_, rfl, hx, rfl⟩
      · refine stepY (j := 28) (d := 75) (b := true) rfl rfl rfl (fun v w h => h) fun sdn sa sw sE sd sk => ?_
        have h5 : sa.eval (.tmp 5) = .pointer (some ⟨w.heap.size, 0, none⟩) := sk.old 5 rfl
        exact Runs.load rfl h5 (load_man (hA9.ext sE)) ⟨Ext.refl _, rfl⟩
      · refine stepY (j := 28) (d := 75) (b := true) rfl rfl rfl (fun v w h => h) fun sdn sa sw sE sd sk => ?_
        have h6 : sa.eval (.tmp 6) = .pointer (some ⟨w1.heap.size, 0, none⟩) := sk.old 6 rfl
        exact Runs.load rfl h6 (load_man (hB9.ext sE)) ⟨Ext.refl _, rfl⟩
      · refine stepY (j := 28) (d := 75) (b := true) rfl rfl rfl (fun v w h => h) fun sdn sa sw sE sd sk => ?_
        have h79 : sa.eval (.tmp 79) = manV a F nf cf N nn cn := sk.fact 32 79 rfl (sd 32 rfl)
        have h80 : sa.eval (.tmp 80) = manV b F' nf' cf' N' nn' cn' := sk.fact 33 80 rfl (sd 33 rfl)
        refine Runs.call (f := 19) (vs := [manV a F nf cf N nn cn, manV b F' nf' cf' N' nn' cn']) rfl rfl rfl (by simp only [List.map_toArray, List.map_cons, List.map_nil, h79, h80] <;> rfl) (ent19 _ _) ((rsame_any _ _ _ _ _ _ _ _ _ _ _ _ _ _ sw (hF.ext (hE9.trans sE)) (hN.ext (hE9.trans sE)) (hF'.ext (hE9.trans sE)) (hN'.ext (hE9.trans sE))).mono ?_); rintro e w' ⟨rfl, hx⟩; exact ⟨_, rfl, hx, rfl⟩
      · refine stepY (j := 28) (d := 75) (b := true) rfl rfl rfl (fun v w h => h) fun sdn sa sw sE sd sk => ?_
        have h78 : sa.eval (.tmp 78) = .bool (sameM a b) := sk.fact 31 78 rfl (sd 31 rfl)
        have h81 : sa.eval (.tmp 81) = .bool (sameM a b) := sk.fact 34 81 rfl (sd 34 rfl)
        exact Runs.bin rfl h78 h81 (by rfl) (bin_eqb _ _) ⟨Ext.refl _, congrArg Value.bool (by simp)⟩
      · refine stepE rfl fun sdn sa sw sE sd sk => ?_
        have h75 : sa.eval (.tmp 75) = .bool (true) := sk.fact 28 75 rfl (sd 28 rfl)
        have h82 : sa.eval (.tmp 82) = .bool (true) := sk.fact 35 82 rfl (sd 35 rfl)
        exact Runs.pick rfl h75 ⟨Ext.refl _, by first | exact h82 | simpa using h82⟩
      · refine stepE rfl fun sdn sa sw sE sd sk => ?_
        have h83 : sa.eval (.tmp 83) = .bool (true) := sk.fact 36 83 rfl (sd 36 rfl)
        exact Runs.move rfl h83 ⟨Ext.refl _, rfl⟩
      · refine stepY (j := 37) (d := 84) (b := true) rfl rfl rfl (fun v w h => h) fun sdn sa sw sE sd sk => ?_
        have h5 : sa.eval (.tmp 5) = .pointer (some ⟨w.heap.size, 0, none⟩) := sk.old 5 rfl
        exact Runs.load rfl h5 (load_man (hA9.ext sE)) ⟨Ext.refl _, rfl⟩
      · refine stepY (j := 37) (d := 84) (b := true) rfl rfl rfl (fun v w h => h) fun sdn sa sw sE sd sk => ?_
        have h5 : sa.eval (.tmp 5) = .pointer (some ⟨w.heap.size, 0, none⟩) := sk.old 5 rfl
        exact Runs.load rfl h5 (load_man (hA9.ext sE)) ⟨Ext.refl _, rfl⟩
      · refine stepY (j := 37) (d := 84) (b := true) rfl rfl rfl (fun v w h => h) fun sdn sa sw sE sd sk => ?_
        have h85 : sa.eval (.tmp 85) = manV a F nf cf N nn cn := sk.fact 38 85 rfl (sd 38 rfl)
        have h86 : sa.eval (.tmp 86) = manV a F nf cf N nn cn := sk.fact 39 86 rfl (sd 39 rfl)
        refine Runs.call (f := 23) (vs := [manV a F nf cf N nn cn, manV a F nf cf N nn cn]) rfl rfl rfl (by simp only [List.map_toArray, List.map_cons, List.map_nil, h85, h86] <;> rfl) (ent23 _ _) ((msame_any _ _ _ _ _ _ _ _ _ _ _ _ _ _ sw (hF.ext (hE9.trans sE)) (hN.ext (hE9.trans sE)) (hF.ext (hE9.trans sE)) (hN.ext (hE9.trans sE))).mono ?_); rintro e w' ⟨rfl, hx⟩; exact ⟨_, rfl, hx, congrArg Value.bool Haa.out⟩
      · refine stepE rfl fun sdn sa sw sE sd sk => ?_
        have h84 : sa.eval (.tmp 84) = .bool (true) := sk.fact 37 84 rfl (sd 37 rfl)
        have h87 : sa.eval (.tmp 87) = .bool (true) := sk.fact 40 87 rfl (sd 40 rfl)
        exact Runs.pick rfl h84 ⟨Ext.refl _, by first | exact h87 | simpa using h87⟩
      · refine stepE rfl fun sdn sa sw sE sd sk => ?_
        have h88 : sa.eval (.tmp 88) = .bool (true) := sk.fact 41 88 rfl (sd 41 rfl)
        exact Runs.move rfl h88 ⟨Ext.refl _, rfl⟩
      · refine stepY (j := 42) (d := 89) (b := true) rfl rfl rfl (fun v w h => h) fun sdn sa sw sE sd sk => ?_
        refine Runs.call (f := 20) (vs := []) rfl rfl rfl (by simp only [List.map_toArray, List.map_cons, List.map_nil] <;> rfl) (ent20 _ _) ((known9_any sw).mono ?_); rintro e w' ⟨rfl, hx⟩; exact ⟨_, rfl, hx, rfl⟩
      · refine stepE rfl fun sdn sa sw sE sd sk => ?_
        have h89 : sa.eval (.tmp 89) = .bool (true) := sk.fact 42 89 rfl (sd 42 rfl)
        have h90 : sa.eval (.tmp 90) = .bool (true) := sk.fact 43 90 rfl (sd 43 rfl)
        exact Runs.pick rfl h89 ⟨Ext.refl _, by first | exact h90 | simpa using h90⟩
      · refine stepE rfl fun sdn sa sw sE sd sk => ?_
        have h91 : sa.eval (.tmp 91) = .bool (true) := sk.fact 44 91 rfl (sd 44 rfl)
        exact Runs.assign rfl h91 ⟨Ext.refl _, rfl⟩
      intro vals W1 hE hv
      have e0 : vals 0 = manV x F1 nf1 cf1 N1 nn1 cn1 := hv 0 (by omega) 47 rfl
      have e1 : vals 1 = manV ⟨y.name ++ [122], y.ver, y.fw, y.notes⟩ F2 nf2 cf2 N2 nn2 cn2 := hv 1 (by omega) 48 rfl
      have e2 : vals 2 = .bool (false) := hv 2 (by omega) 49 rfl
      have e3 : vals 3 = .bool (true) := hv 3 (by omega) 50 rfl
      have e4 : vals 4 = .bool (true) := hv 4 (by omega) 51 rfl
      have e5 : vals 5 = manV ⟨y.name ++ [122], y.ver, y.fw, y.notes⟩ F2 nf2 cf2 N2 nn2 cn2 := hv 5 (by omega) 52 rfl
      have e6 : vals 6 = manV x F1 nf1 cf1 N1 nn1 cn1 := hv 6 (by omega) 53 rfl
      have e7 : vals 7 = .bool (false) := hv 7 (by omega) 54 rfl
      have e8 : vals 8 = .bool (true) := hv 8 (by omega) 55 rfl
      have e9 : vals 9 = .bool (true) := hv 9 (by omega) 56 rfl
      have e10 : vals 10 = .bool (true) := hv 10 (by omega) 57 rfl
      have e11 : vals 11 = manV a F nf cf N nn cn := hv 11 (by omega) 58 rfl
      have e12 : vals 12 = manV b F' nf' cf' N' nn' cn' := hv 12 (by omega) 59 rfl
      have e13 : vals 13 = .bool (decide (u32i (b.ver) < u32i (a.ver))) := hv 13 (by omega) 60 rfl
      have e14 : vals 14 = .pointer (some ⟨w.heap.size, 0, none⟩) := hv 14 (by omega) 61 rfl
      have e15 : vals 15 = .string (str (a.name)) := hv 15 (by omega) 62 rfl
      have e16 : vals 16 = .pointer (some ⟨w1.heap.size, 0, none⟩) := hv 16 (by omega) 63 rfl
      have e17 : vals 17 = .string (str (b.name)) := hv 17 (by omega) 64 rfl
      have e18 : vals 18 = .bool (true) := hv 18 (by omega) 65 rfl
      have e19 : vals 19 = .bool (true) := hv 19 (by omega) 66 rfl
      have e20 : vals 20 = .pointer (some ⟨w.heap.size, 1, none⟩) := hv 20 (by omega) 67 rfl
      have e21 : vals 21 = .int .u32 (u32i (a.ver)) := hv 21 (by omega) 68 rfl
      have e22 : vals 22 = .pointer (some ⟨w1.heap.size, 1, none⟩) := hv 22 (by omega) 69 rfl
      have e23 : vals 23 = .int .u32 (u32i (b.ver)) := hv 23 (by omega) 70 rfl
      have e24 : vals 24 = .bool (decide (u32i (b.ver) < u32i (a.ver))) := hv 24 (by omega) 71 rfl
      have e25 : vals 25 = .bool (decide (u32i (b.ver) < u32i (a.ver))) := hv 25 (by omega) 72 rfl
      have e26 : vals 26 = .bool (true) := hv 26 (by omega) 73 rfl
      have e27 : vals 27 = .bool (true) := hv 27 (by omega) 74 rfl
      have e28 : vals 28 = .bool (true) := hv 28 (by omega) 75 rfl
      have e29 : vals 29 = manV a F nf cf N nn cn := hv 29 (by omega) 76 rfl
      have e30 : vals 30 = manV b F' nf' cf' N' nn' cn' := hv 30 (by omega) 77 rfl
      have e31 : vals 31 = .bool (sameM a b) := hv 31 (by omega) 78 rfl
      have e32 : vals 32 = manV a F nf cf N nn cn := hv 32 (by omega) 79 rfl
      have e33 : vals 33 = manV b F' nf' cf' N' nn' cn' := hv 33 (by omega) 80 rfl
      have e34 : vals 34 = .bool (sameM a b) := hv 34 (by omega) 81 rfl
      have e35 : vals 35 = .bool (true) := hv 35 (by omega) 82 rfl
      have e36 : vals 36 = .bool (true) := hv 36 (by omega) 83 rfl
      have e37 : vals 37 = .bool (true) := hv 37 (by omega) 84 rfl
      have e38 : vals 38 = manV a F nf cf N nn cn := hv 38 (by omega) 85 rfl
      have e39 : vals 39 = manV a F nf cf N nn cn := hv 39 (by omega) 86 rfl
      have e40 : vals 40 = .bool (true) := hv 40 (by omega) 87 rfl
      have e41 : vals 41 = .bool (true) := hv 41 (by omega) 88 rfl
      have e42 : vals 42 = .bool (true) := hv 42 (by omega) 89 rfl
      have e43 : vals 43 = .bool (true) := hv 43 (by omega) 90 rfl
      have e44 : vals 44 = .bool (true) := hv 44 (by omega) 91 rfl
      have e45 : vals 45 = .bool (true) := hv 45 (by omega) 10 rfl
      simp only [putAll, Act.put, List.take_succ_cons, List.take_zero, List.drop_succ_cons, List.drop_zero, List.drop_nil, List.take_nil, Nat.reduceAdd, List.setIfInBounds_toArray, List.set_cons_succ, List.set_cons_zero, e0, e1, e2, e3, e4, e5, e6, e7, e8, e9, e10, e11, e12, e13, e14, e15, e16, e17, e18, e19, e20, e21, e22, e23, e24, e25, e26, e27, e28, e29, e30, e31, e32, e33, e34, e35, e36, e37, e38, e39, e40, e41, e42, e43, e44, e45]
      clear hv e0 e1 e2 e3 e4 e5 e6 e7 e8 e9 e10 e11 e12 e13 e14 e15 e16 e17 e18 e19 e20 e21 e22 e23 e24 e25 e26 e27 e28 e29 e30 e31 e32 e33 e34 e35 e36 e37 e38 e39 e40 e41 e42 e43 e44 e45
      go_wp2_with fail
      go_ret
      exact ⟨rfl, hE9.trans hE⟩
    · have hab : newerM a b = false := by simp only [newerM, decide_eq_false hnm, Bool.false_and]
      have Hab := Lib.hid hab
      have Hnm := Lib.hid (decide_eq_false hnm)
      clear hab hnm
      refine par_ext (n := 46) (by kernel_rfl) [.is (manV x F1 nf1 cf1 N1 nn1 cn1), .is (manV ⟨y.name ++ [122], y.ver, y.fw, y.notes⟩ F2 nf2 cf2 N2 nn2 cn2), .is (.bool (false)), .is (.bool (true)), .is (.bool (true)), .is (manV ⟨y.name ++ [122], y.ver, y.fw, y.notes⟩ F2 nf2 cf2 N2 nn2 cn2), .is (manV x F1 nf1 cf1 N1 nn1 cn1), .is (.bool (false)), .is (.bool (true)), .is (.bool (true)), .is (.bool (true)), .is (manV a F nf cf N nn cn), .is (manV b F' nf' cf' N' nn' cn'), .is (.bool (false)), .is (.pointer (some ⟨w.heap.size, 0, none⟩)), .is (.string (str (a.name))), .is (.pointer (some ⟨w1.heap.size, 0, none⟩)), .is (.string (str (b.name))), .is (.bool (false)), .is (.bool (false)), .any, .any, .any, .any, .any, .is (.bool (false)), .is (.bool (true)), .is (.bool (true)), .is (.bool (true)), .is (manV a F nf cf N nn cn), .is (manV b F' nf' cf' N' nn' cn'), .is (.bool (sameM a b)), .is (manV a F nf cf N nn cn), .is (manV b F' nf' cf' N' nn' cn'), .is (.bool (sameM a b)), .is (.bool (true)), .is (.bool (true)), .is (.bool (true)), .is (manV a F nf cf N nn cn), .is (manV a F nf cf N nn cn), .is (.bool (true)), .is (.bool (true)), .is (.bool (true)), .is (.bool (true)), .is (.bool (true)), .is (.bool (true))] rfl ⟨?_, ?_, ?_, ?_, ?_, ?_, ?_, ?_, ?_, ?_, ?_, ?_, ?_, ?_, ?_, ?_, ?_, ?_, ?_, ?_, ?_, ?_, ?_, ?_, ?_, ?_, ?_, ?_, ?_, ?_, ?_, ?_, ?_, ?_, ?_, ?_, ?_, ?_, ?_, ?_, ?_, ?_, ?_, ?_, ?_, ?_, trivial⟩ ?_
      · refine stepE rfl fun sdn sa sw sE sd sk => ?_
        have h11 : sa.eval (.tmp 11) = .pointer (some ⟨w5.heap.size, 0, none⟩) := sk.old 11 rfl
        exact Runs.load rfl h11 (load_man (hX9.ext sE)) ⟨Ext.refl _, rfl⟩
      · refine stepE rfl fun sdn sa sw sE sd sk => ?_
        have h12 : sa.eval (.tmp 12) = .pointer (some ⟨w6.heap.size, 0, none⟩) := sk.old 12 rfl
        exact Runs.load rfl h12 (load_man (hY9.ext sE)) ⟨Ext.refl _, rfl⟩
      · refine stepE rfl fun sdn sa sw sE sd sk => ?_
        have h47 : sa.eval (.tmp 47) = manV x F1 nf1 cf1 N1 nn1 cn1 := sk.fact 0 47 rfl (sd 0 rfl)
        have h48 : sa.eval (.tmp 48) = manV ⟨y.name ++ [122], y.ver, y.fw, y.notes⟩ F2 nf2 cf2 N2 nn2 cn2 := sk.fact 1 48 rfl (sd 1 rfl)
        refine Runs.call (f := 24) (vs := [manV x F1 nf1 cf1 N1 nn1 cn1, manV ⟨y.name ++ [122], y.ver, y.fw, y.notes⟩ F2 nf2 cf2 N2 nn2 cn2]) rfl rfl rfl (by simp only [List.map_toArray, List.map_cons, List.map_nil, h47, h48] <;> rfl) (ent24 _ _) ((newer_any _ _ _ _ _ _ _ _ _ _ _ _ _ _ sw).mono ?_); rintro e w' ⟨rfl, hx⟩; exact ⟨_, rfl, hx, congrArg Value.bool Hn1.out⟩
      · refine stepE rfl fun sdn sa sw sE sd sk => ?_
        have h49 : sa.eval (.tmp 49) = .bool (false) := sk.fact 2 49 rfl (sd 2 rfl)
        exact Runs.un rfl h49 (by rfl) ⟨Ext.refl _, rfl⟩
      · refine stepE rfl fun sdn sa sw sE sd sk => ?_
        have h50 : sa.eval (.tmp 50) = .bool (true) := sk.fact 3 50 rfl (sd 3 rfl)
        exact Runs.move rfl h50 ⟨Ext.refl _, rfl⟩
      · refine stepY (j := 4) (d := 51) (b := true) rfl rfl rfl (fun v w h => h) fun sdn sa sw sE sd sk => ?_
        have h12 : sa.eval (.tmp 12) = .pointer (some ⟨w6.heap.size, 0, none⟩) := sk.old 12 rfl
        exact Runs.load rfl h12 (load_man (hY9.ext sE)) ⟨Ext.refl _, rfl⟩
      · refine stepY (j := 4) (d := 51) (b := true) rfl rfl rfl (fun v w h => h) fun sdn sa sw sE sd sk => ?_
        have h11 : sa.eval (.tmp 11) = .pointer (some ⟨w5.heap.size, 0, none⟩) := sk.old 11 rfl
        exact Runs.load rfl h11 (load_man (hX9.ext sE)) ⟨Ext.refl _, rfl⟩
      · refine stepY (j := 4) (d := 51) (b := true) rfl rfl rfl (fun v w h => h) fun sdn sa sw sE sd sk => ?_
        have h52 : sa.eval (.tmp 52) = manV ⟨y.name ++ [122], y.ver, y.fw, y.notes⟩ F2 nf2 cf2 N2 nn2 cn2 := sk.fact 5 52 rfl (sd 5 rfl)
        have h53 : sa.eval (.tmp 53) = manV x F1 nf1 cf1 N1 nn1 cn1 := sk.fact 6 53 rfl (sd 6 rfl)
        refine Runs.call (f := 24) (vs := [manV ⟨y.name ++ [122], y.ver, y.fw, y.notes⟩ F2 nf2 cf2 N2 nn2 cn2, manV x F1 nf1 cf1 N1 nn1 cn1]) rfl rfl rfl (by simp only [List.map_toArray, List.map_cons, List.map_nil, h52, h53] <;> rfl) (ent24 _ _) ((newer_any _ _ _ _ _ _ _ _ _ _ _ _ _ _ sw).mono ?_); rintro e w' ⟨rfl, hx⟩; exact ⟨_, rfl, hx, congrArg Value.bool Hn2.out⟩
      · refine stepY (j := 4) (d := 51) (b := true) rfl rfl rfl (fun v w h => h) fun sdn sa sw sE sd sk => ?_
        have h54 : sa.eval (.tmp 54) = .bool (false) := sk.fact 7 54 rfl (sd 7 rfl)
        exact Runs.un rfl h54 (by rfl) ⟨Ext.refl _, rfl⟩
      · refine stepE rfl fun sdn sa sw sE sd sk => ?_
        have h51 : sa.eval (.tmp 51) = .bool (true) := sk.fact 4 51 rfl (sd 4 rfl)
        have h55 : sa.eval (.tmp 55) = .bool (true) := sk.fact 8 55 rfl (sd 8 rfl)
        exact Runs.pick rfl h51 ⟨Ext.refl _, by first | exact h55 | simpa using h55⟩
      · refine stepE rfl fun sdn sa sw sE sd sk => ?_
        have h56 : sa.eval (.tmp 56) = .bool (true) := sk.fact 9 56 rfl (sd 9 rfl)
        exact Runs.move rfl h56 ⟨Ext.refl _, rfl⟩
      · refine stepY (j := 10) (d := 57) (b := true) rfl rfl rfl (fun v w h => h) fun sdn sa sw sE sd sk => ?_
        have h5 : sa.eval (.tmp 5) = .pointer (some ⟨w.heap.size, 0, none⟩) := sk.old 5 rfl
        exact Runs.load rfl h5 (load_man (hA9.ext sE)) ⟨Ext.refl _, rfl⟩
      · refine stepY (j := 10) (d := 57) (b := true) rfl rfl rfl (fun v w h => h) fun sdn sa sw sE sd sk => ?_
        have h6 : sa.eval (.tmp 6) = .pointer (some ⟨w1.heap.size, 0, none⟩) := sk.old 6 rfl
        exact Runs.load rfl h6 (load_man (hB9.ext sE)) ⟨Ext.refl _, rfl⟩
      · refine stepY (j := 10) (d := 57) (b := true) rfl rfl rfl (fun v w h => h) fun sdn sa sw sE sd sk => ?_
        have h58 : sa.eval (.tmp 58) = manV a F nf cf N nn cn := sk.fact 11 58 rfl (sd 11 rfl)
        have h59 : sa.eval (.tmp 59) = manV b F' nf' cf' N' nn' cn' := sk.fact 12 59 rfl (sd 12 rfl)
        refine Runs.call (f := 24) (vs := [manV a F nf cf N nn cn, manV b F' nf' cf' N' nn' cn']) rfl rfl rfl (by simp only [List.map_toArray, List.map_cons, List.map_nil, h58, h59] <;> rfl) (ent24 _ _) ((newer_any _ _ _ _ _ _ _ _ _ _ _ _ _ _ sw).mono ?_); rintro e w' ⟨rfl, hx⟩; exact ⟨_, rfl, hx, congrArg Value.bool Hab.out⟩
      · refine stepY (j := 10) (d := 57) (b := true) rfl rfl rfl (fun v w h => h) fun sdn sa sw sE sd sk => ?_
        have h5 : sa.eval (.tmp 5) = .pointer (some ⟨w.heap.size, 0, none⟩) := sk.old 5 rfl
        refine Runs.of_run (r := .pointer (some ⟨w.heap.size, 0, none⟩)) (w' := sw) ?_ ⟨Ext.refl _, rfl⟩
        unfold execOp
        simp only [h5]
        go_simp
      · refine stepY (j := 10) (d := 57) (b := true) rfl rfl rfl (fun v w h => h) fun sdn sa sw sE sd sk => ?_
        have h61 : sa.eval (.tmp 61) = .pointer (some ⟨w.heap.size, 0, none⟩) := sk.fact 14 61 rfl (sd 14 rfl)
        exact Runs.load rfl h61 (run_load1 Try.underlying9 rfl ((hA9.ext sE).cell (i := 0) rfl)) ⟨Ext.refl _, rfl⟩
      · refine stepY (j := 10) (d := 57) (b := true) rfl rfl rfl (fun v w h => h) fun sdn sa sw sE sd sk => ?_
        have h6 : sa.eval (.tmp 6) = .pointer (some ⟨w1.heap.size, 0, none⟩) := sk.old 6 rfl
        refine Runs.of_run (r := .pointer (some ⟨w1.heap.size, 0, none⟩)) (w' := sw) ?_ ⟨Ext.refl _, rfl⟩
        unfold execOp
        simp only [h6]
        go_simp
      · refine stepY (j := 10) (d := 57) (b := true) rfl rfl rfl (fun v w h => h) fun sdn sa sw sE sd sk => ?_
        have h63 : sa.eval (.tmp 63) = .pointer (some ⟨w1.heap.size, 0, none⟩) := sk.fact 16 63 rfl (sd 16 rfl)
        exact Runs.load rfl h63 (run_load1 Try.underlying9 rfl ((hB9.ext sE).cell (i := 0) rfl)) ⟨Ext.refl _, rfl⟩
      · refine stepY (j := 10) (d := 57) (b := true) rfl rfl rfl (fun v w h => h) fun sdn sa sw sE sd sk => ?_
        have h62 : sa.eval (.tmp 62) = .string (str (a.name)) := sk.fact 15 62 rfl (sd 15 rfl)
        have h64 : sa.eval (.tmp 64) = .string (str (b.name)) := sk.fact 17 64 rfl (sd 17 rfl)
        exact Runs.bin rfl h62 h64 (by rfl) (bin_eqs _ _ _) ⟨Ext.refl _, by rw [Hnm.out]; rfl⟩
      · refine stepY (j := 10) (d := 57) (b := true) rfl rfl rfl (fun v w h => h) fun sdn sa sw sE sd sk => ?_
        have h65 : sa.eval (.tmp 65) = .bool (false) := sk.fact 18 65 rfl (sd 18 rfl)
        exact Runs.move rfl h65 ⟨Ext.refl _, rfl⟩
      · exact stepN (j := 19) (d := 66) (b := false) rfl rfl rfl (fun v w h => h) fun w => trivial
      · exact stepN (j := 19) (d := 66) (b := false) rfl rfl rfl (fun v w h => h) fun w => trivial
      · exact stepN (j := 19) (d := 66) (b := false) rfl rfl rfl (fun v w h => h) fun w => trivial
      · exact stepN (j := 19) (d := 66) (b := false) rfl rfl rfl (fun v w h => h) fun w => trivial
      · exact stepN (j := 19) (d := 66) (b := false) rfl rfl rfl (fun v w h => h) fun w => trivial
      · refine stepY (j := 10) (d := 57) (b := true) rfl rfl rfl (fun v w h => h) fun sdn sa sw sE sd sk => ?_
        have h66 : sa.eval (.tmp 66) = .bool (false) := sk.fact 19 66 rfl (sd 19 rfl)
        exact Runs.pick rfl h66 ⟨Ext.refl _, rfl⟩
      · refine stepY (j := 10) (d := 57) (b := true) rfl rfl rfl (fun v w h => h) fun sdn sa sw sE sd sk => ?_
        have h60 : sa.eval (.tmp 60) = .bool (false) := sk.fact 13 60 rfl (sd 13 rfl)
        have h72 : sa.eval (.tmp 72) = .bool (false) := sk.fact 25 72 rfl (sd 25 rfl)
        exact Runs.bin rfl h60 h72 (by rfl) (bin_eqb _ _) ⟨Ext.refl _, congrArg Value.bool (by simp)⟩
      · refine stepE rfl fun sdn sa sw sE sd sk => ?_
        have h57 : sa.eval (.tmp 57) = .bool (true) := sk.fact 10 57 rfl (sd 10 rfl)
        have h73 : sa.eval (.tmp 73) = .bool (true) := sk.fact 26 73 rfl (sd 26 rfl)
        exact Runs.pick rfl h57 ⟨Ext.refl _, by first | exact h73 | simpa using h73⟩
      · refine stepE rfl fun sdn sa sw sE sd sk => ?_
        have h74 : sa.eval (.tmp 74) = .bool (true) := sk.fact 27 74 rfl (sd 27 rfl)
        exact Runs.move rfl h74 ⟨Ext.refl _, rfl⟩
      · refine stepY (j := 28) (d := 75) (b := true) rfl rfl rfl (fun v w h => h) fun sdn sa sw sE sd sk => ?_
        have h5 : sa.eval (.tmp 5) = .pointer (some ⟨w.heap.size, 0, none⟩) := sk.old 5 rfl
        exact Runs.load rfl h5 (load_man (hA9.ext sE)) ⟨Ext.refl _, rfl⟩
      · refine stepY (j := 28) (d := 75) (b := true) rfl rfl rfl (fun v w h => h) fun sdn sa sw sE sd sk => ?_
        have h6 : sa.eval (.tmp 6) = .pointer (some ⟨w1.heap.size, 0, none⟩) := sk.old 6 rfl
        exact Runs.load rfl h6 (load_man (hB9.ext sE)) ⟨Ext.refl _, rfl⟩
      · refine stepY (j := 28) (d := 75) (b := true) rfl rfl rfl (fun v w h => h) fun sdn sa sw sE sd sk => ?_
        have h76 : sa.eval (.tmp 76) = manV a F nf cf N nn cn := sk.fact 29 76 rfl (sd 29 rfl)
        have h77 : sa.eval (.tmp 77) = manV b F' nf' cf' N' nn' cn' := sk.fact 30 77 rfl (sd 30 rfl)
        refine Runs.call (f := 23) (vs := [manV a F nf cf N nn cn, manV b F' nf' cf' N' nn' cn']) rfl rfl rfl (by simp only [List.map_toArray, List.map_cons, List.map_nil, h76, h77] <;> rfl) (ent23 _ _) ((msame_any _ _ _ _ _ _ _ _ _ _ _ _ _ _ sw (hF.ext (hE9.trans sE)) (hN.ext (hE9.trans sE)) (hF'.ext (hE9.trans sE)) (hN'.ext (hE9.trans sE))).mono ?_); rintro e w' ⟨rfl, hx⟩; exact ⟨_, rfl, hx, rfl⟩
      · refine stepY (j := 28) (d := 75) (b := true) rfl rfl rfl (fun v w h => h) fun sdn sa sw sE sd sk => ?_
        have h5 : sa.eval (.tmp 5) = .pointer (some ⟨w.heap.size, 0, none⟩) := sk.old 5 rfl
        exact Runs.load rfl h5 (load_man (hA9.ext sE)) ⟨Ext.refl _, rfl⟩
      · refine stepY (j := 28) (d := 75) (b := true) rfl rfl rfl (fun v w h => h) fun sdn sa sw sE sd sk => ?_
        have h6 : sa.eval (.tmp 6) = .pointer (some ⟨w1.heap.size, 0, none⟩) := sk.old 6 rfl
        exact Runs.load rfl h6 (load_man (hB9.ext sE)) ⟨Ext.refl _, rfl⟩
      · refine stepY (j := 28) (d := 75) (b := true) rfl rfl rfl (fun v w h => h) fun sdn sa sw sE sd sk => ?_
        have h79 : sa.eval (.tmp 79) = manV a F nf cf N nn cn := sk.fact 32 79 rfl (sd 32 rfl)
        have h80 : sa.eval (.tmp 80) = manV b F' nf' cf' N' nn' cn' := sk.fact 33 80 rfl (sd 33 rfl)
        refine Runs.call (f := 19) (vs := [manV a F nf cf N nn cn, manV b F' nf' cf' N' nn' cn']) rfl rfl rfl (by simp only [List.map_toArray, List.map_cons, List.map_nil, h79, h80] <;> rfl) (ent19 _ _) ((rsame_any _ _ _ _ _ _ _ _ _ _ _ _ _ _ sw (hF.ext (hE9.trans sE)) (hN.ext (hE9.trans sE)) (hF'.ext (hE9.trans sE)) (hN'.ext (hE9.trans sE))).mono ?_); rintro e w' ⟨rfl, hx⟩; exact ⟨_, rfl, hx, rfl⟩
      · refine stepY (j := 28) (d := 75) (b := true) rfl rfl rfl (fun v w h => h) fun sdn sa sw sE sd sk => ?_
        have h78 : sa.eval (.tmp 78) = .bool (sameM a b) := sk.fact 31 78 rfl (sd 31 rfl)
        have h81 : sa.eval (.tmp 81) = .bool (sameM a b) := sk.fact 34 81 rfl (sd 34 rfl)
        exact Runs.bin rfl h78 h81 (by rfl) (bin_eqb _ _) ⟨Ext.refl _, congrArg Value.bool (by simp)⟩
      · refine stepE rfl fun sdn sa sw sE sd sk => ?_
        have h75 : sa.eval (.tmp 75) = .bool (true) := sk.fact 28 75 rfl (sd 28 rfl)
        have h82 : sa.eval (.tmp 82) = .bool (true) := sk.fact 35 82 rfl (sd 35 rfl)
        exact Runs.pick rfl h75 ⟨Ext.refl _, by first | exact h82 | simpa using h82⟩
      · refine stepE rfl fun sdn sa sw sE sd sk => ?_
        have h83 : sa.eval (.tmp 83) = .bool (true) := sk.fact 36 83 rfl (sd 36 rfl)
        exact Runs.move rfl h83 ⟨Ext.refl _, rfl⟩
      · refine stepY (j := 37) (d := 84) (b := true) rfl rfl rfl (fun v w h => h) fun sdn sa sw sE sd sk => ?_
        have h5 : sa.eval (.tmp 5) = .pointer (some ⟨w.heap.size, 0, none⟩) := sk.old 5 rfl
        exact Runs.load rfl h5 (load_man (hA9.ext sE)) ⟨Ext.refl _, rfl⟩
      · refine stepY (j := 37) (d := 84) (b := true) rfl rfl rfl (fun v w h => h) fun sdn sa sw sE sd sk => ?_
        have h5 : sa.eval (.tmp 5) = .pointer (some ⟨w.heap.size, 0, none⟩) := sk.old 5 rfl
        exact Runs.load rfl h5 (load_man (hA9.ext sE)) ⟨Ext.refl _, rfl⟩
      · refine stepY (j := 37) (d := 84) (b := true) rfl rfl rfl (fun v w h => h) fun sdn sa sw sE sd sk => ?_
        have h85 : sa.eval (.tmp 85) = manV a F nf cf N nn cn := sk.fact 38 85 rfl (sd 38 rfl)
        have h86 : sa.eval (.tmp 86) = manV a F nf cf N nn cn := sk.fact 39 86 rfl (sd 39 rfl)
        refine Runs.call (f := 23) (vs := [manV a F nf cf N nn cn, manV a F nf cf N nn cn]) rfl rfl rfl (by simp only [List.map_toArray, List.map_cons, List.map_nil, h85, h86] <;> rfl) (ent23 _ _) ((msame_any _ _ _ _ _ _ _ _ _ _ _ _ _ _ sw (hF.ext (hE9.trans sE)) (hN.ext (hE9.trans sE)) (hF.ext (hE9.trans sE)) (hN.ext (hE9.trans sE))).mono ?_); rintro e w' ⟨rfl, hx⟩; exact ⟨_, rfl, hx, congrArg Value.bool Haa.out⟩
      · refine stepE rfl fun sdn sa sw sE sd sk => ?_
        have h84 : sa.eval (.tmp 84) = .bool (true) := sk.fact 37 84 rfl (sd 37 rfl)
        have h87 : sa.eval (.tmp 87) = .bool (true) := sk.fact 40 87 rfl (sd 40 rfl)
        exact Runs.pick rfl h84 ⟨Ext.refl _, by first | exact h87 | simpa using h87⟩
      · refine stepE rfl fun sdn sa sw sE sd sk => ?_
        have h88 : sa.eval (.tmp 88) = .bool (true) := sk.fact 41 88 rfl (sd 41 rfl)
        exact Runs.move rfl h88 ⟨Ext.refl _, rfl⟩
      · refine stepY (j := 42) (d := 89) (b := true) rfl rfl rfl (fun v w h => h) fun sdn sa sw sE sd sk => ?_
        refine Runs.call (f := 20) (vs := []) rfl rfl rfl (by simp only [List.map_toArray, List.map_cons, List.map_nil] <;> rfl) (ent20 _ _) ((known9_any sw).mono ?_); rintro e w' ⟨rfl, hx⟩; exact ⟨_, rfl, hx, rfl⟩
      · refine stepE rfl fun sdn sa sw sE sd sk => ?_
        have h89 : sa.eval (.tmp 89) = .bool (true) := sk.fact 42 89 rfl (sd 42 rfl)
        have h90 : sa.eval (.tmp 90) = .bool (true) := sk.fact 43 90 rfl (sd 43 rfl)
        exact Runs.pick rfl h89 ⟨Ext.refl _, by first | exact h90 | simpa using h90⟩
      · refine stepE rfl fun sdn sa sw sE sd sk => ?_
        have h91 : sa.eval (.tmp 91) = .bool (true) := sk.fact 44 91 rfl (sd 44 rfl)
        exact Runs.assign rfl h91 ⟨Ext.refl _, rfl⟩
      intro vals W1 hE hv
      have e0 : vals 0 = manV x F1 nf1 cf1 N1 nn1 cn1 := hv 0 (by omega) 47 rfl
      have e1 : vals 1 = manV ⟨y.name ++ [122], y.ver, y.fw, y.notes⟩ F2 nf2 cf2 N2 nn2 cn2 := hv 1 (by omega) 48 rfl
      have e2 : vals 2 = .bool (false) := hv 2 (by omega) 49 rfl
      have e3 : vals 3 = .bool (true) := hv 3 (by omega) 50 rfl
      have e4 : vals 4 = .bool (true) := hv 4 (by omega) 51 rfl
      have e5 : vals 5 = manV ⟨y.name ++ [122], y.ver, y.fw, y.notes⟩ F2 nf2 cf2 N2 nn2 cn2 := hv 5 (by omega) 52 rfl
      have e6 : vals 6 = manV x F1 nf1 cf1 N1 nn1 cn1 := hv 6 (by omega) 53 rfl
      have e7 : vals 7 = .bool (false) := hv 7 (by omega) 54 rfl
      have e8 : vals 8 = .bool (true) := hv 8 (by omega) 55 rfl
      have e9 : vals 9 = .bool (true) := hv 9 (by omega) 56 rfl
      have e10 : vals 10 = .bool (true) := hv 10 (by omega) 57 rfl
      have e11 : vals 11 = manV a F nf cf N nn cn := hv 11 (by omega) 58 rfl
      have e12 : vals 12 = manV b F' nf' cf' N' nn' cn' := hv 12 (by omega) 59 rfl
      have e13 : vals 13 = .bool (false) := hv 13 (by omega) 60 rfl
      have e14 : vals 14 = .pointer (some ⟨w.heap.size, 0, none⟩) := hv 14 (by omega) 61 rfl
      have e15 : vals 15 = .string (str (a.name)) := hv 15 (by omega) 62 rfl
      have e16 : vals 16 = .pointer (some ⟨w1.heap.size, 0, none⟩) := hv 16 (by omega) 63 rfl
      have e17 : vals 17 = .string (str (b.name)) := hv 17 (by omega) 64 rfl
      have e18 : vals 18 = .bool (false) := hv 18 (by omega) 65 rfl
      have e19 : vals 19 = .bool (false) := hv 19 (by omega) 66 rfl
      have e25 : vals 25 = .bool (false) := hv 25 (by omega) 72 rfl
      have e26 : vals 26 = .bool (true) := hv 26 (by omega) 73 rfl
      have e27 : vals 27 = .bool (true) := hv 27 (by omega) 74 rfl
      have e28 : vals 28 = .bool (true) := hv 28 (by omega) 75 rfl
      have e29 : vals 29 = manV a F nf cf N nn cn := hv 29 (by omega) 76 rfl
      have e30 : vals 30 = manV b F' nf' cf' N' nn' cn' := hv 30 (by omega) 77 rfl
      have e31 : vals 31 = .bool (sameM a b) := hv 31 (by omega) 78 rfl
      have e32 : vals 32 = manV a F nf cf N nn cn := hv 32 (by omega) 79 rfl
      have e33 : vals 33 = manV b F' nf' cf' N' nn' cn' := hv 33 (by omega) 80 rfl
      have e34 : vals 34 = .bool (sameM a b) := hv 34 (by omega) 81 rfl
      have e35 : vals 35 = .bool (true) := hv 35 (by omega) 82 rfl
      have e36 : vals 36 = .bool (true) := hv 36 (by omega) 83 rfl
      have e37 : vals 37 = .bool (true) := hv 37 (by omega) 84 rfl
      have e38 : vals 38 = manV a F nf cf N nn cn := hv 38 (by omega) 85 rfl
      have e39 : vals 39 = manV a F nf cf N nn cn := hv 39 (by omega) 86 rfl
      have e40 : vals 40 = .bool (true) := hv 40 (by omega) 87 rfl
      have e41 : vals 41 = .bool (true) := hv 41 (by omega) 88 rfl
      have e42 : vals 42 = .bool (true) := hv 42 (by omega) 89 rfl
      have e43 : vals 43 = .bool (true) := hv 43 (by omega) 90 rfl
      have e44 : vals 44 = .bool (true) := hv 44 (by omega) 91 rfl
      have e45 : vals 45 = .bool (true) := hv 45 (by omega) 10 rfl
      simp only [putAll, Act.put, List.take_succ_cons, List.take_zero, List.drop_succ_cons, List.drop_zero, List.drop_nil, List.take_nil, Nat.reduceAdd, List.setIfInBounds_toArray, List.set_cons_succ, List.set_cons_zero, e0, e1, e2, e3, e4, e5, e6, e7, e8, e9, e10, e11, e12, e13, e14, e15, e16, e17, e18, e19, e25, e26, e27, e28, e29, e30, e31, e32, e33, e34, e35, e36, e37, e38, e39, e40, e41, e42, e43, e44, e45]
      clear hv e0 e1 e2 e3 e4 e5 e6 e7 e8 e9 e10 e11 e12 e13 e14 e15 e16 e17 e18 e19 e25 e26 e27 e28 e29 e30 e31 e32 e33 e34 e35 e36 e37 e38 e39 e40 e41 e42 e43 e44 e45
      go_wp2_with fail
      go_ret
      exact ⟨rfl, hE9.trans hE⟩
  · have Hxy := Lib.hid hxy
    have Hb := Lib.hid hb
    have Hyx := Lib.hid (hyx rfl)
    clear hxy hb hyx
    refine par_ext (n := 24) (by kernel_rfl) [.is (manV x F1 nf1 cf1 N1 nn1 cn1), .is (manV y F2 nf2 cf2 N2 nn2 cn2), .is (.bool (true)), .is (.pointer (some ⟨w5.heap.size, 1, none⟩)), .is (.int .u32 (u32i (x.ver))), .is (.pointer (some ⟨w6.heap.size, 1, none⟩)), .is (.int .u32 (u32i (y.ver))), .is (.bool (true)), .is (.bool (false)), .is (.bool (false)), .is (manV x F1 nf1 cf1 N1 nn1 cn1), .is (manV x F1 nf1 cf1 N1 nn1 cn1), .is (.bool (false)), .is (.bool (false)), .is (.bool (false)), .is (manV x F1 nf1 cf1 N1 nn1 cn1), .is (manV y F2 nf2 cf2 N2 nn2 cn2), .is (.bool (true)), .is (.bool (true)), .is (manV y F2 nf2 cf2 N2 nn2 cn2), .is (manV x F1 nf1 cf1 N1 nn1 cn1), .is (.bool (false)), .is (.bool (false)), .is (.bool (false))] rfl ⟨?_, ?_, ?_, ?_, ?_, ?_, ?_, ?_, ?_, ?_, ?_, ?_, ?_, ?_, ?_, ?_, ?_, ?_, ?_, ?_, ?_, ?_, ?_, ?_, trivial⟩ ?_
    · refine stepE rfl fun sdn sa sw sE sd sk => ?_
      have h11 : sa.eval (.tmp 11) = .pointer (some ⟨w5.heap.size, 0, none⟩) := sk.old 11 rfl
      exact Runs.load rfl h11 (load_man (hX7.ext sE)) ⟨Ext.refl _, rfl⟩
    · refine stepE rfl fun sdn sa sw sE sd sk => ?_
      have h12 : sa.eval (.tmp 12) = .pointer (some ⟨w6.heap.size, 0, none⟩) := sk.old 12 rfl
      exact Runs.load rfl h12 (load_man (hY7.ext sE)) ⟨Ext.refl _, rfl⟩
    · refine stepE rfl fun sdn sa sw sE sd sk => ?_
      have h19 : sa.eval (.tmp 19) = manV x F1 nf1 cf1 N1 nn1 cn1 := sk.fact 0 19 rfl (sd 0 rfl)
      have h20 : sa.eval (.tmp 20) = manV y F2 nf2 cf2 N2 nn2 cn2 := sk.fact 1 20 rfl (sd 1 rfl)
      refine Runs.call (f := 24) (vs := [manV x F1 nf1 cf1 N1 nn1 cn1, manV y F2 nf2 cf2 N2 nn2 cn2]) rfl rfl rfl (by simp only [List.map_toArray, List.map_cons, List.map_nil, h19, h20] <;> rfl) (ent24 _ _) ((newer_any _ _ _ _ _ _ _ _ _ _ _ _ _ _ sw).mono ?_); rintro e w' ⟨rfl, hx⟩; exact ⟨_, rfl, hx, congrArg Value.bool Hxy.out⟩
    · refine stepE rfl fun sdn sa sw sE sd sk => ?_
      have h11 : sa.eval (.tmp 11) = .pointer (some ⟨w5.heap.size, 0, none⟩) := sk.old 11 rfl
      refine Runs.of_run (r := .pointer (some ⟨w5.heap.size, 1, none⟩)) (w' := sw) ?_ ⟨Ext.refl _, rfl⟩
      unfold execOp
      simp only [h11]
      go_simp
    · refine stepE rfl fun sdn sa sw sE sd sk => ?_
      have h22 : sa.eval (.tmp 22) = .pointer (some ⟨w5.heap.size, 1, none⟩) := sk.fact 3 22 rfl (sd 3 rfl)
      exact Runs.load rfl h22 (run_load1 Try.underlying25 rfl ((hX7.ext sE).cell (i := 1) rfl)) ⟨Ext.refl _, rfl⟩
    · refine stepE rfl fun sdn sa sw sE sd sk => ?_
      have h12 : sa.eval (.tmp 12) = .pointer (some ⟨w6.heap.size, 0, none⟩) := sk.old 12 rfl
      refine Runs.of_run (r := .pointer (some ⟨w6.heap.size, 1, none⟩)) (w' := sw) ?_ ⟨Ext.refl _, rfl⟩
      unfold execOp
      simp only [h12]
      go_simp
    · refine stepE rfl fun sdn sa sw sE sd sk => ?_
      have h24 : sa.eval (.tmp 24) = .pointer (some ⟨w6.heap.size, 1, none⟩) := sk.fact 5 24 rfl (sd 5 rfl)
      exact Runs.load rfl h24 (run_load1 Try.underlying25 rfl ((hY7.ext sE).cell (i := 1) rfl)) ⟨Ext.refl _, rfl⟩
    · refine stepE rfl fun sdn sa sw sE sd sk => ?_
      have h23 : sa.eval (.tmp 23) = .int .u32 (u32i (x.ver)) := sk.fact 4 23 rfl (sd 4 rfl)
      have h25 : sa.eval (.tmp 25) = .int .u32 (u32i (y.ver)) := sk.fact 6 25 rfl (sd 6 rfl)
      exact Runs.bin rfl h23 h25 (by rfl) (bin_gtr _ _ _ _) ⟨Ext.refl _, congrArg Value.bool Hb.out⟩
    · refine stepE rfl fun sdn sa sw sE sd sk => ?_
      have h21 : sa.eval (.tmp 21) = .bool (true) := sk.fact 2 21 rfl (sd 2 rfl)
      have h26 : sa.eval (.tmp 26) = .bool (true) := sk.fact 7 26 rfl (sd 7 rfl)
      exact Runs.bin rfl h21 h26 (by rfl) (bin_neb _ _) ⟨Ext.refl _, congrArg Value.bool (by simp)⟩
    · refine stepE rfl fun sdn sa sw sE sd sk => ?_
      have h27 : sa.eval (.tmp 27) = .bool (false) := sk.fact 8 27 rfl (sd 8 rfl)
      exact Runs.move rfl h27 ⟨Ext.refl _, rfl⟩
    · refine stepY (j := 9) (d := 28) (b := false) rfl rfl rfl (fun v w h => h) fun sdn sa sw sE sd sk => ?_
      have h11 : sa.eval (.tmp 11) = .pointer (some ⟨w5.heap.size, 0, none⟩) := sk.old 11 rfl
      exact Runs.load rfl h11 (load_man (hX7.ext sE)) ⟨Ext.refl _, rfl⟩
    · refine stepY (j := 9) (d := 28) (b := false) rfl rfl rfl (fun v w h => h) fun sdn sa sw sE sd sk => ?_
      have h11 : sa.eval (.tmp 11) = .pointer (some ⟨w5.heap.size, 0, none⟩) := sk.old 11 rfl
      exact Runs.load rfl h11 (load_man (hX7.ext sE)) ⟨Ext.refl _, rfl⟩
    · refine stepY (j := 9) (d := 28) (b := false) rfl rfl rfl (fun v w h => h) fun sdn sa sw sE sd sk => ?_
      have h29 : sa.eval (.tmp 29) = manV x F1 nf1 cf1 N1 nn1 cn1 := sk.fact 10 29 rfl (sd 10 rfl)
      have h30 : sa.eval (.tmp 30) = manV x F1 nf1 cf1 N1 nn1 cn1 := sk.fact 11 30 rfl (sd 11 rfl)
      refine Runs.call (f := 24) (vs := [manV x F1 nf1 cf1 N1 nn1 cn1, manV x F1 nf1 cf1 N1 nn1 cn1]) rfl rfl rfl (by simp only [List.map_toArray, List.map_cons, List.map_nil, h29, h30] <;> rfl) (ent24 _ _) ((newer_any _ _ _ _ _ _ _ _ _ _ _ _ _ _ sw).mono ?_); rintro e w' ⟨rfl, hx⟩; exact ⟨_, rfl, hx, congrArg Value.bool Hxx.out⟩
    · refine stepE rfl fun sdn sa sw sE sd sk => ?_
      have h28 : sa.eval (.tmp 28) = .bool (false) := sk.fact 9 28 rfl (sd 9 rfl)
      have h31 : sa.eval (.tmp 31) = .bool (false) := sk.fact 12 31 rfl (sd 12 rfl)
      exact Runs.pick rfl h28 ⟨Ext.refl _, by first | exact h31 | simpa using h31⟩
    · refine stepE rfl fun sdn sa sw sE sd sk => ?_
      have h32 : sa.eval (.tmp 32) = .bool (false) := sk.fact 13 32 rfl (sd 13 rfl)
      exact Runs.move rfl h32 ⟨Ext.refl _, rfl⟩
    · refine stepY (j := 14) (d := 33) (b := false) rfl rfl rfl (fun v w h => h) fun sdn sa sw sE sd sk => ?_
      have h11 : sa.eval (.tmp 11) = .pointer (some ⟨w5.heap.size, 0, none⟩) := sk.old 11 rfl
      exact Runs.load rfl h11 (load_man (hX7.ext sE)) ⟨Ext.refl _, rfl⟩
    · refine stepY (j := 14) (d := 33) (b := false) rfl rfl rfl (fun v w h => h) fun sdn sa sw sE sd sk => ?_
      have h12 : sa.eval (.tmp 12) = .pointer (some ⟨w6.heap.size, 0, none⟩) := sk.old 12 rfl
      exact Runs.load rfl h12 (load_man (hY7.ext sE)) ⟨Ext.refl _, rfl⟩
    · refine stepY (j := 14) (d := 33) (b := false) rfl rfl rfl (fun v w h => h) fun sdn sa sw sE sd sk => ?_
      have h34 : sa.eval (.tmp 34) = manV x F1 nf1 cf1 N1 nn1 cn1 := sk.fact 15 34 rfl (sd 15 rfl)
      have h35 : sa.eval (.tmp 35) = manV y F2 nf2 cf2 N2 nn2 cn2 := sk.fact 16 35 rfl (sd 16 rfl)
      refine Runs.call (f := 24) (vs := [manV x F1 nf1 cf1 N1 nn1 cn1, manV y F2 nf2 cf2 N2 nn2 cn2]) rfl rfl rfl (by simp only [List.map_toArray, List.map_cons, List.map_nil, h34, h35] <;> rfl) (ent24 _ _) ((newer_any _ _ _ _ _ _ _ _ _ _ _ _ _ _ sw).mono ?_); rintro e w' ⟨rfl, hx⟩; exact ⟨_, rfl, hx, congrArg Value.bool Hxy.out⟩
    · refine stepY (j := 14) (d := 33) (b := false) rfl rfl rfl (fun v w h => h) fun sdn sa sw sE sd sk => ?_
      have h36 : sa.eval (.tmp 36) = .bool (true) := sk.fact 17 36 rfl (sd 17 rfl)
      exact Runs.move rfl h36 ⟨Ext.refl _, rfl⟩
    · refine stepY (j := 18) (d := 37) (b := true) rfl rfl rfl (fun v w h => h) fun sdn sa sw sE sd sk => ?_
      have h12 : sa.eval (.tmp 12) = .pointer (some ⟨w6.heap.size, 0, none⟩) := sk.old 12 rfl
      exact Runs.load rfl h12 (load_man (hY7.ext sE)) ⟨Ext.refl _, rfl⟩
    · refine stepY (j := 18) (d := 37) (b := true) rfl rfl rfl (fun v w h => h) fun sdn sa sw sE sd sk => ?_
      have h11 : sa.eval (.tmp 11) = .pointer (some ⟨w5.heap.size, 0, none⟩) := sk.old 11 rfl
      exact Runs.load rfl h11 (load_man (hX7.ext sE)) ⟨Ext.refl _, rfl⟩
    · refine stepY (j := 18) (d := 37) (b := true) rfl rfl rfl (fun v w h => h) fun sdn sa sw sE sd sk => ?_
      have h38 : sa.eval (.tmp 38) = manV y F2 nf2 cf2 N2 nn2 cn2 := sk.fact 19 38 rfl (sd 19 rfl)
      have h39 : sa.eval (.tmp 39) = manV x F1 nf1 cf1 N1 nn1 cn1 := sk.fact 20 39 rfl (sd 20 rfl)
      refine Runs.call (f := 24) (vs := [manV y F2 nf2 cf2 N2 nn2 cn2, manV x F1 nf1 cf1 N1 nn1 cn1]) rfl rfl rfl (by simp only [List.map_toArray, List.map_cons, List.map_nil, h38, h39] <;> rfl) (ent24 _ _) ((newer_any _ _ _ _ _ _ _ _ _ _ _ _ _ _ sw).mono ?_); rintro e w' ⟨rfl, hx⟩; exact ⟨_, rfl, hx, congrArg Value.bool Hyx.out⟩
    · refine stepY (j := 14) (d := 33) (b := false) rfl rfl rfl (fun v w h => h) fun sdn sa sw sE sd sk => ?_
      have h37 : sa.eval (.tmp 37) = .bool (true) := sk.fact 18 37 rfl (sd 18 rfl)
      have h40 : sa.eval (.tmp 40) = .bool (false) := sk.fact 21 40 rfl (sd 21 rfl)
      exact Runs.pick rfl h37 ⟨Ext.refl _, by first | exact h40 | simpa using h40⟩
    · refine stepE rfl fun sdn sa sw sE sd sk => ?_
      have h33 : sa.eval (.tmp 33) = .bool (false) := sk.fact 14 33 rfl (sd 14 rfl)
      have h41 : sa.eval (.tmp 41) = .bool (false) := sk.fact 22 41 rfl (sd 22 rfl)
      exact Runs.pick rfl h33 ⟨Ext.refl _, by first | exact h41 | simpa using h41⟩
    intro vals W1 hE hv
    have e0 : vals 0 = manV x F1 nf1 cf1 N1 nn1 cn1 := hv 0 (by omega) 19 rfl
    have e1 : vals 1 = manV y F2 nf2 cf2 N2 nn2 cn2 := hv 1 (by omega) 20 rfl
    have e2 : vals 2 = .bool (true) := hv 2 (by omega) 21 rfl
    have e3 : vals 3 = .pointer (some ⟨w5.heap.size, 1, none⟩) := hv 3 (by omega) 22 rfl
    have e4 : vals 4 = .int .u32 (u32i (x.ver)) := hv 4 (by omega) 23 rfl
    have e5 : vals 5 = .pointer (some ⟨w6.heap.size, 1, none⟩) := hv 5 (by omega) 24 rfl
    have e6 : vals 6 = .int .u32 (u32i (y.ver)) := hv 6 (by omega) 25 rfl
    have e7 : vals 7 = .bool (true) := hv 7 (by omega) 26 rfl
    have e8 : vals 8 = .bool (false) := hv 8 (by omega) 27 rfl
    have e9 : vals 9 = .bool (false) := hv 9 (by omega) 28 rfl
    have e10 : vals 10 = manV x F1 nf1 cf1 N1 nn1 cn1 := hv 10 (by omega) 29 rfl
    have e11 : vals 11 = manV x F1 nf1 cf1 N1 nn1 cn1 := hv 11 (by omega) 30 rfl
    have e12 : vals 12 = .bool (false) := hv 12 (by omega) 31 rfl
    have e13 : vals 13 = .bool (false) := hv 13 (by omega) 32 rfl
    have e14 : vals 14 = .bool (false) := hv 14 (by omega) 33 rfl
    have e15 : vals 15 = manV x F1 nf1 cf1 N1 nn1 cn1 := hv 15 (by omega) 34 rfl
    have e16 : vals 16 = manV y F2 nf2 cf2 N2 nn2 cn2 := hv 16 (by omega) 35 rfl
    have e17 : vals 17 = .bool (true) := hv 17 (by omega) 36 rfl
    have e18 : vals 18 = .bool (true) := hv 18 (by omega) 37 rfl
    have e19 : vals 19 = manV y F2 nf2 cf2 N2 nn2 cn2 := hv 19 (by omega) 38 rfl
    have e20 : vals 20 = manV x F1 nf1 cf1 N1 nn1 cn1 := hv 20 (by omega) 39 rfl
    have e21 : vals 21 = .bool (false) := hv 21 (by omega) 40 rfl
    have e22 : vals 22 = .bool (false) := hv 22 (by omega) 41 rfl
    have e23 : vals 23 = .bool (false) := hv 23 (by omega) 42 rfl
    simp only [putAll, Act.put, List.take_succ_cons, List.take_zero, List.drop_succ_cons, List.drop_zero, List.drop_nil, List.take_nil, Nat.reduceAdd, List.setIfInBounds_toArray, List.set_cons_succ, List.set_cons_zero, e0, e1, e2, e3, e4, e5, e6, e7, e8, e9, e10, e11, e12, e13, e14, e15, e16, e17, e18, e19, e20, e21, e22, e23]
    clear hv e0 e1 e2 e3 e4 e5 e6 e7 e8 e9 e10 e11 e12 e13 e14 e15 e16 e17 e18 e19 e20 e21 e22 e23
    have hA8 := hA7.ext hE
    have hB8 := hB7.ext hE
    have hX8 := hX7.ext hE
    have hY8 := hY7.ext hE
    have hE8 := hE7.trans hE
    clear hA7 hB7 hX7 hY7 hE7 hE
    have y0 := hY8.cell (i := 0) rfl
    have z0 := hY8.frozen 0
    have hyl := Hyl.out
    go_upto_region 5 with (fail)
    rw [show str y.name ++ ⟨#[122]⟩ = str (y.name ++ [122]) from str_app y.name [122]]
    obtain ⟨w9, hw9⟩ : ∃ w9, w9 = W1.setCell ⟨w6.heap.size, 0, none⟩ (.string (str (y.name ++ [122]))) := ⟨_, rfl⟩
    have g9 : W1.grownBy w9 (some w6.heap.size) := by rw [hw9]; exact grownBy_setCell W1 ⟨w6.heap.size, 0, none⟩ _
    have hY9 : Blk w9 w6.heap.size 27 #[.string (str (y.name ++ [122])), .int .u32 (u32i y.ver), .slice F2 nf2 cf2, .slice N2 nn2 cn2] := by rw [hw9]; exact hY8.set 0 _
    have hX9 := hX8.grown g9 (by intro e; injection e with e; omega)
    have hA9 := hA8.grown g9 (by intro e; injection e with e; omega)
    have hB9 := hB8.grown g9 (by intro e; injection e with e; omega)
    have hE9 := hE8.then_grown g9 (by intro k hk; cases hk; omega)
    rw [← hw9]
    clear hw9 g9 hA8 hB8 hX8 hY8 hE8 y0 z0 hyl
    by_cases hnm : a.name = b.name
    · have hab : newerM a b = decide (u32i b.ver < u32i a.ver) := by simp only [newerM, hnm, decide_true, Bool.true_and]
      have Hab := Lib.hid hab
      have Hnm := Lib.hid (decide_eq_true hnm)
      clear hab hnm
      refine par_ext (n := 46) (by kernel_rfl) [.is (manV x F1 nf1 cf1 N1 nn1 cn1), .is (manV ⟨y.name ++ [122], y.ver, y.fw, y.notes⟩ F2 nf2 cf2 N2 nn2 cn2), .is (.bool (false)), .is (.bool (true)), .is (.bool (true)), .is (manV ⟨y.name ++ [122], y.ver, y.fw, y.notes⟩ F2 nf2 cf2 N2 nn2 cn2), .is (manV x F1 nf1 cf1 N1 nn1 cn1), .is (.bool (false)), .is (.bool (true)), .is (.bool (true)), .is (.bool (true)), .is (manV a F nf cf N nn cn), .is (manV b F' nf' cf' N' nn' cn'), .is (.bool (decide (u32i (b.ver) < u32i (a.ver)))), .is (.pointer (some ⟨w.heap.size, 0, none⟩)), .is (.string (str (a.name))), .is (.pointer (some ⟨w1.heap.size, 0, none⟩)), .is (.string (str (b.name))), .is (.bool (true)), .is (.bool (true)), .is (.pointer (some ⟨w.heap.size, 1, none⟩)), .is (.int .u32 (u32i (a.ver))), .is (.pointer (some ⟨w1.heap.size, 1, none⟩)), .is (.int .u32 (u32i (b.ver))), .is (.bool (decide (u32i (b.ver) < u32i (a.ver)))), .is (.bool (decide (u32i (b.ver) < u32i (a.ver)))), .is (.bool (true)), .is (.bool (true)), .is (.bool (true)), .is (manV a F nf cf N nn cn), .is (manV b F' nf' cf' N' nn' cn'), .is (.bool (sameM a b)), .is (manV a F nf cf N nn cn), .is (manV b F' nf' cf' N' nn' cn'), .is (.bool (sameM a b)), .is (.bool (true)), .is (.bool (true)), .is (.bool (true)), .is (manV a F nf cf N nn cn), .is (manV a F nf cf N nn cn), .is (.bool (true)), .is (.bool (true)), .is (.bool (true)), .is (.bool (true)), .is (.bool (true)), .is (.bool (true))] rfl ⟨?_, ?_, ?_, ?_, ?_, ?_, ?_, ?_, ?_, ?_, ?_, ?_, ?_, ?_, ?_, ?_, ?_, ?_, ?_, ?_, ?_, ?_, ?_, ?_, ?_, ?_, ?_, ?_, ?_, ?_, ?_, ?_, ?_, ?_, ?_, ?_, ?_, ?_, ?_, ?_, ?_, ?_, ?_, ?_, ?_, ?_, trivial⟩ ?_
      · refine stepE rfl fun sdn sa sw sE sd sk => ?_
        have h11 : sa.eval (.tmp 11) = .pointer (some ⟨w5.heap.size, 0, none⟩) := sk.old 11 rfl
        exact Runs.load rfl h11 (load_man (hX9.ext sE)) ⟨Ext.refl _, rfl⟩
      · refine stepE rfl fun sdn sa sw sE sd sk => ?_
        have h12 : sa.eval (.tmp 12) = .pointer (some ⟨w6.heap.size, 0, none⟩) := sk.old 12 rfl
        exact Runs.load rfl h12 (load_man (hY9.ext sE)) ⟨Ext.refl _, rfl⟩
      · refine stepE rfl fun sdn sa sw sE sd sk => ?_
        have h47 : sa.eval (.tmp 47) = manV x F1 nf1 cf1 N1 nn1 cn1 := sk.fact 0 47 rfl (sd 0 rfl)
        have h48 : sa.eval (.tmp 48) = manV ⟨y.name ++ [122], y.ver, y.fw, y.notes⟩ F2 nf2 cf2 N2 nn2 cn2 := sk.fact 1 48 rfl (sd 1 rfl)
        refine Runs.call (f := 24) (vs := [manV x F1 nf1 cf1 N1 nn1 cn1, manV ⟨y.name ++ [122], y.ver, y.fw, y.notes⟩ F2 nf2 cf2 N2 nn2 cn2]) rfl rfl rfl (by simp only [List.map_toArray, List.map_cons, List.map_nil, h47, h48] <;> rfl) (ent24 _ _) ((newer_any _ _ _ _ _ _ _ _ _ _ _ _ _ _ sw).mono ?_); rintro e w' ⟨rfl, hx⟩; exact ⟨_, rfl, hx, congrArg Value.bool Hn1.out⟩
      · refine stepE rfl fun sdn sa sw sE sd sk => ?_
        have h49 : sa.eval (.tmp 49) = .bool (false) := sk.fact 2 49 rfl (sd 2 rfl)
        exact Runs.un rfl h49 (by rfl) ⟨Ext.refl _, rfl⟩
      · refine stepE rfl fun sdn sa sw sE sd sk => ?_
        have h50 : sa.eval (.tmp 50) = .bool (true) := sk.fact 3 50 rfl (sd 3 rfl)
        exact Runs.move rfl h50 ⟨Ext.refl _, rfl⟩
      · refine stepY (j := 4) (d := 51) (b := true) rfl rfl rfl (fun v w h => h) fun sdn sa sw sE sd sk => ?_
        have h12 : sa.eval (.tmp 12) = .pointer (some ⟨w6.heap.size, 0, none⟩) := sk.old 12 rfl
        exact Runs.load rfl h12 (load_man (hY9.ext sE)) ⟨Ext.refl _, rfl⟩
      · refine stepY (j := 4) (d := 51) (b := true) rfl rfl rfl (fun v w h => h) fun sdn sa sw sE sd sk => ?_
        have h11 : sa.eval (.tmp 11) = .pointer (some ⟨w5.heap.size, 0, none⟩) := sk.old 11 rfl
        exact Runs.load rfl h11 (load_man (hX9.ext sE)) ⟨Ext.refl _, rfl⟩
      · refine stepY (j := 4) (d := 51) (b := true) rfl rfl rfl (fun v w h => h) fun sdn sa sw sE sd sk => ?_
        have h52 : sa.eval (.tmp 52) = manV ⟨y.name ++ [122], y.ver, y.fw, y.notes⟩ F2 nf2 cf2 N2 nn2 cn2 := sk.fact 5 52 rfl (sd 5 rfl)
        have h53 : sa.eval (.tmp 53) = manV x F1 nf1 cf1 N1 nn1 cn1 := sk.fact 6 53 rfl (sd 6 rfl)
        refine Runs.call (f := 24) (vs := [manV ⟨y.name ++ [122], y.ver, y.fw, y.notes⟩ F2 nf2 cf2 N2 nn2 cn2, manV x F1 nf1 cf1 N1 nn1 cn1]) rfl rfl rfl (by simp only [List.map_toArray, List.map_cons, List.map_nil, h52, h53] <;> rfl) (ent24 _ _) ((newer_any _ _ _ _ _ _ _ _ _ _ _ _ _ _ sw).mono ?_); rintro e w' ⟨rfl, hx⟩; exact ⟨_, rfl, hx, congrArg Value.bool Hn2.out⟩
      · refine stepY (j := 4) (d := 51) (b := true) rfl rfl rfl (fun v w h => h) fun sdn sa sw sE sd sk => ?_
        have h54 : sa.eval (.tmp 54) = .bool (false) := sk.fact 7 54 rfl (sd 7 rfl)
        exact Runs.un rfl h54 (by rfl) ⟨Ext.refl _, rfl⟩
      · refine stepE rfl fun sdn sa sw sE sd sk => ?_
        have h51 : sa.eval (.tmp 51) = .bool (true) := sk.fact 4 51 rfl (sd 4 rfl)
        have h55 : sa.eval (.tmp 55) = .bool (true) := sk.fact 8 55 rfl (sd 8 rfl)
        exact Runs.pick rfl h51 ⟨Ext.refl _, by first | exact h55 | simpa using h55⟩
      · refine stepE rfl fun sdn sa sw sE sd sk => ?_
        have h56 : sa.eval (.tmp 56) = .bool (true) := sk.fact 9 56 rfl (sd 9 rfl)
        exact Runs.move rfl h56 ⟨Ext.refl _, rfl⟩
      · refine stepY (j := 10) (d := 57) (b := true) rfl rfl rfl (fun v w h => h) fun sdn sa sw sE sd sk => ?_
        have h5 : sa.eval (.tmp 5) = .pointer (some ⟨w.heap.size, 0, none⟩) := sk.old 5 rfl
        exact Runs.load rfl h5 (load_man (hA9.ext sE)) ⟨Ext.refl _, rfl⟩
      · refine stepY (j := 10) (d := 57) (b := true) rfl rfl rfl (fun v w h => h) fun sdn sa sw sE sd sk => ?_
        have h6 : sa.eval (.tmp 6) = .pointer (some ⟨w1.heap.size, 0, none⟩) := sk.old 6 rfl
        exact Runs.load rfl h6 (load_man (hB9.ext sE)) ⟨Ext.refl _, rfl⟩
      · refine stepY (j := 10) (d := 57) (b := true) rfl rfl rfl (fun v w h => h) fun sdn sa sw sE sd sk => ?_
        have h58 : sa.eval (.tmp 58) = manV a F nf cf N nn cn := sk.fact 11 58 rfl (sd 11 rfl)
        have h59 : sa.eval (.tmp 59) = manV b F' nf' cf' N' nn' cn' := sk.fact 12 59 rfl (sd 12 rfl)
        refine Runs.call (f := 24) (vs := [manV a F nf cf N nn cn, manV b F' nf' cf' N' nn' cn']) rfl rfl rfl (by simp only [List.map_toArray, List.map_cons, List.map_nil, h58, h59] <;> rfl) (ent24 _ _) ((newer_any _ _ _ _ _ _ _ _ _ _ _ _ _ _ sw).mono ?_); rintro e w' ⟨rfl, hx⟩; exact ⟨_, rfl, hx, congrArg Value.bool Hab.out⟩
      · refine stepY (j := 10) (d := 57) (b := true) rfl rfl rfl (fun v w h => h) fun sdn sa sw sE sd sk => ?_
        have h5 : sa.eval (.tmp 5) = .pointer (some ⟨w.heap.size, 0, none⟩) := sk.old 5 rfl
        refine Runs.of_run (r := .pointer (some ⟨w.heap.size, 0, none⟩)) (w' := sw) ?_ ⟨Ext.refl _, rfl⟩
        unfold execOp
        simp only [h5]
        go_simp
      · refine stepY (j := 10) (d := 57) (b := true) rfl rfl rfl (fun v w h => h) fun sdn sa sw sE sd sk => ?_
        have h61 : sa.eval (.tmp 61) = .pointer (some ⟨w.heap.size, 0, none⟩) := sk.fact 14 61 rfl (sd 14 rfl)
        exact Runs.load rfl h61 (run_load1 Try.underlying9 rfl ((hA9.ext sE).cell (i := 0) rfl)) ⟨Ext.refl _, rfl⟩
      · refine stepY (j := 10) (d := 57) (b := true) rfl rfl rfl (fun v w h => h) fun sdn sa sw sE sd sk => ?_
        have h6 : sa.eval (.tmp 6) = .pointer (some ⟨w1.heap.size, 0, none⟩) := sk.old 6 rfl
        refine Runs.of_run (r := .pointer (some ⟨w1.heap.size, 0, none⟩)) (w' := sw) ?_ ⟨Ext.refl _, rfl⟩
        unfold execOp
        simp only [h6]
        go_simp
      · refine stepY (j := 10) (d := 57) (b := true) rfl rfl rfl (fun v w h => h) fun sdn sa sw sE sd sk => ?_
        have h63 : sa.eval (.tmp 63) = .pointer (some ⟨w1.heap.size, 0, none⟩) := sk.fact 16 63 rfl (sd 16 rfl)
        exact Runs.load rfl h63 (run_load1 Try.underlying9 rfl ((hB9.ext sE).cell (i := 0) rfl)) ⟨Ext.refl _, rfl⟩
      · refine stepY (j := 10) (d := 57) (b := true) rfl rfl rfl (fun v w h => h) fun sdn sa sw sE sd sk => ?_
        have h62 : sa.eval (.tmp 62) = .string (str (a.name)) := sk.fact 15 62 rfl (sd 15 rfl)
        have h64 : sa.eval (.tmp 64) = .string (str (b.name)) := sk.fact 17 64 rfl (sd 17 rfl)
        exact Runs.bin rfl h62 h64 (by rfl) (bin_eqs _ _ _) ⟨Ext.refl _, by rw [Hnm.out]; rfl⟩
      · refine stepY (j := 10) (d := 57) (b := true) rfl rfl rfl (fun v w h => h) fun sdn sa sw sE sd sk => ?_
        have h65 : sa.eval (.tmp 65) = .bool (true) := sk.fact 18 65 rfl (sd 18 rfl)
        exact Runs.move rfl h65 ⟨Ext.refl _, rfl⟩
      · refine stepY (j := 19) (d := 66) (b := true) rfl rfl rfl (fun v w h => h) fun sdn sa sw sE sd sk => ?_
        have h5 : sa.eval (.tmp 5) = .pointer (some ⟨w.heap.size, 0, none⟩) := sk.old 5 rfl
        refine Runs.of_run (r := .pointer (some ⟨w.heap.size, 1, none⟩)) (w' := sw) ?_ ⟨Ext.refl _, rfl⟩
        unfold execOp
        simp only [h5]
        go_simp
      · refine stepY (j := 19) (d := 66) (b := true) rfl rfl rfl (fun v w h => h) fun sdn sa sw sE sd sk => ?_
        have h67 : sa.eval (.tmp 67) = .pointer (some ⟨w.heap.size, 1, none⟩) := sk.fact 20 67 rfl (sd 20 rfl)
        exact Runs.load rfl h67 (run_load1 Try.underlying25 rfl ((hA9.ext sE).cell (i := 1) rfl)) ⟨Ext.refl _, rfl⟩
      · refine stepY (j := 19) (d := 66) (b := true) rfl rfl rfl (fun v w h => h) fun sdn sa sw sE sd sk => ?_
        have h6 : sa.eval (.tmp 6) = .pointer (some ⟨w1.heap.size, 0, none⟩) := sk.old 6 rfl
        refine Runs.of_run (r := .pointer (some ⟨w1.heap.size, 1, none⟩)) (w' := sw) ?_ ⟨Ext.refl _, rfl⟩
        unfold execOp
        simp only [h6]
        go_simp
      · refine stepY (j := 19) (d := 66) (b := true) rfl rfl rfl (fun v w h => h) fun sdn sa sw sE sd sk => ?_
        have h69 : sa.eval (.tmp 69) = .pointer (some ⟨w1.heap.size, 1, none⟩) := sk.fact 22 69 rfl (sd 22 rfl)
        exact Runs.load rfl h69 (run_load1 Try.underlying25 rfl ((hB9.ext sE).cell (i := 1) rfl)) ⟨Ext.refl _, rfl⟩
      · refine stepY (j := 19) (d := 66) (b := true) rfl rfl rfl (fun v w h => h) fun sdn sa sw sE sd sk => ?_
        have h68 : sa.eval (.tmp 68) = .int .u32 (u32i (a.ver)) := sk.fact 21 68 rfl (sd 21 rfl)
        have h70 : sa.eval (.tmp 70) = .int .u32 (u32i (b.ver)) := sk.fact 23 70 rfl (sd 23 rfl)
        exact Runs.bin rfl h68 h70 (by rfl) (bin_gtr _ _ _ _) ⟨Ext.refl _, rfl⟩
      · refine stepY (j := 10) (d := 57) (b := true) rfl rfl rfl (fun v w h => h) fun sdn sa sw sE sd sk => ?_
        have h66 : sa.eval (.tmp 66) = .bool (true) := sk.fact 19 66 rfl (sd 19 rfl)
        have h71 : sa.eval (.tmp 71) = .bool (decide (u32i (b.ver) < u32i (a.ver))) := sk.fact 24 71 rfl (sd 24 rfl)
        exact Runs.pick rfl h66 ⟨Ext.refl _, by first | exact h71 | simpa using h71⟩
      · refine stepY (j := 10) (d := 57) (b := true) rfl rfl rfl (fun v w h => h) fun sdn sa sw sE sd sk => ?_
        have h60 : sa.eval (.tmp 60) = .bool (decide (u32i (b.ver) < u32i (a.ver))) := sk.fact 13 60 rfl (sd 13 rfl)
        have h72 : sa.eval (.tmp 72) = .bool (decide (u32i (b.ver) < u32i (a.ver))) := sk.fact 25 72 rfl (sd 25 rfl)
        exact Runs.bin rfl h60 h72 (by rfl) (bin_eqb _ _) ⟨Ext.refl _, congrArg Value.bool (by simp)⟩
      · refine stepE rfl fun sdn sa sw sE sd sk => ?_
        have h57 : sa.eval (.tmp 57) = .bool (true) := sk.fact 10 57 rfl (sd 10 rfl)
        have h73 : sa.eval (.tmp 73) = .bool (true) := sk.fact 26 73 rfl (sd 26 rfl)
        exact Runs.pick rfl h57 ⟨Ext.refl _, by first | exact h73 | simpa using h73⟩
      · refine stepE rfl fun sdn sa sw sE sd sk => ?_
        have h74 : sa.eval (.tmp 74) = .bool (true) := sk.fact 27 74 rfl (sd 27 rfl)
        exact Runs.move rfl h74 ⟨Ext.refl _, rfl⟩
      · refine stepY (j := 28) (d := 75) (b := true) rfl rfl rfl (fun v w h => h) fun sdn sa sw sE sd sk => ?_
        have h5 : sa.eval (.tmp 5) = .pointer (some ⟨w.heap.size, 0, none⟩) := sk.old 5 rfl
        exact Runs.load rfl h5 (load_man (hA9.ext sE)) ⟨Ext.refl _, rfl⟩
      · refine stepY (j := 28) (d := 75) (b := true) rfl rfl rfl (fun v w h => h) fun sdn sa sw sE sd sk => ?_
        have h6 : sa.eval (.tmp 6) = .pointer (some ⟨w1.heap.size, 0, none⟩) := sk.old 6 rfl
        exact Runs.load rfl h6 (load_man (hB9.ext sE)) ⟨Ext.refl _, rfl⟩
      · refine stepY (j := 28) (d := 75) (b := true) rfl rfl rfl (fun v w h => h) fun sdn sa sw sE sd sk => ?_
        have h76 : sa.eval (.tmp 76) = manV a F nf cf N nn cn := sk.fact 29 76 rfl (sd 29 rfl)
        have h77 : sa.eval (.tmp 77) = manV b F' nf' cf' N' nn' cn' := sk.fact 30 77 rfl (sd 30 rfl)
        refine Runs.call (f := 23) (vs := [manV a F nf cf N nn cn, manV b F' nf' cf' N' nn' cn']) rfl rfl rfl (by simp only [List.map_toArray, List.map_cons, List.map_nil, h76, h77] <;> rfl) (ent23 _ _) ((msame_any _ _ _ _ _ _ _ _ _ _ _ _ _ _ sw (hF.ext (hE9.trans sE)) (hN.ext (hE9.trans sE)) (hF'.ext (hE9.trans sE)) (hN'.ext (hE9.trans sE))).mono ?_); rintro e w' ⟨rfl, hx⟩; exact ⟨_, rfl, hx, rfl⟩
      · refine stepY (j := 28) (d := 75) (b := true) rfl rfl rfl (fun v w h => h) fun sdn sa sw sE sd sk => ?_
        have h5 : sa.eval (.tmp 5) = .pointer (some ⟨w.heap.size, 0, none⟩) := sk.old 5 rfl
        exact Runs.load rfl h5 (load_man (hA9.ext sE)) ⟨Ext.refl _, rfl⟩
      · refine stepY (j := 28) (d := 75) (b := true) rfl rfl rfl (fun v w h => h) fun sdn sa sw sE sd sk => ?_
        have h6 : sa.eval (.tmp 6) = .pointer (some ⟨w1.heap.size, 0, none⟩) := sk.old 6 rfl
        exact Runs.load rfl h6 (load_man (hB9.ext sE)) ⟨Ext.refl _, rfl⟩
      · refine stepY (j := 28) (d := 75) (b := true) rfl rfl rfl (fun v w h => h) fun sdn sa sw sE sd sk => ?_
        have h79 : sa.eval (.tmp 79) = manV a F nf cf N nn cn := sk.fact 32 79 rfl (sd 32 rfl)
        have h80 : sa.eval (.tmp 80) = manV b F' nf' cf' N' nn' cn' := sk.fact 33 80 rfl (sd 33 rfl)
        refine Runs.call (f := 19) (vs := [manV a F nf cf N nn cn, manV b F' nf' cf' N' nn' cn']) rfl rfl rfl (by simp only [List.map_toArray, List.map_cons, List.map_nil, h79, h80] <;> rfl) (ent19 _ _) ((rsame_any _ _ _ _ _ _ _ _ _ _ _ _ _ _ sw (hF.ext (hE9.trans sE)) (hN.ext (hE9.trans sE)) (hF'.ext (hE9.trans sE)) (hN'.ext (hE9.trans sE))).mono ?_); rintro e w' ⟨rfl, hx⟩; exact ⟨_, rfl, hx, rfl⟩
      · refine stepY (j := 28) (d := 75) (b := true) rfl rfl rfl (fun v w h => h) fun sdn sa sw sE sd sk => ?_
        have h78 : sa.eval (.tmp 78) = .bool (sameM a b) := sk.fact 31 78 rfl (sd 31 rfl)
        have h81 : sa.eval (.tmp 81) = .bool (sameM a b) := sk.fact 34 81 rfl (sd 34 rfl)
        exact Runs.bin rfl h78 h81 (by rfl) (bin_eqb _ _) ⟨Ext.refl _, congrArg Value.bool (by simp)⟩
      · refine stepE rfl fun sdn sa sw sE sd sk => ?_
        have h75 : sa.eval (.tmp 75) = .bool (true) := sk.fact 28 75 rfl (sd 28 rfl)
        have h82 : sa.eval (.tmp 82) = .bool (true) := sk.fact 35 82 rfl (sd 35 rfl)
        exact Runs.pick rfl h75 ⟨Ext.refl _, by first | exact h82 | simpa using h82⟩
      · refine stepE rfl fun sdn sa sw sE sd sk => ?_
        have h83 : sa.eval (.tmp 83) = .bool (true) := sk.fact 36 83 rfl (sd 36 rfl)
        exact Runs.move rfl h83 ⟨Ext.refl _, rfl⟩
      · refine stepY (j := 37) (d := 84) (b := true) rfl rfl rfl (fun v w h => h) fun sdn sa sw sE sd sk => ?_
        have h5 : sa.eval (.tmp 5) = .pointer (some ⟨w.heap.size, 0, none⟩) := sk.old 5 rfl
        exact Runs.load rfl h5 (load_man (hA9.ext sE)) ⟨Ext.refl _, rfl⟩
      · refine stepY (j := 37) (d := 84) (b := true) rfl rfl rfl (fun v w h => h) fun sdn sa sw sE sd sk => ?_
        have h5 : sa.eval (.tmp 5) = .pointer (some ⟨w.heap.size, 0, none⟩) := sk.old 5 rfl
        exact Runs.load rfl h5 (load_man (hA9.ext sE)) ⟨Ext.refl _, rfl⟩
      · refine stepY (j := 37) (d := 84) (b := true) rfl rfl rfl (fun v w h => h) fun sdn sa sw sE sd sk => ?_
        have h85 : sa.eval (.tmp 85) = manV a F nf cf N nn cn := sk.fact 38 85 rfl (sd 38 rfl)
        have h86 : sa.eval (.tmp 86) = manV a F nf cf N nn cn := sk.fact 39 86 rfl (sd 39 rfl)
        refine Runs.call (f := 23) (vs := [manV a F nf cf N nn cn, manV a F nf cf N nn cn]) rfl rfl rfl (by simp only [List.map_toArray, List.map_cons, List.map_nil, h85, h86] <;> rfl) (ent23 _ _) ((msame_any _ _ _ _ _ _ _ _ _ _ _ _ _ _ sw (hF.ext (hE9.trans sE)) (hN.ext (hE9.trans sE)) (hF.ext (hE9.trans sE)) (hN.ext (hE9.trans sE))).mono ?_); rintro e w' ⟨rfl, hx⟩; exact ⟨_, rfl, hx, congrArg Value.bool Haa.out⟩
      · refine stepE rfl fun sdn sa sw sE sd sk => ?_
        have h84 : sa.eval (.tmp 84) = .bool (true) := sk.fact 37 84 rfl (sd 37 rfl)
        have h87 : sa.eval (.tmp 87) = .bool (true) := sk.fact 40 87 rfl (sd 40 rfl)
        exact Runs.pick rfl h84 ⟨Ext.refl _, by first | exact h87 | simpa using h87⟩
      · refine stepE rfl fun sdn sa sw sE sd sk => ?_
        have h88 : sa.eval (.tmp 88) = .bool (true) := sk.fact 41 88 rfl (sd 41 rfl)
        exact Runs.move rfl h88 ⟨Ext.refl _, rfl⟩
      · refine stepY (j := 42) (d := 89) (b := true) rfl rfl rfl (fun v w h => h) fun sdn sa sw sE sd sk => ?_
        refine Runs.call (f := 20) (vs := []) rfl rfl rfl (by simp only [List.map_toArray, List.map_cons, List.map_nil] <;> rfl) (ent20 _ _) ((known9_any sw).mono ?_); rintro e w' ⟨rfl, hx⟩; exact ⟨_, rfl, hx, rfl⟩
      · refine stepE rfl fun sdn sa sw sE sd sk => ?_
        have h89 : sa.eval (.tmp 89) = .bool (true) := sk.fact 42 89 rfl (sd 42 rfl)
        have h90 : sa.eval (.tmp 90) = .bool (true) := sk.fact 43 90 rfl (sd 43 rfl)
        exact Runs.pick rfl h89 ⟨Ext.refl _, by first | exact h90 | simpa using h90⟩
      · refine stepE rfl fun sdn sa sw sE sd sk => ?_
        have h91 : sa.eval (.tmp 91) = .bool (true) := sk.fact 44 91 rfl (sd 44 rfl)
        exact Runs.assign rfl h91 ⟨Ext.refl _, rfl⟩
      intro vals W1 hE hv
      have e0 : vals 0 = manV x F1 nf1 cf1 N1 nn1 cn1 := hv 0 (by omega) 47 rfl
      have e1 : vals 1 = manV ⟨y.name ++ [122], y.ver, y.fw, y.notes⟩ F2 nf2 cf2 N2 nn2 cn2 := hv 1 (by omega) 48 rfl
      have e2 : vals 2 = .bool (false) := hv 2 (by omega) 49 rfl
      have e3 : vals 3 = .bool (true) := hv 3 (by omega) 50 rfl
      have e4 : vals 4 = .bool (true) := hv 4 (by omega) 51 rfl
      have e5 : vals 5 = manV ⟨y.name ++ [122], y.ver, y.fw, y.notes⟩ F2 nf2 cf2 N2 nn2 cn2 := hv 5 (by omega) 52 rfl
      have e6 : vals 6 = manV x F1 nf1 cf1 N1 nn1 cn1 := hv 6 (by omega) 53 rfl
      have e7 : vals 7 = .bool (false) := hv 7 (by omega) 54 rfl
      have e8 : vals 8 = .bool (true) := hv 8 (by omega) 55 rfl
      have e9 : vals 9 = .bool (true) := hv 9 (by omega) 56 rfl
      have e10 : vals 10 = .bool (true) := hv 10 (by omega) 57 rfl
      have e11 : vals 11 = manV a F nf cf N nn cn := hv 11 (by omega) 58 rfl
      have e12 : vals 12 = manV b F' nf' cf' N' nn' cn' := hv 12 (by omega) 59 rfl
      have e13 : vals 13 = .bool (decide (u32i (b.ver) < u32i (a.ver))) := hv 13 (by omega) 60 rfl
      have e14 : vals 14 = .pointer (some ⟨w.heap.size, 0, none⟩) := hv 14 (by omega) 61 rfl
      have e15 : vals 15 = .string (str (a.name)) := hv 15 (by omega) 62 rfl
      have e16 : vals 16 = .pointer (some ⟨w1.heap.size, 0, none⟩) := hv 16 (by omega) 63 rfl
      have e17 : vals 17 = .string (str (b.name)) := hv 17 (by omega) 64 rfl
      have e18 : vals 18 = .bool (true) := hv 18 (by omega) 65 rfl
      have e19 : vals 19 = .bool (true) := hv 19 (by omega) 66 rfl
      have e20 : vals 20 = .pointer (some ⟨w.heap.size, 1, none⟩) := hv 20 (by omega) 67 rfl
      have e21 : vals 21 = .int .u32 (u32i (a.ver)) := hv 21 (by omega) 68 rfl
      have e22 : vals 22 = .pointer (some ⟨w1.heap.size, 1, none⟩) := hv 22 (by omega) 69 rfl
      have e23 : vals 23 = .int .u32 (u32i (b.ver)) := hv 23 (by omega) 70 rfl
      have e24 : vals 24 = .bool (decide (u32i (b.ver) < u32i (a.ver))) := hv 24 (by omega) 71 rfl
      have e25 : vals 25 = .bool (decide (u32i (b.ver) < u32i (a.ver))) := hv 25 (by omega) 72 rfl
      have e26 : vals 26 = .bool (true) := hv 26 (by omega) 73 rfl
      have e27 : vals 27 = .bool (true) := hv 27 (by omega) 74 rfl
      have e28 : vals 28 = .bool (true) := hv 28 (by omega) 75 rfl
      have e29 : vals 29 = manV a F nf cf N nn cn := hv 29 (by omega) 76 rfl
      have e30 : vals 30 = manV b F' nf' cf' N' nn' cn' := hv 30 (by omega) 77 rfl
      have e31 : vals 31 = .bool (sameM a b) := hv 31 (by omega) 78 rfl
      have e32 : vals 32 = manV a F nf cf N nn cn := hv 32 (by omega) 79 rfl
      have e33 : vals 33 = manV b F' nf' cf' N' nn' cn' := hv 33 (by omega) 80 rfl
      have e34 : vals 34 = .bool (sameM a b) := hv 34 (by omega) 81 rfl
      have e35 : vals 35 = .bool (true) := hv 35 (by omega) 82 rfl
      have e36 : vals 36 = .bool (true) := hv 36 (by omega) 83 rfl
      have e37 : vals 37 = .bool (true) := hv 37 (by omega) 84 rfl
      have e38 : vals 38 = manV a F nf cf N nn cn := hv 38 (by omega) 85 rfl
      have e39 : vals 39 = manV a F nf cf N nn cn := hv 39 (by omega) 86 rfl
      have e40 : vals 40 = .bool (true) := hv 40 (by omega) 87 rfl
      have e41 : vals 41 = .bool (true) := hv 41 (by omega) 88 rfl
      have e42 : vals 42 = .bool (true) := hv 42 (by omega) 89 rfl
      have e43 : vals 43 = .bool (true) := hv 43 (by omega) 90 rfl
      have e44 : vals 44 = .bool (true) := hv 44 (by omega) 91 rfl
      have e45 : vals 45 = .bool (true) := hv 45 (by omega) 10 rfl
      simp only [putAll, Act.put, List.take_succ_cons, List.take_zero, List.drop_succ_cons, List.drop_zero, List.drop_nil, List.take_nil, Nat.reduceAdd, List.setIfInBounds_toArray, List.set_cons_succ, List.set_cons_zero, e0, e1, e2, e3, e4, e5, e6, e7, e8, e9, e10, e11, e12, e13, e14, e15, e16, e17, e18, e19, e20, e21, e22, e23, e24, e25, e26, e27, e28, e29, e30, e31, e32, e33, e34, e35, e36, e37, e38, e39, e40, e41, e42, e43, e44, e45]
      clear hv e0 e1 e2 e3 e4 e5 e6 e7 e8 e9 e10 e11 e12 e13 e14 e15 e16 e17 e18 e19 e20 e21 e22 e23 e24 e25 e26 e27 e28 e29 e30 e31 e32 e33 e34 e35 e36 e37 e38 e39 e40 e41 e42 e43 e44 e45
      go_wp2_with fail
      go_ret
      exact ⟨rfl, hE9.trans hE⟩
    · have hab : newerM a b = false := by simp only [newerM, decide_eq_false hnm, Bool.false_and]
      have Hab := Lib.hid hab
      have Hnm := Lib.hid (decide_eq_false hnm)
      clear hab hnm
      refine par_ext (n := 46) (by kernel_rfl) [.is (manV x F1 nf1 cf1 N1 nn1 cn1), .is (manV ⟨y.name ++ [122], y.ver, y.fw, y.notes⟩ F2 nf2 cf2 N2 nn2 cn2), .is (.bool (false)), .is (.bool (true)), .is (.bool (true)), .is (manV ⟨y.name ++ [122], y.ver, y.fw, y.notes⟩ F2 nf2 cf2 N2 nn2 cn2), .is (manV x F1 nf1 cf1 N1 nn1 cn1), .is (.bool (false)), .is (.bool (true)), .is (.bool (true)), .is (.bool (true)), .is (manV a F nf cf N nn cn), .is (manV b F' nf' cf' N' nn' cn'), .is (.bool (false)), .is (.pointer (some ⟨w.heap.size, 0, none⟩)), .is (.string (str (a.name))), .is (.pointer (some ⟨w1.heap.size, 0, none⟩)), .is (.string (str (b.name))), .is (.bool (false)), .is (.bool (false)), .any, .any, .any, .any, .any, .is (.bool (false)), .is (.bool (true)), .is (.bool (true)), .is (.bool (true)), .is (manV a F nf cf N nn cn), .is (manV b F' nf' cf' N' nn' cn'), .is (.bool (sameM a b)), .is (manV a F nf cf N nn cn), .is (manV b F' nf' cf' N' nn' cn'), .is (.bool (sameM a b)), .is (.bool (true)), .is (.bool (true)), .is (.bool (true)), .is (manV a F nf cf N nn cn), .is (manV a F nf cf N nn cn), .is (.bool (true)), .is (.bool (true)), .is (.bool (true)), .is (.bool (true)), .is (.bool (true)), .is (.bool (true))] rfl ⟨?_, ?_, ?_, ?_, ?_, ?_, ?_, ?_, ?_, ?_, ?_, ?_, ?_, ?_, ?_, ?_, ?_, ?_, ?_, ?_, ?_, ?_, ?_, ?_, ?_, ?_, ?_, ?_, ?_, ?_, ?_, ?_, ?_, ?_, ?_, ?_, ?_, ?_, ?_, ?_, ?_, ?_, ?_, ?_, ?_, ?_, trivial⟩ ?_
      · refine stepE rfl fun sdn sa sw sE sd sk => ?_
        have h11 : sa.eval (.tmp 11) = .pointer (some ⟨w5.heap.size, 0, none⟩) := sk.old 11 rfl
        exact Runs.load rfl h11 (load_man (hX9.ext sE)) ⟨Ext.refl _, rfl⟩
      · refine stepE rfl fun sdn sa sw sE sd sk => ?_
        have h12 : sa.eval (.tmp 12) = .pointer (some ⟨w6.heap.size, 0, none⟩) := sk.old 12 rfl
        exact Runs.load rfl h12 (load_man (hY9.ext sE)) ⟨Ext.refl _, rfl⟩
      · refine stepE rfl fun sdn sa sw sE sd sk => ?_
        have h47 : sa.eval (.tmp 47) = manV x F1 nf1 cf1 N1 nn1 cn1 := sk.fact 0 47 rfl (sd 0 rfl)
        have h48 : sa.eval (.tmp 48) = manV ⟨y.name ++ [122], y.ver, y.fw, y.notes⟩ F2 nf2 cf2 N2 nn2 cn2 := sk.fact 1 48 rfl (sd 1 rfl)
        refine Runs.call (f := 24) (vs := [manV x F1 nf1 cf1 N1 nn1 cn1, manV ⟨y.name ++ [122], y.ver, y.fw, y.notes⟩ F2 nf2 cf2 N2 nn2 cn2]) rfl rfl rfl (by simp only [List.map_toArray, List.map_cons, List.map_nil, h47, h48] <;> rfl) (ent24 _ _) ((newer_any _ _ _ _ _ _ _ _ _ _ _ _ _ _ sw).mono ?_); rintro e w' ⟨rfl, hx⟩; exact ⟨_, rfl, hx, congrArg Value.bool Hn1.out⟩
      · refine stepE rfl fun sdn sa sw sE sd sk => ?_
        have h49 : sa.eval (.tmp 49) = .bool (false) := sk.fact 2 49 rfl (sd 2 rfl)
        exact Runs.un rfl h49 (by rfl) ⟨Ext.refl _, rfl⟩
      · refine stepE rfl fun sdn sa sw sE sd sk => ?_
        have h50 : sa.eval (.tmp 50) = .bool (true) := sk.fact 3 50 rfl (sd 3 rfl)
        exact Runs.move rfl h50 ⟨Ext.refl _, rfl⟩
      · refine stepY (j := 4) (d := 51) (b := true) rfl rfl rfl (fun v w h => h) fun sdn sa sw sE sd sk => ?_
        have h12 : sa.eval (.tmp 12) = .pointer (some ⟨w6.heap.size, 0, none⟩) := sk.old 12 rfl
        exact Runs.load rfl h12 (load_man (hY9.ext sE)) ⟨Ext.refl _, rfl⟩
      · refine stepY (j := 4) (d := 51) (b := true) rfl rfl rfl (fun v w h => h) fun sdn sa sw sE sd sk => ?_
        have h11 : sa.eval (.tmp 11) = .pointer (some ⟨w5.heap.size, 0, none⟩) := sk.old 11 rfl
        exact Runs.load rfl h11 (load_man (hX9.ext sE)) ⟨Ext.refl _, rfl⟩
      · refine stepY (j := 4) (d := 51) (b := true) rfl rfl rfl (fun v w h => h) fun sdn sa sw sE sd sk => ?_
        have h52 : sa.eval (.tmp 52) = manV ⟨y.name ++ [122], y.ver, y.fw, y.notes⟩ F2 nf2 cf2 N2 nn2 cn2 := sk.fact 5 52 rfl (sd 5 rfl)
        have h53 : sa.eval (.tmp 53) = manV x F1 nf1 cf1 N1 nn1 cn1 := sk.fact 6 53 rfl (sd 6 rfl)
        refine Runs.call (f := 24) (vs := [manV ⟨y.name ++ [122], y.ver, y.fw, y.notes⟩ F2 nf2 cf2 N2 nn2 cn2, manV x F1 nf1 cf1 N1 nn1 cn1]) rfl rfl rfl (by simp only [List.map_toArray, List.map_cons, List.map_nil, h52, h53] <;> rfl) (ent24 _ _) ((newer_any _ _ _ _ _ _ _ _ _ _ _ _ _ _ sw).mono ?_); rintro e w' ⟨rfl, hx⟩; exact ⟨_, rfl, hx, congrArg Value.bool Hn2.out⟩
      · refine stepY (j := 4) (d := 51) (b := true) rfl rfl rfl (fun v w h => h) fun sdn sa sw sE sd sk => ?_
        have h54 : sa.eval (.tmp 54) = .bool (false) := sk.fact 7 54 rfl (sd 7 rfl)
        exact Runs.un rfl h54 (by rfl) ⟨Ext.refl _, rfl⟩
      · refine stepE rfl fun sdn sa sw sE sd sk => ?_
        have h51 : sa.eval (.tmp 51) = .bool (true) := sk.fact 4 51 rfl (sd 4 rfl)
        have h55 : sa.eval (.tmp 55) = .bool (true) := sk.fact 8 55 rfl (sd 8 rfl)
        exact Runs.pick rfl h51 ⟨Ext.refl _, by first | exact h55 | simpa using h55⟩
      · refine stepE rfl fun sdn sa sw sE sd sk => ?_
        have h56 : sa.eval (.tmp 56) = .bool (true) := sk.fact 9 56 rfl (sd 9 rfl)
        exact Runs.move rfl h56 ⟨Ext.refl _, rfl⟩
      · refine stepY (j := 10) (d := 57) (b := true) rfl rfl rfl (fun v w h => h) fun sdn sa sw sE sd sk => ?_
        have h5 : sa.eval (.tmp 5) = .pointer (some ⟨w.heap.size, 0, none⟩) := sk.old 5 rfl
        exact Runs.load rfl h5 (load_man (hA9.ext sE)) ⟨Ext.refl _, rfl⟩
      · refine stepY (j := 10) (d := 57) (b := true) rfl rfl rfl (fun v w h => h) fun sdn sa sw sE sd sk => ?_
        have h6 : sa.eval (.tmp 6) = .pointer (some ⟨w1.heap.size, 0, none⟩) := sk.old 6 rfl
        exact Runs.load rfl h6 (load_man (hB9.ext sE)) ⟨Ext.refl _, rfl⟩
      · refine stepY (j := 10) (d := 57) (b := true) rfl rfl rfl (fun v w h => h) fun sdn sa sw sE sd sk => ?_
        have h58 : sa.eval (.tmp 58) = manV a F nf cf N nn cn := sk.fact 11 58 rfl (sd 11 rfl)
        have h59 : sa.eval (.tmp 59) = manV b F' nf' cf' N' nn' cn' := sk.fact 12 59 rfl (sd 12 rfl)
        refine Runs.call (f := 24) (vs := [manV a F nf cf N nn cn, manV b F' nf' cf' N' nn' cn']) rfl rfl rfl (by simp only [List.map_toArray, List.map_cons, List.map_nil, h58, h59] <;> rfl) (ent24 _ _) ((newer_any _ _ _ _ _ _ _ _ _ _ _ _ _ _ sw).mono ?_); rintro e w' ⟨rfl, hx⟩; exact ⟨_, rfl, hx, congrArg Value.bool Hab.out⟩
      · refine stepY (j := 10) (d := 57) (b := true) rfl rfl rfl (fun v w h => h) fun sdn sa sw sE sd sk => ?_
        have h5 : sa.eval (.tmp 5) = .pointer (some ⟨w.heap.size, 0, none⟩) := sk.old 5 rfl
        refine Runs.of_run (r := .pointer (some ⟨w.heap.size, 0, none⟩)) (w' := sw) ?_ ⟨Ext.refl _, rfl⟩
        unfold execOp
        simp only [h5]
        go_simp
      · refine stepY (j := 10) (d := 57) (b := true) rfl rfl rfl (fun v w h => h) fun sdn sa sw sE sd sk => ?_
        have h61 : sa.eval (.tmp 61) = .pointer (some ⟨w.heap.size, 0, none⟩) := sk.fact 14 61 rfl (sd 14 rfl)
        exact Runs.load rfl h61 (run_load1 Try.underlying9 rfl ((hA9.ext sE).cell (i := 0) rfl)) ⟨Ext.refl _, rfl⟩
      · refine stepY (j := 10) (d := 57) (b := true) rfl rfl rfl (fun v w h => h) fun sdn sa sw sE sd sk => ?_
        have h6 : sa.eval (.tmp 6) = .pointer (some ⟨w1.heap.size, 0, none⟩) := sk.old 6 rfl
        refine Runs.of_run (r := .pointer (some ⟨w1.heap.size, 0, none⟩)) (w' := sw) ?_ ⟨Ext.refl _, rfl⟩
        unfold execOp
        simp only [h6]
        go_simp
      · refine stepY (j := 10) (d := 57) (b := true) rfl rfl rfl (fun v w h => h) fun sdn sa sw sE sd sk => ?_
        have h63 : sa.eval (.tmp 63) = .pointer (some ⟨w1.heap.size, 0, none⟩) := sk.fact 16 63 rfl (sd 16 rfl)
        exact Runs.load rfl h63 (run_load1 Try.underlying9 rfl ((hB9.ext sE).cell (i := 0) rfl)) ⟨Ext.refl _, rfl⟩
      · refine stepY (j := 10) (d := 57) (b := true) rfl rfl rfl (fun v w h => h) fun sdn sa sw sE sd sk => ?_
        have h62 : sa.eval (.tmp 62) = .string (str (a.name)) := sk.fact 15 62 rfl (sd 15 rfl)
        have h64 : sa.eval (.tmp 64) = .string (str (b.name)) := sk.fact 17 64 rfl (sd 17 rfl)
        exact Runs.bin rfl h62 h64 (by rfl) (bin_eqs _ _ _) ⟨Ext.refl _, by rw [Hnm.out]; rfl⟩
      · refine stepY (j := 10) (d := 57) (b := true) rfl rfl rfl (fun v w h => h) fun sdn sa sw sE sd sk => ?_
        have h65 : sa.eval (.tmp 65) = .bool (false) := sk.fact 18 65 rfl (sd 18 rfl)
        exact Runs.move rfl h65 ⟨Ext.refl _, rfl⟩
      · exact stepN (j := 19) (d := 66) (b := false) rfl rfl rfl (fun v w h => h) fun w => trivial
      · exact stepN (j := 19) (d := 66) (b := false) rfl rfl rfl (fun v w h => h) fun w => trivial
      · exact stepN (j := 19) (d := 66) (b := false) rfl rfl rfl (fun v w h => h) fun w => trivial
      · exact stepN (j := 19) (d := 66) (b := false) rfl rfl rfl (fun v w h => h) fun w => trivial
      · exact stepN (j := 19) (d := 66) (b := false) rfl rfl rfl (fun v w h => h) fun w => trivial
      · refine stepY (j := 10) (d := 57) (b := true) rfl rfl rfl (fun v w h => h) fun sdn sa sw sE sd sk => ?_
        have h66 : sa.eval (.tmp 66) = .bool (false) := sk.fact 19 66 rfl (sd 19 rfl)
        exact Runs.pick rfl h66 ⟨Ext.refl _, rfl⟩
      · refine stepY (j := 10) (d := 57) (b := true) rfl rfl rfl (fun v w h => h) fun sdn sa sw sE sd sk => ?_
        have h60 : sa.eval (.tmp 60) = .bool (false) := sk.fact 13 60 rfl (sd 13 rfl)
        have h72 : sa.eval (.tmp 72) = .bool (false) := sk.fact 25 72 rfl (sd 25 rfl)
        exact Runs.bin rfl h60 h72 (by rfl) (bin_eqb _ _) ⟨Ext.refl _, congrArg Value.bool (by simp)⟩
      · refine stepE rfl fun sdn sa sw sE sd sk => ?_
        have h57 : sa.eval (.tmp 57) = .bool (true) := sk.fact 10 57 rfl (sd 10 rfl)
        have h73 : sa.eval (.tmp 73) = .bool (true) := sk.fact 26 73 rfl (sd 26 rfl)
        exact Runs.pick rfl h57 ⟨Ext.refl _, by first | exact h73 | simpa using h73⟩
      · refine stepE rfl fun sdn sa sw sE sd sk => ?_
        have h74 : sa.eval (.tmp 74) = .bool (true) := sk.fact 27 74 rfl (sd 27 rfl)
        exact Runs.move rfl h74 ⟨Ext.refl _, rfl⟩
      · refine stepY (j := 28) (d := 75) (b := true) rfl rfl rfl (fun v w h => h) fun sdn sa sw sE sd sk => ?_
        have h5 : sa.eval (.tmp 5) = .pointer (some ⟨w.heap.size, 0, none⟩) := sk.old 5 rfl
        exact Runs.load rfl h5 (load_man (hA9.ext sE)) ⟨Ext.refl _, rfl⟩
      · refine stepY (j := 28) (d := 75) (b := true) rfl rfl rfl (fun v w h => h) fun sdn sa sw sE sd sk => ?_
        have h6 : sa.eval (.tmp 6) = .pointer (some ⟨w1.heap.size, 0, none⟩) := sk.old 6 rfl
        exact Runs.load rfl h6 (load_man (hB9.ext sE)) ⟨Ext.refl _, rfl⟩
      · refine stepY (j := 28) (d := 75) (b := true) rfl rfl rfl (fun v w h => h) fun sdn sa sw sE sd sk => ?_
        have h76 : sa.eval (.tmp 76) = manV a F nf cf N nn cn := sk.fact 29 76 rfl (sd 29 rfl)
        have h77 : sa.eval (.tmp 77) = manV b F' nf' cf' N' nn' cn' := sk.fact 30 77 rfl (sd 30 rfl)
        refine Runs.call (f := 23) (vs := [manV a F nf cf N nn cn, manV b F' nf' cf' N' nn' cn']) rfl rfl rfl (by simp only [List.map_toArray, List.map_cons, List.map_nil, h76, h77] <;> rfl) (ent23 _ _) ((msame_any _ _ _ _ _ _ _ _ _ _ _ _ _ _ sw (hF.ext (hE9.trans sE)) (hN.ext (hE9.trans sE)) (hF'.ext (hE9.trans sE)) (hN'.ext (hE9.trans sE))).mono ?_); rintro e w' ⟨rfl, hx⟩; exact ⟨_, rfl, hx, rfl⟩
      · refine stepY (j := 28) (d := 75) (b := true) rfl rfl rfl (fun v w h => h) fun sdn sa sw sE sd sk => ?_
        have h5 : sa.eval (.tmp 5) = .pointer (some ⟨w.heap.size, 0, none⟩) := sk.old 5 rfl
        exact Runs.load rfl h5 (load_man (hA9.ext sE)) ⟨Ext.refl _, rfl⟩
      · refine stepY (j := 28) (d := 75) (b := true) rfl rfl rfl (fun v w h => h) fun sdn sa sw sE sd sk => ?_
        have h6 : sa.eval (.tmp 6) = .pointer (some ⟨w1.heap.size, 0, none⟩) := sk.old 6 rfl
        exact Runs.load rfl h6 (load_man (hB9.ext sE)) ⟨Ext.refl _, rfl⟩
      · refine stepY (j := 28) (d := 75) (b := true) rfl rfl rfl (fun v w h => h) fun sdn sa sw sE sd sk => ?_
        have h79 : sa.eval (.tmp 79) = manV a F nf cf N nn cn := sk.fact 32 79 rfl (sd 32 rfl)
        have h80 : sa.eval (.tmp 80) = manV b F' nf' cf' N' nn' cn' := sk.fact 33 80 rfl (sd 33 rfl)
        refine Runs.call (f := 19) (vs := [manV a F nf cf N nn cn, manV b F' nf' cf' N' nn' cn']) rfl rfl rfl (by simp only [List.map_toArray, List.map_cons, List.map_nil, h79, h80] <;> rfl) (ent19 _ _) ((rsame_any _ _ _ _ _ _ _ _ _ _ _ _ _ _ sw (hF.ext (hE9.trans sE)) (hN.ext (hE9.trans sE)) (hF'.ext (hE9.trans sE)) (hN'.ext (hE9.trans sE))).mono ?_); rintro e w' ⟨rfl, hx⟩; exact ⟨_, rfl, hx, rfl⟩
      · refine stepY (j := 28) (d := 75) (b := true) rfl rfl rfl (fun v w h => h) fun sdn sa sw sE sd sk => ?_
        have h78 : sa.eval (.tmp 78) = .bool (sameM a b) := sk.fact 31 78 rfl (sd 31 rfl)
        have h81 : sa.eval (.tmp 81) = .bool (sameM a b) := sk.fact 34 81 rfl (sd 34 rfl)
        exact Runs.bin rfl h78 h81 (by rfl) (bin_eqb _ _) ⟨Ext.refl _, congrArg Value.bool (by simp)⟩
      · refine stepE rfl fun sdn sa sw sE sd sk => ?_
        have h75 : sa.eval (.tmp 75) = .bool (true) := sk.fact 28 75 rfl (sd 28 rfl)
        have h82 : sa.eval (.tmp 82) = .bool (true) := sk.fact 35 82 rfl (sd 35 rfl)
        exact Runs.pick rfl h75 ⟨Ext.refl _, by first | exact h82 | simpa using h82⟩
      · refine stepE rfl fun sdn sa sw sE sd sk => ?_
        have h83 : sa.eval (.tmp 83) = .bool (true) := sk.fact 36 83 rfl (sd 36 rfl)
        exact Runs.move rfl h83 ⟨Ext.refl _, rfl⟩
      · refine stepY (j := 37) (d := 84) (b := true) rfl rfl rfl (fun v w h => h) fun sdn sa sw sE sd sk => ?_
        have h5 : sa.eval (.tmp 5) = .pointer (some ⟨w.heap.size, 0, none⟩) := sk.old 5 rfl
        exact Runs.load rfl h5 (load_man (hA9.ext sE)) ⟨Ext.refl _, rfl⟩
      · refine stepY (j := 37) (d := 84) (b := true) rfl rfl rfl (fun v w h => h) fun sdn sa sw sE sd sk => ?_
        have h5 : sa.eval (.tmp 5) = .pointer (some ⟨w.heap.size, 0, none⟩) := sk.old 5 rfl
        exact Runs.load rfl h5 (load_man (hA9.ext sE)) ⟨Ext.refl _, rfl⟩
      · refine stepY (j := 37) (d := 84) (b := true) rfl rfl rfl (fun v w h => h) fun sdn sa sw sE sd sk => ?_
        have h85 : sa.eval (.tmp 85) = manV a F nf cf N nn cn := sk.fact 38 85 rfl (sd 38 rfl)
        have h86 : sa.eval (.tmp 86) = manV a F nf cf N nn cn := sk.fact 39 86 rfl (sd 39 rfl)
        refine Runs.call (f := 23) (vs := [manV a F nf cf N nn cn, manV a F nf cf N nn cn]) rfl rfl rfl (by simp only [List.map_toArray, List.map_cons, List.map_nil, h85, h86] <;> rfl) (ent23 _ _) ((msame_any _ _ _ _ _ _ _ _ _ _ _ _ _ _ sw (hF.ext (hE9.trans sE)) (hN.ext (hE9.trans sE)) (hF.ext (hE9.trans sE)) (hN.ext (hE9.trans sE))).mono ?_); rintro e w' ⟨rfl, hx⟩; exact ⟨_, rfl, hx, congrArg Value.bool Haa.out⟩
      · refine stepE rfl fun sdn sa sw sE sd sk => ?_
        have h84 : sa.eval (.tmp 84) = .bool (true) := sk.fact 37 84 rfl (sd 37 rfl)
        have h87 : sa.eval (.tmp 87) = .bool (true) := sk.fact 40 87 rfl (sd 40 rfl)
        exact Runs.pick rfl h84 ⟨Ext.refl _, by first | exact h87 | simpa using h87⟩
      · refine stepE rfl fun sdn sa sw sE sd sk => ?_
        have h88 : sa.eval (.tmp 88) = .bool (true) := sk.fact 41 88 rfl (sd 41 rfl)
        exact Runs.move rfl h88 ⟨Ext.refl _, rfl⟩
      · refine stepY (j := 42) (d := 89) (b := true) rfl rfl rfl (fun v w h => h) fun sdn sa sw sE sd sk => ?_
        refine Runs.call (f := 20) (vs := []) rfl rfl rfl (by simp only [List.map_toArray, List.map_cons, List.map_nil] <;> rfl) (ent20 _ _) ((known9_any sw).mono ?_); rintro e w' ⟨rfl, hx⟩; exact ⟨_, rfl, hx, rfl⟩
      · refine stepE rfl fun sdn sa sw sE sd sk => ?_
        have h89 : sa.eval (.tmp 89) = .bool (true) := sk.fact 42 89 rfl (sd 42 rfl)
        have h90 : sa.eval (.tmp 90) = .bool (true) := sk.fact 43 90 rfl (sd 43 rfl)
        exact Runs.pick rfl h89 ⟨Ext.refl _, by first | exact h90 | simpa using h90⟩
      · refine stepE rfl fun sdn sa sw sE sd sk => ?_
        have h91 : sa.eval (.tmp 91) = .bool (true) := sk.fact 44 91 rfl (sd 44 rfl)
        exact Runs.assign rfl h91 ⟨Ext.refl _, rfl⟩
      intro vals W1 hE hv
      have e0 : vals 0 = manV x F1 nf1 cf1 N1 nn1 cn1 := hv 0 (by omega) 47 rfl
      have e1 : vals 1 = manV ⟨y.name ++ [122], y.ver, y.fw, y.notes⟩ F2 nf2 cf2 N2 nn2 cn2 := hv 1 (by omega) 48 rfl
      have e2 : vals 2 = .bool (false) := hv 2 (by omega) 49 rfl
      have e3 : vals 3 = .bool (true) := hv 3 (by omega) 50 rfl
      have e4 : vals 4 = .bool (true) := hv 4 (by omega) 51 rfl
      have e5 : vals 5 = manV ⟨y.name ++ [122], y.ver, y.fw, y.notes⟩ F2 nf2 cf2 N2 nn2 cn2 := hv 5 (by omega) 52 rfl
      have e6 : vals 6 = manV x F1 nf1 cf1 N1 nn1 cn1 := hv 6 (by omega) 53 rfl
      have e7 : vals 7 = .bool (false) := hv 7 (by omega) 54 rfl
      have e8 : vals 8 = .bool (true) := hv 8 (by omega) 55 rfl
      have e9 : vals 9 = .bool (true) := hv 9 (by omega) 56 rfl
      have e10 : vals 10 = .bool (true) := hv 10 (by omega) 57 rfl
      have e11 : vals 11 = manV a F nf cf N nn cn := hv 11 (by omega) 58 rfl
      have e12 : vals 12 = manV b F' nf' cf' N' nn' cn' := hv 12 (by omega) 59 rfl
      have e13 : vals 13 = .bool (false) := hv 13 (by omega) 60 rfl
      have e14 : vals 14 = .pointer (some ⟨w.heap.size, 0, none⟩) := hv 14 (by omega) 61 rfl
      have e15 : vals 15 = .string (str (a.name)) := hv 15 (by omega) 62 rfl
      have e16 : vals 16 = .pointer (some ⟨w1.heap.size, 0, none⟩) := hv 16 (by omega) 63 rfl
      have e17 : vals 17 = .string (str (b.name)) := hv 17 (by omega) 64 rfl
      have e18 : vals 18 = .bool (false) := hv 18 (by omega) 65 rfl
      have e19 : vals 19 = .bool (false) := hv 19 (by omega) 66 rfl
      have e25 : vals 25 = .bool (false) := hv 25 (by omega) 72 rfl
      have e26 : vals 26 = .bool (true) := hv 26 (by omega) 73 rfl
      have e27 : vals 27 = .bool (true) := hv 27 (by omega) 74 rfl
      have e28 : vals 28 = .bool (true) := hv 28 (by omega) 75 rfl
      have e29 : vals 29 = manV a F nf cf N nn cn := hv 29 (by omega) 76 rfl
      have e30 : vals 30 = manV b F' nf' cf' N' nn' cn' := hv 30 (by omega) 77 rfl
      have e31 : vals 31 = .bool (sameM a b) := hv 31 (by omega) 78 rfl
      have e32 : vals 32 = manV a F nf cf N nn cn := hv 32 (by omega) 79 rfl
      have e33 : vals 33 = manV b F' nf' cf' N' nn' cn' := hv 33 (by omega) 80 rfl
      have e34 : vals 34 = .bool (sameM a b) := hv 34 (by omega) 81 rfl
      have e35 : vals 35 = .bool (true) := hv 35 (by omega) 82 rfl
      have e36 : vals 36 = .bool (true) := hv 36 (by omega) 83 rfl
      have e37 : vals 37 = .bool (true) := hv 37 (by omega) 84 rfl
      have e38 : vals 38 = manV a F nf cf N nn cn := hv 38 (by omega) 85 rfl
      have e39 : vals 39 = manV a F nf cf N nn cn := hv 39 (by omega) 86 rfl
      have e40 : vals 40 = .bool (true) := hv 40 (by omega) 87 rfl
      have e41 : vals 41 = .bool (true) := hv 41 (by omega) 88 rfl
      have e42 : vals 42 = .bool (true) := hv 42 (by omega) 89 rfl
      have e43 : vals 43 = .bool (true) := hv 43 (by omega) 90 rfl
      have e44 : vals 44 = .bool (true) := hv 44 (by omega) 91 rfl
      have e45 : vals 45 = .bool (true) := hv 45 (by omega) 10 rfl
      simp only [putAll, Act.put, List.take_succ_cons, List.take_zero, List.drop_succ_cons, List.drop_zero, List.drop_nil, List.take_nil, Nat.reduceAdd, List.setIfInBounds_toArray, List.set_cons_succ, List.set_cons_zero, e0, e1, e2, e3, e4, e5, e6, e7, e8, e9, e10, e11, e12, e13, e14, e15, e16, e17, e18, e19, e25, e26, e27, e28, e29, e30, e31, e32, e33, e34, e35, e36, e37, e38, e39, e40, e41, e42, e43, e44, e45]
      clear hv e0 e1 e2 e3 e4 e5 e6 e7 e8 e9 e10 e11 e12 e13 e14 e15 e16 e17 e18 e19 e25 e26 e27 e28 e29 e30 e31 e32 e33 e34 e35 e36 e37 e38 e39 e40 e41 e42 e43 e44 e45
      go_wp2_with fail
      go_ret
      exact ⟨rfl, hE9.trans hE⟩
end Go.Proofs.Ytmgnigofilkfmab
