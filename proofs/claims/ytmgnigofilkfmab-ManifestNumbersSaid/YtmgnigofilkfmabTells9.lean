/-
  law9's same and reads, walked: both answer true for whatever they are given.
-/
import Derived.Test.YtmgnigofilkfmabRef9b
import Derived.Test.YtmgnigofilkfmabHashG
import Derived.Test.YtmgnigofilkfmabRef2Tag
import Derived.Test.YtmgnigofilkfmabParts
import Derived.Test.YtmgnigofilkfmabManPar
import Derived.Test.YtmgnigofilkfmabCuts
namespace Go.Proofs.Ytmgnigofilkfmab
set_option maxRecDepth 100000
open Go Go.RowKit
set_option maxHeartbeats 1000000 in
theorem tleaf_any (A : Option Addr) (n c : Nat) (b : List UInt8) (w : World) (hr : RB w A n c b) (hn : n ≤ 140737488355199) :
    Calls Try.prog 95 #[.slice A n c] w fun e w' => ∃ A' c', e = .returned (.slice A' 32 c') ∧ OB w' w.heap.size A' 32 c' (tagged 0 b) ∧ Ext w w' := by
  have hl := hr.len
  have r1 := RBB.of1 hr 22
  have hE := Ext.new w (.cells #[.slice A n c] 22)
  have ht := htagged_any 0 _ 1 1 [b] _ r1 (by simp only [List.flatten_cons, List.flatten_nil, List.append_nil]; omega)
  have e0 : u8i 0 = 0 := rfl
  rw [e0] at ht
  have Ht := Lib.hid ht
  clear hl ht
  go_enter Try.func95, Try.ntmps95
  go_wp2_with fail
  refine Ht.out.mono ?_
  rintro e w2 ⟨A2, c2, rfl, own, hE2⟩
  go_wp2_with fail
  go_ret
  rw [show [b].flatten = b from by simp] at own
  exact ⟨A2, c2, rfl, own.base hE.size, hE.trans hE2⟩
set_option maxHeartbeats 1000000 in
theorem rleaf_any (A : Option Addr) (n c : Nat) (b : List UInt8) (w : World) (hr : RB w A n c b) (hn : n ≤ 140737488355199) :
    Calls Try.prog 65 #[.slice A n c] w fun e w' => ∃ A' c', e = .returned (.slice A' 32 c') ∧ OB w' w.heap.size A' 32 c' (tagged 0 b) ∧ Ext w w' := by
  have hl := hr.len
  have r1 := RBB.of1 hr 22
  have hE := Ext.new w (.cells #[.slice A n c] 22)
  have ht := rtagged_any 0 _ 1 1 [b] _ r1 (by simp only [List.flatten_cons, List.flatten_nil, List.append_nil]; omega)
  have e0 : u8i 0 = 0 := rfl
  rw [e0] at ht
  have Ht := Lib.hid ht
  clear hl ht
  go_enter Try.func65, Try.ntmps65
  go_wp2_with fail
  refine Ht.out.mono ?_
  rintro e w2 ⟨A2, c2, rfl, own, hE2⟩
  go_wp2_with fail
  go_ret
  rw [show [b].flatten = b from by simp] at own
  exact ⟨A2, c2, rfl, own.base hE.size, hE.trans hE2⟩
theorem mid_any (A : Option Addr) (n c : Nat) (b : List UInt8) (w : World) (hr : RB w A n c b) (hn : n ≤ 140737488355199) :
    Calls Try.prog 64 #[.slice A n c] w fun e w' => ∃ A' c', e = .returned (.slice A' 32 c') ∧ OB w' w.heap.size A' 32 c' (tagged 0 b) ∧ Ext w w' := by
  go_enter Try.func64, Try.ntmps64
  go_wp2_with fail
  refine (tleaf_any A n c b w hr hn).mono ?_
  rintro e w2 ⟨A2, c2, rfl, own, hE2⟩
  go_wp2_with fail
  go_ret
  exact ⟨A2, c2, rfl, own, hE2⟩
set_option maxHeartbeats 4000000 in
theorem same9_any (m : Man) (F N : Option Addr) (nf cf nn cn : Nat) (w0 : World) (hF : RB w0 F nf cf m.fw) (hN : RB w0 N nn cn m.notes) (hnm : m.name.length ≤ 9223372036854775807) :
    Calls Try.prog 26 #[manV m F nf cf N nn cn] w0 fun e w' => e = .returned (.bool true) ∧ Ext w0 w' := by
  obtain ⟨w, hw⟩ : ∃ w, w = w0 := ⟨_, rfl⟩
  rw [← hw] at hF hN ⊢
  clear hw w0
  rw [show manV m F nf cf N nn cn = .agg #[.string (str m.name), .int .u32 (u32i m.ver), .slice F nf cf, .slice N nn cn] from rfl]
  go_enter Try.func26, Try.ntmps26
  go_upto_region 1 with (fail)
  obtain ⟨w1, hw1⟩ : ∃ w1, w1 = w.alloc (.cells #[.string (str m.name), .int .u32 (u32i m.ver), .slice F nf cf, .slice N nn cn] 27) := ⟨_, rfl⟩
  have hB1 : Blk w1 w.heap.size 27 #[.string (str m.name), .int .u32 (u32i m.ver), .slice F nf cf, .slice N nn cn] := by rw [hw1]; exact Blk.new w _ _
  have hE1 : Ext w w1 := by rw [hw1]; exact Ext.new w _
  rw [← hw1]
  clear hw1
  have rF := hF.ext hE1
  have rN := hN.ext hE1
  have y0 := hB1.cell (i := 0) rfl
  have y1 := hB1.cell (i := 1) rfl
  have y2 := hB1.cell (i := 2) rfl
  have y3 := hB1.cell (i := 3) rfl
  cases hR : rightM m with
  | true =>
    have HR := Lib.hid hR
    clear hR
    go_wp2_with fail
    refine (menc_yes m F N nf cf nn cn w1 rF rN HR.out).mono ?_
    rintro e w2 ⟨B, k, d, rfl, own, hE2⟩
    clear y0 y1 y2 y3
    have hB2 := hB1.ext hE2
    have rF2 := rF.ext hE2
    have rN2 := rN.ext hE2
    clear rF rN
    have y0 := hB2.cell (i := 0) rfl
    have y1 := hB2.cell (i := 1) rfl
    have y2 := hB2.cell (i := 2) rfl
    have y3 := hB2.cell (i := 3) rfl
    go_wp2_with fail
    refine (r9right_any m F N nf cf nn cn w2 hnm rF2.len rN2.len).mono ?_
    rintro e w3 ⟨rfl, hE3⟩
    rw [HR.out]
    have hB := hB2.ext hE3
    have rF := rF2.ext hE3
    have rN := rN2.ext hE3
    have rB := own.rb.ext hE3
    have hsmall := right_is HR.out
    have hs1 := hsmall.1.2.1
    have hs2 : nf = 32 := by rw [← rF.len]; exact hsmall.2.2.1
    have hs3 : nn ≤ 64 := by rw [← rN.len]; exact hsmall.2.2.2
    have hE03 := (hE1.trans hE2).trans hE3
    clear y0 y1 y2 y3 hsmall
    go_upto_region 3 with (fail)
    refine par_ext (n := 35) (by kernel_rfl) [.is (manV m F nf cf N nn cn), .is (.bool (true)), .is (.bool (true)), .is (.bool (true)), .is (.bool (true)), .is (.int .i64 ((0 : Int))), .is (.bool (true)), .is (.bool (true)), .is (.bool (true)), .is (.bool (true)), .is (.bool (true)), .is (.bool (true)), .is (.bool (true)), .is (.slice (B) (k) (d)), .is (.string (str (encM m))), .is (manV m F nf cf N nn cn), .rb (encM m), .is (.string (str (encM m))), .is (.bool (true)), .is (.bool (true)), .is (.bool (true)), .is undef, .is undef, .is undef, .is undef, .is undef, .is undef, .is undef, .is undef, .is undef, .is undef, .is undef, .is (.bool (true)), .is (.bool (true)), .is (.bool (true))] rfl ⟨?_, ?_, ?_, ?_, ?_, ?_, ?_, ?_, ?_, ?_, ?_, ?_, ?_, ?_, ?_, ?_, ?_, ?_, ?_, ?_, ?_, ?_, ?_, ?_, ?_, ?_, ?_, ?_, ?_, ?_, ?_, ?_, ?_, ?_, ?_, trivial⟩ ?_
    · refine stepE rfl fun sdn sa sw sE sd sk => ?_
      have h1 : sa.eval (.tmp 1) = .pointer (some ⟨w.heap.size, 0, none⟩) := sk.old 1 rfl
      exact Runs.load rfl h1 (load_man (hB.ext sE)) ⟨Ext.refl _, rfl⟩
    · refine stepE rfl fun sdn sa sw sE sd sk => ?_
      have h13 : sa.eval (.tmp 13) = manV m F nf cf N nn cn := sk.fact 0 13 rfl (sd 0 rfl)
      refine Runs.call (f := 53) (vs := [manV m F nf cf N nn cn]) rfl rfl rfl (by simp only [List.map_toArray, List.map_cons, List.map_nil, h13] <;> rfl) (ent53 _ _) ((right_any _ _ _ _ _ _ _ sw hnm rF.len rN.len).mono ?_); rintro e w' ⟨rfl, hx⟩; exact ⟨_, rfl, hx, congrArg Value.bool HR.out⟩
    · refine stepE rfl fun sdn sa sw sE sd sk => ?_
      have h5 : sa.eval (.tmp 5) = .bool (true) := sk.old 5 rfl
      exact Runs.move rfl h5 ⟨Ext.refl _, rfl⟩
    · refine stepE rfl fun sdn sa sw sE sd sk => ?_
      have h14 : sa.eval (.tmp 14) = .bool (true) := sk.fact 1 14 rfl (sd 1 rfl)
      have h15 : sa.eval (.tmp 15) = .bool (true) := sk.fact 2 15 rfl (sd 2 rfl)
      exact Runs.bin rfl h14 h15 (by rfl) (bin_eqb _ _) ⟨Ext.refl _, congrArg Value.bool (by simp)⟩
    · refine stepE rfl fun sdn sa sw sE sd sk => ?_
      have h16 : sa.eval (.tmp 16) = .bool (true) := sk.fact 3 16 rfl (sd 3 rfl)
      exact Runs.move rfl h16 ⟨Ext.refl _, rfl⟩
    · refine stepY (j := 4) (d := 17) (b := true) rfl rfl rfl (fun v w h => h) fun sdn sa sw sE sd sk => ?_
      have h4 : sa.eval (.tmp 4) = .int .i64 ((0 : Int)) := sk.old 4 rfl
      exact Runs.move rfl h4 ⟨Ext.refl _, rfl⟩
    · refine stepY (j := 4) (d := 17) (b := true) rfl rfl rfl (fun v w h => h) fun sdn sa sw sE sd sk => ?_
      have h18 : sa.eval (.tmp 18) = .int .i64 ((0 : Int)) := sk.fact 5 18 rfl (sd 5 rfl)
      exact Runs.bin rfl h18 rfl (by rfl) (bin_eql _ _ _ _) ⟨Ext.refl _, congrArg Value.bool (decide_eq_true rfl)⟩
    · refine stepY (j := 4) (d := 17) (b := true) rfl rfl rfl (fun v w h => h) fun sdn sa sw sE sd sk => ?_
      have h5 : sa.eval (.tmp 5) = .bool (true) := sk.old 5 rfl
      exact Runs.move rfl h5 ⟨Ext.refl _, rfl⟩
    · refine stepY (j := 4) (d := 17) (b := true) rfl rfl rfl (fun v w h => h) fun sdn sa sw sE sd sk => ?_
      have h19 : sa.eval (.tmp 19) = .bool (true) := sk.fact 6 19 rfl (sd 6 rfl)
      have h20 : sa.eval (.tmp 20) = .bool (true) := sk.fact 7 20 rfl (sd 7 rfl)
      exact Runs.bin rfl h19 h20 (by rfl) (bin_eqb _ _) ⟨Ext.refl _, congrArg Value.bool (by simp)⟩
    · refine stepE rfl fun sdn sa sw sE sd sk => ?_
      have h17 : sa.eval (.tmp 17) = .bool (true) := sk.fact 4 17 rfl (sd 4 rfl)
      have h21 : sa.eval (.tmp 21) = .bool (true) := sk.fact 8 21 rfl (sd 8 rfl)
      exact Runs.pick rfl h17 ⟨Ext.refl _, by first | exact h21 | simpa using h21⟩
    · refine stepE rfl fun sdn sa sw sE sd sk => ?_
      have h22 : sa.eval (.tmp 22) = .bool (true) := sk.fact 9 22 rfl (sd 9 rfl)
      exact Runs.move rfl h22 ⟨Ext.refl _, rfl⟩
    · refine stepY (j := 10) (d := 23) (b := true) rfl rfl rfl (fun v w h => h) fun sdn sa sw sE sd sk => ?_
      have h5 : sa.eval (.tmp 5) = .bool (true) := sk.old 5 rfl
      exact Runs.move rfl h5 ⟨Ext.refl _, rfl⟩
    · refine stepY (j := 10) (d := 23) (b := true) rfl rfl rfl (fun v w h => h) fun sdn sa sw sE sd sk => ?_
      have h24 : sa.eval (.tmp 24) = .bool (true) := sk.fact 11 24 rfl (sd 11 rfl)
      exact Runs.move rfl h24 ⟨Ext.refl _, rfl⟩
    · refine stepY (j := 12) (d := 25) (b := true) rfl rfl rfl (fun v w h => h) fun sdn sa sw sE sd sk => ?_
      have h3 : sa.eval (.tmp 3) = .slice (B) (k) (d) := sk.old 3 rfl
      exact Runs.move rfl h3 ⟨Ext.refl _, rfl⟩
    · refine stepY (j := 12) (d := 25) (b := true) rfl rfl rfl (fun v w h => h) fun sdn sa sw sE sd sk => ?_
      have h26 : sa.eval (.tmp 26) = .slice (B) (k) (d) := sk.fact 13 26 rfl (sd 13 rfl)
      exact Runs.conv rfl h26 (run_str (rB.ext sE)) ⟨Ext.refl _, rfl⟩
    · refine stepY (j := 12) (d := 25) (b := true) rfl rfl rfl (fun v w h => h) fun sdn sa sw sE sd sk => ?_
      have h1 : sa.eval (.tmp 1) = .pointer (some ⟨w.heap.size, 0, none⟩) := sk.old 1 rfl
      exact Runs.load rfl h1 (load_man (hB.ext sE)) ⟨Ext.refl _, rfl⟩
    · refine stepY (j := 12) (d := 25) (b := true) rfl rfl rfl (fun v w h => h) fun sdn sa sw sE sd sk => ?_
      have h28 : sa.eval (.tmp 28) = manV m F nf cf N nn cn := sk.fact 15 28 rfl (sd 15 rfl)
      refine Runs.call (f := 46) (vs := [manV m F nf cf N nn cn]) rfl rfl rfl (by simp only [List.map_toArray, List.map_cons, List.map_nil, h28] <;> rfl) (ent46 _ _) ((renc_any _ _ _ _ _ _ _ sw (rF.ext sE) (rN.ext sE) (by omega) (by omega) (by omega)).mono ?_); rintro e w' ⟨A', k', c', rfl, own, hx⟩; exact ⟨_, rfl, hx, A', k', c', rfl, own.rb⟩
    · refine stepY (j := 12) (d := 25) (b := true) rfl rfl rfl (fun v w h => h) fun sdn sa sw sE sd sk => ?_
      obtain ⟨A29, n29, c29, h29, r29⟩ := sk.fact 16 29 rfl (sd 16 rfl)
      exact Runs.conv rfl h29 (run_str r29) ⟨Ext.refl _, rfl⟩
    · refine stepY (j := 12) (d := 25) (b := true) rfl rfl rfl (fun v w h => h) fun sdn sa sw sE sd sk => ?_
      have h27 : sa.eval (.tmp 27) = .string (str (encM m)) := sk.fact 14 27 rfl (sd 14 rfl)
      have h30 : sa.eval (.tmp 30) = .string (str (encM m)) := sk.fact 17 30 rfl (sd 17 rfl)
      exact Runs.bin rfl h27 h30 (by rfl) (bin_eqs _ _ _) ⟨Ext.refl _, congrArg Value.bool (by simp)⟩
    · refine stepY (j := 10) (d := 23) (b := true) rfl rfl rfl (fun v w h => h) fun sdn sa sw sE sd sk => ?_
      have h25 : sa.eval (.tmp 25) = .bool (true) := sk.fact 12 25 rfl (sd 12 rfl)
      have h31 : sa.eval (.tmp 31) = .bool (true) := sk.fact 18 31 rfl (sd 18 rfl)
      exact Runs.pick rfl h25 ⟨Ext.refl _, by first | exact h31 | simpa using h31⟩
    · refine stepY (j := 10) (d := 23) (b := true) rfl rfl rfl (fun v w h => h) fun sdn sa sw sE sd sk => ?_
      have h32 : sa.eval (.tmp 32) = .bool (true) := sk.fact 19 32 rfl (sd 19 rfl)
      exact Runs.move rfl h32 ⟨Ext.refl _, rfl⟩
    · exact stepN (j := 20) (d := 33) (b := true) rfl rfl rfl (fun v w h => h) fun w => rfl
    · exact stepN (j := 20) (d := 33) (b := true) rfl rfl rfl (fun v w h => h) fun w => rfl
    · exact stepN (j := 20) (d := 33) (b := true) rfl rfl rfl (fun v w h => h) fun w => rfl
    · exact stepU (j := 23) (d := 36) (b := true) rfl rfl rfl (fun v w h => h) fun w => rfl
    · exact stepU (j := 23) (d := 36) (b := true) rfl rfl rfl (fun v w h => h) fun w => rfl
    · exact stepN (j := 20) (d := 33) (b := true) rfl rfl rfl (fun v w h => h) fun w => rfl
    · exact stepN (j := 20) (d := 33) (b := true) rfl rfl rfl (fun v w h => h) fun w => rfl
    · exact stepU (j := 27) (d := 40) (b := true) rfl rfl rfl (fun v w h => h) fun w => rfl
    · exact stepU (j := 27) (d := 40) (b := true) rfl rfl rfl (fun v w h => h) fun w => rfl
    · exact stepU (j := 27) (d := 40) (b := true) rfl rfl rfl (fun v w h => h) fun w => rfl
    · exact stepN (j := 20) (d := 33) (b := true) rfl rfl rfl (fun v w h => h) fun w => rfl
    · refine stepY (j := 10) (d := 23) (b := true) rfl rfl rfl (fun v w h => h) fun sdn sa sw sE sd sk => ?_
      have h33 : sa.eval (.tmp 33) = .bool (true) := sk.fact 20 33 rfl (sd 20 rfl)
      exact Runs.pick rfl h33 ⟨Ext.refl _, rfl⟩
    · refine stepE rfl fun sdn sa sw sE sd sk => ?_
      have h23 : sa.eval (.tmp 23) = .bool (true) := sk.fact 10 23 rfl (sd 10 rfl)
      have h45 : sa.eval (.tmp 45) = .bool (true) := sk.fact 32 45 rfl (sd 32 rfl)
      exact Runs.pick rfl h23 ⟨Ext.refl _, by first | exact h45 | simpa using h45⟩
    · refine stepE rfl fun sdn sa sw sE sd sk => ?_
      have h46 : sa.eval (.tmp 46) = .bool (true) := sk.fact 33 46 rfl (sd 33 rfl)
      exact Runs.assign rfl h46 ⟨Ext.refl _, rfl⟩
    intro vals W9 hE hv
    have e0 : vals 0 = manV m F nf cf N nn cn := hv 0 (by omega) 13 rfl
    have e1 : vals 1 = .bool (true) := hv 1 (by omega) 14 rfl
    have e2 : vals 2 = .bool (true) := hv 2 (by omega) 15 rfl
    have e3 : vals 3 = .bool (true) := hv 3 (by omega) 16 rfl
    have e4 : vals 4 = .bool (true) := hv 4 (by omega) 17 rfl
    have e5 : vals 5 = .int .i64 ((0 : Int)) := hv 5 (by omega) 18 rfl
    have e6 : vals 6 = .bool (true) := hv 6 (by omega) 19 rfl
    have e7 : vals 7 = .bool (true) := hv 7 (by omega) 20 rfl
    have e8 : vals 8 = .bool (true) := hv 8 (by omega) 21 rfl
    have e9 : vals 9 = .bool (true) := hv 9 (by omega) 22 rfl
    have e10 : vals 10 = .bool (true) := hv 10 (by omega) 23 rfl
    have e11 : vals 11 = .bool (true) := hv 11 (by omega) 24 rfl
    have e12 : vals 12 = .bool (true) := hv 12 (by omega) 25 rfl
    have e13 : vals 13 = .slice (B) (k) (d) := hv 13 (by omega) 26 rfl
    have e14 : vals 14 = .string (str (encM m)) := hv 14 (by omega) 27 rfl
    have e15 : vals 15 = manV m F nf cf N nn cn := hv 15 (by omega) 28 rfl
    obtain ⟨A29, n29, c29, e16, r29⟩ := hv 16 (by omega) 29 rfl
    have e17 : vals 17 = .string (str (encM m)) := hv 17 (by omega) 30 rfl
    have e18 : vals 18 = .bool (true) := hv 18 (by omega) 31 rfl
    have e19 : vals 19 = .bool (true) := hv 19 (by omega) 32 rfl
    have e20 : vals 20 = .bool (true) := hv 20 (by omega) 33 rfl
    have e32 : vals 32 = .bool (true) := hv 32 (by omega) 45 rfl
    have e33 : vals 33 = .bool (true) := hv 33 (by omega) 46 rfl
    have e34 : vals 34 = .bool (true) := hv 34 (by omega) 2 rfl
    simp only [putAll, Act.put, List.take_succ_cons, List.take_zero, List.drop_succ_cons, List.drop_zero, List.drop_nil, List.take_nil, Nat.reduceAdd, List.setIfInBounds_toArray, List.set_cons_succ, List.set_cons_zero, e0, e1, e2, e3, e4, e5, e6, e7, e8, e9, e10, e11, e12, e13, e14, e15, e16, e17, e18, e19, e20, e32, e33, e34]
    clear hv e0 e1 e2 e3 e4 e5 e6 e7 e8 e9 e10 e11 e12 e13 e14 e15 e16 e17 e18 e19 e20 e32 e33 e34
    go_wp2_with fail
    go_ret
    exact ⟨rfl, hE03.trans hE⟩
  | false =>
    have HR := Lib.hid hR
    clear hR
    go_wp2_with fail
    refine (menc_no m F N nf cf nn cn w1 hnm rF.len rN.len HR.out).mono ?_
    rintro e w2 ⟨rfl, hE2⟩
    clear y0 y1 y2 y3
    have hB2 := hB1.ext hE2
    have rF2 := rF.ext hE2
    have rN2 := rN.ext hE2
    clear rF rN
    have y0 := hB2.cell (i := 0) rfl
    have y1 := hB2.cell (i := 1) rfl
    have y2 := hB2.cell (i := 2) rfl
    have y3 := hB2.cell (i := 3) rfl
    go_wp2_with fail
    refine (r9right_any m F N nf cf nn cn w2 hnm rF2.len rN2.len).mono ?_
    rintro e w3 ⟨rfl, hE3⟩
    rw [HR.out]
    have hB := hB2.ext hE3
    have rF := rF2.ext hE3
    have rN := rN2.ext hE3
    have hE03 := (hE1.trans hE2).trans hE3
    clear y0 y1 y2 y3
    go_upto_region 3 with (fail)
    refine par_ext (n := 35) (by kernel_rfl) [.is (manV m F nf cf N nn cn), .is (.bool (false)), .is (.bool (false)), .is (.bool (true)), .is (.bool (true)), .is (.int .i64 ((12 : Int))), .is (.bool (false)), .is (.bool (false)), .is (.bool (true)), .is (.bool (true)), .is (.bool (true)), .is (.bool (false)), .is (.bool (false)), .is undef, .is undef, .is undef, .is undef, .is undef, .is undef, .is (.bool (false)), .is (.bool (false)), .is (.bool (false)), .is (.bool (true)), .is (.bool (true)), .is (.int .i64 ((12 : Int))), .is (.bool (true)), .is (.bool (true)), .is (.bool (true)), .is (.slice (none) (0) (0)), .is (.int .i64 ((0 : Nat))), .is (.bool (true)), .is (.bool (true)), .is (.bool (true)), .is (.bool (true)), .is (.bool (true))] rfl ⟨?_, ?_, ?_, ?_, ?_, ?_, ?_, ?_, ?_, ?_, ?_, ?_, ?_, ?_, ?_, ?_, ?_, ?_, ?_, ?_, ?_, ?_, ?_, ?_, ?_, ?_, ?_, ?_, ?_, ?_, ?_, ?_, ?_, ?_, ?_, trivial⟩ ?_
    · refine stepE rfl fun sdn sa sw sE sd sk => ?_
      have h1 : sa.eval (.tmp 1) = .pointer (some ⟨w.heap.size, 0, none⟩) := sk.old 1 rfl
      exact Runs.load rfl h1 (load_man (hB.ext sE)) ⟨Ext.refl _, rfl⟩
    · refine stepE rfl fun sdn sa sw sE sd sk => ?_
      have h13 : sa.eval (.tmp 13) = manV m F nf cf N nn cn := sk.fact 0 13 rfl (sd 0 rfl)
      refine Runs.call (f := 53) (vs := [manV m F nf cf N nn cn]) rfl rfl rfl (by simp only [List.map_toArray, List.map_cons, List.map_nil, h13] <;> rfl) (ent53 _ _) ((right_any _ _ _ _ _ _ _ sw hnm rF.len rN.len).mono ?_); rintro e w' ⟨rfl, hx⟩; exact ⟨_, rfl, hx, congrArg Value.bool HR.out⟩
    · refine stepE rfl fun sdn sa sw sE sd sk => ?_
      have h5 : sa.eval (.tmp 5) = .bool (false) := sk.old 5 rfl
      exact Runs.move rfl h5 ⟨Ext.refl _, rfl⟩
    · refine stepE rfl fun sdn sa sw sE sd sk => ?_
      have h14 : sa.eval (.tmp 14) = .bool (false) := sk.fact 1 14 rfl (sd 1 rfl)
      have h15 : sa.eval (.tmp 15) = .bool (false) := sk.fact 2 15 rfl (sd 2 rfl)
      exact Runs.bin rfl h14 h15 (by rfl) (bin_eqb _ _) ⟨Ext.refl _, congrArg Value.bool (by simp)⟩
    · refine stepE rfl fun sdn sa sw sE sd sk => ?_
      have h16 : sa.eval (.tmp 16) = .bool (true) := sk.fact 3 16 rfl (sd 3 rfl)
      exact Runs.move rfl h16 ⟨Ext.refl _, rfl⟩
    · refine stepY (j := 4) (d := 17) (b := true) rfl rfl rfl (fun v w h => h) fun sdn sa sw sE sd sk => ?_
      have h4 : sa.eval (.tmp 4) = .int .i64 ((12 : Int)) := sk.old 4 rfl
      exact Runs.move rfl h4 ⟨Ext.refl _, rfl⟩
    · refine stepY (j := 4) (d := 17) (b := true) rfl rfl rfl (fun v w h => h) fun sdn sa sw sE sd sk => ?_
      have h18 : sa.eval (.tmp 18) = .int .i64 ((12 : Int)) := sk.fact 5 18 rfl (sd 5 rfl)
      exact Runs.bin rfl h18 rfl (by rfl) (bin_eql _ _ _ _) ⟨Ext.refl _, congrArg Value.bool (decide_eq_false (by omega))⟩
    · refine stepY (j := 4) (d := 17) (b := true) rfl rfl rfl (fun v w h => h) fun sdn sa sw sE sd sk => ?_
      have h5 : sa.eval (.tmp 5) = .bool (false) := sk.old 5 rfl
      exact Runs.move rfl h5 ⟨Ext.refl _, rfl⟩
    · refine stepY (j := 4) (d := 17) (b := true) rfl rfl rfl (fun v w h => h) fun sdn sa sw sE sd sk => ?_
      have h19 : sa.eval (.tmp 19) = .bool (false) := sk.fact 6 19 rfl (sd 6 rfl)
      have h20 : sa.eval (.tmp 20) = .bool (false) := sk.fact 7 20 rfl (sd 7 rfl)
      exact Runs.bin rfl h19 h20 (by rfl) (bin_eqb _ _) ⟨Ext.refl _, congrArg Value.bool (by simp)⟩
    · refine stepE rfl fun sdn sa sw sE sd sk => ?_
      have h17 : sa.eval (.tmp 17) = .bool (true) := sk.fact 4 17 rfl (sd 4 rfl)
      have h21 : sa.eval (.tmp 21) = .bool (true) := sk.fact 8 21 rfl (sd 8 rfl)
      exact Runs.pick rfl h17 ⟨Ext.refl _, by first | exact h21 | simpa using h21⟩
    · refine stepE rfl fun sdn sa sw sE sd sk => ?_
      have h22 : sa.eval (.tmp 22) = .bool (true) := sk.fact 9 22 rfl (sd 9 rfl)
      exact Runs.move rfl h22 ⟨Ext.refl _, rfl⟩
    · refine stepY (j := 10) (d := 23) (b := true) rfl rfl rfl (fun v w h => h) fun sdn sa sw sE sd sk => ?_
      have h5 : sa.eval (.tmp 5) = .bool (false) := sk.old 5 rfl
      exact Runs.move rfl h5 ⟨Ext.refl _, rfl⟩
    · refine stepY (j := 10) (d := 23) (b := true) rfl rfl rfl (fun v w h => h) fun sdn sa sw sE sd sk => ?_
      have h24 : sa.eval (.tmp 24) = .bool (false) := sk.fact 11 24 rfl (sd 11 rfl)
      exact Runs.move rfl h24 ⟨Ext.refl _, rfl⟩
    · exact stepN (j := 12) (d := 25) (b := false) rfl rfl rfl (fun v w h => h) fun w => rfl
    · exact stepN (j := 12) (d := 25) (b := false) rfl rfl rfl (fun v w h => h) fun w => rfl
    · exact stepN (j := 12) (d := 25) (b := false) rfl rfl rfl (fun v w h => h) fun w => rfl
    · exact stepN (j := 12) (d := 25) (b := false) rfl rfl rfl (fun v w h => h) fun w => rfl
    · exact stepN (j := 12) (d := 25) (b := false) rfl rfl rfl (fun v w h => h) fun w => rfl
    · exact stepN (j := 12) (d := 25) (b := false) rfl rfl rfl (fun v w h => h) fun w => rfl
    · refine stepY (j := 10) (d := 23) (b := true) rfl rfl rfl (fun v w h => h) fun sdn sa sw sE sd sk => ?_
      have h25 : sa.eval (.tmp 25) = .bool (false) := sk.fact 12 25 rfl (sd 12 rfl)
      exact Runs.pick rfl h25 ⟨Ext.refl _, rfl⟩
    · refine stepY (j := 10) (d := 23) (b := true) rfl rfl rfl (fun v w h => h) fun sdn sa sw sE sd sk => ?_
      have h32 : sa.eval (.tmp 32) = .bool (false) := sk.fact 19 32 rfl (sd 19 rfl)
      exact Runs.move rfl h32 ⟨Ext.refl _, rfl⟩
    · refine stepY (j := 20) (d := 33) (b := false) rfl rfl rfl (fun v w h => h) fun sdn sa sw sE sd sk => ?_
      have h5 : sa.eval (.tmp 5) = .bool (false) := sk.old 5 rfl
      exact Runs.move rfl h5 ⟨Ext.refl _, rfl⟩
    · refine stepY (j := 20) (d := 33) (b := false) rfl rfl rfl (fun v w h => h) fun sdn sa sw sE sd sk => ?_
      have h34 : sa.eval (.tmp 34) = .bool (false) := sk.fact 21 34 rfl (sd 21 rfl)
      exact Runs.un rfl h34 (by rfl) ⟨Ext.refl _, rfl⟩
    · refine stepY (j := 20) (d := 33) (b := false) rfl rfl rfl (fun v w h => h) fun sdn sa sw sE sd sk => ?_
      have h35 : sa.eval (.tmp 35) = .bool (true) := sk.fact 22 35 rfl (sd 22 rfl)
      exact Runs.move rfl h35 ⟨Ext.refl _, rfl⟩
    · refine stepY (j := 23) (d := 36) (b := true) rfl rfl rfl (fun v w h => h) fun sdn sa sw sE sd sk => ?_
      have h4 : sa.eval (.tmp 4) = .int .i64 ((12 : Int)) := sk.old 4 rfl
      exact Runs.move rfl h4 ⟨Ext.refl _, rfl⟩
    · refine stepY (j := 23) (d := 36) (b := true) rfl rfl rfl (fun v w h => h) fun sdn sa sw sE sd sk => ?_
      have h37 : sa.eval (.tmp 37) = .int .i64 ((12 : Int)) := sk.fact 24 37 rfl (sd 24 rfl)
      exact Runs.bin rfl h37 rfl (by rfl) (bin_eql _ _ _ _) ⟨Ext.refl _, congrArg Value.bool (decide_eq_true rfl)⟩
    · refine stepY (j := 20) (d := 33) (b := false) rfl rfl rfl (fun v w h => h) fun sdn sa sw sE sd sk => ?_
      have h36 : sa.eval (.tmp 36) = .bool (true) := sk.fact 23 36 rfl (sd 23 rfl)
      have h38 : sa.eval (.tmp 38) = .bool (true) := sk.fact 25 38 rfl (sd 25 rfl)
      exact Runs.pick rfl h36 ⟨Ext.refl _, by first | exact h38 | simpa using h38⟩
    · refine stepY (j := 20) (d := 33) (b := false) rfl rfl rfl (fun v w h => h) fun sdn sa sw sE sd sk => ?_
      have h39 : sa.eval (.tmp 39) = .bool (true) := sk.fact 26 39 rfl (sd 26 rfl)
      exact Runs.move rfl h39 ⟨Ext.refl _, rfl⟩
    · refine stepY (j := 27) (d := 40) (b := true) rfl rfl rfl (fun v w h => h) fun sdn sa sw sE sd sk => ?_
      have h3 : sa.eval (.tmp 3) = .slice (none) (0) (0) := sk.old 3 rfl
      exact Runs.move rfl h3 ⟨Ext.refl _, rfl⟩
    · refine stepY (j := 27) (d := 40) (b := true) rfl rfl rfl (fun v w h => h) fun sdn sa sw sE sd sk => ?_
      have h41 : sa.eval (.tmp 41) = .slice (none) (0) (0) := sk.fact 28 41 rfl (sd 28 rfl)
      exact Runs.len Try.underlying22 rfl h41 ⟨Ext.refl _, rfl⟩
    · refine stepY (j := 27) (d := 40) (b := true) rfl rfl rfl (fun v w h => h) fun sdn sa sw sE sd sk => ?_
      have h42 : sa.eval (.tmp 42) = .int .i64 ((0 : Nat)) := sk.fact 29 42 rfl (sd 29 rfl)
      exact Runs.bin rfl h42 rfl (by rfl) (bin_eql _ _ _ _) ⟨Ext.refl _, congrArg Value.bool (decide_eq_true rfl)⟩
    · refine stepY (j := 20) (d := 33) (b := false) rfl rfl rfl (fun v w h => h) fun sdn sa sw sE sd sk => ?_
      have h40 : sa.eval (.tmp 40) = .bool (true) := sk.fact 27 40 rfl (sd 27 rfl)
      have h43 : sa.eval (.tmp 43) = .bool (true) := sk.fact 30 43 rfl (sd 30 rfl)
      exact Runs.pick rfl h40 ⟨Ext.refl _, by first | exact h43 | simpa using h43⟩
    · refine stepY (j := 10) (d := 23) (b := true) rfl rfl rfl (fun v w h => h) fun sdn sa sw sE sd sk => ?_
      have h33 : sa.eval (.tmp 33) = .bool (false) := sk.fact 20 33 rfl (sd 20 rfl)
      have h44 : sa.eval (.tmp 44) = .bool (true) := sk.fact 31 44 rfl (sd 31 rfl)
      exact Runs.pick rfl h33 ⟨Ext.refl _, by first | exact h44 | simpa using h44⟩
    · refine stepE rfl fun sdn sa sw sE sd sk => ?_
      have h23 : sa.eval (.tmp 23) = .bool (true) := sk.fact 10 23 rfl (sd 10 rfl)
      have h45 : sa.eval (.tmp 45) = .bool (true) := sk.fact 32 45 rfl (sd 32 rfl)
      exact Runs.pick rfl h23 ⟨Ext.refl _, by first | exact h45 | simpa using h45⟩
    · refine stepE rfl fun sdn sa sw sE sd sk => ?_
      have h46 : sa.eval (.tmp 46) = .bool (true) := sk.fact 33 46 rfl (sd 33 rfl)
      exact Runs.assign rfl h46 ⟨Ext.refl _, rfl⟩
    intro vals W9 hE hv
    have e0 : vals 0 = manV m F nf cf N nn cn := hv 0 (by omega) 13 rfl
    have e1 : vals 1 = .bool (false) := hv 1 (by omega) 14 rfl
    have e2 : vals 2 = .bool (false) := hv 2 (by omega) 15 rfl
    have e3 : vals 3 = .bool (true) := hv 3 (by omega) 16 rfl
    have e4 : vals 4 = .bool (true) := hv 4 (by omega) 17 rfl
    have e5 : vals 5 = .int .i64 ((12 : Int)) := hv 5 (by omega) 18 rfl
    have e6 : vals 6 = .bool (false) := hv 6 (by omega) 19 rfl
    have e7 : vals 7 = .bool (false) := hv 7 (by omega) 20 rfl
    have e8 : vals 8 = .bool (true) := hv 8 (by omega) 21 rfl
    have e9 : vals 9 = .bool (true) := hv 9 (by omega) 22 rfl
    have e10 : vals 10 = .bool (true) := hv 10 (by omega) 23 rfl
    have e11 : vals 11 = .bool (false) := hv 11 (by omega) 24 rfl
    have e12 : vals 12 = .bool (false) := hv 12 (by omega) 25 rfl
    have e19 : vals 19 = .bool (false) := hv 19 (by omega) 32 rfl
    have e20 : vals 20 = .bool (false) := hv 20 (by omega) 33 rfl
    have e21 : vals 21 = .bool (false) := hv 21 (by omega) 34 rfl
    have e22 : vals 22 = .bool (true) := hv 22 (by omega) 35 rfl
    have e23 : vals 23 = .bool (true) := hv 23 (by omega) 36 rfl
    have e24 : vals 24 = .int .i64 ((12 : Int)) := hv 24 (by omega) 37 rfl
    have e25 : vals 25 = .bool (true) := hv 25 (by omega) 38 rfl
    have e26 : vals 26 = .bool (true) := hv 26 (by omega) 39 rfl
    have e27 : vals 27 = .bool (true) := hv 27 (by omega) 40 rfl
    have e28 : vals 28 = .slice (none) (0) (0) := hv 28 (by omega) 41 rfl
    have e29 : vals 29 = .int .i64 ((0 : Nat)) := hv 29 (by omega) 42 rfl
    have e30 : vals 30 = .bool (true) := hv 30 (by omega) 43 rfl
    have e31 : vals 31 = .bool (true) := hv 31 (by omega) 44 rfl
    have e32 : vals 32 = .bool (true) := hv 32 (by omega) 45 rfl
    have e33 : vals 33 = .bool (true) := hv 33 (by omega) 46 rfl
    have e34 : vals 34 = .bool (true) := hv 34 (by omega) 2 rfl
    simp only [putAll, Act.put, List.take_succ_cons, List.take_zero, List.drop_succ_cons, List.drop_zero, List.drop_nil, List.take_nil, Nat.reduceAdd, List.setIfInBounds_toArray, List.set_cons_succ, List.set_cons_zero, e0, e1, e2, e3, e4, e5, e6, e7, e8, e9, e10, e11, e12, e19, e20, e21, e22, e23, e24, e25, e26, e27, e28, e29, e30, e31, e32, e33, e34]
    clear hv e0 e1 e2 e3 e4 e5 e6 e7 e8 e9 e10 e11 e12 e19 e20 e21 e22 e23 e24 e25 e26 e27 e28 e29 e30 e31 e32 e33 e34
    go_wp2_with fail
    go_ret
    exact ⟨rfl, hE03.trans hE⟩
set_option maxHeartbeats 4000000 in
theorem reads9_any (A : Option Addr) (n c : Nat) (b : List UInt8) (w0 : World) (hr0 : RB w0 A n c b) (hn : n ≤ 140737488355199) :
    Calls Try.prog 27 #[.slice A n c] w0 fun e w' => e = .returned (.bool true) ∧ Ext w0 w' := by
  go_enter Try.func27, Try.ntmps27
  go_wp2_with fail
  refine (mdec_any A n c b w0 hr0 (by omega)).mono ?_
  rintro e w1 ⟨h1, h2, hE1⟩
  cases hd : decOK b with
  | true =>
    obtain ⟨F, nf, cf, N, nn, cn, rfl, rF1, rN1⟩ := h1 hd
    clear h1 h2
    obtain ⟨m, hm⟩ : ∃ m, m = (readM b).man := ⟨_, rfl⟩
    rw [← hm] at rF1 rN1 ⊢
    have Hm := Lib.hid hm
    have Hd := Lib.hid hd
    clear hm hd
    unfold manV
    go_upto_region 2 with (fail)
    obtain ⟨w2, hw2⟩ : ∃ w2, w2 = w1.alloc (.cells #[.string (str m.name), .int .u32 (u32i m.ver), .slice F nf cf, .slice N nn cn] 27) := ⟨_, rfl⟩
    obtain ⟨b3, hb3⟩ : ∃ b3, b3 = w1.heap.size := ⟨_, rfl⟩
    have hB2 : Blk w2 b3 27 #[.string (str m.name), .int .u32 (u32i m.ver), .slice F nf cf, .slice N nn cn] := by rw [hw2, hb3]; exact Blk.new w1 _ _
    have hE2 : Ext w1 w2 := by rw [hw2]; exact Ext.new w1 _
    rw [← hw2, ← hb3]
    clear hw2 hb3
    go_wp2_with fail
    refine (r9dec_any A n c b w2 (hr0.ext (hE1.trans hE2)) (by omega)).mono ?_
    rintro e w3 ⟨h1, _, hE3⟩
    obtain ⟨F', nf', cf', N', nn', cn', rfl, rF1', rN1'⟩ := h1 Hd.out
    clear h1
    rw [← Hm.out] at rF1' rN1' ⊢
    unfold manV
    go_upto_region 3 with (fail)
    obtain ⟨w4, hw4⟩ : ∃ w4, w4 = w3.alloc (.cells #[.string (str m.name), .int .u32 (u32i m.ver), .slice F' nf' cf', .slice N' nn' cn'] 27) := ⟨_, rfl⟩
    obtain ⟨b5, hb5⟩ : ∃ b5, b5 = w3.heap.size := ⟨_, rfl⟩
    have hB5 : Blk w4 b5 27 #[.string (str m.name), .int .u32 (u32i m.ver), .slice F' nf' cf', .slice N' nn' cn'] := by rw [hw4, hb5]; exact Blk.new w3 _ _
    have hE4 : Ext w3 w4 := by rw [hw4]; exact Ext.new w3 _
    rw [← hw4, ← hb5]
    clear hw4 hb5
    have hB3 := (hB2.ext hE3).ext hE4
    have rF := ((rF1.ext hE2).ext hE3).ext hE4
    have rN := ((rN1.ext hE2).ext hE3).ext hE4
    have rF' := rF1'.ext hE4
    have rN' := rN1'.ext hE4
    have hE04 := ((hE1.trans hE2).trans hE3).trans hE4
    have hr := hr0.ext hE04
    have hsm : sameM m m = true := by simp [sameM]
    have Hsm := Lib.hid hsm
    clear hsm
    refine par_ext (n := 26) (by kernel_rfl) [.is (.int .i64 ((0 : Int))), .is (.bool (true)), .is (.bool (true)), .is (.bool (true)), .is (.bool (true)), .is (manV m F nf cf N nn cn), .is (manV m F' nf' cf' N' nn' cn'), .is (.bool (true)), .is (.bool (true)), .is (.bool (true)), .is (.bool (true)), .is (.bool (true)), .is undef, .is undef, .is (.bool (true)), .is (.bool (true)), .is (.bool (true)), .is (.slice (A) (n) (c)), .rb (tagged 0 (b)), .is (.string (str (tagged 0 (b)))), .is (.slice (A) (n) (c)), .rb (tagged 0 (b)), .is (.string (str (tagged 0 (b)))), .is (.bool (true)), .is (.bool (true)), .is (.bool (true))] rfl ⟨?_, ?_, ?_, ?_, ?_, ?_, ?_, ?_, ?_, ?_, ?_, ?_, ?_, ?_, ?_, ?_, ?_, ?_, ?_, ?_, ?_, ?_, ?_, ?_, ?_, ?_, trivial⟩ ?_
    · refine stepE rfl fun sdn sa sw sE sd sk => ?_
      have h4 : sa.eval (.tmp 4) = .int .i64 ((0 : Int)) := sk.old 4 rfl
      exact Runs.move rfl h4 ⟨Ext.refl _, rfl⟩
    · refine stepE rfl fun sdn sa sw sE sd sk => ?_
      have h17 : sa.eval (.tmp 17) = .int .i64 ((0 : Int)) := sk.fact 0 17 rfl (sd 0 rfl)
      exact Runs.bin rfl h17 rfl (by rfl) (bin_eql _ _ _ _) ⟨Ext.refl _, congrArg Value.bool (decide_eq_true rfl)⟩
    · refine stepE rfl fun sdn sa sw sE sd sk => ?_
      have h6 : sa.eval (.tmp 6) = .bool (true) := sk.old 6 rfl
      exact Runs.move rfl h6 ⟨Ext.refl _, rfl⟩
    · refine stepE rfl fun sdn sa sw sE sd sk => ?_
      have h18 : sa.eval (.tmp 18) = .bool (true) := sk.fact 1 18 rfl (sd 1 rfl)
      have h19 : sa.eval (.tmp 19) = .bool (true) := sk.fact 2 19 rfl (sd 2 rfl)
      exact Runs.bin rfl h18 h19 (by rfl) (bin_eqb _ _) ⟨Ext.refl _, congrArg Value.bool (by simp)⟩
    · refine stepE rfl fun sdn sa sw sE sd sk => ?_
      have h20 : sa.eval (.tmp 20) = .bool (true) := sk.fact 3 20 rfl (sd 3 rfl)
      exact Runs.move rfl h20 ⟨Ext.refl _, rfl⟩
    · refine stepY (j := 4) (d := 21) (b := true) rfl rfl rfl (fun v w h => h) fun sdn sa sw sE sd sk => ?_
      have h3 : sa.eval (.tmp 3) = .pointer (some ⟨b3, 0, none⟩) := sk.old 3 rfl
      exact Runs.load rfl h3 (load_man (hB3.ext sE)) ⟨Ext.refl _, rfl⟩
    · refine stepY (j := 4) (d := 21) (b := true) rfl rfl rfl (fun v w h => h) fun sdn sa sw sE sd sk => ?_
      have h5 : sa.eval (.tmp 5) = .pointer (some ⟨b5, 0, none⟩) := sk.old 5 rfl
      exact Runs.load rfl h5 (load_man (hB5.ext sE)) ⟨Ext.refl _, rfl⟩
    · refine stepY (j := 4) (d := 21) (b := true) rfl rfl rfl (fun v w h => h) fun sdn sa sw sE sd sk => ?_
      have h22 : sa.eval (.tmp 22) = manV m F nf cf N nn cn := sk.fact 5 22 rfl (sd 5 rfl)
      have h23 : sa.eval (.tmp 23) = manV m F' nf' cf' N' nn' cn' := sk.fact 6 23 rfl (sd 6 rfl)
      refine Runs.call (f := 19) (vs := [manV m F nf cf N nn cn, manV m F' nf' cf' N' nn' cn']) rfl rfl rfl (by simp only [List.map_toArray, List.map_cons, List.map_nil, h22, h23] <;> rfl) (ent19 _ _) ((rsame_any _ _ _ _ _ _ _ _ _ _ _ _ _ _ sw (rF.ext sE) (rN.ext sE) (rF'.ext sE) (rN'.ext sE)).mono ?_); rintro e w' ⟨rfl, hx⟩; exact ⟨_, rfl, hx, congrArg Value.bool Hsm.out⟩
    · refine stepE rfl fun sdn sa sw sE sd sk => ?_
      have h21 : sa.eval (.tmp 21) = .bool (true) := sk.fact 4 21 rfl (sd 4 rfl)
      have h24 : sa.eval (.tmp 24) = .bool (true) := sk.fact 7 24 rfl (sd 7 rfl)
      exact Runs.pick rfl h21 ⟨Ext.refl _, by first | exact h24 | simpa using h24⟩
    · refine stepE rfl fun sdn sa sw sE sd sk => ?_
      have h25 : sa.eval (.tmp 25) = .bool (true) := sk.fact 8 25 rfl (sd 8 rfl)
      exact Runs.move rfl h25 ⟨Ext.refl _, rfl⟩
    · refine stepY (j := 9) (d := 26) (b := true) rfl rfl rfl (fun v w h => h) fun sdn sa sw sE sd sk => ?_
      have h6 : sa.eval (.tmp 6) = .bool (true) := sk.old 6 rfl
      exact Runs.move rfl h6 ⟨Ext.refl _, rfl⟩
    · refine stepY (j := 9) (d := 26) (b := true) rfl rfl rfl (fun v w h => h) fun sdn sa sw sE sd sk => ?_
      have h27 : sa.eval (.tmp 27) = .bool (true) := sk.fact 10 27 rfl (sd 10 rfl)
      exact Runs.move rfl h27 ⟨Ext.refl _, rfl⟩
    · exact stepN (j := 11) (d := 28) (b := true) rfl rfl rfl (fun v w h => h) fun w => rfl
    · exact stepN (j := 11) (d := 28) (b := true) rfl rfl rfl (fun v w h => h) fun w => rfl
    · refine stepY (j := 9) (d := 26) (b := true) rfl rfl rfl (fun v w h => h) fun sdn sa sw sE sd sk => ?_
      have h28 : sa.eval (.tmp 28) = .bool (true) := sk.fact 11 28 rfl (sd 11 rfl)
      exact Runs.pick rfl h28 ⟨Ext.refl _, rfl⟩
    · refine stepE rfl fun sdn sa sw sE sd sk => ?_
      have h26 : sa.eval (.tmp 26) = .bool (true) := sk.fact 9 26 rfl (sd 9 rfl)
      have h31 : sa.eval (.tmp 31) = .bool (true) := sk.fact 14 31 rfl (sd 14 rfl)
      exact Runs.pick rfl h26 ⟨Ext.refl _, by first | exact h31 | simpa using h31⟩
    · refine stepE rfl fun sdn sa sw sE sd sk => ?_
      have h32 : sa.eval (.tmp 32) = .bool (true) := sk.fact 15 32 rfl (sd 15 rfl)
      exact Runs.move rfl h32 ⟨Ext.refl _, rfl⟩
    · refine stepY (j := 16) (d := 33) (b := true) rfl rfl rfl (fun v w h => h) fun sdn sa sw sE sd sk => ?_
      have h0 : sa.eval (.tmp 0) = .slice (A) (n) (c) := sk.old 0 rfl
      exact Runs.move rfl h0 ⟨Ext.refl _, rfl⟩
    · refine stepY (j := 16) (d := 33) (b := true) rfl rfl rfl (fun v w h => h) fun sdn sa sw sE sd sk => ?_
      have h34 : sa.eval (.tmp 34) = .slice (A) (n) (c) := sk.fact 17 34 rfl (sd 17 rfl)
      refine Runs.call (f := 64) (vs := [.slice (A) (n) (c)]) rfl rfl rfl (by simp only [List.map_toArray, List.map_cons, List.map_nil, h34] <;> rfl) (ent64 _ _) ((mid_any _ _ _ _ sw (hr.ext sE) (by omega)).mono ?_); rintro e w' ⟨A', c', rfl, own, hx⟩; exact ⟨_, rfl, hx, A', 32, c', rfl, own.rb⟩
    · refine stepY (j := 16) (d := 33) (b := true) rfl rfl rfl (fun v w h => h) fun sdn sa sw sE sd sk => ?_
      obtain ⟨A35, n35, c35, h35, r35⟩ := sk.fact 18 35 rfl (sd 18 rfl)
      exact Runs.conv rfl h35 (run_str r35) ⟨Ext.refl _, rfl⟩
    · refine stepY (j := 16) (d := 33) (b := true) rfl rfl rfl (fun v w h => h) fun sdn sa sw sE sd sk => ?_
      have h0 : sa.eval (.tmp 0) = .slice (A) (n) (c) := sk.old 0 rfl
      exact Runs.move rfl h0 ⟨Ext.refl _, rfl⟩
    · refine stepY (j := 16) (d := 33) (b := true) rfl rfl rfl (fun v w h => h) fun sdn sa sw sE sd sk => ?_
      have h37 : sa.eval (.tmp 37) = .slice (A) (n) (c) := sk.fact 20 37 rfl (sd 20 rfl)
      refine Runs.call (f := 65) (vs := [.slice (A) (n) (c)]) rfl rfl rfl (by simp only [List.map_toArray, List.map_cons, List.map_nil, h37] <;> rfl) (ent65 _ _) ((rleaf_any _ _ _ _ sw (hr.ext sE) (by omega)).mono ?_); rintro e w' ⟨A', c', rfl, own, hx⟩; exact ⟨_, rfl, hx, A', 32, c', rfl, own.rb⟩
    · refine stepY (j := 16) (d := 33) (b := true) rfl rfl rfl (fun v w h => h) fun sdn sa sw sE sd sk => ?_
      obtain ⟨A38, n38, c38, h38, r38⟩ := sk.fact 21 38 rfl (sd 21 rfl)
      exact Runs.conv rfl h38 (run_str r38) ⟨Ext.refl _, rfl⟩
    · refine stepY (j := 16) (d := 33) (b := true) rfl rfl rfl (fun v w h => h) fun sdn sa sw sE sd sk => ?_
      have h36 : sa.eval (.tmp 36) = .string (str (tagged 0 (b))) := sk.fact 19 36 rfl (sd 19 rfl)
      have h39 : sa.eval (.tmp 39) = .string (str (tagged 0 (b))) := sk.fact 22 39 rfl (sd 22 rfl)
      exact Runs.bin rfl h36 h39 (by rfl) (bin_eqs _ _ _) ⟨Ext.refl _, congrArg Value.bool (by simp)⟩
    · refine stepE rfl fun sdn sa sw sE sd sk => ?_
      have h33 : sa.eval (.tmp 33) = .bool (true) := sk.fact 16 33 rfl (sd 16 rfl)
      have h40 : sa.eval (.tmp 40) = .bool (true) := sk.fact 23 40 rfl (sd 23 rfl)
      exact Runs.pick rfl h33 ⟨Ext.refl _, by first | exact h40 | simpa using h40⟩
    · refine stepE rfl fun sdn sa sw sE sd sk => ?_
      have h41 : sa.eval (.tmp 41) = .bool (true) := sk.fact 24 41 rfl (sd 24 rfl)
      exact Runs.assign rfl h41 ⟨Ext.refl _, rfl⟩
    intro vals W9 hE hv
    have e0 : vals 0 = .int .i64 ((0 : Int)) := hv 0 (by omega) 17 rfl
    have e1 : vals 1 = .bool (true) := hv 1 (by omega) 18 rfl
    have e2 : vals 2 = .bool (true) := hv 2 (by omega) 19 rfl
    have e3 : vals 3 = .bool (true) := hv 3 (by omega) 20 rfl
    have e4 : vals 4 = .bool (true) := hv 4 (by omega) 21 rfl
    have e5 : vals 5 = manV m F nf cf N nn cn := hv 5 (by omega) 22 rfl
    have e6 : vals 6 = manV m F' nf' cf' N' nn' cn' := hv 6 (by omega) 23 rfl
    have e7 : vals 7 = .bool (true) := hv 7 (by omega) 24 rfl
    have e8 : vals 8 = .bool (true) := hv 8 (by omega) 25 rfl
    have e9 : vals 9 = .bool (true) := hv 9 (by omega) 26 rfl
    have e10 : vals 10 = .bool (true) := hv 10 (by omega) 27 rfl
    have e11 : vals 11 = .bool (true) := hv 11 (by omega) 28 rfl
    have e14 : vals 14 = .bool (true) := hv 14 (by omega) 31 rfl
    have e15 : vals 15 = .bool (true) := hv 15 (by omega) 32 rfl
    have e16 : vals 16 = .bool (true) := hv 16 (by omega) 33 rfl
    have e17 : vals 17 = .slice (A) (n) (c) := hv 17 (by omega) 34 rfl
    obtain ⟨A35, n35, c35, e18, r35⟩ := hv 18 (by omega) 35 rfl
    have e19 : vals 19 = .string (str (tagged 0 (b))) := hv 19 (by omega) 36 rfl
    have e20 : vals 20 = .slice (A) (n) (c) := hv 20 (by omega) 37 rfl
    obtain ⟨A38, n38, c38, e21, r38⟩ := hv 21 (by omega) 38 rfl
    have e22 : vals 22 = .string (str (tagged 0 (b))) := hv 22 (by omega) 39 rfl
    have e23 : vals 23 = .bool (true) := hv 23 (by omega) 40 rfl
    have e24 : vals 24 = .bool (true) := hv 24 (by omega) 41 rfl
    have e25 : vals 25 = .bool (true) := hv 25 (by omega) 2 rfl
    simp only [putAll, Act.put, List.take_succ_cons, List.take_zero, List.drop_succ_cons, List.drop_zero, List.drop_nil, List.take_nil, Nat.reduceAdd, List.setIfInBounds_toArray, List.set_cons_succ, List.set_cons_zero, e0, e1, e2, e3, e4, e5, e6, e7, e8, e9, e10, e11, e14, e15, e16, e17, e18, e19, e20, e21, e22, e23, e24, e25]
    clear hv e0 e1 e2 e3 e4 e5 e6 e7 e8 e9 e10 e11 e14 e15 e16 e17 e18 e19 e20 e21 e22 e23 e24 e25
    go_wp2_with fail
    go_ret
    exact ⟨rfl, hE04.trans hE⟩
  | false =>
    obtain rfl := h2 hd
    clear h1 h2
    have Hd := Lib.hid hd
    clear hd
    go_upto_region 2 with (fail)
    obtain ⟨w2, hw2⟩ : ∃ w2, w2 = w1.alloc (.cells #[.string ⟨#[]⟩, .int .u32 0, .slice none 0 0, .slice none 0 0] 27) := ⟨_, rfl⟩
    obtain ⟨b3, hb3⟩ : ∃ b3, b3 = w1.heap.size := ⟨_, rfl⟩
    have hB2 : Blk w2 b3 27 #[.string ⟨#[]⟩, .int .u32 0, .slice none 0 0, .slice none 0 0] := by rw [hw2, hb3]; exact Blk.new w1 _ _
    have hE2 : Ext w1 w2 := by rw [hw2]; exact Ext.new w1 _
    rw [← hw2, ← hb3]
    clear hw2 hb3
    go_wp2_with fail
    refine (r9dec_any A n c b w2 (hr0.ext (hE1.trans hE2)) (by omega)).mono ?_
    rintro e w3 ⟨_, h2, hE3⟩
    obtain rfl := h2 Hd.out
    clear h2
    go_upto_region 3 with (fail)
    obtain ⟨w4, hw4⟩ : ∃ w4, w4 = w3.alloc (.cells #[.string ⟨#[]⟩, .int .u32 0, .slice none 0 0, .slice none 0 0] 27) := ⟨_, rfl⟩
    obtain ⟨b5, hb5⟩ : ∃ b5, b5 = w3.heap.size := ⟨_, rfl⟩
    have hB5 : Blk w4 b5 27 #[.string ⟨#[]⟩, .int .u32 0, .slice none 0 0, .slice none 0 0] := by rw [hw4, hb5]; exact Blk.new w3 _ _
    have hE4 : Ext w3 w4 := by rw [hw4]; exact Ext.new w3 _
    rw [← hw4, ← hb5]
    clear hw4 hb5
    have hB3 := (hB2.ext hE3).ext hE4
    have hE04 := ((hE1.trans hE2).trans hE3).trans hE4
    have hr := hr0.ext hE04
    refine par_ext (n := 26) (by kernel_rfl) [.is (.int .i64 ((12 : Int))), .is (.bool (false)), .is (.bool (false)), .is (.bool (true)), .is (.bool (true)), .is (.agg #[.string ⟨#[]⟩, .int .u32 0, .slice none 0 0, .slice none 0 0]), .is (.agg #[.string ⟨#[]⟩, .int .u32 0, .slice none 0 0, .slice none 0 0]), .is (.bool (true)), .is (.bool (true)), .is (.bool (true)), .is (.bool (false)), .is (.bool (false)), .is (.int .i64 ((12 : Int))), .is (.bool (true)), .is (.bool (true)), .is (.bool (true)), .is (.bool (true)), .is (.slice (A) (n) (c)), .rb (tagged 0 (b)), .is (.string (str (tagged 0 (b)))), .is (.slice (A) (n) (c)), .rb (tagged 0 (b)), .is (.string (str (tagged 0 (b)))), .is (.bool (true)), .is (.bool (true)), .is (.bool (true))] rfl ⟨?_, ?_, ?_, ?_, ?_, ?_, ?_, ?_, ?_, ?_, ?_, ?_, ?_, ?_, ?_, ?_, ?_, ?_, ?_, ?_, ?_, ?_, ?_, ?_, ?_, ?_, trivial⟩ ?_
    · refine stepE rfl fun sdn sa sw sE sd sk => ?_
      have h4 : sa.eval (.tmp 4) = .int .i64 ((12 : Int)) := sk.old 4 rfl
      exact Runs.move rfl h4 ⟨Ext.refl _, rfl⟩
    · refine stepE rfl fun sdn sa sw sE sd sk => ?_
      have h17 : sa.eval (.tmp 17) = .int .i64 ((12 : Int)) := sk.fact 0 17 rfl (sd 0 rfl)
      exact Runs.bin rfl h17 rfl (by rfl) (bin_eql _ _ _ _) ⟨Ext.refl _, congrArg Value.bool (decide_eq_false (by omega))⟩
    · refine stepE rfl fun sdn sa sw sE sd sk => ?_
      have h6 : sa.eval (.tmp 6) = .bool (false) := sk.old 6 rfl
      exact Runs.move rfl h6 ⟨Ext.refl _, rfl⟩
    · refine stepE rfl fun sdn sa sw sE sd sk => ?_
      have h18 : sa.eval (.tmp 18) = .bool (false) := sk.fact 1 18 rfl (sd 1 rfl)
      have h19 : sa.eval (.tmp 19) = .bool (false) := sk.fact 2 19 rfl (sd 2 rfl)
      exact Runs.bin rfl h18 h19 (by rfl) (bin_eqb _ _) ⟨Ext.refl _, congrArg Value.bool (by simp)⟩
    · refine stepE rfl fun sdn sa sw sE sd sk => ?_
      have h20 : sa.eval (.tmp 20) = .bool (true) := sk.fact 3 20 rfl (sd 3 rfl)
      exact Runs.move rfl h20 ⟨Ext.refl _, rfl⟩
    · refine stepY (j := 4) (d := 21) (b := true) rfl rfl rfl (fun v w h => h) fun sdn sa sw sE sd sk => ?_
      have h3 : sa.eval (.tmp 3) = .pointer (some ⟨b3, 0, none⟩) := sk.old 3 rfl
      exact Runs.load rfl h3 (load_man (hB3.ext sE)) ⟨Ext.refl _, rfl⟩
    · refine stepY (j := 4) (d := 21) (b := true) rfl rfl rfl (fun v w h => h) fun sdn sa sw sE sd sk => ?_
      have h5 : sa.eval (.tmp 5) = .pointer (some ⟨b5, 0, none⟩) := sk.old 5 rfl
      exact Runs.load rfl h5 (load_man (hB5.ext sE)) ⟨Ext.refl _, rfl⟩
    · refine stepY (j := 4) (d := 21) (b := true) rfl rfl rfl (fun v w h => h) fun sdn sa sw sE sd sk => ?_
      have h22 : sa.eval (.tmp 22) = .agg #[.string ⟨#[]⟩, .int .u32 0, .slice none 0 0, .slice none 0 0] := sk.fact 5 22 rfl (sd 5 rfl)
      have h23 : sa.eval (.tmp 23) = .agg #[.string ⟨#[]⟩, .int .u32 0, .slice none 0 0, .slice none 0 0] := sk.fact 6 23 rfl (sd 6 rfl)
      refine Runs.call (f := 19) (vs := [.agg #[.string ⟨#[]⟩, .int .u32 0, .slice none 0 0, .slice none 0 0], .agg #[.string ⟨#[]⟩, .int .u32 0, .slice none 0 0, .slice none 0 0]]) rfl rfl rfl (by simp only [List.map_toArray, List.map_cons, List.map_nil, h22, h23] <;> rfl) (ent19 _ _) ((zero_same sw).mono ?_); rintro e w' ⟨rfl, hx⟩; exact ⟨_, rfl, hx, rfl⟩
    · refine stepE rfl fun sdn sa sw sE sd sk => ?_
      have h21 : sa.eval (.tmp 21) = .bool (true) := sk.fact 4 21 rfl (sd 4 rfl)
      have h24 : sa.eval (.tmp 24) = .bool (true) := sk.fact 7 24 rfl (sd 7 rfl)
      exact Runs.pick rfl h21 ⟨Ext.refl _, by first | exact h24 | simpa using h24⟩
    · refine stepE rfl fun sdn sa sw sE sd sk => ?_
      have h25 : sa.eval (.tmp 25) = .bool (true) := sk.fact 8 25 rfl (sd 8 rfl)
      exact Runs.move rfl h25 ⟨Ext.refl _, rfl⟩
    · refine stepY (j := 9) (d := 26) (b := true) rfl rfl rfl (fun v w h => h) fun sdn sa sw sE sd sk => ?_
      have h6 : sa.eval (.tmp 6) = .bool (false) := sk.old 6 rfl
      exact Runs.move rfl h6 ⟨Ext.refl _, rfl⟩
    · refine stepY (j := 9) (d := 26) (b := true) rfl rfl rfl (fun v w h => h) fun sdn sa sw sE sd sk => ?_
      have h27 : sa.eval (.tmp 27) = .bool (false) := sk.fact 10 27 rfl (sd 10 rfl)
      exact Runs.move rfl h27 ⟨Ext.refl _, rfl⟩
    · refine stepY (j := 11) (d := 28) (b := false) rfl rfl rfl (fun v w h => h) fun sdn sa sw sE sd sk => ?_
      have h4 : sa.eval (.tmp 4) = .int .i64 ((12 : Int)) := sk.old 4 rfl
      exact Runs.move rfl h4 ⟨Ext.refl _, rfl⟩
    · refine stepY (j := 11) (d := 28) (b := false) rfl rfl rfl (fun v w h => h) fun sdn sa sw sE sd sk => ?_
      have h29 : sa.eval (.tmp 29) = .int .i64 ((12 : Int)) := sk.fact 12 29 rfl (sd 12 rfl)
      exact Runs.bin rfl h29 rfl (by rfl) (bin_eql _ _ _ _) ⟨Ext.refl _, congrArg Value.bool (decide_eq_true rfl)⟩
    · refine stepY (j := 9) (d := 26) (b := true) rfl rfl rfl (fun v w h => h) fun sdn sa sw sE sd sk => ?_
      have h28 : sa.eval (.tmp 28) = .bool (false) := sk.fact 11 28 rfl (sd 11 rfl)
      have h30 : sa.eval (.tmp 30) = .bool (true) := sk.fact 13 30 rfl (sd 13 rfl)
      exact Runs.pick rfl h28 ⟨Ext.refl _, by first | exact h30 | simpa using h30⟩
    · refine stepE rfl fun sdn sa sw sE sd sk => ?_
      have h26 : sa.eval (.tmp 26) = .bool (true) := sk.fact 9 26 rfl (sd 9 rfl)
      have h31 : sa.eval (.tmp 31) = .bool (true) := sk.fact 14 31 rfl (sd 14 rfl)
      exact Runs.pick rfl h26 ⟨Ext.refl _, by first | exact h31 | simpa using h31⟩
    · refine stepE rfl fun sdn sa sw sE sd sk => ?_
      have h32 : sa.eval (.tmp 32) = .bool (true) := sk.fact 15 32 rfl (sd 15 rfl)
      exact Runs.move rfl h32 ⟨Ext.refl _, rfl⟩
    · refine stepY (j := 16) (d := 33) (b := true) rfl rfl rfl (fun v w h => h) fun sdn sa sw sE sd sk => ?_
      have h0 : sa.eval (.tmp 0) = .slice (A) (n) (c) := sk.old 0 rfl
      exact Runs.move rfl h0 ⟨Ext.refl _, rfl⟩
    · refine stepY (j := 16) (d := 33) (b := true) rfl rfl rfl (fun v w h => h) fun sdn sa sw sE sd sk => ?_
      have h34 : sa.eval (.tmp 34) = .slice (A) (n) (c) := sk.fact 17 34 rfl (sd 17 rfl)
      refine Runs.call (f := 64) (vs := [.slice (A) (n) (c)]) rfl rfl rfl (by simp only [List.map_toArray, List.map_cons, List.map_nil, h34] <;> rfl) (ent64 _ _) ((mid_any _ _ _ _ sw (hr.ext sE) (by omega)).mono ?_); rintro e w' ⟨A', c', rfl, own, hx⟩; exact ⟨_, rfl, hx, A', 32, c', rfl, own.rb⟩
    · refine stepY (j := 16) (d := 33) (b := true) rfl rfl rfl (fun v w h => h) fun sdn sa sw sE sd sk => ?_
      obtain ⟨A35, n35, c35, h35, r35⟩ := sk.fact 18 35 rfl (sd 18 rfl)
      exact Runs.conv rfl h35 (run_str r35) ⟨Ext.refl _, rfl⟩
    · refine stepY (j := 16) (d := 33) (b := true) rfl rfl rfl (fun v w h => h) fun sdn sa sw sE sd sk => ?_
      have h0 : sa.eval (.tmp 0) = .slice (A) (n) (c) := sk.old 0 rfl
      exact Runs.move rfl h0 ⟨Ext.refl _, rfl⟩
    · refine stepY (j := 16) (d := 33) (b := true) rfl rfl rfl (fun v w h => h) fun sdn sa sw sE sd sk => ?_
      have h37 : sa.eval (.tmp 37) = .slice (A) (n) (c) := sk.fact 20 37 rfl (sd 20 rfl)
      refine Runs.call (f := 65) (vs := [.slice (A) (n) (c)]) rfl rfl rfl (by simp only [List.map_toArray, List.map_cons, List.map_nil, h37] <;> rfl) (ent65 _ _) ((rleaf_any _ _ _ _ sw (hr.ext sE) (by omega)).mono ?_); rintro e w' ⟨A', c', rfl, own, hx⟩; exact ⟨_, rfl, hx, A', 32, c', rfl, own.rb⟩
    · refine stepY (j := 16) (d := 33) (b := true) rfl rfl rfl (fun v w h => h) fun sdn sa sw sE sd sk => ?_
      obtain ⟨A38, n38, c38, h38, r38⟩ := sk.fact 21 38 rfl (sd 21 rfl)
      exact Runs.conv rfl h38 (run_str r38) ⟨Ext.refl _, rfl⟩
    · refine stepY (j := 16) (d := 33) (b := true) rfl rfl rfl (fun v w h => h) fun sdn sa sw sE sd sk => ?_
      have h36 : sa.eval (.tmp 36) = .string (str (tagged 0 (b))) := sk.fact 19 36 rfl (sd 19 rfl)
      have h39 : sa.eval (.tmp 39) = .string (str (tagged 0 (b))) := sk.fact 22 39 rfl (sd 22 rfl)
      exact Runs.bin rfl h36 h39 (by rfl) (bin_eqs _ _ _) ⟨Ext.refl _, congrArg Value.bool (by simp)⟩
    · refine stepE rfl fun sdn sa sw sE sd sk => ?_
      have h33 : sa.eval (.tmp 33) = .bool (true) := sk.fact 16 33 rfl (sd 16 rfl)
      have h40 : sa.eval (.tmp 40) = .bool (true) := sk.fact 23 40 rfl (sd 23 rfl)
      exact Runs.pick rfl h33 ⟨Ext.refl _, by first | exact h40 | simpa using h40⟩
    · refine stepE rfl fun sdn sa sw sE sd sk => ?_
      have h41 : sa.eval (.tmp 41) = .bool (true) := sk.fact 24 41 rfl (sd 24 rfl)
      exact Runs.assign rfl h41 ⟨Ext.refl _, rfl⟩
    intro vals W9 hE hv
    have e0 : vals 0 = .int .i64 ((12 : Int)) := hv 0 (by omega) 17 rfl
    have e1 : vals 1 = .bool (false) := hv 1 (by omega) 18 rfl
    have e2 : vals 2 = .bool (false) := hv 2 (by omega) 19 rfl
    have e3 : vals 3 = .bool (true) := hv 3 (by omega) 20 rfl
    have e4 : vals 4 = .bool (true) := hv 4 (by omega) 21 rfl
    have e5 : vals 5 = .agg #[.string ⟨#[]⟩, .int .u32 0, .slice none 0 0, .slice none 0 0] := hv 5 (by omega) 22 rfl
    have e6 : vals 6 = .agg #[.string ⟨#[]⟩, .int .u32 0, .slice none 0 0, .slice none 0 0] := hv 6 (by omega) 23 rfl
    have e7 : vals 7 = .bool (true) := hv 7 (by omega) 24 rfl
    have e8 : vals 8 = .bool (true) := hv 8 (by omega) 25 rfl
    have e9 : vals 9 = .bool (true) := hv 9 (by omega) 26 rfl
    have e10 : vals 10 = .bool (false) := hv 10 (by omega) 27 rfl
    have e11 : vals 11 = .bool (false) := hv 11 (by omega) 28 rfl
    have e12 : vals 12 = .int .i64 ((12 : Int)) := hv 12 (by omega) 29 rfl
    have e13 : vals 13 = .bool (true) := hv 13 (by omega) 30 rfl
    have e14 : vals 14 = .bool (true) := hv 14 (by omega) 31 rfl
    have e15 : vals 15 = .bool (true) := hv 15 (by omega) 32 rfl
    have e16 : vals 16 = .bool (true) := hv 16 (by omega) 33 rfl
    have e17 : vals 17 = .slice (A) (n) (c) := hv 17 (by omega) 34 rfl
    obtain ⟨A35, n35, c35, e18, r35⟩ := hv 18 (by omega) 35 rfl
    have e19 : vals 19 = .string (str (tagged 0 (b))) := hv 19 (by omega) 36 rfl
    have e20 : vals 20 = .slice (A) (n) (c) := hv 20 (by omega) 37 rfl
    obtain ⟨A38, n38, c38, e21, r38⟩ := hv 21 (by omega) 38 rfl
    have e22 : vals 22 = .string (str (tagged 0 (b))) := hv 22 (by omega) 39 rfl
    have e23 : vals 23 = .bool (true) := hv 23 (by omega) 40 rfl
    have e24 : vals 24 = .bool (true) := hv 24 (by omega) 41 rfl
    have e25 : vals 25 = .bool (true) := hv 25 (by omega) 2 rfl
    simp only [putAll, Act.put, List.take_succ_cons, List.take_zero, List.drop_succ_cons, List.drop_zero, List.drop_nil, List.take_nil, Nat.reduceAdd, List.setIfInBounds_toArray, List.set_cons_succ, List.set_cons_zero, e0, e1, e2, e3, e4, e5, e6, e7, e8, e9, e10, e11, e12, e13, e14, e15, e16, e17, e18, e19, e20, e21, e22, e23, e24, e25]
    clear hv e0 e1 e2 e3 e4 e5 e6 e7 e8 e9 e10 e11 e12 e13 e14 e15 e16 e17 e18 e19 e20 e21 e22 e23 e24 e25
    go_wp2_with fail
    go_ret
    exact ⟨rfl, hE04.trans hE⟩
end Go.Proofs.Ytmgnigofilkfmab
