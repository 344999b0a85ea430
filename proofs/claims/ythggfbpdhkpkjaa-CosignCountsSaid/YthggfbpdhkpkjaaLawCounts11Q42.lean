/-
  CosignCounts, walked (under way).
-/
import Derived.Test.YthggfbpdhkpkjaaLawCounts11Q41
import Derived.Test.YthggfbpdhkpkjaaLawCounts11Q38
namespace Go.Proofs.Ythggfbpdhkpkjaa
set_option maxRecDepth 100000
open Go Go.RowKit
def C11I (w6 : World) (q : Nat) (v : CSig → Bool) (gs : List CSig) (i s : Value) (wr : World) : Prop := ∃ j : Nat, j ≤ q ∧ i = .int .i64 j ∧ s = .int .i64 (cntTo v gs j) ∧ Ext w6 wr
def C11J (wo : World) (m j : Nat) (v : CSig → Bool) (gs : List CSig) (i b : Value) (wr : World) : Prop := ∃ k : Nat, k ≤ m ∧ i = .int .i64 k ∧ b = .bool (seenL v (gs.take k) j) ∧ Ext wo wr
def C11B (w7 : World) (m : Nat) (vs : List CV) (gs : List CSig) (i o : Value) (wr : World) : Prop :=
  ∃ (k : Nat) (x : Int) (O : Option Addr) (cO : Nat), k ≤ m ∧ x = (m : Int) - 1 - k ∧ i = .int .i64 x ∧ o = .slice O k cO ∧ OCS wr w7.heap.size O k cO (vs.reverse.take k) (gs.reverse.take k) ∧ Ext w7 wr
set_option maxHeartbeats 16000000 in
theorem counts11_any (n : Int) (hn : inR n) (L : Option Addr) (nl cl : Nat) (ds : List DRec) (w : World) (hL : RDS w L nl cl ds) :
    Calls Try.prog 10 #[.int .i64 n, .slice L nl cl] w fun e w' => e = .returned (.bool true) ∧ Ext w w' := by
  obtain ⟨q, hq⟩ : ∃ q : Nat, within n 1 4 = (q : Int) := ⟨(within n 1 4).toNat, (Int.toNat_of_nonneg (by have := (within_in n 1 4 (by omega)).1; omega)).symm⟩
  have hq1 : 1 ≤ q := by have := (within_in n 1 4 (by omega)).1; omega
  have hq4 : q ≤ 4 := by have := (within_in n 1 4 (by omega)).2; omega
  have Hq := Lib.hid hq
  clear hq
  go_enter Try.func10, Try.ntmps10
  go_wp2_with fail
  refine (within_any n 1 4 w hn.1 hn.2 (by omega) (by omega) (by omega)).mono ?_
  rintro e w1 ⟨rfl, rfl⟩
  rw [Hq.out]
  clear Hq
  go_wp2_with fail
  refine (owners_any q (by omega) w).mono ?_
  rintro e w1 ⟨A, c, rfl, oA, hEa⟩
  obtain ⟨Ss, hSs⟩ : ∃ Ss, Ss = (List.range q).map fun i => seedL ((i : Nat) : Int) := ⟨_, rfl⟩
  rw [← hSs] at oA
  replace hL := hL.ext hEa
  clear hSs
  go_wp2_with fail
  refine (policy_own A q c w.heap.size 1 Ss (by omega) w1 oA).mono ?_
  rintro e w2 ⟨G9, cg9, Q2, dq, rfl, rG, oQ, hE⟩
  have hEn := Ext.new w2 (.cells #[.slice G9 32 cg9, .slice Q2 q dq, .int .i64 1] 77)
  have hB6 := Blk.new w2 77 #[.slice G9 32 cg9, .slice Q2 q dq, .int .i64 1]
  replace hE := hE.trans hEn
  replace hL := hL.ext hE
  replace oA := oA.ext hE
  replace rG := rG.ext hEn
  replace oQ := oQ.ext hEn
  replace hEa := hEa.trans hE
  clear hEn hE
  go_wp2_with fail
  generalize w2.alloc (.cells #[.slice G9 32 cg9, .slice Q2 q dq, .int .i64 1] 77) = w3 at *
  generalize w2.heap.size = g6 at *
  obtain ⟨WL, hWL⟩ : ∃ WL, WL = (List.range q).map (fun j => ownP (lb Ss j)) := ⟨_, rfl⟩
  rw [← hWL] at oQ
  have hwl : WL.length = q := by rw [hWL]; simp
  have Hwl := Lib.hid hwl
  clear hwl hWL
  generalize khash 9 = H9 at *
  refine (hash_any 2 w3 (by omega) (by omega)).mono ?_
  rintro e w4 ⟨B, d, rfl, oR, hE⟩
  have rR := oR.rb
  generalize khash 2 = R at *
  have hEn := Ext.new w4 (.cells #[.int .i64 5, .slice B 32 d] 24)
  have hB7 := Blk.new w4 24 #[.int .i64 5, .slice B 32 d]
  replace hE := hE.trans hEn
  replace hL := hL.ext hE
  replace oA := oA.ext hE
  replace rG := rG.ext hE
  replace oQ := oQ.ext hE
  replace hB6 := hB6.ext hE
  replace rR := rR.ext hEn
  replace hEa := hEa.trans hE
  clear hEn hE oR
  have y70 := hB7.cell (i := 0) (v := .int .i64 5) rfl
  have y71 := hB7.cell (i := 1) (v := .slice B 32 d) rfl
  go_wp2_with fail
  generalize w4.alloc (.cells #[.int .i64 5, .slice B 32 d] 24) = w5 at *
  generalize w4.heap.size = g7 at *
  clear y70 y71
  refine (made_any L nl cl ds A q c w.heap.size Ss 5 B 32 d R w5 hL oA hq1 hq4 rR).mono ?_
  rintro e w6 ⟨M, m, cm, vs, gs, rfl, hm6, oM, hE⟩
  replace rG := rG.ext hE
  replace oQ := oQ.ext hE
  replace hB6 := hB6.ext hE
  replace rR := rR.ext hE
  replace hB7 := hB7.ext hE
  replace hEa := hEa.trans hE
  clear hE hL oA
  have rQ := oQ.rbb
  have vM := oM.rcv
  have rM := vM.rcs
  clear oQ oM
  obtain ⟨v, hv⟩ : ∃ v : CSig → Bool, v = fun g => cosB H9 WL 1 5 R g.wn g.k g.ps g.qs := ⟨_, rfl⟩
  have Hv := Lib.hid hv
  clear hv
  go_wp2_with fail
  go_loopw [11, 10] (fun i s wr => C11I w6 q v gs i s wr) (fun i _ _ => q - (intOf i).toNat)
  case atStart => exact ⟨0, by omega, rfl, rfl, Ext.refl _⟩
  case round =>
    obtain ⟨j, hj, rfl, rfl, hEr⟩ := hrel
    by_cases hlt : j < q
    · have hji : (j : Int) < (q : Int) := by omega
      have hsb := cntTo_le v gs j
      obtain ⟨wo, hwo⟩ : ∃ wo, wo = wr := ⟨_, rfl⟩
      subst hwo
      go_wp2_with fail
      go_loopw [13, 12] (fun i b wr => C11J wo m j v gs i b wr) (fun i _ _ => m - (intOf i).toNat)
      case atStart => exact ⟨0, by omega, rfl, rfl, Ext.refl _⟩
      case round =>
        obtain ⟨k, hk, rfl, rfl, hEk⟩ := hrel
        by_cases hkm : k < m
        · have hki : (k : Int) < (m : Int) := by omega
          have hEw := hEr.trans hEk
          have rM1 := rM.ext hEw
          obtain ⟨ad, rfl, hcl⟩ := rM1.cells (by omega)
          obtain ⟨P, np, cp, Q, nq, cq, k0, k1, k2, k3, rP, rX⟩ := hcl k hkm
          have hcmr := rM.room
          have hsn := take_snoc_cg gs k (by rw [rM.len]; exact hkm)
          have Hsn := Lib.hid hsn
          have hvg : v (cg_ gs k) = cosB H9 WL 1 5 R (cg_ gs k).wn (cg_ gs k).k (cg_ gs k).ps (cg_ gs k).qs := by rw [Hv.out]
          have hso := seenL_snoc v (gs.take k) (cg_ gs k) j
          rw [← hsn] at hso
          have Hso := Lib.hid hso
          clear hcl hsn hso
          generalize cg_ gs k = g at *
          obtain ⟨wn, kx, PS, QS⟩ := g
          have rG1 := rG.ext hEw
          have rQ1 := rQ.ext hEw
          have rR1 := rR.ext hEw
          have hB61 := hB6.ext hEw
          have hB71 := hB7.ext hEw
          have mid : ∀ {b : Bool} {wr' : World}, Ext wr wr' → b = (seenL v (gs.take k) j || (decide (wn = (j : Int)) && v ⟨wn, kx, PS, QS⟩)) → C11J wo m j v gs (.int .i64 ((k + 1 : Nat) : Int)) (.bool b) wr' := fun hE hb => ⟨k + 1, by omega, rfl, by rw [Hso.out, hb], hEk.trans hE⟩
          cases hin : seenL v (gs.take k) j with
          | true =>
            rw [hin] at mid
            clear hin
            go_upto_region 14 with (fail)
            refine par_ext (n := 19) (by kernel_rfl) [.is (.bool (true)), .is (.bool (true)), .is undef, .is undef, .is undef, .is undef, .is undef, .is undef, .is undef, .is undef, .is undef, .is undef, .is undef, .is undef, .is undef, .is undef, .is undef, .is undef, .is (.bool (true))] rfl ⟨?_, ?_, ?_, ?_, ?_, ?_, ?_, ?_, ?_, ?_, ?_, ?_, ?_, ?_, ?_, ?_, ?_, ?_, ?_, trivial⟩ ?_
            · refine stepE rfl fun sdn sa sw sE sd sk => ?_
              have h12 : sa.eval (.tmp 12) = .bool (true) := sk.old 12 rfl
              exact Runs.move rfl h12 ⟨Ext.refl _, rfl⟩
            · refine stepE rfl fun sdn sa sw sE sd sk => ?_
              have h38 : sa.eval (.tmp 38) = .bool (true) := sk.fact 0 38 rfl (sd 0 rfl)
              exact Runs.move rfl h38 ⟨Ext.refl _, rfl⟩
            · exact stepN (j := 1) (d := 39) (b := true) rfl rfl rfl (fun v w h => h) fun w => rfl
            · exact stepN (j := 1) (d := 39) (b := true) rfl rfl rfl (fun v w h => h) fun w => rfl
            · exact stepN (j := 1) (d := 39) (b := true) rfl rfl rfl (fun v w h => h) fun w => rfl
            · exact stepN (j := 1) (d := 39) (b := true) rfl rfl rfl (fun v w h => h) fun w => rfl
            · exact stepN (j := 1) (d := 39) (b := true) rfl rfl rfl (fun v w h => h) fun w => rfl
            · exact stepN (j := 1) (d := 39) (b := true) rfl rfl rfl (fun v w h => h) fun w => rfl
            · exact stepN (j := 1) (d := 39) (b := true) rfl rfl rfl (fun v w h => h) fun w => rfl
            · exact stepN (j := 1) (d := 39) (b := true) rfl rfl rfl (fun v w h => h) fun w => rfl
            · exact stepU (j := 9) (d := 47) (b := true) rfl rfl rfl (fun v w h => h) fun w => rfl
            · exact stepU (j := 9) (d := 47) (b := true) rfl rfl rfl (fun v w h => h) fun w => rfl
            · exact stepU (j := 9) (d := 47) (b := true) rfl rfl rfl (fun v w h => h) fun w => rfl
            · exact stepU (j := 9) (d := 47) (b := true) rfl rfl rfl (fun v w h => h) fun w => rfl
            · exact stepU (j := 9) (d := 47) (b := true) rfl rfl rfl (fun v w h => h) fun w => rfl
            · exact stepU (j := 9) (d := 47) (b := true) rfl rfl rfl (fun v w h => h) fun w => rfl
            · exact stepU (j := 9) (d := 47) (b := true) rfl rfl rfl (fun v w h => h) fun w => rfl
            · exact stepN (j := 1) (d := 39) (b := true) rfl rfl rfl (fun v w h => h) fun w => rfl
            · refine stepE rfl fun sdn sa sw sE sd sk => ?_
              have h39 : sa.eval (.tmp 39) = .bool (true) := sk.fact 1 39 rfl (sd 1 rfl)
              exact Runs.pick rfl h39 ⟨Ext.refl _, rfl⟩
            intro vals W14 hE14 hv14
            have e0 : vals 0 = .bool (true) := hv14 0 (by omega) 38 rfl
            have e1 : vals 1 = .bool (true) := hv14 1 (by omega) 39 rfl
            have e18 : vals 18 = .bool (true) := hv14 18 (by omega) 56 rfl
            simp only [putAll, Act.put, List.take_succ_cons, List.take_zero, List.drop_succ_cons, List.drop_zero, List.drop_nil, List.take_nil, Nat.reduceAdd, List.setIfInBounds_toArray, List.set_cons_succ, List.set_cons_zero, e0, e1, e18]
            clear hv14 e0 e1 e18
            go_wp2_with fail
            go_roundw
            case rel => exact mid hE14 rfl
            case measure => simp [intOf]; omega
          | false =>
            rw [hin] at mid
            clear hin
            by_cases hw : wn = (j : Int)
            · subst hw
              cases hcb : cosB H9 WL 1 5 R (j : Int) kx PS QS with
              | true =>
                have hvt := hvg.trans hcb
                rw [hvt] at mid
                have Hcb := Lib.hid hcb
                clear hcb hvg hvt
                go_upto_region 14 with (fail)
                refine par_ext (n := 19) (by kernel_rfl) [.is (.bool (false)), .is (.bool (false)), .is (.slice ((some ad)) (m) (cm)), .is (.int .i64 ((k : Int))), .is (.pointer (some (ad.add (k * 4)))), .is (.pointer (some (ad.add (k * 4)))), .is (.int .i64 ((j : Int))), .is (.int .i64 ((j : Int))), .is (.bool (true)), .is (.bool (true)), .is (.agg #[.slice (G9) (32) (cg9), .slice (Q2) (q) (dq), .int .i64 (1)]), .is (.agg #[.int .i64 (5), .slice (B) (32) (d)]), .is (.slice ((some ad)) (m) (cm)), .is (.int .i64 ((k : Int))), .is (.pointer (some (ad.add (k * 4)))), .is (.agg #[.int .i64 ((j : Int)), .int .i64 (kx), .slice (P) (np) (cp), .slice (Q) (nq) (cq)]), .is (.bool (true)), .is (.bool (true)), .is (.bool (true))] rfl ⟨?_, ?_, ?_, ?_, ?_, ?_, ?_, ?_, ?_, ?_, ?_, ?_, ?_, ?_, ?_, ?_, ?_, ?_, ?_, trivial⟩ ?_
                · refine stepE rfl fun sdn sa sw sE sd sk => ?_
                  have h12 : sa.eval (.tmp 12) = .bool (false) := sk.old 12 rfl
                  exact Runs.move rfl h12 ⟨Ext.refl _, rfl⟩
                · refine stepE rfl fun sdn sa sw sE sd sk => ?_
                  have h38 : sa.eval (.tmp 38) = .bool (false) := sk.fact 0 38 rfl (sd 0 rfl)
                  exact Runs.move rfl h38 ⟨Ext.refl _, rfl⟩
                · refine stepY (j := 1) (d := 39) (b := false) rfl rfl rfl (fun v w h => h) fun sdn sa sw sE sd sk => ?_
                  have h8 : sa.eval (.tmp 8) = .slice ((some ad)) (m) (cm) := sk.old 8 rfl
                  exact Runs.move rfl h8 ⟨Ext.refl _, rfl⟩
                · refine stepY (j := 1) (d := 39) (b := false) rfl rfl rfl (fun v w h => h) fun sdn sa sw sE sd sk => ?_
                  have h13 : sa.eval (.tmp 13) = .int .i64 ((k : Int)) := sk.old 13 rfl
                  exact Runs.move rfl h13 ⟨Ext.refl _, rfl⟩
                · refine stepY (j := 1) (d := 39) (b := false) rfl rfl rfl (fun v w h => h) fun sdn sa sw sE sd sk => ?_
                  have h40 : sa.eval (.tmp 40) = .slice ((some ad)) (m) (cm) := sk.fact 2 40 rfl (sd 2 rfl)
                  have h41 : sa.eval (.tmp 41) = .int .i64 ((k : Int)) := sk.fact 3 41 rfl (sd 3 rfl)
                  exact Runs.idx rfl h40 h41 (run_idx_sl4 Try.underlying67 infC_eq infC_size (k) (by omega) (by omega)) ⟨Ext.refl _, rfl⟩
                · refine stepY (j := 1) (d := 39) (b := false) rfl rfl rfl (fun v w h => h) fun sdn sa sw sE sd sk => ?_
                  have h42 : sa.eval (.tmp 42) = .pointer (some (ad.add (k * 4))) := sk.fact 4 42 rfl (sd 4 rfl)
                  refine Runs.of_run (r := .pointer (some (ad.add (k * 4)))) (w' := sw) ?_ ⟨Ext.refl _, rfl⟩
                  unfold execOp
                  simp only [h42]
                  go_simp
                · refine stepY (j := 1) (d := 39) (b := false) rfl rfl rfl (fun v w h => h) fun sdn sa sw sE sd sk => ?_
                  have h43 : sa.eval (.tmp 43) = .pointer (some (ad.add (k * 4))) := sk.fact 5 43 rfl (sd 5 rfl)
                  exact Runs.load rfl h43 (run_load1 Try.underlying3 rfl (sE.cell k0)) ⟨Ext.refl _, rfl⟩
                · refine stepY (j := 1) (d := 39) (b := false) rfl rfl rfl (fun v w h => h) fun sdn sa sw sE sd sk => ?_
                  have h11 : sa.eval (.tmp 11) = .int .i64 ((j : Int)) := sk.old 11 rfl
                  exact Runs.move rfl h11 ⟨Ext.refl _, rfl⟩
                · refine stepY (j := 1) (d := 39) (b := false) rfl rfl rfl (fun v w h => h) fun sdn sa sw sE sd sk => ?_
                  have h44 : sa.eval (.tmp 44) = .int .i64 ((j : Int)) := sk.fact 6 44 rfl (sd 6 rfl)
                  have h45 : sa.eval (.tmp 45) = .int .i64 ((j : Int)) := sk.fact 7 45 rfl (sd 7 rfl)
                  exact Runs.bin rfl h44 h45 (by rfl) (bin_eql _ _ _ _) ⟨Ext.refl _, congrArg Value.bool (by simp)⟩
                · refine stepY (j := 1) (d := 39) (b := false) rfl rfl rfl (fun v w h => h) fun sdn sa sw sE sd sk => ?_
                  have h46 : sa.eval (.tmp 46) = .bool (true) := sk.fact 8 46 rfl (sd 8 rfl)
                  exact Runs.move rfl h46 ⟨Ext.refl _, rfl⟩
                · refine stepY (j := 9) (d := 47) (b := true) rfl rfl rfl (fun v w h => h) fun sdn sa sw sE sd sk => ?_
                  have h6 : sa.eval (.tmp 6) = .pointer (some ⟨g6, 0, none⟩) := sk.old 6 rfl
                  exact Runs.load rfl h6 (load_part (hB61.ext sE) 0 (vs := [.slice (G9) (32) (cg9), .slice (Q2) (q) (dq), .int .i64 (1)]) rfl Try.underlying77 rfl (by kernel_rfl)) ⟨Ext.refl _, rfl⟩
                · refine stepY (j := 9) (d := 47) (b := true) rfl rfl rfl (fun v w h => h) fun sdn sa sw sE sd sk => ?_
                  have h7 : sa.eval (.tmp 7) = .pointer (some ⟨g7, 0, none⟩) := sk.old 7 rfl
                  exact Runs.load rfl h7 (load_part (hB71.ext sE) 0 (vs := [.int .i64 (5), .slice (B) (32) (d)]) rfl Try.underlying24 rfl (by kernel_rfl)) ⟨Ext.refl _, rfl⟩
                · refine stepY (j := 9) (d := 47) (b := true) rfl rfl rfl (fun v w h => h) fun sdn sa sw sE sd sk => ?_
                  have h8 : sa.eval (.tmp 8) = .slice ((some ad)) (m) (cm) := sk.old 8 rfl
                  exact Runs.move rfl h8 ⟨Ext.refl _, rfl⟩
                · refine stepY (j := 9) (d := 47) (b := true) rfl rfl rfl (fun v w h => h) fun sdn sa sw sE sd sk => ?_
                  have h13 : sa.eval (.tmp 13) = .int .i64 ((k : Int)) := sk.old 13 rfl
                  exact Runs.move rfl h13 ⟨Ext.refl _, rfl⟩
                · refine stepY (j := 9) (d := 47) (b := true) rfl rfl rfl (fun v w h => h) fun sdn sa sw sE sd sk => ?_
                  have h50 : sa.eval (.tmp 50) = .slice ((some ad)) (m) (cm) := sk.fact 12 50 rfl (sd 12 rfl)
                  have h51 : sa.eval (.tmp 51) = .int .i64 ((k : Int)) := sk.fact 13 51 rfl (sd 13 rfl)
                  exact Runs.idx rfl h50 h51 (run_idx_sl4 Try.underlying67 infC_eq infC_size (k) (by omega) (by omega)) ⟨Ext.refl _, rfl⟩
                · refine stepY (j := 9) (d := 47) (b := true) rfl rfl rfl (fun v w h => h) fun sdn sa sw sE sd sk => ?_
                  have h52 : sa.eval (.tmp 52) = .pointer (some (ad.add (k * 4))) := sk.fact 14 52 rfl (sd 14 rfl)
                  exact Runs.load rfl h52 (load_cs (sE.cell k0) (sE.cell k1) (sE.cell k2) (sE.cell k3)) ⟨Ext.refl _, rfl⟩
                · refine stepY (j := 9) (d := 47) (b := true) rfl rfl rfl (fun v w h => h) fun sdn sa sw sE sd sk => ?_
                  have h48 : sa.eval (.tmp 48) = .agg #[.slice (G9) (32) (cg9), .slice (Q2) (q) (dq), .int .i64 (1)] := sk.fact 10 48 rfl (sd 10 rfl)
                  have h49 : sa.eval (.tmp 49) = .agg #[.int .i64 (5), .slice (B) (32) (d)] := sk.fact 11 49 rfl (sd 11 rfl)
                  have h53 : sa.eval (.tmp 53) = .agg #[.int .i64 ((j : Int)), .int .i64 (kx), .slice (P) (np) (cp), .slice (Q) (nq) (cq)] := sk.fact 15 53 rfl (sd 15 rfl)
                  refine Runs.call (f := 49) (vs := [.agg #[.slice (G9) (32) (cg9), .slice (Q2) (q) (dq), .int .i64 (1)], .agg #[.int .i64 (5), .slice (B) (32) (d)], .agg #[.int .i64 ((j : Int)), .int .i64 (kx), .slice (P) (np) (cp), .slice (Q) (nq) (cq)]]) rfl rfl rfl (by simp only [List.map_toArray, List.map_cons, List.map_nil, h48, h49, h53] <;> rfl) (ent49 _ _) ((cosverify_any _ _ _ _ _ _ _ _ _ _ _ _ _ _ _ _ _ _ _ _ _ _ _ _ sw (rG1.ext sE) (rQ1.ext sE) (rR1.ext sE) (rP.ext sE) (rX.ext sE)).mono ?_); rintro e w' ⟨rfl, hx⟩; exact ⟨_, rfl, hx, congrArg Value.bool (Hcb.out)⟩
                · refine stepY (j := 1) (d := 39) (b := false) rfl rfl rfl (fun v w h => h) fun sdn sa sw sE sd sk => ?_
                  have h47 : sa.eval (.tmp 47) = .bool (true) := sk.fact 9 47 rfl (sd 9 rfl)
                  have h54 : sa.eval (.tmp 54) = .bool (true) := sk.fact 16 54 rfl (sd 16 rfl)
                  exact Runs.pick rfl h47 ⟨Ext.refl _, by first | exact h54 | simpa using h54⟩
                · refine stepE rfl fun sdn sa sw sE sd sk => ?_
                  have h39 : sa.eval (.tmp 39) = .bool (false) := sk.fact 1 39 rfl (sd 1 rfl)
                  have h55 : sa.eval (.tmp 55) = .bool (true) := sk.fact 17 55 rfl (sd 17 rfl)
                  exact Runs.pick rfl h39 ⟨Ext.refl _, by first | exact h55 | simpa using h55⟩
                intro vals W14 hE14 hv14
                have e0 : vals 0 = .bool (false) := hv14 0 (by omega) 38 rfl
                have e1 : vals 1 = .bool (false) := hv14 1 (by omega) 39 rfl
                have e2 : vals 2 = .slice ((some ad)) (m) (cm) := hv14 2 (by omega) 40 rfl
                have e3 : vals 3 = .int .i64 ((k : Int)) := hv14 3 (by omega) 41 rfl
                have e4 : vals 4 = .pointer (some (ad.add (k * 4))) := hv14 4 (by omega) 42 rfl
                have e5 : vals 5 = .pointer (some (ad.add (k * 4))) := hv14 5 (by omega) 43 rfl
                have e6 : vals 6 = .int .i64 ((j : Int)) := hv14 6 (by omega) 44 rfl
                have e7 : vals 7 = .int .i64 ((j : Int)) := hv14 7 (by omega) 45 rfl
                have e8 : vals 8 = .bool (true) := hv14 8 (by omega) 46 rfl
                have e9 : vals 9 = .bool (true) := hv14 9 (by omega) 47 rfl
                have e10 : vals 10 = .agg #[.slice (G9) (32) (cg9), .slice (Q2) (q) (dq), .int .i64 (1)] := hv14 10 (by omega) 48 rfl
                have e11 : vals 11 = .agg #[.int .i64 (5), .slice (B) (32) (d)] := hv14 11 (by omega) 49 rfl
                have e12 : vals 12 = .slice ((some ad)) (m) (cm) := hv14 12 (by omega) 50 rfl
                have e13 : vals 13 = .int .i64 ((k : Int)) := hv14 13 (by omega) 51 rfl
                have e14 : vals 14 = .pointer (some (ad.add (k * 4))) := hv14 14 (by omega) 52 rfl
                have e15 : vals 15 = .agg #[.int .i64 ((j : Int)), .int .i64 (kx), .slice (P) (np) (cp), .slice (Q) (nq) (cq)] := hv14 15 (by omega) 53 rfl
                have e16 : vals 16 = .bool (true) := hv14 16 (by omega) 54 rfl
                have e17 : vals 17 = .bool (true) := hv14 17 (by omega) 55 rfl
                have e18 : vals 18 = .bool (true) := hv14 18 (by omega) 56 rfl
                simp only [putAll, Act.put, List.take_succ_cons, List.take_zero, List.drop_succ_cons, List.drop_zero, List.drop_nil, List.take_nil, Nat.reduceAdd, List.setIfInBounds_toArray, List.set_cons_succ, List.set_cons_zero, e0, e1, e2, e3, e4, e5, e6, e7, e8, e9, e10, e11, e12, e13, e14, e15, e16, e17, e18]
                clear hv14 e0 e1 e2 e3 e4 e5 e6 e7 e8 e9 e10 e11 e12 e13 e14 e15 e16 e17 e18
                go_wp2_with fail
                go_roundw
                case rel => exact mid hE14 (by simp)
                case measure => simp [intOf]; omega
              | false =>
                have hvt := hvg.trans hcb
                rw [hvt] at mid
                have Hcb := Lib.hid hcb
                clear hcb hvg hvt
                go_upto_region 14 with (fail)
                refine par_ext (n := 19) (by kernel_rfl) [.is (.bool (false)), .is (.bool (false)), .is (.slice ((some ad)) (m) (cm)), .is (.int .i64 ((k : Int))), .is (.pointer (some (ad.add (k * 4)))), .is (.pointer (some (ad.add (k * 4)))), .is (.int .i64 ((j : Int))), .is (.int .i64 ((j : Int))), .is (.bool (true)), .is (.bool (true)), .is (.agg #[.slice (G9) (32) (cg9), .slice (Q2) (q) (dq), .int .i64 (1)]), .is (.agg #[.int .i64 (5), .slice (B) (32) (d)]), .is (.slice ((some ad)) (m) (cm)), .is (.int .i64 ((k : Int))), .is (.pointer (some (ad.add (k * 4)))), .is (.agg #[.int .i64 ((j : Int)), .int .i64 (kx), .slice (P) (np) (cp), .slice (Q) (nq) (cq)]), .is (.bool (false)), .is (.bool (false)), .is (.bool (false))] rfl ⟨?_, ?_, ?_, ?_, ?_, ?_, ?_, ?_, ?_, ?_, ?_, ?_, ?_, ?_, ?_, ?_, ?_, ?_, ?_, trivial⟩ ?_
                · refine stepE rfl fun sdn sa sw sE sd sk => ?_
                  have h12 : sa.eval (.tmp 12) = .bool (false) := sk.old 12 rfl
                  exact Runs.move rfl h12 ⟨Ext.refl _, rfl⟩
                · refine stepE rfl fun sdn sa sw sE sd sk => ?_
                  have h38 : sa.eval (.tmp 38) = .bool (false) := sk.fact 0 38 rfl (sd 0 rfl)
                  exact Runs.move rfl h38 ⟨Ext.refl _, rfl⟩
                · refine stepY (j := 1) (d := 39) (b := false) rfl rfl rfl (fun v w h => h) fun sdn sa sw sE sd sk => ?_
                  have h8 : sa.eval (.tmp 8) = .slice ((some ad)) (m) (cm) := sk.old 8 rfl
                  exact Runs.move rfl h8 ⟨Ext.refl _, rfl⟩
                · refine stepY (j := 1) (d := 39) (b := false) rfl rfl rfl (fun v w h => h) fun sdn sa sw sE sd sk => ?_
                  have h13 : sa.eval (.tmp 13) = .int .i64 ((k : Int)) := sk.old 13 rfl
                  exact Runs.move rfl h13 ⟨Ext.refl _, rfl⟩
                · refine stepY (j := 1) (d := 39) (b := false) rfl rfl rfl (fun v w h => h) fun sdn sa sw sE sd sk => ?_
                  have h40 : sa.eval (.tmp 40) = .slice ((some ad)) (m) (cm) := sk.fact 2 40 rfl (sd 2 rfl)
                  have h41 : sa.eval (.tmp 41) = .int .i64 ((k : Int)) := sk.fact 3 41 rfl (sd 3 rfl)
                  exact Runs.idx rfl h40 h41 (run_idx_sl4 Try.underlying67 infC_eq infC_size (k) (by omega) (by omega)) ⟨Ext.refl _, rfl⟩
                · refine stepY (j := 1) (d := 39) (b := false) rfl rfl rfl (fun v w h => h) fun sdn sa sw sE sd sk => ?_
                  have h42 : sa.eval (.tmp 42) = .pointer (some (ad.add (k * 4))) := sk.fact 4 42 rfl (sd 4 rfl)
                  refine Runs.of_run (r := .pointer (some (ad.add (k * 4)))) (w' := sw) ?_ ⟨Ext.refl _, rfl⟩
                  unfold execOp
                  simp only [h42]
                  go_simp
                · refine stepY (j := 1) (d := 39) (b := false) rfl rfl rfl (fun v w h => h) fun sdn sa sw sE sd sk => ?_
                  have h43 : sa.eval (.tmp 43) = .pointer (some (ad.add (k * 4))) := sk.fact 5 43 rfl (sd 5 rfl)
                  exact Runs.load rfl h43 (run_load1 Try.underlying3 rfl (sE.cell k0)) ⟨Ext.refl _, rfl⟩
                · refine stepY (j := 1) (d := 39) (b := false) rfl rfl rfl (fun v w h => h) fun sdn sa sw sE sd sk => ?_
                  have h11 : sa.eval (.tmp 11) = .int .i64 ((j : Int)) := sk.old 11 rfl
                  exact Runs.move rfl h11 ⟨Ext.refl _, rfl⟩
                · refine stepY (j := 1) (d := 39) (b := false) rfl rfl rfl (fun v w h => h) fun sdn sa sw sE sd sk => ?_
                  have h44 : sa.eval (.tmp 44) = .int .i64 ((j : Int)) := sk.fact 6 44 rfl (sd 6 rfl)
                  have h45 : sa.eval (.tmp 45) = .int .i64 ((j : Int)) := sk.fact 7 45 rfl (sd 7 rfl)
                  exact Runs.bin rfl h44 h45 (by rfl) (bin_eql _ _ _ _) ⟨Ext.refl _, congrArg Value.bool (by simp)⟩
                · refine stepY (j := 1) (d := 39) (b := false) rfl rfl rfl (fun v w h => h) fun sdn sa sw sE sd sk => ?_
                  have h46 : sa.eval (.tmp 46) = .bool (true) := sk.fact 8 46 rfl (sd 8 rfl)
                  exact Runs.move rfl h46 ⟨Ext.refl _, rfl⟩
                · refine stepY (j := 9) (d := 47) (b := true) rfl rfl rfl (fun v w h => h) fun sdn sa sw sE sd sk => ?_
                  have h6 : sa.eval (.tmp 6) = .pointer (some ⟨g6, 0, none⟩) := sk.old 6 rfl
                  exact Runs.load rfl h6 (load_part (hB61.ext sE) 0 (vs := [.slice (G9) (32) (cg9), .slice (Q2) (q) (dq), .int .i64 (1)]) rfl Try.underlying77 rfl (by kernel_rfl)) ⟨Ext.refl _, rfl⟩
                · refine stepY (j := 9) (d := 47) (b := true) rfl rfl rfl (fun v w h => h) fun sdn sa sw sE sd sk => ?_
                  have h7 : sa.eval (.tmp 7) = .pointer (some ⟨g7, 0, none⟩) := sk.old 7 rfl
                  exact Runs.load rfl h7 (load_part (hB71.ext sE) 0 (vs := [.int .i64 (5), .slice (B) (32) (d)]) rfl Try.underlying24 rfl (by kernel_rfl)) ⟨Ext.refl _, rfl⟩
                · refine stepY (j := 9) (d := 47) (b := true) rfl rfl rfl (fun v w h => h) fun sdn sa sw sE sd sk => ?_
                  have h8 : sa.eval (.tmp 8) = .slice ((some ad)) (m) (cm) := sk.old 8 rfl
                  exact Runs.move rfl h8 ⟨Ext.refl _, rfl⟩
                · refine stepY (j := 9) (d := 47) (b := true) rfl rfl rfl (fun v w h => h) fun sdn sa sw sE sd sk => ?_
                  have h13 : sa.eval (.tmp 13) = .int .i64 ((k : Int)) := sk.old 13 rfl
                  exact Runs.move rfl h13 ⟨Ext.refl _, rfl⟩
                · refine stepY (j := 9) (d := 47) (b := true) rfl rfl rfl (fun v w h => h) fun sdn sa sw sE sd sk => ?_
                  have h50 : sa.eval (.tmp 50) = .slice ((some ad)) (m) (cm) := sk.fact 12 50 rfl (sd 12 rfl)
                  have h51 : sa.eval (.tmp 51) = .int .i64 ((k : Int)) := sk.fact 13 51 rfl (sd 13 rfl)
                  exact Runs.idx rfl h50 h51 (run_idx_sl4 Try.underlying67 infC_eq infC_size (k) (by omega) (by omega)) ⟨Ext.refl _, rfl⟩
                · refine stepY (j := 9) (d := 47) (b := true) rfl rfl rfl (fun v w h => h) fun sdn sa sw sE sd sk => ?_
                  have h52 : sa.eval (.tmp 52) = .pointer (some (ad.add (k * 4))) := sk.fact 14 52 rfl (sd 14 rfl)
                  exact Runs.load rfl h52 (load_cs (sE.cell k0) (sE.cell k1) (sE.cell k2) (sE.cell k3)) ⟨Ext.refl _, rfl⟩
                · refine stepY (j := 9) (d := 47) (b := true) rfl rfl rfl (fun v w h => h) fun sdn sa sw sE sd sk => ?_
                  have h48 : sa.eval (.tmp 48) = .agg #[.slice (G9) (32) (cg9), .slice (Q2) (q) (dq), .int .i64 (1)] := sk.fact 10 48 rfl (sd 10 rfl)
                  have h49 : sa.eval (.tmp 49) = .agg #[.int .i64 (5), .slice (B) (32) (d)] := sk.fact 11 49 rfl (sd 11 rfl)
                  have h53 : sa.eval (.tmp 53) = .agg #[.int .i64 ((j : Int)), .int .i64 (kx), .slice (P) (np) (cp), .slice (Q) (nq) (cq)] := sk.fact 15 53 rfl (sd 15 rfl)
                  refine Runs.call (f := 49) (vs := [.agg #[.slice (G9) (32) (cg9), .slice (Q2) (q) (dq), .int .i64 (1)], .agg #[.int .i64 (5), .slice (B) (32) (d)], .agg #[.int .i64 ((j : Int)), .int .i64 (kx), .slice (P) (np) (cp), .slice (Q) (nq) (cq)]]) rfl rfl rfl (by simp only [List.map_toArray, List.map_cons, List.map_nil, h48, h49, h53] <;> rfl) (ent49 _ _) ((cosverify_any _ _ _ _ _ _ _ _ _ _ _ _ _ _ _ _ _ _ _ _ _ _ _ _ sw (rG1.ext sE) (rQ1.ext sE) (rR1.ext sE) (rP.ext sE) (rX.ext sE)).mono ?_); rintro e w' ⟨rfl, hx⟩; exact ⟨_, rfl, hx, congrArg Value.bool (Hcb.out)⟩
                · refine stepY (j := 1) (d := 39) (b := false) rfl rfl rfl (fun v w h => h) fun sdn sa sw sE sd sk => ?_
                  have h47 : sa.eval (.tmp 47) = .bool (true) := sk.fact 9 47 rfl (sd 9 rfl)
                  have h54 : sa.eval (.tmp 54) = .bool (false) := sk.fact 16 54 rfl (sd 16 rfl)
                  exact Runs.pick rfl h47 ⟨Ext.refl _, by first | exact h54 | simpa using h54⟩
                · refine stepE rfl fun sdn sa sw sE sd sk => ?_
                  have h39 : sa.eval (.tmp 39) = .bool (false) := sk.fact 1 39 rfl (sd 1 rfl)
                  have h55 : sa.eval (.tmp 55) = .bool (false) := sk.fact 17 55 rfl (sd 17 rfl)
                  exact Runs.pick rfl h39 ⟨Ext.refl _, by first | exact h55 | simpa using h55⟩
                intro vals W14 hE14 hv14
                have e0 : vals 0 = .bool (false) := hv14 0 (by omega) 38 rfl
                have e1 : vals 1 = .bool (false) := hv14 1 (by omega) 39 rfl
                have e2 : vals 2 = .slice ((some ad)) (m) (cm) := hv14 2 (by omega) 40 rfl
                have e3 : vals 3 = .int .i64 ((k : Int)) := hv14 3 (by omega) 41 rfl
                have e4 : vals 4 = .pointer (some (ad.add (k * 4))) := hv14 4 (by omega) 42 rfl
                have e5 : vals 5 = .pointer (some (ad.add (k * 4))) := hv14 5 (by omega) 43 rfl
                have e6 : vals 6 = .int .i64 ((j : Int)) := hv14 6 (by omega) 44 rfl
                have e7 : vals 7 = .int .i64 ((j : Int)) := hv14 7 (by omega) 45 rfl
                have e8 : vals 8 = .bool (true) := hv14 8 (by omega) 46 rfl
                have e9 : vals 9 = .bool (true) := hv14 9 (by omega) 47 rfl
                have e10 : vals 10 = .agg #[.slice (G9) (32) (cg9), .slice (Q2) (q) (dq), .int .i64 (1)] := hv14 10 (by omega) 48 rfl
                have e11 : vals 11 = .agg #[.int .i64 (5), .slice (B) (32) (d)] := hv14 11 (by omega) 49 rfl
                have e12 : vals 12 = .slice ((some ad)) (m) (cm) := hv14 12 (by omega) 50 rfl
                have e13 : vals 13 = .int .i64 ((k : Int)) := hv14 13 (by omega) 51 rfl
                have e14 : vals 14 = .pointer (some (ad.add (k * 4))) := hv14 14 (by omega) 52 rfl
                have e15 : vals 15 = .agg #[.int .i64 ((j : Int)), .int .i64 (kx), .slice (P) (np) (cp), .slice (Q) (nq) (cq)] := hv14 15 (by omega) 53 rfl
                have e16 : vals 16 = .bool (false) := hv14 16 (by omega) 54 rfl
                have e17 : vals 17 = .bool (false) := hv14 17 (by omega) 55 rfl
                have e18 : vals 18 = .bool (false) := hv14 18 (by omega) 56 rfl
                simp only [putAll, Act.put, List.take_succ_cons, List.take_zero, List.drop_succ_cons, List.drop_zero, List.drop_nil, List.take_nil, Nat.reduceAdd, List.setIfInBounds_toArray, List.set_cons_succ, List.set_cons_zero, e0, e1, e2, e3, e4, e5, e6, e7, e8, e9, e10, e11, e12, e13, e14, e15, e16, e17, e18]
                clear hv14 e0 e1 e2 e3 e4 e5 e6 e7 e8 e9 e10 e11 e12 e13 e14 e15 e16 e17 e18
                go_wp2_with fail
                go_roundw
                case rel => exact mid hE14 (by simp)
                case measure => simp [intOf]; omega
            · have Hw := Lib.hid hw
              go_upto_region 14 with (fail)
              refine par_ext (n := 19) (by kernel_rfl) [.is (.bool (false)), .is (.bool (false)), .is (.slice ((some ad)) (m) (cm)), .is (.int .i64 ((k : Int))), .is (.pointer (some (ad.add (k * 4)))), .is (.pointer (some (ad.add (k * 4)))), .is (.int .i64 (wn)), .is (.int .i64 ((j : Int))), .is (.bool (false)), .is (.bool (false)), .is undef, .is undef, .is undef, .is undef, .is undef, .is undef, .is undef, .is (.bool (false)), .is (.bool (false))] rfl ⟨?_, ?_, ?_, ?_, ?_, ?_, ?_, ?_, ?_, ?_, ?_, ?_, ?_, ?_, ?_, ?_, ?_, ?_, ?_, trivial⟩ ?_
              · refine stepE rfl fun sdn sa sw sE sd sk => ?_
                have h12 : sa.eval (.tmp 12) = .bool (false) := sk.old 12 rfl
                exact Runs.move rfl h12 ⟨Ext.refl _, rfl⟩
              · refine stepE rfl fun sdn sa sw sE sd sk => ?_
                have h38 : sa.eval (.tmp 38) = .bool (false) := sk.fact 0 38 rfl (sd 0 rfl)
                exact Runs.move rfl h38 ⟨Ext.refl _, rfl⟩
              · refine stepY (j := 1) (d := 39) (b := false) rfl rfl rfl (fun v w h => h) fun sdn sa sw sE sd sk => ?_
                have h8 : sa.eval (.tmp 8) = .slice ((some ad)) (m) (cm) := sk.old 8 rfl
                exact Runs.move rfl h8 ⟨Ext.refl _, rfl⟩
              · refine stepY (j := 1) (d := 39) (b := false) rfl rfl rfl (fun v w h => h) fun sdn sa sw sE sd sk => ?_
                have h13 : sa.eval (.tmp 13) = .int .i64 ((k : Int)) := sk.old 13 rfl
                exact Runs.move rfl h13 ⟨Ext.refl _, rfl⟩
              · refine stepY (j := 1) (d := 39) (b := false) rfl rfl rfl (fun v w h => h) fun sdn sa sw sE sd sk => ?_
                have h40 : sa.eval (.tmp 40) = .slice ((some ad)) (m) (cm) := sk.fact 2 40 rfl (sd 2 rfl)
                have h41 : sa.eval (.tmp 41) = .int .i64 ((k : Int)) := sk.fact 3 41 rfl (sd 3 rfl)
                exact Runs.idx rfl h40 h41 (run_idx_sl4 Try.underlying67 infC_eq infC_size (k) (by omega) (by omega)) ⟨Ext.refl _, rfl⟩
              · refine stepY (j := 1) (d := 39) (b := false) rfl rfl rfl (fun v w h => h) fun sdn sa sw sE sd sk => ?_
                have h42 : sa.eval (.tmp 42) = .pointer (some (ad.add (k * 4))) := sk.fact 4 42 rfl (sd 4 rfl)
                refine Runs.of_run (r := .pointer (some (ad.add (k * 4)))) (w' := sw) ?_ ⟨Ext.refl _, rfl⟩
                unfold execOp
                simp only [h42]
                go_simp
              · refine stepY (j := 1) (d := 39) (b := false) rfl rfl rfl (fun v w h => h) fun sdn sa sw sE sd sk => ?_
                have h43 : sa.eval (.tmp 43) = .pointer (some (ad.add (k * 4))) := sk.fact 5 43 rfl (sd 5 rfl)
                exact Runs.load rfl h43 (run_load1 Try.underlying3 rfl (sE.cell k0)) ⟨Ext.refl _, rfl⟩
              · refine stepY (j := 1) (d := 39) (b := false) rfl rfl rfl (fun v w h => h) fun sdn sa sw sE sd sk => ?_
                have h11 : sa.eval (.tmp 11) = .int .i64 ((j : Int)) := sk.old 11 rfl
                exact Runs.move rfl h11 ⟨Ext.refl _, rfl⟩
              · refine stepY (j := 1) (d := 39) (b := false) rfl rfl rfl (fun v w h => h) fun sdn sa sw sE sd sk => ?_
                have h44 : sa.eval (.tmp 44) = .int .i64 (wn) := sk.fact 6 44 rfl (sd 6 rfl)
                have h45 : sa.eval (.tmp 45) = .int .i64 ((j : Int)) := sk.fact 7 45 rfl (sd 7 rfl)
                exact Runs.bin rfl h44 h45 (by rfl) (bin_eql _ _ _ _) ⟨Ext.refl _, congrArg Value.bool (decide_eq_false Hw.out)⟩
              · refine stepY (j := 1) (d := 39) (b := false) rfl rfl rfl (fun v w h => h) fun sdn sa sw sE sd sk => ?_
                have h46 : sa.eval (.tmp 46) = .bool (false) := sk.fact 8 46 rfl (sd 8 rfl)
                exact Runs.move rfl h46 ⟨Ext.refl _, rfl⟩
              · exact stepN (j := 9) (d := 47) (b := false) rfl rfl rfl (fun v w h => h) fun w => rfl
              · exact stepN (j := 9) (d := 47) (b := false) rfl rfl rfl (fun v w h => h) fun w => rfl
              · exact stepN (j := 9) (d := 47) (b := false) rfl rfl rfl (fun v w h => h) fun w => rfl
              · exact stepN (j := 9) (d := 47) (b := false) rfl rfl rfl (fun v w h => h) fun w => rfl
              · exact stepN (j := 9) (d := 47) (b := false) rfl rfl rfl (fun v w h => h) fun w => rfl
              · exact stepN (j := 9) (d := 47) (b := false) rfl rfl rfl (fun v w h => h) fun w => rfl
              · exact stepN (j := 9) (d := 47) (b := false) rfl rfl rfl (fun v w h => h) fun w => rfl
              · refine stepY (j := 1) (d := 39) (b := false) rfl rfl rfl (fun v w h => h) fun sdn sa sw sE sd sk => ?_
                have h47 : sa.eval (.tmp 47) = .bool (false) := sk.fact 9 47 rfl (sd 9 rfl)
                exact Runs.pick rfl h47 ⟨Ext.refl _, rfl⟩
              · refine stepE rfl fun sdn sa sw sE sd sk => ?_
                have h39 : sa.eval (.tmp 39) = .bool (false) := sk.fact 1 39 rfl (sd 1 rfl)
                have h55 : sa.eval (.tmp 55) = .bool (false) := sk.fact 17 55 rfl (sd 17 rfl)
                exact Runs.pick rfl h39 ⟨Ext.refl _, by first | exact h55 | simpa using h55⟩
              intro vals W14 hE14 hv14
              have e0 : vals 0 = .bool (false) := hv14 0 (by omega) 38 rfl
              have e1 : vals 1 = .bool (false) := hv14 1 (by omega) 39 rfl
              have e2 : vals 2 = .slice ((some ad)) (m) (cm) := hv14 2 (by omega) 40 rfl
              have e3 : vals 3 = .int .i64 ((k : Int)) := hv14 3 (by omega) 41 rfl
              have e4 : vals 4 = .pointer (some (ad.add (k * 4))) := hv14 4 (by omega) 42 rfl
              have e5 : vals 5 = .pointer (some (ad.add (k * 4))) := hv14 5 (by omega) 43 rfl
              have e6 : vals 6 = .int .i64 (wn) := hv14 6 (by omega) 44 rfl
              have e7 : vals 7 = .int .i64 ((j : Int)) := hv14 7 (by omega) 45 rfl
              have e8 : vals 8 = .bool (false) := hv14 8 (by omega) 46 rfl
              have e9 : vals 9 = .bool (false) := hv14 9 (by omega) 47 rfl
              have e17 : vals 17 = .bool (false) := hv14 17 (by omega) 55 rfl
              have e18 : vals 18 = .bool (false) := hv14 18 (by omega) 56 rfl
              simp only [putAll, Act.put, List.take_succ_cons, List.take_zero, List.drop_succ_cons, List.drop_zero, List.drop_nil, List.take_nil, Nat.reduceAdd, List.setIfInBounds_toArray, List.set_cons_succ, List.set_cons_zero, e0, e1, e2, e3, e4, e5, e6, e7, e8, e9, e17, e18]
              clear hv14 e0 e1 e2 e3 e4 e5 e6 e7 e8 e9 e17 e18
              go_wp2_with fail
              go_roundw
              case rel => exact mid hE14 (by simp [Hw.out])
              case measure => simp [intOf]; omega
        · obtain rfl : k = m := by omega
          have ht : gs.take k = gs := List.take_of_length_le (by rw [rM.len]; exact Nat.le_refl _)
          rw [ht]
          have hEo := hEr.trans hEk
          cases hin : seenL v gs j with
          | true =>
            have e1 : cntTo v gs (j + 1) = cntTo v gs j + 1 := by
              show cntTo v gs j + b2i (seenL v gs j) = _
              rw [hin]
              rfl
            have He1 := Lib.hid e1
            clear ht hin e1
            go_wp2_with fail
            go_roundw
            case rel => exact ⟨j + 1, by omega, by go_num, by rw [He1.out], hEo⟩
            case measure => simp [intOf]; omega
          | false =>
            have e1 : cntTo v gs (j + 1) = cntTo v gs j := by
              show cntTo v gs j + b2i (seenL v gs j) = _
              rw [hin]
              exact Int.add_zero _
            have He1 := Lib.hid e1
            clear ht hin e1
            go_wp2_with fail
            go_roundw
            case rel => exact ⟨j + 1, by omega, by go_num, by rw [He1.out], hEo⟩
            case measure => simp [intOf]; omega
    · obtain rfl : j = q := by omega
      have hc1 : cntL (fun g => cosB H9 WL 1 5 R g.wn g.k g.ps g.qs) gs = cntTo v gs j := by rw [Hv.out]; exact cntL_to Hwl.out hq4
      have hc2 := (cntL_rev (fun g => cosB H9 WL 1 5 R g.wn g.k g.ps g.qs) gs).trans hc1
      have hc3 := (cntL_dup (fun g => cosB H9 WL 1 5 R g.wn g.k g.ps g.qs) gs).trans hc1
      have hc4 := (cntTo_le v gs j).2
      generalize cntTo v gs j = cs at *
      have Hc1 := Lib.hid hc1
      have Hc2 := Lib.hid hc2
      have Hc3 := Lib.hid hc3
      have Hc4 := Lib.hid hc4
      clear hc1 hc2 hc3 hc4 hlt hj
      replace rG := rG.ext hEr
      replace rQ := rQ.ext hEr
      replace hB6 := hB6.ext hEr
      replace rR := rR.ext hEr
      replace hB7 := hB7.ext hEr
      replace vM := vM.ext hEr
      replace rM := rM.ext hEr
      replace hEa := hEa.trans hEr
      clear hEr
      obtain ⟨w7, hw7⟩ : ∃ w7, w7 = wr := ⟨_, rfl⟩
      subst hw7
      go_wp2_with fail
      go_loopw [14, 9] (fun i o wr => C11B w7 m vs gs i o wr) (fun i _ _ => (intOf i + 1).toNat)
      case atStart => exact ⟨0, (m : Int) - 1, none, 0, by omega, by omega, rfl, rfl, by rw [List.take_zero, List.take_zero]; exact OCS.none_ _ _, Ext.refl _⟩
      case round =>
        obtain ⟨k, x, O, cO, hk, hx, rfl, rfl, own, hEr⟩ := hrel
        by_cases hkm : k < m
        · obtain ⟨p, rfl⟩ : ∃ p : Nat, x = (p : Int) := ⟨m - 1 - k, by omega⟩
          have hp : p = m - 1 - k := by omega
          have hpm : p < m := by omega
          have Hx := Lib.hid hx
          clear hx
          have hr1 := rev_take vs k m vM.lv hkm vz
          have hr2 := rev_take gs k m vM.lg hkm cz
          rw [← hp] at hr1 hr2
          have hr1' : vs.reverse.take (k + 1) = vs.reverse.take k ++ [cv_ vs p] := hr1
          have hr2' : gs.reverse.take (k + 1) = gs.reverse.take k ++ [cg_ gs p] := hr2
          have vM1 := vM.ext hEr
          obtain ⟨ad, hM, _⟩ := vM1.cells (by omega)
          subst hM
          obtain ⟨k0, k1, k2, k3⟩ := vM1.at_ hpm
          have hea := vM1.each p hpm
          clear hr1 hr2 vM1 hp
          generalize cv_ vs p = u at *
          generalize cg_ gs p = g at *
          obtain ⟨wn, kx, P, cp, Q, cq⟩ := u
          obtain ⟨gw, gk, ps, qs⟩ := g
          obtain ⟨e1, e2, rP, rX⟩ := hea
          have e1' : gw = wn := e1
          have e2' : gk = kx := e2
          subst e1' e2'
          have Hr1 := Lib.hid hr1'
          have Hr2 := Lib.hid hr2'
          clear e1 e2 hr1' hr2'
          have hp0 : (0 : Int) ≤ (p : Int) := by omega
          have hpm' : (p : Int) < (m : Int) := by omega
          have k1' : wr.cell? ⟨(ad.add (p * 4)).block, (ad.add (p * 4)).off + 1, none⟩ = some (.int .i64 gk) := k1
          have k2' : wr.cell? ⟨(ad.add (p * 4)).block, (ad.add (p * 4)).off + 2, none⟩ = some (.slice P 64 cp) := k2
          have k3' : wr.cell? ⟨(ad.add (p * 4)).block, (ad.add (p * 4)).off + 3, none⟩ = some (.slice Q 4 cq) := k3
          have k0' : wr.cell? (ad.add (p * 4)) = some (.int .i64 gw) := k0
          have hcmr := rM.room
          clear k0 k1 k2 k3
          have hEx := Ext.new wr (.cells #[.int .i64 gw, .int .i64 gk, .slice P 64 cp, .slice Q 4 cq] 69)
          have hBx := Blk.new wr 69 #[.int .i64 gw, .int .i64 gk, .slice P 64 cp, .slice Q 4 cq]
          have one := RCV.one hBx (RBB.ext rP hEx) (RBB.ext rX hEx)
          have own2 := own.ext hEx
          have hEq := hEr.trans hEx
          go_wp2_with (refine appcs_law rfl rfl rfl rfl own2 one hEq.size (by omega) (by omega) ?_; intro O5 c5 w5 own5 g5)
          have hE5 := hEq.then_grown g5 (fun b hb => (own2.lt hb).1)
          go_roundw
          case rel => exact ⟨k + 1, _, O5, c5, by omega, by have := Hx.out; omega, rfl, rfl, by rw [Hr1.out, Hr2.out]; exact own5, hE5⟩
          case measure => simp [intOf] <;> omega
        · obtain rfl : k = m := by omega
          obtain rfl : x = -1 := by omega
          have ht : gs.reverse.take k = gs.reverse := List.take_of_length_le (by rw [List.length_reverse, vM.lg]; exact Nat.le_refl _)
          have rO := own.rcv.rcs
          rw [ht] at rO
          replace rG := rG.ext hEr
          replace rQ := rQ.ext hEr
          replace hB6 := hB6.ext hEr
          replace rR := rR.ext hEr
          replace hB7 := hB7.ext hEr
          replace vM := vM.ext hEr
          replace rM := rM.ext hEr
          replace hEa := hEa.trans hEr
          clear hEr ht own hkm hk hx
          go_upto_region 21 with (fail)
          have hSt19 : ∀ zj zm, ([.is (.agg #[.slice (G9) (32) (cg9), .slice (Q2) (j) (dq), .int .i64 (1)]), .is (.agg #[.int .i64 (5), .slice (B) (32) (d)]), .is (.slice (M) (k) (cm)), .is (.int .i64 (cntL (fun g => cosB H9 WL 1 5 R g.wn g.k g.ps g.qs) gs)), .is (.int .i64 (cs)), .is (.bool (true)), .is (.bool (true)), .is (.agg #[.slice (G9) (32) (cg9), .slice (Q2) (j) (dq), .int .i64 (1)]), .is (.agg #[.int .i64 (5), .slice (B) (32) (d)]), .is (.slice (O) (k) (cO)), .is (.int .i64 (cntL (fun g => cosB H9 WL 1 5 R g.wn g.k g.ps g.qs) gs.reverse)), .is (.int .i64 (cs)), .is (.bool (true)), .is (.bool (true)), .is (.bool (true)), .is (.agg #[.slice (G9) (32) (cg9), .slice (Q2) (j) (dq), .int .i64 (1)]), .is (.agg #[.int .i64 (5), .slice (B) (32) (d)]), .ocs (wr.heap.size) (0) ([]) ([]), .is (.slice (M) (k) (cm)), .ocs (wr.heap.size) (0 + k) ([] ++ vs) ([] ++ gs), .is (.slice (M) (k) (cm)), .ocs (wr.heap.size) (0 + k + k) ([] ++ vs ++ vs) ([] ++ gs ++ gs), .is (.int .i64 (cntL (fun g => cosB H9 WL 1 5 R g.wn g.k g.ps g.qs) ([] ++ gs ++ gs))), .is (.int .i64 (cs)), .is (.bool (true)), .is (.bool (true)), .is (.bool (true)), .is (.int .i64 (cs)), .is (.slice (A) (j) (c)), .is (.int .i64 ((j : Nat))), .is (.bool (true)), .is (.bool (true)), .is (.bool (true)), .is (.bool (true)), .is (.bool (true))] : List (MP Ext))[zj]? = some zm → zj ≠ 19 → ([(21, 19), (22, 19), (22, 21), (24, 19), (24, 21), (25, 19), (25, 21), (26, 19), (26, 21), (27, 19), (27, 21), (28, 19), (28, 21), (29, 19), (29, 21), (30, 19), (30, 21), (31, 19), (31, 21), (32, 19), (32, 21), (33, 19), (33, 21), (34, 19), (34, 21)] : List (Nat × Nat)).contains (zj, 19) = false → ZOK wr.heap.size 0 zm := by
            intro j m hm h7 h12
            rcases j with _ | _ | _ | _ | _ | _ | _ | _ | _ | _ | _ | _ | _ | _ | _ | _ | _ | _ | _ | _ | _ | _ | _ | _ | _ | _ | _ | _ | _ | _ | _ | _ | _ | _ | _ | j
            · injection hm with hm; subst hm; exact zok_is _ _ _
            · injection hm with hm; subst hm; exact zok_is _ _ _
            · injection hm with hm; subst hm; exact zok_is _ _ _
            · injection hm with hm; subst hm; exact zok_is _ _ _
            · injection hm with hm; subst hm; exact zok_is _ _ _
            · injection hm with hm; subst hm; exact zok_is _ _ _
            · injection hm with hm; subst hm; exact zok_is _ _ _
            · injection hm with hm; subst hm; exact zok_is _ _ _
            · injection hm with hm; subst hm; exact zok_is _ _ _
            · injection hm with hm; subst hm; exact zok_is _ _ _
            · injection hm with hm; subst hm; exact zok_is _ _ _
            · injection hm with hm; subst hm; exact zok_is _ _ _
            · injection hm with hm; subst hm; exact zok_is _ _ _
            · injection hm with hm; subst hm; exact zok_is _ _ _
            · injection hm with hm; subst hm; exact zok_is _ _ _
            · injection hm with hm; subst hm; exact zok_is _ _ _
            · injection hm with hm; subst hm; exact zok_is _ _ _
            · injection hm with hm; subst hm; exact zok_ocs (by omega) _ _
            · injection hm with hm; subst hm; exact zok_is _ _ _
            · exact absurd rfl h7
            · injection hm with hm; subst hm; exact zok_is _ _ _
            · exact absurd h12 (by decide)
            · exact absurd h12 (by decide)
            · injection hm with hm; subst hm; exact zok_is _ _ _
            · exact absurd h12 (by decide)
            · exact absurd h12 (by decide)
            · exact absurd h12 (by decide)
            · exact absurd h12 (by decide)
            · exact absurd h12 (by decide)
            · exact absurd h12 (by decide)
            · exact absurd h12 (by decide)
            · exact absurd h12 (by decide)
            · exact absurd h12 (by decide)
            · exact absurd h12 (by decide)
            · exact absurd h12 (by decide)
            · simp at hm
          have hSt21 : ∀ zj zm, ([.is (.agg #[.slice (G9) (32) (cg9), .slice (Q2) (j) (dq), .int .i64 (1)]), .is (.agg #[.int .i64 (5), .slice (B) (32) (d)]), .is (.slice (M) (k) (cm)), .is (.int .i64 (cntL (fun g => cosB H9 WL 1 5 R g.wn g.k g.ps g.qs) gs)), .is (.int .i64 (cs)), .is (.bool (true)), .is (.bool (true)), .is (.agg #[.slice (G9) (32) (cg9), .slice (Q2) (j) (dq), .int .i64 (1)]), .is (.agg #[.int .i64 (5), .slice (B) (32) (d)]), .is (.slice (O) (k) (cO)), .is (.int .i64 (cntL (fun g => cosB H9 WL 1 5 R g.wn g.k g.ps g.qs) gs.reverse)), .is (.int .i64 (cs)), .is (.bool (true)), .is (.bool (true)), .is (.bool (true)), .is (.agg #[.slice (G9) (32) (cg9), .slice (Q2) (j) (dq), .int .i64 (1)]), .is (.agg #[.int .i64 (5), .slice (B) (32) (d)]), .ocs (wr.heap.size) (0) ([]) ([]), .is (.slice (M) (k) (cm)), .ocs (wr.heap.size) (0 + k) ([] ++ vs) ([] ++ gs), .is (.slice (M) (k) (cm)), .ocs (wr.heap.size) (0 + k + k) ([] ++ vs ++ vs) ([] ++ gs ++ gs), .is (.int .i64 (cntL (fun g => cosB H9 WL 1 5 R g.wn g.k g.ps g.qs) ([] ++ gs ++ gs))), .is (.int .i64 (cs)), .is (.bool (true)), .is (.bool (true)), .is (.bool (true)), .is (.int .i64 (cs)), .is (.slice (A) (j) (c)), .is (.int .i64 ((j : Nat))), .is (.bool (true)), .is (.bool (true)), .is (.bool (true)), .is (.bool (true)), .is (.bool (true))] : List (MP Ext))[zj]? = some zm → zj ≠ 21 → ([(21, 19), (22, 19), (22, 21), (24, 19), (24, 21), (25, 19), (25, 21), (26, 19), (26, 21), (27, 19), (27, 21), (28, 19), (28, 21), (29, 19), (29, 21), (30, 19), (30, 21), (31, 19), (31, 21), (32, 19), (32, 21), (33, 19), (33, 21), (34, 19), (34, 21)] : List (Nat × Nat)).contains (zj, 21) = false → ZOK wr.heap.size (0 + k) zm := by
            intro j m hm h7 h12
            rcases j with _ | _ | _ | _ | _ | _ | _ | _ | _ | _ | _ | _ | _ | _ | _ | _ | _ | _ | _ | _ | _ | _ | _ | _ | _ | _ | _ | _ | _ | _ | _ | _ | _ | _ | _ | j
            · injection hm with hm; subst hm; exact zok_is _ _ _
            · injection hm with hm; subst hm; exact zok_is _ _ _
            · injection hm with hm; subst hm; exact zok_is _ _ _
            · injection hm with hm; subst hm; exact zok_is _ _ _
            · injection hm with hm; subst hm; exact zok_is _ _ _
            · injection hm with hm; subst hm; exact zok_is _ _ _
            · injection hm with hm; subst hm; exact zok_is _ _ _
            · injection hm with hm; subst hm; exact zok_is _ _ _
            · injection hm with hm; subst hm; exact zok_is _ _ _
            · injection hm with hm; subst hm; exact zok_is _ _ _
            · injection hm with hm; subst hm; exact zok_is _ _ _
            · injection hm with hm; subst hm; exact zok_is _ _ _
            · injection hm with hm; subst hm; exact zok_is _ _ _
            · injection hm with hm; subst hm; exact zok_is _ _ _
            · injection hm with hm; subst hm; exact zok_is _ _ _
            · injection hm with hm; subst hm; exact zok_is _ _ _
            · injection hm with hm; subst hm; exact zok_is _ _ _
            · injection hm with hm; subst hm; exact zok_ocs (by omega) _ _
            · injection hm with hm; subst hm; exact zok_is _ _ _
            · injection hm with hm; subst hm; exact zok_ocs (by omega) _ _
            · injection hm with hm; subst hm; exact zok_is _ _ _
            · exact absurd rfl h7
            · exact absurd h12 (by decide)
            · injection hm with hm; subst hm; exact zok_is _ _ _
            · exact absurd h12 (by decide)
            · exact absurd h12 (by decide)
            · exact absurd h12 (by decide)
            · exact absurd h12 (by decide)
            · exact absurd h12 (by decide)
            · exact absurd h12 (by decide)
            · exact absurd h12 (by decide)
            · exact absurd h12 (by decide)
            · exact absurd h12 (by decide)
            · exact absurd h12 (by decide)
            · exact absurd h12 (by decide)
            · simp at hm
          refine par_ap (n := 35) [(21, 19), (22, 19), (22, 21), (24, 19), (24, 21), (25, 19), (25, 21), (26, 19), (26, 21), (27, 19), (27, 21), (28, 19), (28, 21), (29, 19), (29, 21), (30, 19), (30, 21), (31, 19), (31, 21), (32, 19), (32, 21), (33, 19), (33, 21), (34, 19), (34, 21)] (by kernel_rfl) [.is (.agg #[.slice (G9) (32) (cg9), .slice (Q2) (j) (dq), .int .i64 (1)]), .is (.agg #[.int .i64 (5), .slice (B) (32) (d)]), .is (.slice (M) (k) (cm)), .is (.int .i64 (cntL (fun g => cosB H9 WL 1 5 R g.wn g.k g.ps g.qs) gs)), .is (.int .i64 (cs)), .is (.bool (true)), .is (.bool (true)), .is (.agg #[.slice (G9) (32) (cg9), .slice (Q2) (j) (dq), .int .i64 (1)]), .is (.agg #[.int .i64 (5), .slice (B) (32) (d)]), .is (.slice (O) (k) (cO)), .is (.int .i64 (cntL (fun g => cosB H9 WL 1 5 R g.wn g.k g.ps g.qs) gs.reverse)), .is (.int .i64 (cs)), .is (.bool (true)), .is (.bool (true)), .is (.bool (true)), .is (.agg #[.slice (G9) (32) (cg9), .slice (Q2) (j) (dq), .int .i64 (1)]), .is (.agg #[.int .i64 (5), .slice (B) (32) (d)]), .ocs (wr.heap.size) (0) ([]) ([]), .is (.slice (M) (k) (cm)), .ocs (wr.heap.size) (0 + k) ([] ++ vs) ([] ++ gs), .is (.slice (M) (k) (cm)), .ocs (wr.heap.size) (0 + k + k) ([] ++ vs ++ vs) ([] ++ gs ++ gs), .is (.int .i64 (cntL (fun g => cosB H9 WL 1 5 R g.wn g.k g.ps g.qs) ([] ++ gs ++ gs))), .is (.int .i64 (cs)), .is (.bool (true)), .is (.bool (true)), .is (.bool (true)), .is (.int .i64 (cs)), .is (.slice (A) (j) (c)), .is (.int .i64 ((j : Nat))), .is (.bool (true)), .is (.bool (true)), .is (.bool (true)), .is (.bool (true)), .is (.bool (true))] rfl ⟨?_, ?_, ?_, ?_, ?_, ?_, ?_, ?_, ?_, ?_, ?_, ?_, ?_, ?_, ?_, ?_, ?_, ?_, ?_, ?_, ?_, ?_, ?_, ?_, ?_, ?_, ?_, ?_, ?_, ?_, ?_, ?_, ?_, ?_, ?_, trivial⟩ ?_
          · refine stepEP rfl (by decide) fun sdn sa sw sE sd sk => ?_
            have h6 : sa.eval (.tmp 6) = .pointer (some ⟨g6, 0, none⟩) := sk.old 6 rfl
            exact Runs.load rfl h6 (load_part (hB6.ext sE) 0 (vs := [.slice (G9) (32) (cg9), .slice (Q2) (j) (dq), .int .i64 (1)]) rfl Try.underlying77 rfl (by kernel_rfl)) ⟨Ext.refl _, rfl⟩
          · refine stepEP rfl (by decide) fun sdn sa sw sE sd sk => ?_
            have h7 : sa.eval (.tmp 7) = .pointer (some ⟨g7, 0, none⟩) := sk.old 7 rfl
            exact Runs.load rfl h7 (load_part (hB7.ext sE) 0 (vs := [.int .i64 (5), .slice (B) (32) (d)]) rfl Try.underlying24 rfl (by kernel_rfl)) ⟨Ext.refl _, rfl⟩
          · refine stepEP rfl (by decide) fun sdn sa sw sE sd sk => ?_
            have h8 : sa.eval (.tmp 8) = .slice (M) (k) (cm) := sk.old 8 rfl
            exact Runs.move rfl h8 ⟨Ext.refl _, rfl⟩
          · refine stepEP rfl (by decide) fun sdn sa sw sE sd sk => ?_
            have h74 : sa.eval (.tmp 74) = .agg #[.slice (G9) (32) (cg9), .slice (Q2) (j) (dq), .int .i64 (1)] := sk.fact 0 74 rfl (sd 0 rfl)
            have h75 : sa.eval (.tmp 75) = .agg #[.int .i64 (5), .slice (B) (32) (d)] := sk.fact 1 75 rfl (sd 1 rfl)
            have h76 : sa.eval (.tmp 76) = .slice (M) (k) (cm) := sk.fact 2 76 rfl (sd 2 rfl)
            refine Runs.call (f := 44) (vs := [.agg #[.slice (G9) (32) (cg9), .slice (Q2) (j) (dq), .int .i64 (1)], .agg #[.int .i64 (5), .slice (B) (32) (d)], .slice (M) (k) (cm)]) rfl rfl rfl (by simp only [List.map_toArray, List.map_cons, List.map_nil, h74, h75, h76] <;> rfl) (ent44 _ _) ((cCount_any _ _ _ _ _ _ _ _ _ _ _ _ _ _ _ _ _ _ sw (rG.ext sE) (rQ.ext sE) (rR.ext sE) (rM.ext sE)).mono ?_); rintro e w' ⟨rfl, hx⟩; exact ⟨_, rfl, hx, rfl⟩
          · refine stepEP rfl (by decide) fun sdn sa sw sE sd sk => ?_
            have h10 : sa.eval (.tmp 10) = .int .i64 (cs) := sk.old 10 rfl
            exact Runs.move rfl h10 ⟨Ext.refl _, rfl⟩
          · refine stepEP rfl (by decide) fun sdn sa sw sE sd sk => ?_
            have h77 : sa.eval (.tmp 77) = .int .i64 (cntL (fun g => cosB H9 WL 1 5 R g.wn g.k g.ps g.qs) gs) := sk.fact 3 77 rfl (sd 3 rfl)
            have h78 : sa.eval (.tmp 78) = .int .i64 (cs) := sk.fact 4 78 rfl (sd 4 rfl)
            exact Runs.bin rfl h77 h78 (by rfl) (bin_eql _ _ _ _) ⟨Ext.refl _, congrArg Value.bool (decide_eq_true Hc1.out)⟩
          · refine stepEP rfl (by decide) fun sdn sa sw sE sd sk => ?_
            have h79 : sa.eval (.tmp 79) = .bool (true) := sk.fact 5 79 rfl (sd 5 rfl)
            exact Runs.move rfl h79 ⟨Ext.refl _, rfl⟩
          · refine stepYP (j := 6) (d := 80) (b := true) rfl rfl rfl (fun v w h => h) (by decide) fun sdn sa sw sE sd sk => ?_
            have h6 : sa.eval (.tmp 6) = .pointer (some ⟨g6, 0, none⟩) := sk.old 6 rfl
            exact Runs.load rfl h6 (load_part (hB6.ext sE) 0 (vs := [.slice (G9) (32) (cg9), .slice (Q2) (j) (dq), .int .i64 (1)]) rfl Try.underlying77 rfl (by kernel_rfl)) ⟨Ext.refl _, rfl⟩
          · refine stepYP (j := 6) (d := 80) (b := true) rfl rfl rfl (fun v w h => h) (by decide) fun sdn sa sw sE sd sk => ?_
            have h7 : sa.eval (.tmp 7) = .pointer (some ⟨g7, 0, none⟩) := sk.old 7 rfl
            exact Runs.load rfl h7 (load_part (hB7.ext sE) 0 (vs := [.int .i64 (5), .slice (B) (32) (d)]) rfl Try.underlying24 rfl (by kernel_rfl)) ⟨Ext.refl _, rfl⟩
          · refine stepYP (j := 6) (d := 80) (b := true) rfl rfl rfl (fun v w h => h) (by decide) fun sdn sa sw sE sd sk => ?_
            have h9 : sa.eval (.tmp 9) = .slice (O) (k) (cO) := sk.old 9 rfl
            exact Runs.move rfl h9 ⟨Ext.refl _, rfl⟩
          · refine stepYP (j := 6) (d := 80) (b := true) rfl rfl rfl (fun v w h => h) (by decide) fun sdn sa sw sE sd sk => ?_
            have h81 : sa.eval (.tmp 81) = .agg #[.slice (G9) (32) (cg9), .slice (Q2) (j) (dq), .int .i64 (1)] := sk.fact 7 81 rfl (sd 7 rfl)
            have h82 : sa.eval (.tmp 82) = .agg #[.int .i64 (5), .slice (B) (32) (d)] := sk.fact 8 82 rfl (sd 8 rfl)
            have h83 : sa.eval (.tmp 83) = .slice (O) (k) (cO) := sk.fact 9 83 rfl (sd 9 rfl)
            refine Runs.call (f := 44) (vs := [.agg #[.slice (G9) (32) (cg9), .slice (Q2) (j) (dq), .int .i64 (1)], .agg #[.int .i64 (5), .slice (B) (32) (d)], .slice (O) (k) (cO)]) rfl rfl rfl (by simp only [List.map_toArray, List.map_cons, List.map_nil, h81, h82, h83] <;> rfl) (ent44 _ _) ((cCount_any _ _ _ _ _ _ _ _ _ _ _ _ _ _ _ _ _ _ sw (rG.ext sE) (rQ.ext sE) (rR.ext sE) (rO.ext sE)).mono ?_); rintro e w' ⟨rfl, hx⟩; exact ⟨_, rfl, hx, rfl⟩
          · refine stepYP (j := 6) (d := 80) (b := true) rfl rfl rfl (fun v w h => h) (by decide) fun sdn sa sw sE sd sk => ?_
            have h10 : sa.eval (.tmp 10) = .int .i64 (cs) := sk.old 10 rfl
            exact Runs.move rfl h10 ⟨Ext.refl _, rfl⟩
          · refine stepYP (j := 6) (d := 80) (b := true) rfl rfl rfl (fun v w h => h) (by decide) fun sdn sa sw sE sd sk => ?_
            have h84 : sa.eval (.tmp 84) = .int .i64 (cntL (fun g => cosB H9 WL 1 5 R g.wn g.k g.ps g.qs) gs.reverse) := sk.fact 10 84 rfl (sd 10 rfl)
            have h85 : sa.eval (.tmp 85) = .int .i64 (cs) := sk.fact 11 85 rfl (sd 11 rfl)
            exact Runs.bin rfl h84 h85 (by rfl) (bin_eql _ _ _ _) ⟨Ext.refl _, congrArg Value.bool (decide_eq_true Hc2.out)⟩
          · refine stepEP rfl (by decide) fun sdn sa sw sE sd sk => ?_
            have h80 : sa.eval (.tmp 80) = .bool (true) := sk.fact 6 80 rfl (sd 6 rfl)
            have h86 : sa.eval (.tmp 86) = .bool (true) := sk.fact 12 86 rfl (sd 12 rfl)
            exact Runs.pick rfl h80 ⟨Ext.refl _, by first | exact h86 | simpa using h86⟩
          · refine stepEP rfl (by decide) fun sdn sa sw sE sd sk => ?_
            have h87 : sa.eval (.tmp 87) = .bool (true) := sk.fact 13 87 rfl (sd 13 rfl)
            exact Runs.move rfl h87 ⟨Ext.refl _, rfl⟩
          · refine stepYP (j := 14) (d := 88) (b := true) rfl rfl rfl (fun v w h => h) (by decide) fun sdn sa sw sE sd sk => ?_
            have h6 : sa.eval (.tmp 6) = .pointer (some ⟨g6, 0, none⟩) := sk.old 6 rfl
            exact Runs.load rfl h6 (load_part (hB6.ext sE) 0 (vs := [.slice (G9) (32) (cg9), .slice (Q2) (j) (dq), .int .i64 (1)]) rfl Try.underlying77 rfl (by kernel_rfl)) ⟨Ext.refl _, rfl⟩
          · refine stepYP (j := 14) (d := 88) (b := true) rfl rfl rfl (fun v w h => h) (by decide) fun sdn sa sw sE sd sk => ?_
            have h7 : sa.eval (.tmp 7) = .pointer (some ⟨g7, 0, none⟩) := sk.old 7 rfl
            exact Runs.load rfl h7 (load_part (hB7.ext sE) 0 (vs := [.int .i64 (5), .slice (B) (32) (d)]) rfl Try.underlying24 rfl (by kernel_rfl)) ⟨Ext.refl _, rfl⟩
          · refine stepYP (j := 14) (d := 88) (b := true) rfl rfl rfl (fun v w h => h) (by decide) fun sdn sa sw sE sd sk => ?_
            exact Runs.nilcs rfl (fun w' e h => ⟨e, _, _, rfl, ⟨h.1, h.2.1, ⟨h.2.2.1.1, h.2.2.1.2.imp id (fun ⟨g, cs, a, b, k⟩ => ⟨g, cs, a, Nat.le_trans sE.size b, k⟩)⟩, h.2.2.2⟩⟩)
          · refine stepYP (j := 14) (d := 88) (b := true) rfl rfl rfl (fun v w h => h) (by decide) fun sdn sa sw sE sd sk => ?_
            have h8 : sa.eval (.tmp 8) = .slice (M) (k) (cm) := sk.old 8 rfl
            exact Runs.move rfl h8 ⟨Ext.refl _, rfl⟩
          · refine stepZY (n := 0) (j := 14) (d := 88) (b := true) rfl rfl rfl (fun v w h => h) (by decide) hSt19 fun sdn sa sw sE sd sk => ?_
            obtain ⟨A91, c91, h91, o91⟩ := sk.fact 17 91 rfl (sd 17 rfl)
            have h92 : sa.eval (.tmp 92) = .slice (M) (k) (cm) := sk.fact 18 92 rfl (sd 18 rfl)
            exact Runs.appcs rfl h91 h92 o91 (vM.ext sE) sE.size (by omega) (fun A' c' w' h1 h2 => ⟨h2, A', c', rfl, h1⟩)
          · refine stepYP (j := 14) (d := 88) (b := true) rfl rfl rfl (fun v w h => h) (by decide) fun sdn sa sw sE sd sk => ?_
            have h8 : sa.eval (.tmp 8) = .slice (M) (k) (cm) := sk.old 8 rfl
            exact Runs.move rfl h8 ⟨Ext.refl _, rfl⟩
          · refine stepZY (n := (0 + k)) (j := 14) (d := 88) (b := true) rfl rfl rfl (fun v w h => h) (by decide) hSt21 fun sdn sa sw sE sd sk => ?_
            obtain ⟨A93, c93, h93, o93⟩ := sk.fact 19 93 rfl (sd 19 rfl)
            have h94 : sa.eval (.tmp 94) = .slice (M) (k) (cm) := sk.fact 20 94 rfl (sd 20 rfl)
            exact Runs.appcs rfl h93 h94 o93 (vM.ext sE) sE.size (by omega) (fun A' c' w' h1 h2 => ⟨h2, A', c', rfl, h1⟩)
          · refine stepYP (j := 14) (d := 88) (b := true) rfl rfl rfl (fun v w h => h) (by decide) fun sdn sa sw sE sd sk => ?_
            have h89 : sa.eval (.tmp 89) = .agg #[.slice (G9) (32) (cg9), .slice (Q2) (j) (dq), .int .i64 (1)] := sk.fact 15 89 rfl (sd 15 rfl)
            have h90 : sa.eval (.tmp 90) = .agg #[.int .i64 (5), .slice (B) (32) (d)] := sk.fact 16 90 rfl (sd 16 rfl)
            obtain ⟨A95, c95, h95, o95⟩ := sk.fact 21 95 rfl (sd 21 rfl)
            refine Runs.call (f := 44) (vs := [.agg #[.slice (G9) (32) (cg9), .slice (Q2) (j) (dq), .int .i64 (1)], .agg #[.int .i64 (5), .slice (B) (32) (d)], .slice (A95) (0 + k + k) (c95)]) rfl rfl rfl (by simp only [List.map_toArray, List.map_cons, List.map_nil, h89, h90, h95] <;> rfl) (ent44 _ _) ((cCount_any _ _ _ _ _ _ _ _ _ _ _ _ _ _ _ _ _ _ sw (rG.ext sE) (rQ.ext sE) (rR.ext sE) o95.rcv.rcs).mono ?_); rintro e w' ⟨rfl, hx⟩; exact ⟨_, rfl, hx, rfl⟩
          · refine stepYP (j := 14) (d := 88) (b := true) rfl rfl rfl (fun v w h => h) (by decide) fun sdn sa sw sE sd sk => ?_
            have h10 : sa.eval (.tmp 10) = .int .i64 (cs) := sk.old 10 rfl
            exact Runs.move rfl h10 ⟨Ext.refl _, rfl⟩
          · refine stepYP (j := 14) (d := 88) (b := true) rfl rfl rfl (fun v w h => h) (by decide) fun sdn sa sw sE sd sk => ?_
            have h96 : sa.eval (.tmp 96) = .int .i64 (cntL (fun g => cosB H9 WL 1 5 R g.wn g.k g.ps g.qs) ([] ++ gs ++ gs)) := sk.fact 22 96 rfl (sd 22 rfl)
            have h97 : sa.eval (.tmp 97) = .int .i64 (cs) := sk.fact 23 97 rfl (sd 23 rfl)
            exact Runs.bin rfl h96 h97 (by rfl) (bin_eql _ _ _ _) ⟨Ext.refl _, congrArg Value.bool (decide_eq_true Hc3.out)⟩
          · refine stepEP rfl (by decide) fun sdn sa sw sE sd sk => ?_
            have h88 : sa.eval (.tmp 88) = .bool (true) := sk.fact 14 88 rfl (sd 14 rfl)
            have h98 : sa.eval (.tmp 98) = .bool (true) := sk.fact 24 98 rfl (sd 24 rfl)
            exact Runs.pick rfl h88 ⟨Ext.refl _, by first | exact h98 | simpa using h98⟩
          · refine stepEP rfl (by decide) fun sdn sa sw sE sd sk => ?_
            have h99 : sa.eval (.tmp 99) = .bool (true) := sk.fact 25 99 rfl (sd 25 rfl)
            exact Runs.move rfl h99 ⟨Ext.refl _, rfl⟩
          · refine stepYP (j := 26) (d := 100) (b := true) rfl rfl rfl (fun v w h => h) (by decide) fun sdn sa sw sE sd sk => ?_
            have h10 : sa.eval (.tmp 10) = .int .i64 (cs) := sk.old 10 rfl
            exact Runs.move rfl h10 ⟨Ext.refl _, rfl⟩
          · refine stepYP (j := 26) (d := 100) (b := true) rfl rfl rfl (fun v w h => h) (by decide) fun sdn sa sw sE sd sk => ?_
            have h5 : sa.eval (.tmp 5) = .slice (A) (j) (c) := sk.old 5 rfl
            exact Runs.move rfl h5 ⟨Ext.refl _, rfl⟩
          · refine stepYP (j := 26) (d := 100) (b := true) rfl rfl rfl (fun v w h => h) (by decide) fun sdn sa sw sE sd sk => ?_
            have h102 : sa.eval (.tmp 102) = .slice (A) (j) (c) := sk.fact 28 102 rfl (sd 28 rfl)
            exact Runs.len Try.underlying65 rfl h102 ⟨Ext.refl _, rfl⟩
          · refine stepYP (j := 26) (d := 100) (b := true) rfl rfl rfl (fun v w h => h) (by decide) fun sdn sa sw sE sd sk => ?_
            have h101 : sa.eval (.tmp 101) = .int .i64 (cs) := sk.fact 27 101 rfl (sd 27 rfl)
            have h103 : sa.eval (.tmp 103) = .int .i64 ((j : Nat)) := sk.fact 29 103 rfl (sd 29 rfl)
            exact Runs.bin rfl h101 h103 (by rfl) (bin_leq _ _ _ _) ⟨Ext.refl _, congrArg Value.bool (decide_eq_true Hc4.out)⟩
          · refine stepEP rfl (by decide) fun sdn sa sw sE sd sk => ?_
            have h100 : sa.eval (.tmp 100) = .bool (true) := sk.fact 26 100 rfl (sd 26 rfl)
            have h104 : sa.eval (.tmp 104) = .bool (true) := sk.fact 30 104 rfl (sd 30 rfl)
            exact Runs.pick rfl h100 ⟨Ext.refl _, by first | exact h104 | simpa using h104⟩
          · refine stepEP rfl (by decide) fun sdn sa sw sE sd sk => ?_
            have h105 : sa.eval (.tmp 105) = .bool (true) := sk.fact 31 105 rfl (sd 31 rfl)
            exact Runs.move rfl h105 ⟨Ext.refl _, rfl⟩
          · refine stepYP (j := 32) (d := 106) (b := true) rfl rfl rfl (fun v w h => h) (by decide) fun sdn sa sw sE sd sk => ?_
            refine Runs.call (f := 47) (vs := []) rfl rfl rfl (by simp only [List.map_toArray, List.map_cons, List.map_nil] <;> rfl) (ent47 _ _) ((known11_any sw).mono ?_); rintro e w' ⟨rfl, hx⟩; exact ⟨_, rfl, hx, rfl⟩
          · refine stepEP rfl (by decide) fun sdn sa sw sE sd sk => ?_
            have h106 : sa.eval (.tmp 106) = .bool (true) := sk.fact 32 106 rfl (sd 32 rfl)
            have h107 : sa.eval (.tmp 107) = .bool (true) := sk.fact 33 107 rfl (sd 33 rfl)
            exact Runs.pick rfl h106 ⟨Ext.refl _, by first | exact h107 | simpa using h107⟩
          intro vals W21 hE21 hv21
          have e0 : vals 0 = .agg #[.slice (G9) (32) (cg9), .slice (Q2) (j) (dq), .int .i64 (1)] := hv21 0 (by omega) 74 rfl
          have e1 : vals 1 = .agg #[.int .i64 (5), .slice (B) (32) (d)] := hv21 1 (by omega) 75 rfl
          have e2 : vals 2 = .slice (M) (k) (cm) := hv21 2 (by omega) 76 rfl
          have e3 : vals 3 = .int .i64 (cntL (fun g => cosB H9 WL 1 5 R g.wn g.k g.ps g.qs) gs) := hv21 3 (by omega) 77 rfl
          have e4 : vals 4 = .int .i64 (cs) := hv21 4 (by omega) 78 rfl
          have e5 : vals 5 = .bool (true) := hv21 5 (by omega) 79 rfl
          have e6 : vals 6 = .bool (true) := hv21 6 (by omega) 80 rfl
          have e7 : vals 7 = .agg #[.slice (G9) (32) (cg9), .slice (Q2) (j) (dq), .int .i64 (1)] := hv21 7 (by omega) 81 rfl
          have e8 : vals 8 = .agg #[.int .i64 (5), .slice (B) (32) (d)] := hv21 8 (by omega) 82 rfl
          have e9 : vals 9 = .slice (O) (k) (cO) := hv21 9 (by omega) 83 rfl
          have e10 : vals 10 = .int .i64 (cntL (fun g => cosB H9 WL 1 5 R g.wn g.k g.ps g.qs) gs.reverse) := hv21 10 (by omega) 84 rfl
          have e11 : vals 11 = .int .i64 (cs) := hv21 11 (by omega) 85 rfl
          have e12 : vals 12 = .bool (true) := hv21 12 (by omega) 86 rfl
          have e13 : vals 13 = .bool (true) := hv21 13 (by omega) 87 rfl
          have e14 : vals 14 = .bool (true) := hv21 14 (by omega) 88 rfl
          have e15 : vals 15 = .agg #[.slice (G9) (32) (cg9), .slice (Q2) (j) (dq), .int .i64 (1)] := hv21 15 (by omega) 89 rfl
          have e16 : vals 16 = .agg #[.int .i64 (5), .slice (B) (32) (d)] := hv21 16 (by omega) 90 rfl
          obtain ⟨A91, c91, e17, o91⟩ := hv21 17 (by omega) 91 rfl
          have e18 : vals 18 = .slice (M) (k) (cm) := hv21 18 (by omega) 92 rfl
          obtain ⟨A93, c93, e19, o93⟩ := hv21 19 (by omega) 93 rfl
          have e20 : vals 20 = .slice (M) (k) (cm) := hv21 20 (by omega) 94 rfl
          obtain ⟨A95, c95, e21, o95⟩ := hv21 21 (by omega) 95 rfl
          have e22 : vals 22 = .int .i64 (cntL (fun g => cosB H9 WL 1 5 R g.wn g.k g.ps g.qs) ([] ++ gs ++ gs)) := hv21 22 (by omega) 96 rfl
          have e23 : vals 23 = .int .i64 (cs) := hv21 23 (by omega) 97 rfl
          have e24 : vals 24 = .bool (true) := hv21 24 (by omega) 98 rfl
          have e25 : vals 25 = .bool (true) := hv21 25 (by omega) 99 rfl
          have e26 : vals 26 = .bool (true) := hv21 26 (by omega) 100 rfl
          have e27 : vals 27 = .int .i64 (cs) := hv21 27 (by omega) 101 rfl
          have e28 : vals 28 = .slice (A) (j) (c) := hv21 28 (by omega) 102 rfl
          have e29 : vals 29 = .int .i64 ((j : Nat)) := hv21 29 (by omega) 103 rfl
          have e30 : vals 30 = .bool (true) := hv21 30 (by omega) 104 rfl
          have e31 : vals 31 = .bool (true) := hv21 31 (by omega) 105 rfl
          have e32 : vals 32 = .bool (true) := hv21 32 (by omega) 106 rfl
          have e33 : vals 33 = .bool (true) := hv21 33 (by omega) 107 rfl
          have e34 : vals 34 = .bool (true) := hv21 34 (by omega) 108 rfl
          simp only [putAll, Act.put, List.take_succ_cons, List.take_zero, List.drop_succ_cons, List.drop_zero, List.drop_nil, List.take_nil, Nat.reduceAdd, List.setIfInBounds_toArray, List.set_cons_succ, List.set_cons_zero, e0, e1, e2, e3, e4, e5, e6, e7, e8, e9, e10, e11, e12, e13, e14, e15, e16, e17, e18, e19, e20, e21, e22, e23, e24, e25, e26, e27, e28, e29, e30, e31, e32, e33, e34]
          clear hv21 e0 e1 e2 e3 e4 e5 e6 e7 e8 e9 e10 e11 e12 e13 e14 e15 e16 e17 e18 e19 e20 e21 e22 e23 e24 e25 e26 e27 e28 e29 e30 e31 e32 e33 e34
          go_wp2_with fail
          go_ret
          exact ⟨rfl, hEa.trans hE21⟩
end Go.Proofs.Ythggfbpdhkpkjaa
