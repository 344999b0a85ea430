/-
  CosignTells, walked (under way).
-/
import Derived.Test.YthggfbpdhkpkjaaLawTells11Q40
import Derived.Test.YthggfbpdhkpkjaaLawTells11Q37
import Derived.Test.YthggfbpdhkpkjaaLawTells11Q41
namespace Go.Proofs.Ythggfbpdhkpkjaa
set_option maxRecDepth 100000
open Go Go.RowKit
theorem within_fin2 {x lo hi r : Int} (h0 : -1000 ≤ lo) (h1 : lo ≤ hi) (h2 : hi ≤ 140737488355328) (hout : ¬ (lo ≤ x ∧ x ≤ hi))
    (hr : (0 ≤ x.tmod (hi - lo + 1) → r = lo + x.tmod (hi - lo + 1)) ∧ (¬ 0 ≤ x.tmod (hi - lo + 1) → r = lo + (x.tmod (hi - lo + 1) + hi - lo + 1))) : r = within x lo hi := by
  obtain ⟨e, e1, e2⟩ := tmod_is x (hi - lo + 1) (by omega)
  unfold within
  rw [if_neg hout, e]
  by_cases h : 0 ≤ x.tmod (hi - lo + 1)
  · rw [if_pos h, hr.1 h]
  · rw [if_neg h, hr.2 h]; omega
set_option maxHeartbeats 1000000 in
theorem within_neg (x lo hi : Int) (w : World) (hx0 : -9223372036854775808 ≤ x) (hx1 : x ≤ 9223372036854775807) (h0 : -1000 ≤ lo) (h1 : lo ≤ hi) (h2 : hi ≤ 140737488355328) :
    Calls Try.prog 15 #[.int .i64 x, .int .i64 lo, .int .i64 hi] w fun e w' => e = .returned (.int .i64 (within x lo hi)) ∧ w = w' := by
  by_cases a1 : lo ≤ x
  · have d1 : decide (lo ≤ x) = true := by simpa using a1
    by_cases a2 : x ≤ hi
    · have d2 : decide (x ≤ hi) = true := by simpa using a2
      have hw : within x lo hi = x := by unfold within; rw [if_pos ⟨a1, a2⟩]
      rw [hw]
      go_enter Try.func15, Try.ntmps15
      go_wp2_with fail
      go_ret
      exact ⟨rfl, rfl⟩
    · have d2 : decide (x ≤ hi) = false := by simpa using a2
      have hout : ¬ (lo ≤ x ∧ x ≤ hi) := fun h => a2 h.2
      have Hout := Lib.hid hout
      clear hout a1 a2
      go_enter Try.func15, Try.ntmps15
      go_wp2_with fail
      all_goals
        go_ret
        refine ⟨?_, rfl⟩
        obtain ⟨_, e1, e2⟩ := tmod_is x (hi - lo + 1) (by omega)
        refine congrArg (fun z => Ending.returned (.int .i64 z)) (within_fin2 h0 h1 h2 Hout.out ⟨fun h => ?_, fun h => ?_⟩)
        · unfold wrap64; omega
        · unfold wrap64; omega
  · have d1 : decide (lo ≤ x) = false := by simpa using a1
    have hout : ¬ (lo ≤ x ∧ x ≤ hi) := fun h => a1 h.1
    have Hout := Lib.hid hout
    clear hout a1
    go_enter Try.func15, Try.ntmps15
    go_wp2_with fail
    all_goals
      go_ret
      refine ⟨?_, rfl⟩
      obtain ⟨_, e1, e2⟩ := tmod_is x (hi - lo + 1) (by omega)
      refine congrArg (fun z => Ending.returned (.int .i64 z)) (within_fin2 h0 h1 h2 Hout.out ⟨fun h => ?_, fun h => ?_⟩)
      · unfold wrap64; omega
      · unfold wrap64; omega

def T11I (w6 : World) (m : Nat) (i : Value) (wr : World) : Prop := ∃ k : Nat, k ≤ m ∧ i = .int .i64 k ∧ Ext w6 wr
set_option maxHeartbeats 16000000 in
theorem tells11_any (n qu s r : Int) (hn : inR n) (hqu : inR qu) (hs : inR s) (hr : inR r) (L : Option Addr) (nl cl : Nat) (ds : List DRec) (G : Option Addr) (ng cg : Nat) (LG : List UInt8) (W : Option Addr) (nw cw : Nat) (WR : List (List UInt8)) (qr : Int) (w : World)
    (hL : RDS w L nl cl ds) (rLg : RB w G ng cg LG) (rWr : RBB w W nw cw WR) :
    Calls Try.prog 9 #[.int .i64 n, .int .i64 qu, .int .i64 s, .int .i64 r, .slice L nl cl, .agg #[.slice G ng cg, .slice W nw cw, .int .i64 qr]] w fun e w' => e = .returned (.bool true) ∧ Ext w w' := by
  obtain ⟨q, hq⟩ : ∃ q : Nat, within n 1 4 = (q : Int) := ⟨(within n 1 4).toNat, (Int.toNat_of_nonneg (by have := (within_in n 1 4 (by omega)).1; omega)).symm⟩
  have hq1 : 1 ≤ q := by have := (within_in n 1 4 (by omega)).1; omega
  have hq4 : q ≤ 4 := by have := (within_in n 1 4 (by omega)).2; omega
  have Hq := Lib.hid hq
  clear hq
  go_enter Try.func9, Try.ntmps9
  go_wp2_with fail
  have hE0 := Ext.new w (.cells #[.slice G ng cg, .slice W nw cw, .int .i64 qr] 77)
  have hB11 := Blk.new w 77 #[.slice G ng cg, .slice W nw cw, .int .i64 qr]
  generalize w.alloc (.cells #[.slice G ng cg, .slice W nw cw, .int .i64 qr] 77) = w0 at *
  obtain ⟨g11, hg11⟩ : ∃ g11, g11 = w.heap.size := ⟨_, rfl⟩
  rw [← hg11] at hB11 ⊢
  have hge : w.heap.size ≤ g11 := by omega
  clear hg11
  replace hL := hL.ext hE0
  replace rLg := rLg.ext hE0
  replace rWr := rWr.ext hE0
  refine (within_any n 1 4 w0 hn.1 hn.2 (by omega) (by omega) (by omega)).mono ?_
  rintro e w1 ⟨rfl, rfl⟩
  rw [Hq.out]
  clear Hq
  go_wp2_with fail
  refine (owners_any q (by omega) w0).mono ?_
  rintro e w1 ⟨A, c, rfl, oA, hE⟩
  obtain ⟨Ss, hSs⟩ : ∃ Ss, Ss = (List.range q).map fun i => seedL ((i : Nat) : Int) := ⟨_, rfl⟩
  rw [← hSs] at oA
  replace hL := hL.ext hE
  replace rLg := rLg.ext hE
  replace rWr := rWr.ext hE
  replace hB11 := hB11.ext hE
  have hEa := hE0.trans hE
  clear hSs hE hE0
  go_wp2_with fail
  refine (within_any qu 0 5 w1 hqu.1 hqu.2 (by omega) (by omega) (by omega)).mono ?_
  rintro e w2 ⟨rfl, rfl⟩
  have hz := within_in qu 0 5 (by omega)
  generalize within qu 0 5 = z at *
  go_wp2_with fail
  refine (policy_own A q c w0.heap.size z Ss (by omega) w1 oA).mono ?_
  rintro e w2 ⟨G9, cg9, Q2, dq, rfl, rG, oQ, hE⟩
  have hne14 : w2.heap.size ≠ g11 := by
    have := (hB11.ext hE).lt
    omega
  have hEn := Ext.new w2 (.cells #[.slice G9 32 cg9, .slice Q2 q dq, .int .i64 z] 77)
  have hB14 := Blk.new w2 77 #[.slice G9 32 cg9, .slice Q2 q dq, .int .i64 z]
  replace hE := hE.trans hEn
  replace hL := hL.ext hE
  replace rLg := rLg.ext hE
  replace rWr := rWr.ext hE
  replace hB11 := hB11.ext hE
  replace oA := oA.ext hE
  replace rG := rG.ext hEn
  replace oQ := oQ.ext hEn
  replace hEa := hEa.trans hE
  clear hEn hE
  go_wp2_with fail
  generalize w2.alloc (.cells #[.slice G9 32 cg9, .slice Q2 q dq, .int .i64 z] 77) = w3 at *
  generalize w2.heap.size = g14 at *
  generalize (List.range q).map (fun j => ownP (lb Ss j)) = WL at *
  generalize khash 9 = H9 at *
  refine (within_neg s (-1) 260 w3 hs.1 hs.2 (by omega) (by omega) (by omega)).mono ?_
  rintro e w4 ⟨rfl, rfl⟩
  generalize within s (-1) 260 = x at *
  go_wp2_with fail
  refine (hash_any r _ hr.1 hr.2).mono ?_
  rintro e w4 ⟨B, d, rfl, oR, hE⟩
  have rR := oR.rb
  generalize khash r = R at *
  have hEn := Ext.new w4 (.cells #[.int .i64 x, .slice B 32 d] 24)
  have hB15 := Blk.new w4 24 #[.int .i64 x, .slice B 32 d]
  replace hE := hE.trans hEn
  replace hL := hL.ext hE
  replace rLg := rLg.ext hE
  replace rWr := rWr.ext hE
  replace hB11 := hB11.ext hE
  replace oA := oA.ext hE
  replace rG := rG.ext hE
  replace oQ := oQ.ext hE
  replace hB14 := hB14.ext hE
  replace rR := rR.ext hEn
  replace hEa := hEa.trans hE
  clear hEn hE oR
  have y150 := hB15.cell (i := 0) (v := .int .i64 x) rfl
  have y151 := hB15.cell (i := 1) (v := .slice B 32 d) rfl
  go_wp2_with fail
  generalize w4.alloc (.cells #[.int .i64 x, .slice B 32 d] 24) = w5 at *
  generalize w4.heap.size = g15 at *
  clear y150 y151
  refine (made_any L nl cl ds A q c w0.heap.size Ss x B 32 d R w5 hL oA hq1 hq4 rR).mono ?_
  rintro e w6 ⟨M, m, cm, vs, gs, rfl, hm6, oM, hE⟩
  replace rLg := rLg.ext hE
  replace rWr := rWr.ext hE
  replace hB11 := hB11.ext hE
  replace rG := rG.ext hE
  replace oQ := oQ.ext hE
  replace hB14 := hB14.ext hE
  replace rR := rR.ext hE
  replace hB15 := hB15.ext hE
  replace hEa := hEa.trans hE
  clear hE hL oA
  go_wp2_with fail
  go_loopw [17] (fun i wr => T11I w6 m i wr) (fun i _ => m - (intOf i).toNat)
  case atStart => exact ⟨0, by omega, rfl, Ext.refl _⟩
  case round =>
    obtain ⟨k, hk, rfl, hEr⟩ := hrel
    by_cases hlt : k < m
    · have hki : (k : Int) < (m : Int) := by omega
      have rL := (oM.ext hEr).rcv.rcs
      obtain ⟨ad, rfl, hcl⟩ := rL.cells (by omega)
      obtain ⟨P, np, cp, Q, nq, cq, k0, k1, k2, k3, rP, rQ⟩ := hcl k hlt
      have hcmr := rL.room
      clear hcl
      generalize cg_ gs k = g at *
      obtain ⟨wn, kx, PS, QS⟩ := g
      have rG1 := rG.ext hEr
      have rQ1 := (oQ.ext hEr).rbb
      have rR1 := rR.ext hEr
      have hB141 := hB14.ext hEr
      have hB151 := hB15.ext hEr
      go_upto_region 8 with (fail)
      refine par_ext (n := 15) (by kernel_rfl) [.is (.agg #[.slice (G9) (32) (cg9), .slice (Q2) (q) (dq), .int .i64 (z)]), .is (.agg #[.int .i64 (x), .slice (B) (32) (d)]), .is (.slice ((some ad)) (m) (cm)), .is (.int .i64 ((k : Int))), .is (.pointer (some (ad.add (k * 4)))), .is (.agg #[.int .i64 (wn), .int .i64 (kx), .slice (P) (np) (cp), .slice (Q) (nq) (cq)]), .is (.bool (cosB H9 WL z x R wn kx PS QS)), .is (.agg #[.slice (G9) (32) (cg9), .slice (Q2) (q) (dq), .int .i64 (z)]), .is (.agg #[.int .i64 (x), .slice (B) (32) (d)]), .is (.slice ((some ad)) (m) (cm)), .is (.int .i64 ((k : Int))), .is (.pointer (some (ad.add (k * 4)))), .is (.agg #[.int .i64 (wn), .int .i64 (kx), .slice (P) (np) (cp), .slice (Q) (nq) (cq)]), .is (.bool (cosB H9 WL z x R wn kx PS QS)), .is (.bool (false))] rfl ⟨?_, ?_, ?_, ?_, ?_, ?_, ?_, ?_, ?_, ?_, ?_, ?_, ?_, ?_, ?_, trivial⟩ ?_
      · refine stepE rfl fun sdn sa sw sE sd sk => ?_
        have h14 : sa.eval (.tmp 14) = .pointer (some ⟨g14, 0, none⟩) := sk.old 14 rfl
        exact Runs.load rfl h14 (load_part (hB141.ext sE) 0 (vs := [.slice (G9) (32) (cg9), .slice (Q2) (q) (dq), .int .i64 (z)]) rfl Try.underlying77 rfl (by kernel_rfl)) ⟨Ext.refl _, rfl⟩
      · refine stepE rfl fun sdn sa sw sE sd sk => ?_
        have h15 : sa.eval (.tmp 15) = .pointer (some ⟨g15, 0, none⟩) := sk.old 15 rfl
        exact Runs.load rfl h15 (load_part (hB151.ext sE) 0 (vs := [.int .i64 (x), .slice (B) (32) (d)]) rfl Try.underlying24 rfl (by kernel_rfl)) ⟨Ext.refl _, rfl⟩
      · refine stepE rfl fun sdn sa sw sE sd sk => ?_
        have h16 : sa.eval (.tmp 16) = .slice ((some ad)) (m) (cm) := sk.old 16 rfl
        exact Runs.move rfl h16 ⟨Ext.refl _, rfl⟩
      · refine stepE rfl fun sdn sa sw sE sd sk => ?_
        have h17 : sa.eval (.tmp 17) = .int .i64 ((k : Int)) := sk.old 17 rfl
        exact Runs.move rfl h17 ⟨Ext.refl _, rfl⟩
      · refine stepE rfl fun sdn sa sw sE sd sk => ?_
        have h43 : sa.eval (.tmp 43) = .slice ((some ad)) (m) (cm) := sk.fact 2 43 rfl (sd 2 rfl)
        have h44 : sa.eval (.tmp 44) = .int .i64 ((k : Int)) := sk.fact 3 44 rfl (sd 3 rfl)
        exact Runs.idx rfl h43 h44 (run_idx_sl4 Try.underlying67 infC_eq infC_size (k) (by omega) (by omega)) ⟨Ext.refl _, rfl⟩
      · refine stepE rfl fun sdn sa sw sE sd sk => ?_
        have h45 : sa.eval (.tmp 45) = .pointer (some (ad.add (k * 4))) := sk.fact 4 45 rfl (sd 4 rfl)
        exact Runs.load rfl h45 (load_cs (sE.cell k0) (sE.cell k1) (sE.cell k2) (sE.cell k3)) ⟨Ext.refl _, rfl⟩
      · refine stepE rfl fun sdn sa sw sE sd sk => ?_
        have h41 : sa.eval (.tmp 41) = .agg #[.slice (G9) (32) (cg9), .slice (Q2) (q) (dq), .int .i64 (z)] := sk.fact 0 41 rfl (sd 0 rfl)
        have h42 : sa.eval (.tmp 42) = .agg #[.int .i64 (x), .slice (B) (32) (d)] := sk.fact 1 42 rfl (sd 1 rfl)
        have h46 : sa.eval (.tmp 46) = .agg #[.int .i64 (wn), .int .i64 (kx), .slice (P) (np) (cp), .slice (Q) (nq) (cq)] := sk.fact 5 46 rfl (sd 5 rfl)
        refine Runs.call (f := 49) (vs := [.agg #[.slice (G9) (32) (cg9), .slice (Q2) (q) (dq), .int .i64 (z)], .agg #[.int .i64 (x), .slice (B) (32) (d)], .agg #[.int .i64 (wn), .int .i64 (kx), .slice (P) (np) (cp), .slice (Q) (nq) (cq)]]) rfl rfl rfl (by simp only [List.map_toArray, List.map_cons, List.map_nil, h41, h42, h46] <;> rfl) (ent49 _ _) ((cosverify_any _ _ _ _ _ _ _ _ _ _ _ _ _ _ _ _ _ _ _ _ _ _ _ _ sw (rG1.ext sE) (rQ1.ext sE) (rR1.ext sE) (rP.ext sE) (rQ.ext sE)).mono ?_); rintro e w' ⟨rfl, hx⟩; exact ⟨_, rfl, hx, rfl⟩
      · refine stepE rfl fun sdn sa sw sE sd sk => ?_
        have h14 : sa.eval (.tmp 14) = .pointer (some ⟨g14, 0, none⟩) := sk.old 14 rfl
        exact Runs.load rfl h14 (load_part (hB141.ext sE) 0 (vs := [.slice (G9) (32) (cg9), .slice (Q2) (q) (dq), .int .i64 (z)]) rfl Try.underlying77 rfl (by kernel_rfl)) ⟨Ext.refl _, rfl⟩
      · refine stepE rfl fun sdn sa sw sE sd sk => ?_
        have h15 : sa.eval (.tmp 15) = .pointer (some ⟨g15, 0, none⟩) := sk.old 15 rfl
        exact Runs.load rfl h15 (load_part (hB151.ext sE) 0 (vs := [.int .i64 (x), .slice (B) (32) (d)]) rfl Try.underlying24 rfl (by kernel_rfl)) ⟨Ext.refl _, rfl⟩
      · refine stepE rfl fun sdn sa sw sE sd sk => ?_
        have h16 : sa.eval (.tmp 16) = .slice ((some ad)) (m) (cm) := sk.old 16 rfl
        exact Runs.move rfl h16 ⟨Ext.refl _, rfl⟩
      · refine stepE rfl fun sdn sa sw sE sd sk => ?_
        have h17 : sa.eval (.tmp 17) = .int .i64 ((k : Int)) := sk.old 17 rfl
        exact Runs.move rfl h17 ⟨Ext.refl _, rfl⟩
      · refine stepE rfl fun sdn sa sw sE sd sk => ?_
        have h50 : sa.eval (.tmp 50) = .slice ((some ad)) (m) (cm) := sk.fact 9 50 rfl (sd 9 rfl)
        have h51 : sa.eval (.tmp 51) = .int .i64 ((k : Int)) := sk.fact 10 51 rfl (sd 10 rfl)
        exact Runs.idx rfl h50 h51 (run_idx_sl4 Try.underlying67 infC_eq infC_size (k) (by omega) (by omega)) ⟨Ext.refl _, rfl⟩
      · refine stepE rfl fun sdn sa sw sE sd sk => ?_
        have h52 : sa.eval (.tmp 52) = .pointer (some (ad.add (k * 4))) := sk.fact 11 52 rfl (sd 11 rfl)
        exact Runs.load rfl h52 (load_cs (sE.cell k0) (sE.cell k1) (sE.cell k2) (sE.cell k3)) ⟨Ext.refl _, rfl⟩
      · refine stepE rfl fun sdn sa sw sE sd sk => ?_
        have h48 : sa.eval (.tmp 48) = .agg #[.slice (G9) (32) (cg9), .slice (Q2) (q) (dq), .int .i64 (z)] := sk.fact 7 48 rfl (sd 7 rfl)
        have h49 : sa.eval (.tmp 49) = .agg #[.int .i64 (x), .slice (B) (32) (d)] := sk.fact 8 49 rfl (sd 8 rfl)
        have h53 : sa.eval (.tmp 53) = .agg #[.int .i64 (wn), .int .i64 (kx), .slice (P) (np) (cp), .slice (Q) (nq) (cq)] := sk.fact 12 53 rfl (sd 12 rfl)
        refine Runs.call (f := 50) (vs := [.agg #[.slice (G9) (32) (cg9), .slice (Q2) (q) (dq), .int .i64 (z)], .agg #[.int .i64 (x), .slice (B) (32) (d)], .agg #[.int .i64 (wn), .int .i64 (kx), .slice (P) (np) (cp), .slice (Q) (nq) (cq)]]) rfl rfl rfl (by simp only [List.map_toArray, List.map_cons, List.map_nil, h48, h49, h53] <;> rfl) (ent50 _ _) ((rcosigned_any _ _ _ _ _ _ _ _ _ _ _ _ _ _ _ _ _ _ _ _ _ _ _ _ sw (rG1.ext sE) (rQ1.ext sE) (rR1.ext sE) (rP.ext sE) (rQ.ext sE)).mono ?_); rintro e w' ⟨rfl, hx⟩; exact ⟨_, rfl, hx, rfl⟩
      · refine stepE rfl fun sdn sa sw sE sd sk => ?_
        have h47 : sa.eval (.tmp 47) = .bool (cosB H9 WL z x R wn kx PS QS) := sk.fact 6 47 rfl (sd 6 rfl)
        have h54 : sa.eval (.tmp 54) = .bool (cosB H9 WL z x R wn kx PS QS) := sk.fact 13 54 rfl (sd 13 rfl)
        exact Runs.bin rfl h47 h54 (by rfl) (bin_neb _ _) ⟨Ext.refl _, congrArg Value.bool (by simp)⟩
      intro vals W8 hE8 hv8
      have e0 : vals 0 = .agg #[.slice (G9) (32) (cg9), .slice (Q2) (q) (dq), .int .i64 (z)] := hv8 0 (by omega) 41 rfl
      have e1 : vals 1 = .agg #[.int .i64 (x), .slice (B) (32) (d)] := hv8 1 (by omega) 42 rfl
      have e2 : vals 2 = .slice ((some ad)) (m) (cm) := hv8 2 (by omega) 43 rfl
      have e3 : vals 3 = .int .i64 ((k : Int)) := hv8 3 (by omega) 44 rfl
      have e4 : vals 4 = .pointer (some (ad.add (k * 4))) := hv8 4 (by omega) 45 rfl
      have e5 : vals 5 = .agg #[.int .i64 (wn), .int .i64 (kx), .slice (P) (np) (cp), .slice (Q) (nq) (cq)] := hv8 5 (by omega) 46 rfl
      have e6 : vals 6 = .bool (cosB H9 WL z x R wn kx PS QS) := hv8 6 (by omega) 47 rfl
      have e7 : vals 7 = .agg #[.slice (G9) (32) (cg9), .slice (Q2) (q) (dq), .int .i64 (z)] := hv8 7 (by omega) 48 rfl
      have e8 : vals 8 = .agg #[.int .i64 (x), .slice (B) (32) (d)] := hv8 8 (by omega) 49 rfl
      have e9 : vals 9 = .slice ((some ad)) (m) (cm) := hv8 9 (by omega) 50 rfl
      have e10 : vals 10 = .int .i64 ((k : Int)) := hv8 10 (by omega) 51 rfl
      have e11 : vals 11 = .pointer (some (ad.add (k * 4))) := hv8 11 (by omega) 52 rfl
      have e12 : vals 12 = .agg #[.int .i64 (wn), .int .i64 (kx), .slice (P) (np) (cp), .slice (Q) (nq) (cq)] := hv8 12 (by omega) 53 rfl
      have e13 : vals 13 = .bool (cosB H9 WL z x R wn kx PS QS) := hv8 13 (by omega) 54 rfl
      have e14 : vals 14 = .bool (false) := hv8 14 (by omega) 55 rfl
      simp only [putAll, Act.put, List.take_succ_cons, List.take_zero, List.drop_succ_cons, List.drop_zero, List.drop_nil, List.take_nil, Nat.reduceAdd, List.setIfInBounds_toArray, List.set_cons_succ, List.set_cons_zero, e0, e1, e2, e3, e4, e5, e6, e7, e8, e9, e10, e11, e12, e13, e14]
      clear hv8 e0 e1 e2 e3 e4 e5 e6 e7 e8 e9 e10 e11 e12 e13 e14
      go_wp2_with fail
      go_roundw
      case rel => exact ⟨k + 1, by omega, by go_num, hEr.trans hE8⟩
      case measure => simp [intOf]; omega
    · obtain rfl : k = m := by omega
      replace rLg := rLg.ext hEr
      replace rWr := rWr.ext hEr
      replace hB11 := hB11.ext hEr
      replace rG := rG.ext hEr
      replace oQ := oQ.ext hEr
      replace hB14 := hB14.ext hEr
      replace rR := rR.ext hEr
      replace hB15 := hB15.ext hEr
      replace oM := oM.ext hEr
      replace hEa := hEa.trans hEr
      clear hEr hlt
      have y110 := hB11.cell (i := 0) (v := .slice G ng cg) rfl
      have y111 := hB11.cell (i := 1) (v := .slice W nw cw) rfl
      have y112 := hB11.cell (i := 2) (v := .int .i64 qr) rfl
      go_wp2_with fail
      refine (few_any W nw cw 6 40 WR wr rWr (by omega) (by omega)).mono ?_
      rintro e w7 ⟨F, df, rfl, oF, hE⟩
      replace rLg := rLg.ext hE
      replace hB11 := hB11.ext hE
      replace rG := rG.ext hE
      replace oQ := oQ.ext hE
      replace hB14 := hB14.ext hE
      replace rR := rR.ext hE
      replace hB15 := hB15.ext hE
      replace oM := oM.ext hE
      replace hEa := hEa.trans hE
      clear hE y110 y111 y112 rWr
      generalize fewL 40 (List.take 6 WR) = WF at *
      generalize min nw 6 = nf at *
      generalize wr.heap.size = bF at *
      have gs_ := grown_set w7 ⟨g11, 1, none⟩ (.slice F nf df)
      have hB11s : Blk (w7.setCell ⟨g11, 1, none⟩ (.slice F nf df)) g11 77 #[.slice G ng cg, .slice F nf df, .int .i64 qr] := hB11.set 1 _
      have hB14s := hB14.far (p := ⟨g11, 1, none⟩) hne14 (.slice F nf df)
      have hB15s := hB15.far (p := ⟨g11, 1, none⟩) (hB15.ne_ hB11 (by decide)) (.slice F nf df)
      have rGs := rG.grown gs_ (rG.apart5 hB11 (pol_no _ _ _ _ _ _ _))
      have rLgs := rLg.grown gs_ (rLg.apart5 hB11 (pol_no _ _ _ _ _ _ _))
      have rRs := rR.grown gs_ (rR.apart5 hB11 (pol_no _ _ _ _ _ _ _))
      have oQs := oQ.far hB11 (by decide) (pol_no _ _ _ _ _ _ _) gs_
      have oFs := oF.far hB11 (by decide) (pol_no _ _ _ _ _ _ _) gs_
      have oMs := oM.away hB11 rfl rfl (fun e => by
        obtain ⟨cs', h1, _⟩ := oM.blk_ e
        exact (h1.ne_ hB11 (by decide)) rfl) gs_
      have hEs := hEa.set (p := ⟨g11, 1, none⟩) hge (.slice F nf df)
      have fhB110 := hB11.frozen 0
      have fhB111 := hB11.frozen 1
      have fhB112 := hB11.frozen 2
      have xhB110 := hB11.cell (i := 0) rfl
      have xhB111 := hB11.cell (i := 1) rfl
      have xhB112 := hB11.cell (i := 2) rfl
      have y140 := hB14s.cell (i := 0) (v := .slice G9 32 cg9) rfl
      have y141 := hB14s.cell (i := 1) (v := .slice Q2 q dq) rfl
      have y142 := hB14s.cell (i := 2) (v := .int .i64 z) rfl
      have y150 := hB15s.cell (i := 0) (v := .int .i64 x) rfl
      have y151 := hB15s.cell (i := 1) (v := .slice B 32 d) rfl
      go_wp2_with fail
      clear fhB110 xhB110 fhB111 xhB111 fhB112 xhB112
      clear hB11 hB14 hB15 rG rLg rR oQ oF oM hEa gs_
      generalize w7.setCell ⟨g11, 1, none⟩ (.slice F nf df) = w8 at *
      have rM := oMs.rcv.rcs
      have rQs := oQs.rbb
      refine (rcount_any G9 Q2 B M 32 cg9 q dq 32 d k cm z x H9 R WL gs w8 rGs rQs rRs rM).mono ?_
      rintro e w9 ⟨rfl, hE⟩
      have rFs := oFs.rbb
      replace rGs := rGs.ext hE
      replace rQs := rQs.ext hE
      replace rRs := rRs.ext hE
      replace rM := rM.ext hE
      replace hB11s := hB11s.ext hE
      replace hB14s := hB14s.ext hE
      replace hB15s := hB15s.ext hE
      replace rLgs := rLgs.ext hE
      replace rFs := rFs.ext hE
      replace hEs := hEs.trans hE
      clear hE y140 y141 y142 y150 y151
      go_upto_region 12 with (fail)
      cases hp : polB H9 WL z with
      | true =>
        refine par_ext (n := 38) (by kernel_rfl) [.is (.agg #[.slice (G9) (32) (cg9), .slice (Q2) (q) (dq), .int .i64 (z)]), .is (.agg #[.int .i64 (x), .slice (B) (32) (d)]), .is (.slice (M) (k) (cm)), .is (.int .i64 (cntL (fun g => cosB H9 WL z x R g.wn g.k g.ps g.qs) gs)), .is (.int .i64 (cntL (fun g => cosB H9 WL z x R g.wn g.k g.ps g.qs) gs)), .is (.bool (true)), .is (.bool (true)), .is (.agg #[.slice (G9) (32) (cg9), .slice (Q2) (q) (dq), .int .i64 (z)]), .is (.agg #[.int .i64 (x), .slice (B) (32) (d)]), .is (.slice (M) (k) (cm)), .is (.bool (decide (z ≤ cntL (fun g => cosB H9 WL z x R g.wn g.k g.ps g.qs) gs))), .is (.agg #[.slice (G9) (32) (cg9), .slice (Q2) (q) (dq), .int .i64 (z)]), .is (.bool (true)), .is (.bool (true)), .is (.int .i64 (cntL (fun g => cosB H9 WL z x R g.wn g.k g.ps g.qs) gs)), .is (.pointer (some ⟨g14, 2, none⟩)), .is (.int .i64 (z)), .is (.bool (decide (z ≤ cntL (fun g => cosB H9 WL z x R g.wn g.k g.ps g.qs) gs))), .is (.bool (decide (z ≤ cntL (fun g => cosB H9 WL z x R g.wn g.k g.ps g.qs) gs))), .is (.bool (true)), .is (.bool (true)), .is (.bool (true)), .is (.agg #[.slice (G9) (32) (cg9), .slice (Q2) (q) (dq), .int .i64 (z)]), .is (.bool (true)), .is (.agg #[.slice (G9) (32) (cg9), .slice (Q2) (q) (dq), .int .i64 (z)]), .is (.bool (true)), .is (.bool (true)), .is (.bool (true)), .is (.bool (true)), .is (.agg #[.slice (G) (ng) (cg), .slice (F) (nf) (df), .int .i64 (qr)]), .is (.bool (polB LG WF qr)), .is (.agg #[.slice (G) (ng) (cg), .slice (F) (nf) (df), .int .i64 (qr)]), .is (.bool (polB LG WF qr)), .is (.bool (true)), .is (.bool (true)), .is (.bool (true)), .is (.bool (true)), .is (.bool (true))] rfl ⟨?_, ?_, ?_, ?_, ?_, ?_, ?_, ?_, ?_, ?_, ?_, ?_, ?_, ?_, ?_, ?_, ?_, ?_, ?_, ?_, ?_, ?_, ?_, ?_, ?_, ?_, ?_, ?_, ?_, ?_, ?_, ?_, ?_, ?_, ?_, ?_, ?_, ?_, trivial⟩ ?_
        · refine stepE rfl fun sdn sa sw sE sd sk => ?_
          have h14 : sa.eval (.tmp 14) = .pointer (some ⟨g14, 0, none⟩) := sk.old 14 rfl
          exact Runs.load rfl h14 (load_part (hB14s.ext sE) 0 (vs := [.slice (G9) (32) (cg9), .slice (Q2) (q) (dq), .int .i64 (z)]) rfl Try.underlying77 rfl (by kernel_rfl)) ⟨Ext.refl _, rfl⟩
        · refine stepE rfl fun sdn sa sw sE sd sk => ?_
          have h15 : sa.eval (.tmp 15) = .pointer (some ⟨g15, 0, none⟩) := sk.old 15 rfl
          exact Runs.load rfl h15 (load_part (hB15s.ext sE) 0 (vs := [.int .i64 (x), .slice (B) (32) (d)]) rfl Try.underlying24 rfl (by kernel_rfl)) ⟨Ext.refl _, rfl⟩
        · refine stepE rfl fun sdn sa sw sE sd sk => ?_
          have h16 : sa.eval (.tmp 16) = .slice (M) (k) (cm) := sk.old 16 rfl
          exact Runs.move rfl h16 ⟨Ext.refl _, rfl⟩
        · refine stepE rfl fun sdn sa sw sE sd sk => ?_
          have h64 : sa.eval (.tmp 64) = .agg #[.slice (G9) (32) (cg9), .slice (Q2) (q) (dq), .int .i64 (z)] := sk.fact 0 64 rfl (sd 0 rfl)
          have h65 : sa.eval (.tmp 65) = .agg #[.int .i64 (x), .slice (B) (32) (d)] := sk.fact 1 65 rfl (sd 1 rfl)
          have h66 : sa.eval (.tmp 66) = .slice (M) (k) (cm) := sk.fact 2 66 rfl (sd 2 rfl)
          refine Runs.call (f := 44) (vs := [.agg #[.slice (G9) (32) (cg9), .slice (Q2) (q) (dq), .int .i64 (z)], .agg #[.int .i64 (x), .slice (B) (32) (d)], .slice (M) (k) (cm)]) rfl rfl rfl (by simp only [List.map_toArray, List.map_cons, List.map_nil, h64, h65, h66] <;> rfl) (ent44 _ _) ((cCount_any _ _ _ _ _ _ _ _ _ _ _ _ _ _ _ _ _ _ sw (rGs.ext sE) (rQs.ext sE) (rRs.ext sE) (rM.ext sE)).mono ?_); rintro e w' ⟨rfl, hx⟩; exact ⟨_, rfl, hx, rfl⟩
        · refine stepE rfl fun sdn sa sw sE sd sk => ?_
          have h18 : sa.eval (.tmp 18) = .int .i64 (cntL (fun g => cosB H9 WL z x R g.wn g.k g.ps g.qs) gs) := sk.old 18 rfl
          exact Runs.move rfl h18 ⟨Ext.refl _, rfl⟩
        · refine stepE rfl fun sdn sa sw sE sd sk => ?_
          have h67 : sa.eval (.tmp 67) = .int .i64 (cntL (fun g => cosB H9 WL z x R g.wn g.k g.ps g.qs) gs) := sk.fact 3 67 rfl (sd 3 rfl)
          have h68 : sa.eval (.tmp 68) = .int .i64 (cntL (fun g => cosB H9 WL z x R g.wn g.k g.ps g.qs) gs) := sk.fact 4 68 rfl (sd 4 rfl)
          exact Runs.bin rfl h67 h68 (by rfl) (bin_eql _ _ _ _) ⟨Ext.refl _, congrArg Value.bool (by simp)⟩
        · refine stepE rfl fun sdn sa sw sE sd sk => ?_
          have h69 : sa.eval (.tmp 69) = .bool (true) := sk.fact 5 69 rfl (sd 5 rfl)
          exact Runs.move rfl h69 ⟨Ext.refl _, rfl⟩
        · refine stepY (j := 6) (d := 70) (b := true) rfl rfl rfl (fun v w h => h) fun sdn sa sw sE sd sk => ?_
          have h14 : sa.eval (.tmp 14) = .pointer (some ⟨g14, 0, none⟩) := sk.old 14 rfl
          exact Runs.load rfl h14 (load_part (hB14s.ext sE) 0 (vs := [.slice (G9) (32) (cg9), .slice (Q2) (q) (dq), .int .i64 (z)]) rfl Try.underlying77 rfl (by kernel_rfl)) ⟨Ext.refl _, rfl⟩
        · refine stepY (j := 6) (d := 70) (b := true) rfl rfl rfl (fun v w h => h) fun sdn sa sw sE sd sk => ?_
          have h15 : sa.eval (.tmp 15) = .pointer (some ⟨g15, 0, none⟩) := sk.old 15 rfl
          exact Runs.load rfl h15 (load_part (hB15s.ext sE) 0 (vs := [.int .i64 (x), .slice (B) (32) (d)]) rfl Try.underlying24 rfl (by kernel_rfl)) ⟨Ext.refl _, rfl⟩
        · refine stepY (j := 6) (d := 70) (b := true) rfl rfl rfl (fun v w h => h) fun sdn sa sw sE sd sk => ?_
          have h16 : sa.eval (.tmp 16) = .slice (M) (k) (cm) := sk.old 16 rfl
          exact Runs.move rfl h16 ⟨Ext.refl _, rfl⟩
        · refine stepY (j := 6) (d := 70) (b := true) rfl rfl rfl (fun v w h => h) fun sdn sa sw sE sd sk => ?_
          have h71 : sa.eval (.tmp 71) = .agg #[.slice (G9) (32) (cg9), .slice (Q2) (q) (dq), .int .i64 (z)] := sk.fact 7 71 rfl (sd 7 rfl)
          have h72 : sa.eval (.tmp 72) = .agg #[.int .i64 (x), .slice (B) (32) (d)] := sk.fact 8 72 rfl (sd 8 rfl)
          have h73 : sa.eval (.tmp 73) = .slice (M) (k) (cm) := sk.fact 9 73 rfl (sd 9 rfl)
          refine Runs.call (f := 43) (vs := [.agg #[.slice (G9) (32) (cg9), .slice (Q2) (q) (dq), .int .i64 (z)], .agg #[.int .i64 (x), .slice (B) (32) (d)], .slice (M) (k) (cm)]) rfl rfl rfl (by simp only [List.map_toArray, List.map_cons, List.map_nil, h71, h72, h73] <;> rfl) (ent43 _ _) ((cMet_any _ _ _ _ _ _ _ _ _ _ _ _ _ _ _ _ _ _ sw (rGs.ext sE) (rQs.ext sE) (rRs.ext sE) (rM.ext sE)).mono ?_); rintro e w' ⟨rfl, hx⟩; exact ⟨_, rfl, hx, congrArg Value.bool (by rw [hp]; rfl)⟩
        · refine stepY (j := 6) (d := 70) (b := true) rfl rfl rfl (fun v w h => h) fun sdn sa sw sE sd sk => ?_
          have h14 : sa.eval (.tmp 14) = .pointer (some ⟨g14, 0, none⟩) := sk.old 14 rfl
          exact Runs.load rfl h14 (load_part (hB14s.ext sE) 0 (vs := [.slice (G9) (32) (cg9), .slice (Q2) (q) (dq), .int .i64 (z)]) rfl Try.underlying77 rfl (by kernel_rfl)) ⟨Ext.refl _, rfl⟩
        · refine stepY (j := 6) (d := 70) (b := true) rfl rfl rfl (fun v w h => h) fun sdn sa sw sE sd sk => ?_
          have h75 : sa.eval (.tmp 75) = .agg #[.slice (G9) (32) (cg9), .slice (Q2) (q) (dq), .int .i64 (z)] := sk.fact 11 75 rfl (sd 11 rfl)
          refine Runs.call (f := 53) (vs := [.agg #[.slice (G9) (32) (cg9), .slice (Q2) (q) (dq), .int .i64 (z)]]) rfl rfl rfl (by simp only [List.map_toArray, List.map_cons, List.map_nil, h75] <;> rfl) (ent53 _ _) ((rpolicy_any _ _ _ _ _ _ _ _ _ sw (rGs.ext sE) (rQs.ext sE)).mono ?_); rintro e w' ⟨rfl, hx⟩; exact ⟨_, rfl, hx, congrArg Value.bool (hp)⟩
        · refine stepY (j := 6) (d := 70) (b := true) rfl rfl rfl (fun v w h => h) fun sdn sa sw sE sd sk => ?_
          have h76 : sa.eval (.tmp 76) = .bool (true) := sk.fact 12 76 rfl (sd 12 rfl)
          exact Runs.move rfl h76 ⟨Ext.refl _, rfl⟩
        · refine stepY (j := 13) (d := 77) (b := true) rfl rfl rfl (fun v w h => h) fun sdn sa sw sE sd sk => ?_
          have h18 : sa.eval (.tmp 18) = .int .i64 (cntL (fun g => cosB H9 WL z x R g.wn g.k g.ps g.qs) gs) := sk.old 18 rfl
          exact Runs.move rfl h18 ⟨Ext.refl _, rfl⟩
        · refine stepY (j := 13) (d := 77) (b := true) rfl rfl rfl (fun v w h => h) fun sdn sa sw sE sd sk => ?_
          have h14 : sa.eval (.tmp 14) = .pointer (some ⟨g14, 0, none⟩) := sk.old 14 rfl
          refine Runs.of_run (r := .pointer (some ⟨g14, 2, none⟩)) (w' := sw) ?_ ⟨Ext.refl _, rfl⟩
          unfold execOp
          simp only [h14]
          go_simp
        · refine stepY (j := 13) (d := 77) (b := true) rfl rfl rfl (fun v w h => h) fun sdn sa sw sE sd sk => ?_
          have h79 : sa.eval (.tmp 79) = .pointer (some ⟨g14, 2, none⟩) := sk.fact 15 79 rfl (sd 15 rfl)
          exact Runs.load rfl h79 (run_load1 Try.underlying3 rfl ((hB14s.ext sE).cell (i := 2) rfl)) ⟨Ext.refl _, rfl⟩
        · refine stepY (j := 13) (d := 77) (b := true) rfl rfl rfl (fun v w h => h) fun sdn sa sw sE sd sk => ?_
          have h78 : sa.eval (.tmp 78) = .int .i64 (cntL (fun g => cosB H9 WL z x R g.wn g.k g.ps g.qs) gs) := sk.fact 14 78 rfl (sd 14 rfl)
          have h80 : sa.eval (.tmp 80) = .int .i64 (z) := sk.fact 16 80 rfl (sd 16 rfl)
          exact Runs.bin rfl h78 h80 (by rfl) (bin_geq _ _ _ _) ⟨Ext.refl _, rfl⟩
        · refine stepY (j := 6) (d := 70) (b := true) rfl rfl rfl (fun v w h => h) fun sdn sa sw sE sd sk => ?_
          have h77 : sa.eval (.tmp 77) = .bool (true) := sk.fact 13 77 rfl (sd 13 rfl)
          have h81 : sa.eval (.tmp 81) = .bool (decide (z ≤ cntL (fun g => cosB H9 WL z x R g.wn g.k g.ps g.qs) gs)) := sk.fact 17 81 rfl (sd 17 rfl)
          exact Runs.pick rfl h77 ⟨Ext.refl _, by first | exact h81 | simpa using h81⟩
        · refine stepY (j := 6) (d := 70) (b := true) rfl rfl rfl (fun v w h => h) fun sdn sa sw sE sd sk => ?_
          have h74 : sa.eval (.tmp 74) = .bool (decide (z ≤ cntL (fun g => cosB H9 WL z x R g.wn g.k g.ps g.qs) gs)) := sk.fact 10 74 rfl (sd 10 rfl)
          have h82 : sa.eval (.tmp 82) = .bool (decide (z ≤ cntL (fun g => cosB H9 WL z x R g.wn g.k g.ps g.qs) gs)) := sk.fact 18 82 rfl (sd 18 rfl)
          exact Runs.bin rfl h74 h82 (by rfl) (bin_eqb _ _) ⟨Ext.refl _, congrArg Value.bool (by simp)⟩
        · refine stepE rfl fun sdn sa sw sE sd sk => ?_
          have h70 : sa.eval (.tmp 70) = .bool (true) := sk.fact 6 70 rfl (sd 6 rfl)
          have h83 : sa.eval (.tmp 83) = .bool (true) := sk.fact 19 83 rfl (sd 19 rfl)
          exact Runs.pick rfl h70 ⟨Ext.refl _, by first | exact h83 | simpa using h83⟩
        · refine stepE rfl fun sdn sa sw sE sd sk => ?_
          have h84 : sa.eval (.tmp 84) = .bool (true) := sk.fact 20 84 rfl (sd 20 rfl)
          exact Runs.move rfl h84 ⟨Ext.refl _, rfl⟩
        · refine stepY (j := 21) (d := 85) (b := true) rfl rfl rfl (fun v w h => h) fun sdn sa sw sE sd sk => ?_
          have h14 : sa.eval (.tmp 14) = .pointer (some ⟨g14, 0, none⟩) := sk.old 14 rfl
          exact Runs.load rfl h14 (load_part (hB14s.ext sE) 0 (vs := [.slice (G9) (32) (cg9), .slice (Q2) (q) (dq), .int .i64 (z)]) rfl Try.underlying77 rfl (by kernel_rfl)) ⟨Ext.refl _, rfl⟩
        · refine stepY (j := 21) (d := 85) (b := true) rfl rfl rfl (fun v w h => h) fun sdn sa sw sE sd sk => ?_
          have h86 : sa.eval (.tmp 86) = .agg #[.slice (G9) (32) (cg9), .slice (Q2) (q) (dq), .int .i64 (z)] := sk.fact 22 86 rfl (sd 22 rfl)
          refine Runs.call (f := 42) (vs := [.agg #[.slice (G9) (32) (cg9), .slice (Q2) (q) (dq), .int .i64 (z)]]) rfl rfl rfl (by simp only [List.map_toArray, List.map_cons, List.map_nil, h86] <;> rfl) (ent42 _ _) ((cosright_any _ _ _ _ _ _ _ _ _ sw (rGs.ext sE) (rQs.ext sE)).mono ?_); rintro e w' ⟨rfl, hx⟩; exact ⟨_, rfl, hx, congrArg Value.bool (hp)⟩
        · refine stepY (j := 21) (d := 85) (b := true) rfl rfl rfl (fun v w h => h) fun sdn sa sw sE sd sk => ?_
          have h14 : sa.eval (.tmp 14) = .pointer (some ⟨g14, 0, none⟩) := sk.old 14 rfl
          exact Runs.load rfl h14 (load_part (hB14s.ext sE) 0 (vs := [.slice (G9) (32) (cg9), .slice (Q2) (q) (dq), .int .i64 (z)]) rfl Try.underlying77 rfl (by kernel_rfl)) ⟨Ext.refl _, rfl⟩
        · refine stepY (j := 21) (d := 85) (b := true) rfl rfl rfl (fun v w h => h) fun sdn sa sw sE sd sk => ?_
          have h88 : sa.eval (.tmp 88) = .agg #[.slice (G9) (32) (cg9), .slice (Q2) (q) (dq), .int .i64 (z)] := sk.fact 24 88 rfl (sd 24 rfl)
          refine Runs.call (f := 53) (vs := [.agg #[.slice (G9) (32) (cg9), .slice (Q2) (q) (dq), .int .i64 (z)]]) rfl rfl rfl (by simp only [List.map_toArray, List.map_cons, List.map_nil, h88] <;> rfl) (ent53 _ _) ((rpolicy_any _ _ _ _ _ _ _ _ _ sw (rGs.ext sE) (rQs.ext sE)).mono ?_); rintro e w' ⟨rfl, hx⟩; exact ⟨_, rfl, hx, congrArg Value.bool (hp)⟩
        · refine stepY (j := 21) (d := 85) (b := true) rfl rfl rfl (fun v w h => h) fun sdn sa sw sE sd sk => ?_
          have h87 : sa.eval (.tmp 87) = .bool (true) := sk.fact 23 87 rfl (sd 23 rfl)
          have h89 : sa.eval (.tmp 89) = .bool (true) := sk.fact 25 89 rfl (sd 25 rfl)
          exact Runs.bin rfl h87 h89 (by rfl) (bin_eqb _ _) ⟨Ext.refl _, congrArg Value.bool (by decide)⟩
        · refine stepE rfl fun sdn sa sw sE sd sk => ?_
          have h85 : sa.eval (.tmp 85) = .bool (true) := sk.fact 21 85 rfl (sd 21 rfl)
          have h90 : sa.eval (.tmp 90) = .bool (true) := sk.fact 26 90 rfl (sd 26 rfl)
          exact Runs.pick rfl h85 ⟨Ext.refl _, by first | exact h90 | simpa using h90⟩
        · refine stepE rfl fun sdn sa sw sE sd sk => ?_
          have h91 : sa.eval (.tmp 91) = .bool (true) := sk.fact 27 91 rfl (sd 27 rfl)
          exact Runs.move rfl h91 ⟨Ext.refl _, rfl⟩
        · refine stepY (j := 28) (d := 92) (b := true) rfl rfl rfl (fun v w h => h) fun sdn sa sw sE sd sk => ?_
          have h11 : sa.eval (.tmp 11) = .pointer (some ⟨g11, 0, none⟩) := sk.old 11 rfl
          exact Runs.load rfl h11 (load_part (hB11s.ext sE) 0 (vs := [.slice (G) (ng) (cg), .slice (F) (nf) (df), .int .i64 (qr)]) rfl Try.underlying77 rfl (by kernel_rfl)) ⟨Ext.refl _, rfl⟩
        · refine stepY (j := 28) (d := 92) (b := true) rfl rfl rfl (fun v w h => h) fun sdn sa sw sE sd sk => ?_
          have h93 : sa.eval (.tmp 93) = .agg #[.slice (G) (ng) (cg), .slice (F) (nf) (df), .int .i64 (qr)] := sk.fact 29 93 rfl (sd 29 rfl)
          refine Runs.call (f := 42) (vs := [.agg #[.slice (G) (ng) (cg), .slice (F) (nf) (df), .int .i64 (qr)]]) rfl rfl rfl (by simp only [List.map_toArray, List.map_cons, List.map_nil, h93] <;> rfl) (ent42 _ _) ((cosright_any _ _ _ _ _ _ _ _ _ sw (rLgs.ext sE) (rFs.ext sE)).mono ?_); rintro e w' ⟨rfl, hx⟩; exact ⟨_, rfl, hx, rfl⟩
        · refine stepY (j := 28) (d := 92) (b := true) rfl rfl rfl (fun v w h => h) fun sdn sa sw sE sd sk => ?_
          have h11 : sa.eval (.tmp 11) = .pointer (some ⟨g11, 0, none⟩) := sk.old 11 rfl
          exact Runs.load rfl h11 (load_part (hB11s.ext sE) 0 (vs := [.slice (G) (ng) (cg), .slice (F) (nf) (df), .int .i64 (qr)]) rfl Try.underlying77 rfl (by kernel_rfl)) ⟨Ext.refl _, rfl⟩
        · refine stepY (j := 28) (d := 92) (b := true) rfl rfl rfl (fun v w h => h) fun sdn sa sw sE sd sk => ?_
          have h95 : sa.eval (.tmp 95) = .agg #[.slice (G) (ng) (cg), .slice (F) (nf) (df), .int .i64 (qr)] := sk.fact 31 95 rfl (sd 31 rfl)
          refine Runs.call (f := 53) (vs := [.agg #[.slice (G) (ng) (cg), .slice (F) (nf) (df), .int .i64 (qr)]]) rfl rfl rfl (by simp only [List.map_toArray, List.map_cons, List.map_nil, h95] <;> rfl) (ent53 _ _) ((rpolicy_any _ _ _ _ _ _ _ _ _ sw (rLgs.ext sE) (rFs.ext sE)).mono ?_); rintro e w' ⟨rfl, hx⟩; exact ⟨_, rfl, hx, rfl⟩
        · refine stepY (j := 28) (d := 92) (b := true) rfl rfl rfl (fun v w h => h) fun sdn sa sw sE sd sk => ?_
          have h94 : sa.eval (.tmp 94) = .bool (polB LG WF qr) := sk.fact 30 94 rfl (sd 30 rfl)
          have h96 : sa.eval (.tmp 96) = .bool (polB LG WF qr) := sk.fact 32 96 rfl (sd 32 rfl)
          exact Runs.bin rfl h94 h96 (by rfl) (bin_eqb _ _) ⟨Ext.refl _, congrArg Value.bool (by simp)⟩
        · refine stepE rfl fun sdn sa sw sE sd sk => ?_
          have h92 : sa.eval (.tmp 92) = .bool (true) := sk.fact 28 92 rfl (sd 28 rfl)
          have h97 : sa.eval (.tmp 97) = .bool (true) := sk.fact 33 97 rfl (sd 33 rfl)
          exact Runs.pick rfl h92 ⟨Ext.refl _, by first | exact h97 | simpa using h97⟩
        · refine stepE rfl fun sdn sa sw sE sd sk => ?_
          have h98 : sa.eval (.tmp 98) = .bool (true) := sk.fact 34 98 rfl (sd 34 rfl)
          exact Runs.move rfl h98 ⟨Ext.refl _, rfl⟩
        · refine stepY (j := 35) (d := 99) (b := true) rfl rfl rfl (fun v w h => h) fun sdn sa sw sE sd sk => ?_
          refine Runs.call (f := 47) (vs := []) rfl rfl rfl (by simp only [List.map_toArray, List.map_cons, List.map_nil] <;> rfl) (ent47 _ _) ((known11_any sw).mono ?_); rintro e w' ⟨rfl, hx⟩; exact ⟨_, rfl, hx, rfl⟩
        · refine stepE rfl fun sdn sa sw sE sd sk => ?_
          have h99 : sa.eval (.tmp 99) = .bool (true) := sk.fact 35 99 rfl (sd 35 rfl)
          have h100 : sa.eval (.tmp 100) = .bool (true) := sk.fact 36 100 rfl (sd 36 rfl)
          exact Runs.pick rfl h99 ⟨Ext.refl _, by first | exact h100 | simpa using h100⟩
        intro vals W12 hE12 hv12
        have e0 : vals 0 = .agg #[.slice (G9) (32) (cg9), .slice (Q2) (q) (dq), .int .i64 (z)] := hv12 0 (by omega) 64 rfl
        have e1 : vals 1 = .agg #[.int .i64 (x), .slice (B) (32) (d)] := hv12 1 (by omega) 65 rfl
        have e2 : vals 2 = .slice (M) (k) (cm) := hv12 2 (by omega) 66 rfl
        have e3 : vals 3 = .int .i64 (cntL (fun g => cosB H9 WL z x R g.wn g.k g.ps g.qs) gs) := hv12 3 (by omega) 67 rfl
        have e4 : vals 4 = .int .i64 (cntL (fun g => cosB H9 WL z x R g.wn g.k g.ps g.qs) gs) := hv12 4 (by omega) 68 rfl
        have e5 : vals 5 = .bool (true) := hv12 5 (by omega) 69 rfl
        have e6 : vals 6 = .bool (true) := hv12 6 (by omega) 70 rfl
        have e7 : vals 7 = .agg #[.slice (G9) (32) (cg9), .slice (Q2) (q) (dq), .int .i64 (z)] := hv12 7 (by omega) 71 rfl
        have e8 : vals 8 = .agg #[.int .i64 (x), .slice (B) (32) (d)] := hv12 8 (by omega) 72 rfl
        have e9 : vals 9 = .slice (M) (k) (cm) := hv12 9 (by omega) 73 rfl
        have e10 : vals 10 = .bool (decide (z ≤ cntL (fun g => cosB H9 WL z x R g.wn g.k g.ps g.qs) gs)) := hv12 10 (by omega) 74 rfl
        have e11 : vals 11 = .agg #[.slice (G9) (32) (cg9), .slice (Q2) (q) (dq), .int .i64 (z)] := hv12 11 (by omega) 75 rfl
        have e12 : vals 12 = .bool (true) := hv12 12 (by omega) 76 rfl
        have e13 : vals 13 = .bool (true) := hv12 13 (by omega) 77 rfl
        have e14 : vals 14 = .int .i64 (cntL (fun g => cosB H9 WL z x R g.wn g.k g.ps g.qs) gs) := hv12 14 (by omega) 78 rfl
        have e15 : vals 15 = .pointer (some ⟨g14, 2, none⟩) := hv12 15 (by omega) 79 rfl
        have e16 : vals 16 = .int .i64 (z) := hv12 16 (by omega) 80 rfl
        have e17 : vals 17 = .bool (decide (z ≤ cntL (fun g => cosB H9 WL z x R g.wn g.k g.ps g.qs) gs)) := hv12 17 (by omega) 81 rfl
        have e18 : vals 18 = .bool (decide (z ≤ cntL (fun g => cosB H9 WL z x R g.wn g.k g.ps g.qs) gs)) := hv12 18 (by omega) 82 rfl
        have e19 : vals 19 = .bool (true) := hv12 19 (by omega) 83 rfl
        have e20 : vals 20 = .bool (true) := hv12 20 (by omega) 84 rfl
        have e21 : vals 21 = .bool (true) := hv12 21 (by omega) 85 rfl
        have e22 : vals 22 = .agg #[.slice (G9) (32) (cg9), .slice (Q2) (q) (dq), .int .i64 (z)] := hv12 22 (by omega) 86 rfl
        have e23 : vals 23 = .bool (true) := hv12 23 (by omega) 87 rfl
        have e24 : vals 24 = .agg #[.slice (G9) (32) (cg9), .slice (Q2) (q) (dq), .int .i64 (z)] := hv12 24 (by omega) 88 rfl
        have e25 : vals 25 = .bool (true) := hv12 25 (by omega) 89 rfl
        have e26 : vals 26 = .bool (true) := hv12 26 (by omega) 90 rfl
        have e27 : vals 27 = .bool (true) := hv12 27 (by omega) 91 rfl
        have e28 : vals 28 = .bool (true) := hv12 28 (by omega) 92 rfl
        have e29 : vals 29 = .agg #[.slice (G) (ng) (cg), .slice (F) (nf) (df), .int .i64 (qr)] := hv12 29 (by omega) 93 rfl
        have e30 : vals 30 = .bool (polB LG WF qr) := hv12 30 (by omega) 94 rfl
        have e31 : vals 31 = .agg #[.slice (G) (ng) (cg), .slice (F) (nf) (df), .int .i64 (qr)] := hv12 31 (by omega) 95 rfl
        have e32 : vals 32 = .bool (polB LG WF qr) := hv12 32 (by omega) 96 rfl
        have e33 : vals 33 = .bool (true) := hv12 33 (by omega) 97 rfl
        have e34 : vals 34 = .bool (true) := hv12 34 (by omega) 98 rfl
        have e35 : vals 35 = .bool (true) := hv12 35 (by omega) 99 rfl
        have e36 : vals 36 = .bool (true) := hv12 36 (by omega) 100 rfl
        have e37 : vals 37 = .bool (true) := hv12 37 (by omega) 101 rfl
        simp only [putAll, Act.put, List.take_succ_cons, List.take_zero, List.drop_succ_cons, List.drop_zero, List.drop_nil, List.take_nil, Nat.reduceAdd, List.setIfInBounds_toArray, List.set_cons_succ, List.set_cons_zero, e0, e1, e2, e3, e4, e5, e6, e7, e8, e9, e10, e11, e12, e13, e14, e15, e16, e17, e18, e19, e20, e21, e22, e23, e24, e25, e26, e27, e28, e29, e30, e31, e32, e33, e34, e35, e36, e37]
        clear hv12 e0 e1 e2 e3 e4 e5 e6 e7 e8 e9 e10 e11 e12 e13 e14 e15 e16 e17 e18 e19 e20 e21 e22 e23 e24 e25 e26 e27 e28 e29 e30 e31 e32 e33 e34 e35 e36 e37
        go_wp2_with fail
        go_ret
        exact ⟨rfl, hEs.trans hE12⟩
      | false =>
        refine par_ext (n := 38) (by kernel_rfl) [.is (.agg #[.slice (G9) (32) (cg9), .slice (Q2) (q) (dq), .int .i64 (z)]), .is (.agg #[.int .i64 (x), .slice (B) (32) (d)]), .is (.slice (M) (k) (cm)), .is (.int .i64 (cntL (fun g => cosB H9 WL z x R g.wn g.k g.ps g.qs) gs)), .is (.int .i64 (cntL (fun g => cosB H9 WL z x R g.wn g.k g.ps g.qs) gs)), .is (.bool (true)), .is (.bool (true)), .is (.agg #[.slice (G9) (32) (cg9), .slice (Q2) (q) (dq), .int .i64 (z)]), .is (.agg #[.int .i64 (x), .slice (B) (32) (d)]), .is (.slice (M) (k) (cm)), .is (.bool (false)), .is (.agg #[.slice (G9) (32) (cg9), .slice (Q2) (q) (dq), .int .i64 (z)]), .is (.bool (false)), .is (.bool (false)), .is undef, .is undef, .is undef, .is undef, .is (.bool (false)), .is (.bool (true)), .is (.bool (true)), .is (.bool (true)), .is (.agg #[.slice (G9) (32) (cg9), .slice (Q2) (q) (dq), .int .i64 (z)]), .is (.bool (false)), .is (.agg #[.slice (G9) (32) (cg9), .slice (Q2) (q) (dq), .int .i64 (z)]), .is (.bool (false)), .is (.bool (true)), .is (.bool (true)), .is (.bool (true)), .is (.agg #[.slice (G) (ng) (cg), .slice (F) (nf) (df), .int .i64 (qr)]), .is (.bool (polB LG WF qr)), .is (.agg #[.slice (G) (ng) (cg), .slice (F) (nf) (df), .int .i64 (qr)]), .is (.bool (polB LG WF qr)), .is (.bool (true)), .is (.bool (true)), .is (.bool (true)), .is (.bool (true)), .is (.bool (true))] rfl ⟨?_, ?_, ?_, ?_, ?_, ?_, ?_, ?_, ?_, ?_, ?_, ?_, ?_, ?_, ?_, ?_, ?_, ?_, ?_, ?_, ?_, ?_, ?_, ?_, ?_, ?_, ?_, ?_, ?_, ?_, ?_, ?_, ?_, ?_, ?_, ?_, ?_, ?_, trivial⟩ ?_
        · refine stepE rfl fun sdn sa sw sE sd sk => ?_
          have h14 : sa.eval (.tmp 14) = .pointer (some ⟨g14, 0, none⟩) := sk.old 14 rfl
          exact Runs.load rfl h14 (load_part (hB14s.ext sE) 0 (vs := [.slice (G9) (32) (cg9), .slice (Q2) (q) (dq), .int .i64 (z)]) rfl Try.underlying77 rfl (by kernel_rfl)) ⟨Ext.refl _, rfl⟩
        · refine stepE rfl fun sdn sa sw sE sd sk => ?_
          have h15 : sa.eval (.tmp 15) = .pointer (some ⟨g15, 0, none⟩) := sk.old 15 rfl
          exact Runs.load rfl h15 (load_part (hB15s.ext sE) 0 (vs := [.int .i64 (x), .slice (B) (32) (d)]) rfl Try.underlying24 rfl (by kernel_rfl)) ⟨Ext.refl _, rfl⟩
        · refine stepE rfl fun sdn sa sw sE sd sk => ?_
          have h16 : sa.eval (.tmp 16) = .slice (M) (k) (cm) := sk.old 16 rfl
          exact Runs.move rfl h16 ⟨Ext.refl _, rfl⟩
        · refine stepE rfl fun sdn sa sw sE sd sk => ?_
          have h64 : sa.eval (.tmp 64) = .agg #[.slice (G9) (32) (cg9), .slice (Q2) (q) (dq), .int .i64 (z)] := sk.fact 0 64 rfl (sd 0 rfl)
          have h65 : sa.eval (.tmp 65) = .agg #[.int .i64 (x), .slice (B) (32) (d)] := sk.fact 1 65 rfl (sd 1 rfl)
          have h66 : sa.eval (.tmp 66) = .slice (M) (k) (cm) := sk.fact 2 66 rfl (sd 2 rfl)
          refine Runs.call (f := 44) (vs := [.agg #[.slice (G9) (32) (cg9), .slice (Q2) (q) (dq), .int .i64 (z)], .agg #[.int .i64 (x), .slice (B) (32) (d)], .slice (M) (k) (cm)]) rfl rfl rfl (by simp only [List.map_toArray, List.map_cons, List.map_nil, h64, h65, h66] <;> rfl) (ent44 _ _) ((cCount_any _ _ _ _ _ _ _ _ _ _ _ _ _ _ _ _ _ _ sw (rGs.ext sE) (rQs.ext sE) (rRs.ext sE) (rM.ext sE)).mono ?_); rintro e w' ⟨rfl, hx⟩; exact ⟨_, rfl, hx, rfl⟩
        · refine stepE rfl fun sdn sa sw sE sd sk => ?_
          have h18 : sa.eval (.tmp 18) = .int .i64 (cntL (fun g => cosB H9 WL z x R g.wn g.k g.ps g.qs) gs) := sk.old 18 rfl
          exact Runs.move rfl h18 ⟨Ext.refl _, rfl⟩
        · refine stepE rfl fun sdn sa sw sE sd sk => ?_
          have h67 : sa.eval (.tmp 67) = .int .i64 (cntL (fun g => cosB H9 WL z x R g.wn g.k g.ps g.qs) gs) := sk.fact 3 67 rfl (sd 3 rfl)
          have h68 : sa.eval (.tmp 68) = .int .i64 (cntL (fun g => cosB H9 WL z x R g.wn g.k g.ps g.qs) gs) := sk.fact 4 68 rfl (sd 4 rfl)
          exact Runs.bin rfl h67 h68 (by rfl) (bin_eql _ _ _ _) ⟨Ext.refl _, congrArg Value.bool (by simp)⟩
        · refine stepE rfl fun sdn sa sw sE sd sk => ?_
          have h69 : sa.eval (.tmp 69) = .bool (true) := sk.fact 5 69 rfl (sd 5 rfl)
          exact Runs.move rfl h69 ⟨Ext.refl _, rfl⟩
        · refine stepY (j := 6) (d := 70) (b := true) rfl rfl rfl (fun v w h => h) fun sdn sa sw sE sd sk => ?_
          have h14 : sa.eval (.tmp 14) = .pointer (some ⟨g14, 0, none⟩) := sk.old 14 rfl
          exact Runs.load rfl h14 (load_part (hB14s.ext sE) 0 (vs := [.slice (G9) (32) (cg9), .slice (Q2) (q) (dq), .int .i64 (z)]) rfl Try.underlying77 rfl (by kernel_rfl)) ⟨Ext.refl _, rfl⟩
        · refine stepY (j := 6) (d := 70) (b := true) rfl rfl rfl (fun v w h => h) fun sdn sa sw sE sd sk => ?_
          have h15 : sa.eval (.tmp 15) = .pointer (some ⟨g15, 0, none⟩) := sk.old 15 rfl
          exact Runs.load rfl h15 (load_part (hB15s.ext sE) 0 (vs := [.int .i64 (x), .slice (B) (32) (d)]) rfl Try.underlying24 rfl (by kernel_rfl)) ⟨Ext.refl _, rfl⟩
        · refine stepY (j := 6) (d := 70) (b := true) rfl rfl rfl (fun v w h => h) fun sdn sa sw sE sd sk => ?_
          have h16 : sa.eval (.tmp 16) = .slice (M) (k) (cm) := sk.old 16 rfl
          exact Runs.move rfl h16 ⟨Ext.refl _, rfl⟩
        · refine stepY (j := 6) (d := 70) (b := true) rfl rfl rfl (fun v w h => h) fun sdn sa sw sE sd sk => ?_
          have h71 : sa.eval (.tmp 71) = .agg #[.slice (G9) (32) (cg9), .slice (Q2) (q) (dq), .int .i64 (z)] := sk.fact 7 71 rfl (sd 7 rfl)
          have h72 : sa.eval (.tmp 72) = .agg #[.int .i64 (x), .slice (B) (32) (d)] := sk.fact 8 72 rfl (sd 8 rfl)
          have h73 : sa.eval (.tmp 73) = .slice (M) (k) (cm) := sk.fact 9 73 rfl (sd 9 rfl)
          refine Runs.call (f := 43) (vs := [.agg #[.slice (G9) (32) (cg9), .slice (Q2) (q) (dq), .int .i64 (z)], .agg #[.int .i64 (x), .slice (B) (32) (d)], .slice (M) (k) (cm)]) rfl rfl rfl (by simp only [List.map_toArray, List.map_cons, List.map_nil, h71, h72, h73] <;> rfl) (ent43 _ _) ((cMet_any _ _ _ _ _ _ _ _ _ _ _ _ _ _ _ _ _ _ sw (rGs.ext sE) (rQs.ext sE) (rRs.ext sE) (rM.ext sE)).mono ?_); rintro e w' ⟨rfl, hx⟩; exact ⟨_, rfl, hx, congrArg Value.bool (by rw [hp]; rfl)⟩
        · refine stepY (j := 6) (d := 70) (b := true) rfl rfl rfl (fun v w h => h) fun sdn sa sw sE sd sk => ?_
          have h14 : sa.eval (.tmp 14) = .pointer (some ⟨g14, 0, none⟩) := sk.old 14 rfl
          exact Runs.load rfl h14 (load_part (hB14s.ext sE) 0 (vs := [.slice (G9) (32) (cg9), .slice (Q2) (q) (dq), .int .i64 (z)]) rfl Try.underlying77 rfl (by kernel_rfl)) ⟨Ext.refl _, rfl⟩
        · refine stepY (j := 6) (d := 70) (b := true) rfl rfl rfl (fun v w h => h) fun sdn sa sw sE sd sk => ?_
          have h75 : sa.eval (.tmp 75) = .agg #[.slice (G9) (32) (cg9), .slice (Q2) (q) (dq), .int .i64 (z)] := sk.fact 11 75 rfl (sd 11 rfl)
          refine Runs.call (f := 53) (vs := [.agg #[.slice (G9) (32) (cg9), .slice (Q2) (q) (dq), .int .i64 (z)]]) rfl rfl rfl (by simp only [List.map_toArray, List.map_cons, List.map_nil, h75] <;> rfl) (ent53 _ _) ((rpolicy_any _ _ _ _ _ _ _ _ _ sw (rGs.ext sE) (rQs.ext sE)).mono ?_); rintro e w' ⟨rfl, hx⟩; exact ⟨_, rfl, hx, congrArg Value.bool (hp)⟩
        · refine stepY (j := 6) (d := 70) (b := true) rfl rfl rfl (fun v w h => h) fun sdn sa sw sE sd sk => ?_
          have h76 : sa.eval (.tmp 76) = .bool (false) := sk.fact 12 76 rfl (sd 12 rfl)
          exact Runs.move rfl h76 ⟨Ext.refl _, rfl⟩
        · exact stepN (j := 13) (d := 77) (b := false) rfl rfl rfl (fun v w h => h) fun w => rfl
        · exact stepN (j := 13) (d := 77) (b := false) rfl rfl rfl (fun v w h => h) fun w => rfl
        · exact stepN (j := 13) (d := 77) (b := false) rfl rfl rfl (fun v w h => h) fun w => rfl
        · exact stepN (j := 13) (d := 77) (b := false) rfl rfl rfl (fun v w h => h) fun w => rfl
        · refine stepY (j := 6) (d := 70) (b := true) rfl rfl rfl (fun v w h => h) fun sdn sa sw sE sd sk => ?_
          have h77 : sa.eval (.tmp 77) = .bool (false) := sk.fact 13 77 rfl (sd 13 rfl)
          exact Runs.pick rfl h77 ⟨Ext.refl _, rfl⟩
        · refine stepY (j := 6) (d := 70) (b := true) rfl rfl rfl (fun v w h => h) fun sdn sa sw sE sd sk => ?_
          have h74 : sa.eval (.tmp 74) = .bool (false) := sk.fact 10 74 rfl (sd 10 rfl)
          have h82 : sa.eval (.tmp 82) = .bool (false) := sk.fact 18 82 rfl (sd 18 rfl)
          exact Runs.bin rfl h74 h82 (by rfl) (bin_eqb _ _) ⟨Ext.refl _, congrArg Value.bool (by decide)⟩
        · refine stepE rfl fun sdn sa sw sE sd sk => ?_
          have h70 : sa.eval (.tmp 70) = .bool (true) := sk.fact 6 70 rfl (sd 6 rfl)
          have h83 : sa.eval (.tmp 83) = .bool (true) := sk.fact 19 83 rfl (sd 19 rfl)
          exact Runs.pick rfl h70 ⟨Ext.refl _, by first | exact h83 | simpa using h83⟩
        · refine stepE rfl fun sdn sa sw sE sd sk => ?_
          have h84 : sa.eval (.tmp 84) = .bool (true) := sk.fact 20 84 rfl (sd 20 rfl)
          exact Runs.move rfl h84 ⟨Ext.refl _, rfl⟩
        · refine stepY (j := 21) (d := 85) (b := true) rfl rfl rfl (fun v w h => h) fun sdn sa sw sE sd sk => ?_
          have h14 : sa.eval (.tmp 14) = .pointer (some ⟨g14, 0, none⟩) := sk.old 14 rfl
          exact Runs.load rfl h14 (load_part (hB14s.ext sE) 0 (vs := [.slice (G9) (32) (cg9), .slice (Q2) (q) (dq), .int .i64 (z)]) rfl Try.underlying77 rfl (by kernel_rfl)) ⟨Ext.refl _, rfl⟩
        · refine stepY (j := 21) (d := 85) (b := true) rfl rfl rfl (fun v w h => h) fun sdn sa sw sE sd sk => ?_
          have h86 : sa.eval (.tmp 86) = .agg #[.slice (G9) (32) (cg9), .slice (Q2) (q) (dq), .int .i64 (z)] := sk.fact 22 86 rfl (sd 22 rfl)
          refine Runs.call (f := 42) (vs := [.agg #[.slice (G9) (32) (cg9), .slice (Q2) (q) (dq), .int .i64 (z)]]) rfl rfl rfl (by simp only [List.map_toArray, List.map_cons, List.map_nil, h86] <;> rfl) (ent42 _ _) ((cosright_any _ _ _ _ _ _ _ _ _ sw (rGs.ext sE) (rQs.ext sE)).mono ?_); rintro e w' ⟨rfl, hx⟩; exact ⟨_, rfl, hx, congrArg Value.bool (hp)⟩
        · refine stepY (j := 21) (d := 85) (b := true) rfl rfl rfl (fun v w h => h) fun sdn sa sw sE sd sk => ?_
          have h14 : sa.eval (.tmp 14) = .pointer (some ⟨g14, 0, none⟩) := sk.old 14 rfl
          exact Runs.load rfl h14 (load_part (hB14s.ext sE) 0 (vs := [.slice (G9) (32) (cg9), .slice (Q2) (q) (dq), .int .i64 (z)]) rfl Try.underlying77 rfl (by kernel_rfl)) ⟨Ext.refl _, rfl⟩
        · refine stepY (j := 21) (d := 85) (b := true) rfl rfl rfl (fun v w h => h) fun sdn sa sw sE sd sk => ?_
          have h88 : sa.eval (.tmp 88) = .agg #[.slice (G9) (32) (cg9), .slice (Q2) (q) (dq), .int .i64 (z)] := sk.fact 24 88 rfl (sd 24 rfl)
          refine Runs.call (f := 53) (vs := [.agg #[.slice (G9) (32) (cg9), .slice (Q2) (q) (dq), .int .i64 (z)]]) rfl rfl rfl (by simp only [List.map_toArray, List.map_cons, List.map_nil, h88] <;> rfl) (ent53 _ _) ((rpolicy_any _ _ _ _ _ _ _ _ _ sw (rGs.ext sE) (rQs.ext sE)).mono ?_); rintro e w' ⟨rfl, hx⟩; exact ⟨_, rfl, hx, congrArg Value.bool (hp)⟩
        · refine stepY (j := 21) (d := 85) (b := true) rfl rfl rfl (fun v w h => h) fun sdn sa sw sE sd sk => ?_
          have h87 : sa.eval (.tmp 87) = .bool (false) := sk.fact 23 87 rfl (sd 23 rfl)
          have h89 : sa.eval (.tmp 89) = .bool (false) := sk.fact 25 89 rfl (sd 25 rfl)
          exact Runs.bin rfl h87 h89 (by rfl) (bin_eqb _ _) ⟨Ext.refl _, congrArg Value.bool (by decide)⟩
        · refine stepE rfl fun sdn sa sw sE sd sk => ?_
          have h85 : sa.eval (.tmp 85) = .bool (true) := sk.fact 21 85 rfl (sd 21 rfl)
          have h90 : sa.eval (.tmp 90) = .bool (true) := sk.fact 26 90 rfl (sd 26 rfl)
          exact Runs.pick rfl h85 ⟨Ext.refl _, by first | exact h90 | simpa using h90⟩
        · refine stepE rfl fun sdn sa sw sE sd sk => ?_
          have h91 : sa.eval (.tmp 91) = .bool (true) := sk.fact 27 91 rfl (sd 27 rfl)
          exact Runs.move rfl h91 ⟨Ext.refl _, rfl⟩
        · refine stepY (j := 28) (d := 92) (b := true) rfl rfl rfl (fun v w h => h) fun sdn sa sw sE sd sk => ?_
          have h11 : sa.eval (.tmp 11) = .pointer (some ⟨g11, 0, none⟩) := sk.old 11 rfl
          exact Runs.load rfl h11 (load_part (hB11s.ext sE) 0 (vs := [.slice (G) (ng) (cg), .slice (F) (nf) (df), .int .i64 (qr)]) rfl Try.underlying77 rfl (by kernel_rfl)) ⟨Ext.refl _, rfl⟩
        · refine stepY (j := 28) (d := 92) (b := true) rfl rfl rfl (fun v w h => h) fun sdn sa sw sE sd sk => ?_
          have h93 : sa.eval (.tmp 93) = .agg #[.slice (G) (ng) (cg), .slice (F) (nf) (df), .int .i64 (qr)] := sk.fact 29 93 rfl (sd 29 rfl)
          refine Runs.call (f := 42) (vs := [.agg #[.slice (G) (ng) (cg), .slice (F) (nf) (df), .int .i64 (qr)]]) rfl rfl rfl (by simp only [List.map_toArray, List.map_cons, List.map_nil, h93] <;> rfl) (ent42 _ _) ((cosright_any _ _ _ _ _ _ _ _ _ sw (rLgs.ext sE) (rFs.ext sE)).mono ?_); rintro e w' ⟨rfl, hx⟩; exact ⟨_, rfl, hx, rfl⟩
        · refine stepY (j := 28) (d := 92) (b := true) rfl rfl rfl (fun v w h => h) fun sdn sa sw sE sd sk => ?_
          have h11 : sa.eval (.tmp 11) = .pointer (some ⟨g11, 0, none⟩) := sk.old 11 rfl
          exact Runs.load rfl h11 (load_part (hB11s.ext sE) 0 (vs := [.slice (G) (ng) (cg), .slice (F) (nf) (df), .int .i64 (qr)]) rfl Try.underlying77 rfl (by kernel_rfl)) ⟨Ext.refl _, rfl⟩
        · refine stepY (j := 28) (d := 92) (b := true) rfl rfl rfl (fun v w h => h) fun sdn sa sw sE sd sk => ?_
          have h95 : sa.eval (.tmp 95) = .agg #[.slice (G) (ng) (cg), .slice (F) (nf) (df), .int .i64 (qr)] := sk.fact 31 95 rfl (sd 31 rfl)
          refine Runs.call (f := 53) (vs := [.agg #[.slice (G) (ng) (cg), .slice (F) (nf) (df), .int .i64 (qr)]]) rfl rfl rfl (by simp only [List.map_toArray, List.map_cons, List.map_nil, h95] <;> rfl) (ent53 _ _) ((rpolicy_any _ _ _ _ _ _ _ _ _ sw (rLgs.ext sE) (rFs.ext sE)).mono ?_); rintro e w' ⟨rfl, hx⟩; exact ⟨_, rfl, hx, rfl⟩
        · refine stepY (j := 28) (d := 92) (b := true) rfl rfl rfl (fun v w h => h) fun sdn sa sw sE sd sk => ?_
          have h94 : sa.eval (.tmp 94) = .bool (polB LG WF qr) := sk.fact 30 94 rfl (sd 30 rfl)
          have h96 : sa.eval (.tmp 96) = .bool (polB LG WF qr) := sk.fact 32 96 rfl (sd 32 rfl)
          exact Runs.bin rfl h94 h96 (by rfl) (bin_eqb _ _) ⟨Ext.refl _, congrArg Value.bool (by simp)⟩
        · refine stepE rfl fun sdn sa sw sE sd sk => ?_
          have h92 : sa.eval (.tmp 92) = .bool (true) := sk.fact 28 92 rfl (sd 28 rfl)
          have h97 : sa.eval (.tmp 97) = .bool (true) := sk.fact 33 97 rfl (sd 33 rfl)
          exact Runs.pick rfl h92 ⟨Ext.refl _, by first | exact h97 | simpa using h97⟩
        · refine stepE rfl fun sdn sa sw sE sd sk => ?_
          have h98 : sa.eval (.tmp 98) = .bool (true) := sk.fact 34 98 rfl (sd 34 rfl)
          exact Runs.move rfl h98 ⟨Ext.refl _, rfl⟩
        · refine stepY (j := 35) (d := 99) (b := true) rfl rfl rfl (fun v w h => h) fun sdn sa sw sE sd sk => ?_
          refine Runs.call (f := 47) (vs := []) rfl rfl rfl (by simp only [List.map_toArray, List.map_cons, List.map_nil] <;> rfl) (ent47 _ _) ((known11_any sw).mono ?_); rintro e w' ⟨rfl, hx⟩; exact ⟨_, rfl, hx, rfl⟩
        · refine stepE rfl fun sdn sa sw sE sd sk => ?_
          have h99 : sa.eval (.tmp 99) = .bool (true) := sk.fact 35 99 rfl (sd 35 rfl)
          have h100 : sa.eval (.tmp 100) = .bool (true) := sk.fact 36 100 rfl (sd 36 rfl)
          exact Runs.pick rfl h99 ⟨Ext.refl _, by first | exact h100 | simpa using h100⟩
        intro vals W12 hE12 hv12
        have e0 : vals 0 = .agg #[.slice (G9) (32) (cg9), .slice (Q2) (q) (dq), .int .i64 (z)] := hv12 0 (by omega) 64 rfl
        have e1 : vals 1 = .agg #[.int .i64 (x), .slice (B) (32) (d)] := hv12 1 (by omega) 65 rfl
        have e2 : vals 2 = .slice (M) (k) (cm) := hv12 2 (by omega) 66 rfl
        have e3 : vals 3 = .int .i64 (cntL (fun g => cosB H9 WL z x R g.wn g.k g.ps g.qs) gs) := hv12 3 (by omega) 67 rfl
        have e4 : vals 4 = .int .i64 (cntL (fun g => cosB H9 WL z x R g.wn g.k g.ps g.qs) gs) := hv12 4 (by omega) 68 rfl
        have e5 : vals 5 = .bool (true) := hv12 5 (by omega) 69 rfl
        have e6 : vals 6 = .bool (true) := hv12 6 (by omega) 70 rfl
        have e7 : vals 7 = .agg #[.slice (G9) (32) (cg9), .slice (Q2) (q) (dq), .int .i64 (z)] := hv12 7 (by omega) 71 rfl
        have e8 : vals 8 = .agg #[.int .i64 (x), .slice (B) (32) (d)] := hv12 8 (by omega) 72 rfl
        have e9 : vals 9 = .slice (M) (k) (cm) := hv12 9 (by omega) 73 rfl
        have e10 : vals 10 = .bool (false) := hv12 10 (by omega) 74 rfl
        have e11 : vals 11 = .agg #[.slice (G9) (32) (cg9), .slice (Q2) (q) (dq), .int .i64 (z)] := hv12 11 (by omega) 75 rfl
        have e12 : vals 12 = .bool (false) := hv12 12 (by omega) 76 rfl
        have e13 : vals 13 = .bool (false) := hv12 13 (by omega) 77 rfl
        have e18 : vals 18 = .bool (false) := hv12 18 (by omega) 82 rfl
        have e19 : vals 19 = .bool (true) := hv12 19 (by omega) 83 rfl
        have e20 : vals 20 = .bool (true) := hv12 20 (by omega) 84 rfl
        have e21 : vals 21 = .bool (true) := hv12 21 (by omega) 85 rfl
        have e22 : vals 22 = .agg #[.slice (G9) (32) (cg9), .slice (Q2) (q) (dq), .int .i64 (z)] := hv12 22 (by omega) 86 rfl
        have e23 : vals 23 = .bool (false) := hv12 23 (by omega) 87 rfl
        have e24 : vals 24 = .agg #[.slice (G9) (32) (cg9), .slice (Q2) (q) (dq), .int .i64 (z)] := hv12 24 (by omega) 88 rfl
        have e25 : vals 25 = .bool (false) := hv12 25 (by omega) 89 rfl
        have e26 : vals 26 = .bool (true) := hv12 26 (by omega) 90 rfl
        have e27 : vals 27 = .bool (true) := hv12 27 (by omega) 91 rfl
        have e28 : vals 28 = .bool (true) := hv12 28 (by omega) 92 rfl
        have e29 : vals 29 = .agg #[.slice (G) (ng) (cg), .slice (F) (nf) (df), .int .i64 (qr)] := hv12 29 (by omega) 93 rfl
        have e30 : vals 30 = .bool (polB LG WF qr) := hv12 30 (by omega) 94 rfl
        have e31 : vals 31 = .agg #[.slice (G) (ng) (cg), .slice (F) (nf) (df), .int .i64 (qr)] := hv12 31 (by omega) 95 rfl
        have e32 : vals 32 = .bool (polB LG WF qr) := hv12 32 (by omega) 96 rfl
        have e33 : vals 33 = .bool (true) := hv12 33 (by omega) 97 rfl
        have e34 : vals 34 = .bool (true) := hv12 34 (by omega) 98 rfl
        have e35 : vals 35 = .bool (true) := hv12 35 (by omega) 99 rfl
        have e36 : vals 36 = .bool (true) := hv12 36 (by omega) 100 rfl
        have e37 : vals 37 = .bool (true) := hv12 37 (by omega) 101 rfl
        simp only [putAll, Act.put, List.take_succ_cons, List.take_zero, List.drop_succ_cons, List.drop_zero, List.drop_nil, List.take_nil, Nat.reduceAdd, List.setIfInBounds_toArray, List.set_cons_succ, List.set_cons_zero, e0, e1, e2, e3, e4, e5, e6, e7, e8, e9, e10, e11, e12, e13, e18, e19, e20, e21, e22, e23, e24, e25, e26, e27, e28, e29, e30, e31, e32, e33, e34, e35, e36, e37]
        clear hv12 e0 e1 e2 e3 e4 e5 e6 e7 e8 e9 e10 e11 e12 e13 e18 e19 e20 e21 e22 e23 e24 e25 e26 e27 e28 e29 e30 e31 e32 e33 e34 e35 e36 e37
        go_wp2_with fail
        go_ret
        exact ⟨rfl, hEs.trans hE12⟩
end Go.Proofs.Ythggfbpdhkpkjaa
