/-
  CosignApart, walked (under way).
-/
import Derived.Test.YthggfbpdhkpkjaaLawApart11Q40
namespace Go.Proofs.Ythggfbpdhkpkjaa
set_option maxRecDepth 100000
open Go Go.RowKit
theorem RBB.apart_cos {w : World} {A : Option Addr} {n c : Nat} {Ls : List (List UInt8)} (h : RBB w A n c Ls) (hn : 3 ≤ n) {g : Nat} {t : TypeId} {x k : Int} {P Q : Option Addr} {np cp nq cq : Nat} (hB : Blk w g t (cosC x k P np cp Q nq cq)) : blk A ≠ some g := by
  refine h.apart3 hB (fun i a b c h1 h2 h3 => ?_) hn
  unfold cosC at h1 h2 h3
  rcases i with _ | _ | i
  · injection h1 with h1
    subst h1
    rintro ⟨h4, _⟩
    exact Bool.false_ne_true h4
  · injection h1 with h1
    subst h1
    rintro ⟨h4, _⟩
    exact Bool.false_ne_true h4
  · simp at h3
theorem RBB.set4 {w : World} {A : Option Addr} {n c : Nat} {L : List (List UInt8)} (h : RBB w A n c L) (hn : 3 ≤ n) {g : Nat} {t : TypeId} {x k : Int} {P Q : Option Addr} {np cp nq cq : Nat} (hB : Blk w g t (cosC x k P np cp Q nq cq))
    (x' k' : Int) (P1 Q1 : Option Addr) (np1 cp1 nq1 cq1 : Nat) : RBB ((((w.setCell ⟨g, 0, none⟩ (.int .i64 x')).setCell ⟨g, 1, none⟩ (.int .i64 k')).setCell ⟨g, 2, none⟩ (.slice P1 np1 cp1)).setCell ⟨g, 3, none⟩ (.slice Q1 nq1 cq1)) A n c L := by
  have b0 : Blk (w.setCell ⟨g, 0, none⟩ (.int .i64 x')) g t (cosC x' k P np cp Q nq cq) := hB.set 0 _
  have b1 : Blk _ g t (cosC x' k' P np cp Q nq cq) := b0.set 1 (.int .i64 k')
  have b2 : Blk _ g t (cosC x' k' P1 np1 cp1 Q nq cq) := b1.set 2 (.slice P1 np1 cp1)
  have h0 := h.away hB (cos_no _ _ _ _ _ _ _ _) (grown_set w ⟨g, 0, none⟩ (.int .i64 x')) (fun _ => h.apart_cos hn hB)
  have h1 := h0.away b0 (cos_no _ _ _ _ _ _ _ _) (grown_set _ ⟨g, 1, none⟩ (.int .i64 k')) (fun _ => h0.apart_cos hn b0)
  have h2 := h1.away b1 (cos_no _ _ _ _ _ _ _ _) (grown_set _ ⟨g, 2, none⟩ (.slice P1 np1 cp1)) (fun _ => h1.apart_cos hn b1)
  exact h2.away b2 (cos_no _ _ _ _ _ _ _ _) (grown_set _ ⟨g, 3, none⟩ (.slice Q1 nq1 cq1)) (fun _ => h2.apart_cos hn b2)
set_option maxHeartbeats 8000000 in
theorem apart_any (n s r : Int) (hn : -9223372036854775808 ≤ n ∧ n ≤ 9223372036854775807) (hs : -9223372036854775808 ≤ s ∧ s ≤ 9223372036854775807) (hr : -9223372036854775808 ≤ r ∧ r ≤ 9223372036854775807) (w : World) :
    Calls Try.prog 12 #[.int .i64 n, .int .i64 s, .int .i64 r] w fun e w' => e = .returned (.bool true) ∧ Ext w w' := by
  go_enter Try.func12, Try.ntmps12
  go_wp2_with fail
  refine (owners_any 2 (by omega) w).mono ?_
  rintro e w1 ⟨A, c, rfl, oA, hE1⟩
  obtain ⟨Ss, hSs⟩ : ∃ Ss, Ss = (List.range 2).map fun i => seedL ((i : Nat) : Int) := ⟨_, rfl⟩
  rw [← hSs] at oA
  have HSs := Lib.hid hSs
  clear hSs
  go_wp2_with fail
  refine (within_any s 0 256 w1 hs.1 hs.2 (by omega) (by omega) (by omega)).mono ?_
  rintro e w2 ⟨rfl, rfl⟩
  have hx := within_in s 0 256 (by omega)
  generalize within s 0 256 = x at *
  go_wp2_with fail
  refine (hash_any r _ hr.1 hr.2).mono ?_
  rintro e w3 ⟨B, d, rfl, oR, hE⟩
  have hc : rightC x (khash r) = true := rightC_of (by omega) (by omega) (khash_length r)
  generalize khash r = R at *
  have Hc := Lib.hid hc
  have rR := oR.rb
  have hEn := Ext.new w3 (.cells #[.int .i64 x, .slice B 32 d] 24)
  have hB8 := Blk.new w3 24 #[.int .i64 x, .slice B 32 d]
  replace hE := hE.trans hEn
  replace oA := oA.ext hE
  replace rR := rR.ext hEn
  have hEa := hE1.trans hE
  clear hEn hE hE1 oR hc
  go_wp2_with fail
  generalize w3.alloc (.cells #[.int .i64 x, .slice B 32 d] 24) = w4 at *
  generalize w3.heap.size = g8 at *
  refine (policy_any A 2 c w.heap.size 1 Ss (by omega) w4 oA).mono ?_
  rintro e w5 ⟨G, cg, Q2, dq, rfl, rG, rQ2, hE⟩
  have hEn := Ext.new w5 (.cells #[.slice G 32 cg, .slice Q2 2 dq, .int .i64 1] 77)
  have hB9 := Blk.new w5 77 #[.slice G 32 cg, .slice Q2 2 dq, .int .i64 1]
  replace hE := hE.trans hEn
  replace oA := oA.ext hE
  replace rR := rR.ext hE
  replace hB8 := hB8.ext hE
  replace rG := rG.ext hEn
  replace rQ2 := rQ2.ext hEn
  replace hEa := hEa.trans hE
  clear hEn hE
  go_wp2_with fail
  generalize w5.alloc (.cells #[.slice G 32 cg, .slice Q2 2 dq, .int .i64 1] 77) = w6 at *
  generalize w5.heap.size = g9 at *
  refine (within_any n 0 1 w6 hn.1 hn.2 (by omega) (by omega) (by omega)).mono ?_
  rintro e w7 ⟨rfl, rfl⟩
  obtain ⟨k, hk⟩ : ∃ k : Nat, within n 0 1 = (k : Int) := ⟨(within n 0 1).toNat, (Int.toNat_of_nonneg (within_in n 0 1 (by omega)).1).symm⟩
  have hk1 := (within_in n 0 1 (by omega)).2
  rw [hk] at hk1
  rw [hk]
  have hk2 : k < 2 := by omega
  clear hk hk1
  go_upto_region 5 with (fail)
  obtain ⟨w8, hw8⟩ : ∃ w8, w8 = w6 := ⟨_, rfl⟩
  obtain ⟨gA, gO, bO, BO, rfl, hcO0, oS⟩ := oA.cell (j := k) hk2
  have hcO : w6.cell? ((⟨gA, 0, none⟩ : Addr).add k) = some (.pointer (some ⟨gO, 0, none⟩)) := by rw [add_plain]; exact hcO0
  obtain ⟨Sd, hSd⟩ : ∃ Sd, Sd = lb Ss k := ⟨_, rfl⟩
  rw [← hSd] at oS
  have HSd := Lib.hid hSd
  have rO := oS.own
  have hcap := oA.room
  clear hSd oS hcO0 hw8
  refine par_ext (n := 10) (by kernel_rfl) [.is (.int .i64 ((k : Int))), .is (.slice ((some ⟨gA, 0, none⟩)) (2) (c)), .is (.int .i64 ((k : Int))), .is (.pointer (some ((⟨gA, 0, none⟩ : Addr).add (k)))), .is (.pointer (some ⟨gO, 0, none⟩)), .is (.agg #[.int .i64 (x), .slice (B) (32) (d)]), .rb (bodyC checkL x R), .ag [.val (.int .i64 ((2 : Int))), .bb (64) (sigP Sd (bodyC checkL x R) 2), .bb (4) (pathL Sd 2)], .ag [.val (.int .i64 ((k : Int))), .val (.int .i64 ((2 : Int))), .bb (64) (sigP Sd (bodyC checkL x R) 2), .bb (4) (pathL Sd 2)], .bk (w6.heap.size) 69 #[.int .i64 ((0 : Int)), .int .i64 ((0 : Int)), .slice (none) (0) (0), .slice (none) (0) (0)]] rfl ⟨?_, ?_, ?_, ?_, ?_, ?_, ?_, ?_, ?_, ?_, trivial⟩ ?_
  · refine stepE rfl fun sdn sa sw sE sd sk => ?_
    have h10 : sa.eval (.tmp 10) = .int .i64 ((k : Int)) := sk.old 10 rfl
    exact Runs.move rfl h10 ⟨Ext.refl _, rfl⟩
  · refine stepE rfl fun sdn sa sw sE sd sk => ?_
    have h7 : sa.eval (.tmp 7) = .slice ((some ⟨gA, 0, none⟩)) (2) (c) := sk.old 7 rfl
    exact Runs.move rfl h7 ⟨Ext.refl _, rfl⟩
  · refine stepE rfl fun sdn sa sw sE sd sk => ?_
    have h10 : sa.eval (.tmp 10) = .int .i64 ((k : Int)) := sk.old 10 rfl
    exact Runs.move rfl h10 ⟨Ext.refl _, rfl⟩
  · refine stepE rfl fun sdn sa sw sE sd sk => ?_
    have h23 : sa.eval (.tmp 23) = .slice ((some ⟨gA, 0, none⟩)) (2) (c) := sk.fact 1 23 rfl (sd 1 rfl)
    have h24 : sa.eval (.tmp 24) = .int .i64 ((k : Int)) := sk.fact 2 24 rfl (sd 2 rfl)
    exact Runs.idx rfl h23 h24 (run_idx_sl1 Try.underlying65 infO_eq infO_size (k) (by omega) (by omega)) ⟨Ext.refl _, rfl⟩
  · refine stepE rfl fun sdn sa sw sE sd sk => ?_
    have h25 : sa.eval (.tmp 25) = .pointer (some ((⟨gA, 0, none⟩ : Addr).add (k))) := sk.fact 3 25 rfl (sd 3 rfl)
    exact Runs.load rfl h25 (run_load1 Try.underlying75 rfl (sE.cell hcO)) ⟨Ext.refl _, rfl⟩
  · refine stepE rfl fun sdn sa sw sE sd sk => ?_
    have h8 : sa.eval (.tmp 8) = .pointer (some ⟨g8, 0, none⟩) := sk.old 8 rfl
    exact Runs.load rfl h8 (load_part (hB8.ext sE) 0 (vs := [.int .i64 (x), .slice (B) (32) (d)]) rfl Try.underlying24 rfl (by kernel_rfl)) ⟨Ext.refl _, rfl⟩
  · refine stepE rfl fun sdn sa sw sE sd sk => ?_
    have h27 : sa.eval (.tmp 27) = .agg #[.int .i64 (x), .slice (B) (32) (d)] := sk.fact 5 27 rfl (sd 5 rfl)
    refine Runs.call (f := 55) (vs := [.agg #[.int .i64 (x), .slice (B) (32) (d)]]) rfl rfl rfl (by simp only [List.map_toArray, List.map_cons, List.map_nil, h27] <;> rfl) (ent55 _ _) ((rbody_any _ _ _ _ _ sw (rR.ext sE)).mono ?_); rintro e w' ⟨A', n', c', rfl, own, hx⟩; exact ⟨_, rfl, hx, A', n', c', rfl, own⟩
  · refine stepE rfl fun sdn sa sw sE sd sk => ?_
    have h26 : sa.eval (.tmp 26) = .pointer (some ⟨gO, 0, none⟩) := sk.fact 4 26 rfl (sd 4 rfl)
    obtain ⟨A28, n28, c28, h28, r28⟩ := sk.fact 6 28 rfl (sd 6 rfl)
    refine Runs.call (f := 54) (vs := [.pointer (some ⟨gO, 0, none⟩), .int .i64 ((2 : Int)), .slice (A28) (n28) (c28)]) rfl rfl rfl (by simp only [List.map_toArray, List.map_cons, List.map_nil, h26, h28] <;> rfl) (ent54 _ _) ((rsign_len _ _ _ _ _ 2 _ _ sw (rO.ext sE) r28 lenW (by omega)).mono ?_); rintro e w' ⟨P, d, Q, d', rfl, h1, h2, hx⟩; exact ⟨_, rfl, hx, P, d, h1, Q, d', h2, rfl⟩
  · refine stepE rfl fun sdn sa sw sE sd sk => ?_
    have h22 : sa.eval (.tmp 22) = .int .i64 ((k : Int)) := sk.fact 0 22 rfl (sd 0 rfl)
    obtain ⟨A29x0, c29x0, r29x0, A29x1, c29x1, r29x1, h29⟩ := sk.fact 7 29 rfl (sd 7 rfl)
    replace h29 : sa.eval (.tmp 29) = .agg #[.int .i64 ((2 : Int)), .slice (A29x0) (64) (c29x0), .slice (A29x1) (4) (c29x1)] := h29
    refine Runs.of_run (r := .agg #[.int .i64 ((k : Int)), .int .i64 ((2 : Int)), .slice (A29x0) (64) (c29x0), .slice (A29x1) (4) (c29x1)]) (w' := sw) ?_ ⟨Ext.refl _, ⟨_, _, r29x0, _, _, r29x1, rfl⟩⟩
    unfold execOp
    simp only [List.map_toArray, List.map_cons, List.map_nil, h22, h29]
    go_simp
  · refine stepE rfl fun sdn sa sw sE sd sk => ?_
    refine Runs.of_run (r := .pointer (some ⟨sw.heap.size, 0, none⟩)) (w' := sw.alloc (.cells #[.int .i64 ((0 : Int)), .int .i64 ((0 : Int)), .slice (none) (0) (0), .slice (none) (0) (0)] 69)) ?_ ⟨Ext.new _ _, _, rfl, Blk.new _ _ _, sE.size⟩
    unfold execOp
    go_simp
  intro vals W5 hE5 hv5
  have e0 : vals 0 = .int .i64 ((k : Int)) := hv5 0 (by omega) 22 rfl
  have e1 : vals 1 = .slice ((some ⟨gA, 0, none⟩)) (2) (c) := hv5 1 (by omega) 23 rfl
  have e2 : vals 2 = .int .i64 ((k : Int)) := hv5 2 (by omega) 24 rfl
  have e3 : vals 3 = .pointer (some ((⟨gA, 0, none⟩ : Addr).add (k))) := hv5 3 (by omega) 25 rfl
  have e4 : vals 4 = .pointer (some ⟨gO, 0, none⟩) := hv5 4 (by omega) 26 rfl
  have e5 : vals 5 = .agg #[.int .i64 (x), .slice (B) (32) (d)] := hv5 5 (by omega) 27 rfl
  obtain ⟨A28, n28, c28, e6, r28⟩ := hv5 6 (by omega) 28 rfl
  obtain ⟨A29x0, c29x0, r29x0, A29x1, c29x1, r29x1, e7⟩ := hv5 7 (by omega) 29 rfl
  replace e7 : vals 7 = .agg #[.int .i64 ((2 : Int)), .slice (A29x0) (64) (c29x0), .slice (A29x1) (4) (c29x1)] := e7
  obtain ⟨A30x0, c30x0, r30x0, A30x1, c30x1, r30x1, e8⟩ := hv5 8 (by omega) 30 rfl
  replace e8 : vals 8 = .agg #[.int .i64 ((k : Int)), .int .i64 ((2 : Int)), .slice (A30x0) (64) (c30x0), .slice (A30x1) (4) (c30x1)] := e8
  obtain ⟨g11, e9, hb11, gb11⟩ := hv5 9 (by omega) 11 rfl
  simp only [putAll, Act.put, List.take_succ_cons, List.take_zero, List.drop_succ_cons, List.drop_zero, List.drop_nil, List.take_nil, Nat.reduceAdd, List.setIfInBounds_toArray, List.set_cons_succ, List.set_cons_zero, e0, e1, e2, e3, e4, e5, e6, e7, e8, e9]
  clear hv5 e0 e1 e2 e3 e4 e5 e6 e7 e8 e9
  have fhb110 := hb11.frozen 0
  have fhb111 := hb11.frozen 1
  have fhb112 := hb11.frozen 2
  have fhb113 := hb11.frozen 3
  have xhb110 := hb11.cell (i := 0) rfl
  have xhb111 := hb11.cell (i := 1) rfl
  have xhb112 := hb11.cell (i := 2) rfl
  have xhb113 := hb11.cell (i := 3) rfl
  go_upto_region 6 with (fail)
  have rP := r30x0.set4 (by omega) hb11 (k : Int) 2 A30x0 A30x1 64 c30x0 4 c30x1
  have rQ := r30x1.set4 (by omega) hb11 (k : Int) 2 A30x0 A30x1 64 c30x0 4 c30x1
  have hB11 := setall4 hb11 (.int .i64 (k : Int)) (.int .i64 2) (.slice A30x0 64 c30x0) (.slice A30x1 4 c30x1)
  have hEs := ext4 hE5 gb11 (.int .i64 (k : Int)) (.int .i64 2) (.slice A30x0 64 c30x0) (.slice A30x1 4 c30x1)
  generalize (((W5.setCell ⟨g11, 0, none⟩ (.int .i64 (k : Int))).setCell ⟨g11, 1, none⟩ (.int .i64 2)).setCell ⟨g11, 2, none⟩ (.slice A30x0 64 c30x0)).setCell ⟨g11, 3, none⟩ (.slice A30x1 4 c30x1) = w9 at *
  replace rG := rG.ext hEs
  replace rQ2 := rQ2.ext hEs
  replace rR := rR.ext hEs
  replace hB8 := hB8.ext hEs
  replace hB9 := hB9.ext hEs
  replace hEa := hEa.trans hEs
  generalize (List.range 2).map (fun j => ownP (lb Ss j)) = WL at *
  generalize sigP Sd (bodyC checkL x R) 2 = PS at *
  generalize pathL Sd 2 = QS at *
  have hne : ¬ (bodyC cosignL x R = bodyC checkL x R) := by
    intro h
    have := congrArg List.length h
    simp [bodyC, cosignL, checkL, Hc.out] at this
  clear hE5 hEs r28 r29x0 r29x1 r30x0 r30x1 hb11 oA hcO rO
  refine par_ext (n := 28) (by kernel_rfl) [.is (.agg #[.int .i64 (x), .slice (B) (32) (d)]), .rk (53) (bodyC cosignL x R), .is (.string (str (bodyC cosignL x R))), .is (.agg #[.int .i64 (x), .slice (B) (32) (d)]), .rb (bodyC checkL x R), .is (.string (str (bodyC checkL x R))), .is (.bool (true)), .is (.bool (true)), .is (.agg #[.slice (G) (32) (cg), .slice (Q2) (2) (dq), .int .i64 (1)]), .is (.agg #[.int .i64 (x), .slice (B) (32) (d)]), .is (.agg #[.int .i64 ((k : Int)), .int .i64 (2), .slice (A30x0) (64) (c30x0), .slice (A30x1) (4) (c30x1)]), .is (.bool (cosB (khash 9) WL 1 x R (k : Int) 2 PS QS)), .is (.agg #[.slice (G) (32) (cg), .slice (Q2) (2) (dq), .int .i64 (1)]), .is (.agg #[.int .i64 (x), .slice (B) (32) (d)]), .is (.agg #[.int .i64 ((k : Int)), .int .i64 (2), .slice (A30x0) (64) (c30x0), .slice (A30x1) (4) (c30x1)]), .is (.bool (cosB (khash 9) WL 1 x R (k : Int) 2 PS QS)), .is (.bool (true)), .is (.bool (true)), .is (.bool (true)), .is (.agg #[.int .i64 (x), .slice (B) (32) (d)]), .rk (53) (bodyC cosignL x R), .is (.int .i64 ((53 : Nat))), .is (.bool (true)), .is (.bool (true)), .is (.bool (true)), .is (.bool (true)), .is (.bool (true)), .is (.bool (true))] rfl ⟨?_, ?_, ?_, ?_, ?_, ?_, ?_, ?_, ?_, ?_, ?_, ?_, ?_, ?_, ?_, ?_, ?_, ?_, ?_, ?_, ?_, ?_, ?_, ?_, ?_, ?_, ?_, ?_, trivial⟩ ?_
  · refine stepE rfl fun sdn sa sw sE sd sk => ?_
    have h8 : sa.eval (.tmp 8) = .pointer (some ⟨g8, 0, none⟩) := sk.old 8 rfl
    exact Runs.load rfl h8 (load_part (hB8.ext sE) 0 (vs := [.int .i64 (x), .slice (B) (32) (d)]) rfl Try.underlying24 rfl (by kernel_rfl)) ⟨Ext.refl _, rfl⟩
  · refine stepE rfl fun sdn sa sw sE sd sk => ?_
    have h31 : sa.eval (.tmp 31) = .agg #[.int .i64 (x), .slice (B) (32) (d)] := sk.fact 0 31 rfl (sd 0 rfl)
    refine Runs.call (f := 45) (vs := [.agg #[.int .i64 (x), .slice (B) (32) (d)]]) rfl rfl rfl (by simp only [List.map_toArray, List.map_cons, List.map_nil, h31] <;> rfl) (ent45 _ _) ((cosbody_53 _ _ _ _ _ sw (rR.ext sE) (Hc.out)).mono ?_); rintro e w' ⟨A', c', rfl, own, hx⟩; exact ⟨_, rfl, hx, A', c', rfl, own⟩
  · refine stepE rfl fun sdn sa sw sE sd sk => ?_
    obtain ⟨A32, c32, h32, r32⟩ := sk.fact 1 32 rfl (sd 1 rfl)
    exact Runs.conv rfl h32 (run_str r32) ⟨Ext.refl _, rfl⟩
  · refine stepE rfl fun sdn sa sw sE sd sk => ?_
    have h8 : sa.eval (.tmp 8) = .pointer (some ⟨g8, 0, none⟩) := sk.old 8 rfl
    exact Runs.load rfl h8 (load_part (hB8.ext sE) 0 (vs := [.int .i64 (x), .slice (B) (32) (d)]) rfl Try.underlying24 rfl (by kernel_rfl)) ⟨Ext.refl _, rfl⟩
  · refine stepE rfl fun sdn sa sw sE sd sk => ?_
    have h34 : sa.eval (.tmp 34) = .agg #[.int .i64 (x), .slice (B) (32) (d)] := sk.fact 3 34 rfl (sd 3 rfl)
    refine Runs.call (f := 55) (vs := [.agg #[.int .i64 (x), .slice (B) (32) (d)]]) rfl rfl rfl (by simp only [List.map_toArray, List.map_cons, List.map_nil, h34] <;> rfl) (ent55 _ _) ((rbody_any _ _ _ _ _ sw (rR.ext sE)).mono ?_); rintro e w' ⟨A', n', c', rfl, own, hx⟩; exact ⟨_, rfl, hx, A', n', c', rfl, own⟩
  · refine stepE rfl fun sdn sa sw sE sd sk => ?_
    obtain ⟨A35, n35, c35, h35, r35⟩ := sk.fact 4 35 rfl (sd 4 rfl)
    exact Runs.conv rfl h35 (run_str r35) ⟨Ext.refl _, rfl⟩
  · refine stepE rfl fun sdn sa sw sE sd sk => ?_
    have h33 : sa.eval (.tmp 33) = .string (str (bodyC cosignL x R)) := sk.fact 2 33 rfl (sd 2 rfl)
    have h36 : sa.eval (.tmp 36) = .string (str (bodyC checkL x R)) := sk.fact 5 36 rfl (sd 5 rfl)
    exact Runs.bin rfl h33 h36 (by rfl) (bin_nes _ _ _) ⟨Ext.refl _, congrArg Value.bool (by simp [hne])⟩
  · refine stepE rfl fun sdn sa sw sE sd sk => ?_
    have h37 : sa.eval (.tmp 37) = .bool (true) := sk.fact 6 37 rfl (sd 6 rfl)
    exact Runs.move rfl h37 ⟨Ext.refl _, rfl⟩
  · refine stepY (j := 7) (d := 38) (b := true) rfl rfl rfl (fun v w h => h) fun sdn sa sw sE sd sk => ?_
    have h9 : sa.eval (.tmp 9) = .pointer (some ⟨g9, 0, none⟩) := sk.old 9 rfl
    exact Runs.load rfl h9 (load_part (hB9.ext sE) 0 (vs := [.slice (G) (32) (cg), .slice (Q2) (2) (dq), .int .i64 (1)]) rfl Try.underlying77 rfl (by kernel_rfl)) ⟨Ext.refl _, rfl⟩
  · refine stepY (j := 7) (d := 38) (b := true) rfl rfl rfl (fun v w h => h) fun sdn sa sw sE sd sk => ?_
    have h8 : sa.eval (.tmp 8) = .pointer (some ⟨g8, 0, none⟩) := sk.old 8 rfl
    exact Runs.load rfl h8 (load_part (hB8.ext sE) 0 (vs := [.int .i64 (x), .slice (B) (32) (d)]) rfl Try.underlying24 rfl (by kernel_rfl)) ⟨Ext.refl _, rfl⟩
  · refine stepY (j := 7) (d := 38) (b := true) rfl rfl rfl (fun v w h => h) fun sdn sa sw sE sd sk => ?_
    have h11 : sa.eval (.tmp 11) = .pointer (some ⟨g11, 0, none⟩) := sk.old 11 rfl
    exact Runs.load rfl h11 (load_part (hB11.ext sE) 0 (vs := [.int .i64 ((k : Int)), .int .i64 (2), .slice (A30x0) (64) (c30x0), .slice (A30x1) (4) (c30x1)]) rfl Try.underlying69 rfl (by kernel_rfl)) ⟨Ext.refl _, rfl⟩
  · refine stepY (j := 7) (d := 38) (b := true) rfl rfl rfl (fun v w h => h) fun sdn sa sw sE sd sk => ?_
    have h39 : sa.eval (.tmp 39) = .agg #[.slice (G) (32) (cg), .slice (Q2) (2) (dq), .int .i64 (1)] := sk.fact 8 39 rfl (sd 8 rfl)
    have h40 : sa.eval (.tmp 40) = .agg #[.int .i64 (x), .slice (B) (32) (d)] := sk.fact 9 40 rfl (sd 9 rfl)
    have h41 : sa.eval (.tmp 41) = .agg #[.int .i64 ((k : Int)), .int .i64 (2), .slice (A30x0) (64) (c30x0), .slice (A30x1) (4) (c30x1)] := sk.fact 10 41 rfl (sd 10 rfl)
    refine Runs.call (f := 49) (vs := [.agg #[.slice (G) (32) (cg), .slice (Q2) (2) (dq), .int .i64 (1)], .agg #[.int .i64 (x), .slice (B) (32) (d)], .agg #[.int .i64 ((k : Int)), .int .i64 (2), .slice (A30x0) (64) (c30x0), .slice (A30x1) (4) (c30x1)]]) rfl rfl rfl (by simp only [List.map_toArray, List.map_cons, List.map_nil, h39, h40, h41] <;> rfl) (ent49 _ _) ((cosverify_any _ _ _ _ _ _ _ _ _ _ _ _ _ _ _ _ _ _ _ _ _ _ _ _ sw (rG.ext sE) (rQ2.ext sE) (rR.ext sE) (rP.ext sE) (rQ.ext sE)).mono ?_); rintro e w' ⟨rfl, hx⟩; exact ⟨_, rfl, hx, rfl⟩
  · refine stepY (j := 7) (d := 38) (b := true) rfl rfl rfl (fun v w h => h) fun sdn sa sw sE sd sk => ?_
    have h9 : sa.eval (.tmp 9) = .pointer (some ⟨g9, 0, none⟩) := sk.old 9 rfl
    exact Runs.load rfl h9 (load_part (hB9.ext sE) 0 (vs := [.slice (G) (32) (cg), .slice (Q2) (2) (dq), .int .i64 (1)]) rfl Try.underlying77 rfl (by kernel_rfl)) ⟨Ext.refl _, rfl⟩
  · refine stepY (j := 7) (d := 38) (b := true) rfl rfl rfl (fun v w h => h) fun sdn sa sw sE sd sk => ?_
    have h8 : sa.eval (.tmp 8) = .pointer (some ⟨g8, 0, none⟩) := sk.old 8 rfl
    exact Runs.load rfl h8 (load_part (hB8.ext sE) 0 (vs := [.int .i64 (x), .slice (B) (32) (d)]) rfl Try.underlying24 rfl (by kernel_rfl)) ⟨Ext.refl _, rfl⟩
  · refine stepY (j := 7) (d := 38) (b := true) rfl rfl rfl (fun v w h => h) fun sdn sa sw sE sd sk => ?_
    have h11 : sa.eval (.tmp 11) = .pointer (some ⟨g11, 0, none⟩) := sk.old 11 rfl
    exact Runs.load rfl h11 (load_part (hB11.ext sE) 0 (vs := [.int .i64 ((k : Int)), .int .i64 (2), .slice (A30x0) (64) (c30x0), .slice (A30x1) (4) (c30x1)]) rfl Try.underlying69 rfl (by kernel_rfl)) ⟨Ext.refl _, rfl⟩
  · refine stepY (j := 7) (d := 38) (b := true) rfl rfl rfl (fun v w h => h) fun sdn sa sw sE sd sk => ?_
    have h43 : sa.eval (.tmp 43) = .agg #[.slice (G) (32) (cg), .slice (Q2) (2) (dq), .int .i64 (1)] := sk.fact 12 43 rfl (sd 12 rfl)
    have h44 : sa.eval (.tmp 44) = .agg #[.int .i64 (x), .slice (B) (32) (d)] := sk.fact 13 44 rfl (sd 13 rfl)
    have h45 : sa.eval (.tmp 45) = .agg #[.int .i64 ((k : Int)), .int .i64 (2), .slice (A30x0) (64) (c30x0), .slice (A30x1) (4) (c30x1)] := sk.fact 14 45 rfl (sd 14 rfl)
    refine Runs.call (f := 50) (vs := [.agg #[.slice (G) (32) (cg), .slice (Q2) (2) (dq), .int .i64 (1)], .agg #[.int .i64 (x), .slice (B) (32) (d)], .agg #[.int .i64 ((k : Int)), .int .i64 (2), .slice (A30x0) (64) (c30x0), .slice (A30x1) (4) (c30x1)]]) rfl rfl rfl (by simp only [List.map_toArray, List.map_cons, List.map_nil, h43, h44, h45] <;> rfl) (ent50 _ _) ((rcosigned_any _ _ _ _ _ _ _ _ _ _ _ _ _ _ _ _ _ _ _ _ _ _ _ _ sw (rG.ext sE) (rQ2.ext sE) (rR.ext sE) (rP.ext sE) (rQ.ext sE)).mono ?_); rintro e w' ⟨rfl, hx⟩; exact ⟨_, rfl, hx, rfl⟩
  · refine stepY (j := 7) (d := 38) (b := true) rfl rfl rfl (fun v w h => h) fun sdn sa sw sE sd sk => ?_
    have h42 : sa.eval (.tmp 42) = .bool (cosB (khash 9) WL 1 x R (k : Int) 2 PS QS) := sk.fact 11 42 rfl (sd 11 rfl)
    have h46 : sa.eval (.tmp 46) = .bool (cosB (khash 9) WL 1 x R (k : Int) 2 PS QS) := sk.fact 15 46 rfl (sd 15 rfl)
    exact Runs.bin rfl h42 h46 (by rfl) (bin_eqb _ _) ⟨Ext.refl _, congrArg Value.bool (by simp)⟩
  · refine stepE rfl fun sdn sa sw sE sd sk => ?_
    have h38 : sa.eval (.tmp 38) = .bool (true) := sk.fact 7 38 rfl (sd 7 rfl)
    have h47 : sa.eval (.tmp 47) = .bool (true) := sk.fact 16 47 rfl (sd 16 rfl)
    exact Runs.pick rfl h38 ⟨Ext.refl _, by first | exact h47 | simpa using h47⟩
  · refine stepE rfl fun sdn sa sw sE sd sk => ?_
    have h48 : sa.eval (.tmp 48) = .bool (true) := sk.fact 17 48 rfl (sd 17 rfl)
    exact Runs.move rfl h48 ⟨Ext.refl _, rfl⟩
  · refine stepY (j := 18) (d := 49) (b := true) rfl rfl rfl (fun v w h => h) fun sdn sa sw sE sd sk => ?_
    have h8 : sa.eval (.tmp 8) = .pointer (some ⟨g8, 0, none⟩) := sk.old 8 rfl
    exact Runs.load rfl h8 (load_part (hB8.ext sE) 0 (vs := [.int .i64 (x), .slice (B) (32) (d)]) rfl Try.underlying24 rfl (by kernel_rfl)) ⟨Ext.refl _, rfl⟩
  · refine stepY (j := 18) (d := 49) (b := true) rfl rfl rfl (fun v w h => h) fun sdn sa sw sE sd sk => ?_
    have h50 : sa.eval (.tmp 50) = .agg #[.int .i64 (x), .slice (B) (32) (d)] := sk.fact 19 50 rfl (sd 19 rfl)
    refine Runs.call (f := 45) (vs := [.agg #[.int .i64 (x), .slice (B) (32) (d)]]) rfl rfl rfl (by simp only [List.map_toArray, List.map_cons, List.map_nil, h50] <;> rfl) (ent45 _ _) ((cosbody_53 _ _ _ _ _ sw (rR.ext sE) (Hc.out)).mono ?_); rintro e w' ⟨A', c', rfl, own, hx⟩; exact ⟨_, rfl, hx, A', c', rfl, own⟩
  · refine stepY (j := 18) (d := 49) (b := true) rfl rfl rfl (fun v w h => h) fun sdn sa sw sE sd sk => ?_
    obtain ⟨A51, c51, h51, r51⟩ := sk.fact 20 51 rfl (sd 20 rfl)
    exact Runs.len Try.underlying22 rfl h51 ⟨Ext.refl _, rfl⟩
  · refine stepY (j := 18) (d := 49) (b := true) rfl rfl rfl (fun v w h => h) fun sdn sa sw sE sd sk => ?_
    have h52 : sa.eval (.tmp 52) = .int .i64 ((53 : Nat)) := sk.fact 21 52 rfl (sd 21 rfl)
    exact Runs.bin rfl h52 rfl (by rfl) (bin_eql _ _ _ _) ⟨Ext.refl _, congrArg Value.bool (by decide)⟩
  · refine stepE rfl fun sdn sa sw sE sd sk => ?_
    have h49 : sa.eval (.tmp 49) = .bool (true) := sk.fact 18 49 rfl (sd 18 rfl)
    have h53 : sa.eval (.tmp 53) = .bool (true) := sk.fact 22 53 rfl (sd 22 rfl)
    exact Runs.pick rfl h49 ⟨Ext.refl _, by first | exact h53 | simpa using h53⟩
  · refine stepE rfl fun sdn sa sw sE sd sk => ?_
    have h54 : sa.eval (.tmp 54) = .bool (true) := sk.fact 23 54 rfl (sd 23 rfl)
    exact Runs.move rfl h54 ⟨Ext.refl _, rfl⟩
  · refine stepY (j := 24) (d := 55) (b := true) rfl rfl rfl (fun v w h => h) fun sdn sa sw sE sd sk => ?_
    refine Runs.call (f := 47) (vs := []) rfl rfl rfl (by simp only [List.map_toArray, List.map_cons, List.map_nil] <;> rfl) (ent47 _ _) ((known11_any sw).mono ?_); rintro e w' ⟨rfl, hx⟩; exact ⟨_, rfl, hx, rfl⟩
  · refine stepE rfl fun sdn sa sw sE sd sk => ?_
    have h55 : sa.eval (.tmp 55) = .bool (true) := sk.fact 24 55 rfl (sd 24 rfl)
    have h56 : sa.eval (.tmp 56) = .bool (true) := sk.fact 25 56 rfl (sd 25 rfl)
    exact Runs.pick rfl h55 ⟨Ext.refl _, by first | exact h56 | simpa using h56⟩
  · refine stepE rfl fun sdn sa sw sE sd sk => ?_
    have h57 : sa.eval (.tmp 57) = .bool (true) := sk.fact 26 57 rfl (sd 26 rfl)
    exact Runs.assign rfl h57 ⟨Ext.refl _, rfl⟩
  intro vals W6 hE6 hv6
  have e0 : vals 0 = .agg #[.int .i64 (x), .slice (B) (32) (d)] := hv6 0 (by omega) 31 rfl
  obtain ⟨A32, c32, e1, r32⟩ := hv6 1 (by omega) 32 rfl
  have e2 : vals 2 = .string (str (bodyC cosignL x R)) := hv6 2 (by omega) 33 rfl
  have e3 : vals 3 = .agg #[.int .i64 (x), .slice (B) (32) (d)] := hv6 3 (by omega) 34 rfl
  obtain ⟨A35, n35, c35, e4, r35⟩ := hv6 4 (by omega) 35 rfl
  have e5 : vals 5 = .string (str (bodyC checkL x R)) := hv6 5 (by omega) 36 rfl
  have e6 : vals 6 = .bool (true) := hv6 6 (by omega) 37 rfl
  have e7 : vals 7 = .bool (true) := hv6 7 (by omega) 38 rfl
  have e8 : vals 8 = .agg #[.slice (G) (32) (cg), .slice (Q2) (2) (dq), .int .i64 (1)] := hv6 8 (by omega) 39 rfl
  have e9 : vals 9 = .agg #[.int .i64 (x), .slice (B) (32) (d)] := hv6 9 (by omega) 40 rfl
  have e10 : vals 10 = .agg #[.int .i64 ((k : Int)), .int .i64 (2), .slice (A30x0) (64) (c30x0), .slice (A30x1) (4) (c30x1)] := hv6 10 (by omega) 41 rfl
  have e11 : vals 11 = .bool (cosB (khash 9) WL 1 x R (k : Int) 2 PS QS) := hv6 11 (by omega) 42 rfl
  have e12 : vals 12 = .agg #[.slice (G) (32) (cg), .slice (Q2) (2) (dq), .int .i64 (1)] := hv6 12 (by omega) 43 rfl
  have e13 : vals 13 = .agg #[.int .i64 (x), .slice (B) (32) (d)] := hv6 13 (by omega) 44 rfl
  have e14 : vals 14 = .agg #[.int .i64 ((k : Int)), .int .i64 (2), .slice (A30x0) (64) (c30x0), .slice (A30x1) (4) (c30x1)] := hv6 14 (by omega) 45 rfl
  have e15 : vals 15 = .bool (cosB (khash 9) WL 1 x R (k : Int) 2 PS QS) := hv6 15 (by omega) 46 rfl
  have e16 : vals 16 = .bool (true) := hv6 16 (by omega) 47 rfl
  have e17 : vals 17 = .bool (true) := hv6 17 (by omega) 48 rfl
  have e18 : vals 18 = .bool (true) := hv6 18 (by omega) 49 rfl
  have e19 : vals 19 = .agg #[.int .i64 (x), .slice (B) (32) (d)] := hv6 19 (by omega) 50 rfl
  obtain ⟨A51, c51, e20, r51⟩ := hv6 20 (by omega) 51 rfl
  have e21 : vals 21 = .int .i64 ((53 : Nat)) := hv6 21 (by omega) 52 rfl
  have e22 : vals 22 = .bool (true) := hv6 22 (by omega) 53 rfl
  have e23 : vals 23 = .bool (true) := hv6 23 (by omega) 54 rfl
  have e24 : vals 24 = .bool (true) := hv6 24 (by omega) 55 rfl
  have e25 : vals 25 = .bool (true) := hv6 25 (by omega) 56 rfl
  have e26 : vals 26 = .bool (true) := hv6 26 (by omega) 57 rfl
  have e27 : vals 27 = .bool (true) := hv6 27 (by omega) 6 rfl
  simp only [putAll, Act.put, List.take_succ_cons, List.take_zero, List.drop_succ_cons, List.drop_zero, List.drop_nil, List.take_nil, Nat.reduceAdd, List.setIfInBounds_toArray, List.set_cons_succ, List.set_cons_zero, e0, e1, e2, e3, e4, e5, e6, e7, e8, e9, e10, e11, e12, e13, e14, e15, e16, e17, e18, e19, e20, e21, e22, e23, e24, e25, e26, e27]
  clear hv6 e0 e1 e2 e3 e4 e5 e6 e7 e8 e9 e10 e11 e12 e13 e14 e15 e16 e17 e18 e19 e20 e21 e22 e23 e24 e25 e26 e27
  go_wp2_with fail
  go_ret
  exact ⟨rfl, hEa.trans hE6⟩
end Go.Proofs.Ythggfbpdhkpkjaa
