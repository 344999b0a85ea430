/-
  CosignNumbers, walked (under way).
-/
import Derived.Test.YthggfbpdhkpkjaaLawNumbers11Q38
import Derived.Test.YthggfbpdhkpkjaaLawNumbers11Q19
namespace Go.Proofs.Ythggfbpdhkpkjaa
set_option maxRecDepth 100000
open Go Go.RowKit
theorem OwO.take {w : World} {base n c : Nat} {A : Option Addr} {Ss : List (List UInt8)} (h : OwO w base A n c Ss) {k : Nat} (hk : k ≤ n) (h0 : 0 < k) : OwO w base A k c (Ss.take k) := by
  obtain ⟨vs, h1, h2, h3⟩ := h
  have hvl : vs.length = n := by have := h1.1; omega
  refine ⟨vs.take k, ⟨by rw [List.length_take]; omega, ?_⟩, by rw [List.length_take]; omega, fun j hj => ?_⟩
  · rcases h1.2 with ⟨hv, hn⟩ | ⟨g, cap, cur, hv, hb, hg, hnc, hcm, hcs, ht⟩
    · omega
    · injection hv with e1 e2 e3
      subst e1 e3
      refine .inr ⟨g, c, cur, rfl, hb, hg, by omega, hcm, hcs, ?_⟩
      rw [← ht, List.take_take, Nat.mul_one, Nat.mul_one, Nat.min_eq_left hk]
  · obtain ⟨g, b, B, h4, h5, h6⟩ := h3 j (by omega)
    refine ⟨g, b, B, by rw [List.getElem?_take_of_lt hj]; exact h4, ?_, h6⟩
    have e : lb (Ss.take k) j = lb Ss j := by unfold lb; simp [hj]
    rw [e]
    exact h5
theorem OwO.cap_ {w : World} {base n c : Nat} {A : Option Addr} {Ss : List (List UInt8)} (h : OwO w base A n c Ss) : c ≤ maxLen := by
  obtain ⟨vs, h1, _⟩ := h
  rcases h1.2 with ⟨hv, hn⟩ | ⟨g, cap, cur, hv, hb, hg, hnc, hcm, hcs, ht⟩
  · injection hv with e1 e2 e3
    rw [e3]
    exact Nat.zero_le _
  · injection hv with e1 e2 e3
    rw [e3]
    exact hcm
def NumI (w3 : World) (i : Value) (wr : World) : Prop := ∃ k : Nat, k ≤ 5 ∧ i = .int .i64 k ∧ Ext w3 wr
def NumJ (wo : World) (k : Nat) (R : List UInt8) (i l : Value) (wr : World) : Prop :=
  ∃ (j cO : Nat) (O : Option Addr) (vs : List CV), j ≤ k ∧ i = .int .i64 j ∧ l = .slice O j cO ∧ OCS wr wo.heap.size O j cO vs (nsigs R j) ∧ Ext wo wr
def NumQ (wq : World) (i : Value) (wr : World) : Prop := ∃ z : Int, -1 ≤ z ∧ z ≤ 6 ∧ i = .int .i64 z ∧ Ext wq wr
set_option maxHeartbeats 16000000 in
theorem numbers11_any (w : World) : Calls Try.prog 8 #[] w fun e w' => e = .returned (.bool true) ∧ Ext w w' := by
  go_enter Try.func8, Try.ntmps8
  go_wp2_with fail
  refine (owners_any 4 (by omega) w).mono ?_
  rintro e w1 ⟨A, c, rfl, oA, hEa⟩
  obtain ⟨Ss, hSs⟩ : ∃ Ss, Ss = (List.range 4).map fun i => seedL ((i : Nat) : Int) := ⟨_, rfl⟩
  rw [← hSs] at oA
  have HSs := Lib.hid hSs
  clear hSs
  go_wp2_with fail
  refine (hash_any 3 w1 (by omega) (by omega)).mono ?_
  rintro e w2 ⟨B, d, rfl, oR, hE⟩
  obtain ⟨R, hR⟩ : ∃ R, R = khash 3 := ⟨_, rfl⟩
  rw [← hR] at oR
  have hc : rightC 2 R = true := by
    rw [hR]
    exact rightC_of (by omega) (by omega) (khash_length 3)
  have Hc := Lib.hid hc
  clear hR hc
  have rR := oR.rb
  have hEn := Ext.new w2 (.cells #[.int .i64 2, .slice B 32 d] 24)
  have hB2 := Blk.new w2 24 #[.int .i64 2, .slice B 32 d]
  replace hE := hE.trans hEn
  replace oA := oA.ext hE
  replace rR := rR.ext hEn
  replace hEa := hEa.trans hE
  clear hEn hE oR
  go_wp2_with fail
  generalize w2.alloc (.cells #[.int .i64 2, .slice B 32 d] 24) = w3 at *
  generalize w2.heap.size = g2 at *
  have hK : (List.range 4).map (fun j => ownP (lb Ss j)) = keys 4 := by rw [HSs.out]; rfl
  have HK := Lib.hid hK
  clear hK
  go_loopw [3] (fun i wr => NumI w3 i wr) (fun i _ => 5 - (intOf i).toNat)
  case atStart => exact ⟨0, by omega, rfl, Ext.refl _⟩
  case round =>
    obtain ⟨k, hk, rfl, hEr⟩ := hrel
    by_cases hlt : k < 5
    · have hk4 : (k : Int) ≤ 4 := by omega
      have hkn : k ≤ 4 := by omega
      obtain ⟨wo, hwo⟩ : ∃ wo, wo = wr := ⟨_, rfl⟩
      subst hwo
      clear hlt hk
      go_wp2_with fail
      go_loopw [5, 4] (fun i l wr => NumJ wo k R i l wr) (fun i _ _ => k - (intOf i).toNat)
      case atStart => exact ⟨0, 0, none, [], by omega, rfl, rfl, OCS.none_ _ _, Ext.refl _⟩
      case round =>
        obtain ⟨i, cO, O, vs, hi, rfl, rfl, own, hEi⟩ := hrel
        by_cases hik : i < k
        · have hiki : (i : Int) < (k : Int) := by omega
          have hEw := hEr.trans hEi
          have oA1 := oA.ext hEw
          have rR1 := rR.ext hEw
          have hB21 := hB2.ext hEw
          go_upto_region 10 with (fail)
          obtain ⟨gA, gO, bO, BO, rfl, hcO0, oS⟩ := oA1.cell (j := i) (by omega)
          have hcO : wr.cell? ((⟨gA, 0, none⟩ : Addr).add i) = some (.pointer (some ⟨gO, 0, none⟩)) := by rw [add_plain]; exact hcO0
          obtain ⟨Sd, hSd⟩ : ∃ Sd, Sd = lb Ss i := ⟨_, rfl⟩
          rw [← hSd] at oS
          have HSd := Lib.hid hSd
          clear hSd
          obtain ⟨cO1, LA, lc, rS, hBO, _⟩ := oS
          have hcap := oA1.room
          refine par_tup (n := 15) (jp := 14) (jq := 12) 13 4 (by kernel_rfl) [.is (.slice ((some ⟨gA, 0, none⟩)) (4) (c)), .is (.int .i64 ((i : Int))), .is (.pointer (some ((⟨gA, 0, none⟩ : Addr).add (i)))), .is (.pointer (some ⟨gO, 0, none⟩)), .is (.pointer (some ⟨gO, 0, none⟩)), .is (.pointer (some ⟨gO, 0, none⟩)), .is (.slice (BO) (32) (cO1)), .is (.int .i64 ((i : Int))), .is (.int .i64 ((i : Int))), .is (.agg #[.int .i64 (2), .slice (B) (32) (d)]), .tp [.val (.int .i64 ((i : Int))), .val (.int .i64 ((i : Int))), .bb (64) (sigP Sd (bodyC cosignL 2 R) i), .bb (4) (pathL Sd i)] (.int .i64 ((0 : Int))), .tp [.val (.int .i64 ((i : Int))), .val (.int .i64 ((i : Int))), .bb (64) (sigP Sd (bodyC cosignL 2 R) i), .bb (4) (pathL Sd i)] (.int .i64 ((0 : Int))), .ag [.val (.int .i64 ((i : Int))), .val (.int .i64 ((i : Int))), .bb (64) (sigP Sd (bodyC cosignL 2 R) i), .bb (4) (pathL Sd i)], .is (.int .i64 ((0 : Int))), .bk (wr.heap.size) 69 #[.int .i64 ((0 : Int)), .int .i64 ((0 : Int)), .slice (none) (0) (0), .slice (none) (0) (0)]] rfl rfl rfl rfl rfl rfl rfl rfl rfl rfl rfl (by decide) (by decide) (by decide) (by decide) (tup_bk _ rfl) (tup_ag _ rfl rfl) (by kernel_rfl) ⟨?_, ?_, ?_, ?_, ?_, ?_, ?_, ?_, ?_, ?_, ?_, ?_, ?_, ?_, ?_, trivial⟩ ?_
          · refine stepE rfl fun sdn sa sw sE sd sk => ?_
            have h1 : sa.eval (.tmp 1) = .slice ((some ⟨gA, 0, none⟩)) (4) (c) := sk.old 1 rfl
            exact Runs.move rfl h1 ⟨Ext.refl _, rfl⟩
          · refine stepE rfl fun sdn sa sw sE sd sk => ?_
            have h5 : sa.eval (.tmp 5) = .int .i64 ((i : Int)) := sk.old 5 rfl
            exact Runs.move rfl h5 ⟨Ext.refl _, rfl⟩
          · refine stepE rfl fun sdn sa sw sE sd sk => ?_
            have h31 : sa.eval (.tmp 31) = .slice ((some ⟨gA, 0, none⟩)) (4) (c) := sk.fact 0 31 rfl (sd 0 rfl)
            have h32 : sa.eval (.tmp 32) = .int .i64 ((i : Int)) := sk.fact 1 32 rfl (sd 1 rfl)
            exact Runs.idx rfl h31 h32 (run_idx_sl1 Try.underlying65 infO_eq infO_size (i) (by omega) (by omega)) ⟨Ext.refl _, rfl⟩
          · refine stepE rfl fun sdn sa sw sE sd sk => ?_
            have h33 : sa.eval (.tmp 33) = .pointer (some ((⟨gA, 0, none⟩ : Addr).add (i))) := sk.fact 2 33 rfl (sd 2 rfl)
            exact Runs.load rfl h33 (run_load1 Try.underlying75 rfl (sE.cell hcO)) ⟨Ext.refl _, rfl⟩
          · refine stepE rfl fun sdn sa sw sE sd sk => ?_
            have h34 : sa.eval (.tmp 34) = .pointer (some ⟨gO, 0, none⟩) := sk.fact 3 34 rfl (sd 3 rfl)
            exact Runs.nil_ rfl h34 ⟨Ext.refl _, rfl⟩
          · refine stepE rfl fun sdn sa sw sE sd sk => ?_
            have h35 : sa.eval (.tmp 35) = .pointer (some ⟨gO, 0, none⟩) := sk.fact 4 35 rfl (sd 4 rfl)
            refine Runs.of_run (r := .pointer (some ⟨gO, 0, none⟩)) (w' := sw) ?_ ⟨Ext.refl _, rfl⟩
            unfold execOp
            simp only [h35]
            go_simp
          · refine stepE rfl fun sdn sa sw sE sd sk => ?_
            have h36 : sa.eval (.tmp 36) = .pointer (some ⟨gO, 0, none⟩) := sk.fact 5 36 rfl (sd 5 rfl)
            exact Runs.load rfl h36 (run_load1 Try.underlying22 rfl ((hBO.ext sE).cell (i := 0) rfl)) ⟨Ext.refl _, rfl⟩
          · refine stepE rfl fun sdn sa sw sE sd sk => ?_
            have h5 : sa.eval (.tmp 5) = .int .i64 ((i : Int)) := sk.old 5 rfl
            exact Runs.move rfl h5 ⟨Ext.refl _, rfl⟩
          · refine stepE rfl fun sdn sa sw sE sd sk => ?_
            have h5 : sa.eval (.tmp 5) = .int .i64 ((i : Int)) := sk.old 5 rfl
            exact Runs.move rfl h5 ⟨Ext.refl _, rfl⟩
          · refine stepE rfl fun sdn sa sw sE sd sk => ?_
            have h2 : sa.eval (.tmp 2) = .pointer (some ⟨g2, 0, none⟩) := sk.old 2 rfl
            exact Runs.load rfl h2 (load_part (hB21.ext sE) 0 (vs := [.int .i64 (2), .slice (B) (32) (d)]) rfl Try.underlying24 rfl (by kernel_rfl)) ⟨Ext.refl _, rfl⟩
          · refine stepE rfl fun sdn sa sw sE sd sk => ?_
            have h37 : sa.eval (.tmp 37) = .slice (BO) (32) (cO1) := sk.fact 6 37 rfl (sd 6 rfl)
            have h38 : sa.eval (.tmp 38) = .int .i64 ((i : Int)) := sk.fact 7 38 rfl (sd 7 rfl)
            have h39 : sa.eval (.tmp 39) = .int .i64 ((i : Int)) := sk.fact 8 39 rfl (sd 8 rfl)
            have h40 : sa.eval (.tmp 40) = .agg #[.int .i64 (2), .slice (B) (32) (d)] := sk.fact 9 40 rfl (sd 9 rfl)
            refine Runs.call (f := 40) (vs := [.slice (BO) (32) (cO1), .int .i64 ((i : Int)), .int .i64 ((i : Int)), .agg #[.int .i64 (2), .slice (B) (32) (d)]]) rfl rfl rfl (by simp only [List.map_toArray, List.map_cons, List.map_nil, h37, h38, h39, h40] <;> rfl) (ent40 _ _) ((cosign_yes _ _ _ _ _ i (i : Int) 2 _ _ sw (rS.ext sE) (by omega) (rR1.ext sE) Hc.out (by omega)).mono ?_); rintro e w' ⟨P, d1, Q, d2, rfl, h1, h2, hx⟩; exact ⟨_, rfl, hx, P, d1, h1, Q, d2, h2, rfl⟩
          · refine stepE rfl fun sdn sa sw sE sd sk => ?_
            obtain ⟨A41x0, c41x0, r41x0, A41x1, c41x1, r41x1, h41⟩ := sk.fact 10 41 rfl (sd 10 rfl)
            replace h41 : sa.eval (.tmp 41) = .tuple #[.agg #[.int .i64 ((i : Int)), .int .i64 ((i : Int)), .slice (A41x0) (64) (c41x0), .slice (A41x1) (4) (c41x1)], .int .i64 ((0 : Int))] := h41
            exact Runs.move rfl h41 ⟨Ext.refl _, _, _, r41x0, _, _, r41x1, rfl⟩
          · refine stepE rfl fun sdn sa sw sE sd sk => ?_
            obtain ⟨A30x0, c30x0, r30x0, A30x1, c30x1, r30x1, h30⟩ := sk.fact 11 30 rfl (sd 11 rfl)
            replace h30 : sa.eval (.tmp 30) = .tuple #[.agg #[.int .i64 ((i : Int)), .int .i64 ((i : Int)), .slice (A30x0) (64) (c30x0), .slice (A30x1) (4) (c30x1)], .int .i64 ((0 : Int))] := h30
            refine Runs.of_run (r := .agg #[.int .i64 ((i : Int)), .int .i64 ((i : Int)), .slice (A30x0) (64) (c30x0), .slice (A30x1) (4) (c30x1)]) (w' := sw) ?_ ⟨Ext.refl _, _, _, r30x0, _, _, r30x1, rfl⟩
            unfold execOp
            simp only [h30]
            go_simp
          · refine stepE rfl fun sdn sa sw sE sd sk => ?_
            obtain ⟨A30x0, c30x0, r30x0, A30x1, c30x1, r30x1, h30⟩ := sk.fact 11 30 rfl (sd 11 rfl)
            replace h30 : sa.eval (.tmp 30) = .tuple #[.agg #[.int .i64 ((i : Int)), .int .i64 ((i : Int)), .slice (A30x0) (64) (c30x0), .slice (A30x1) (4) (c30x1)], .int .i64 ((0 : Int))] := h30
            refine Runs.of_run (r := .int .i64 ((0 : Int))) (w' := sw) ?_ ⟨Ext.refl _, rfl⟩
            unfold execOp
            simp only [h30]
            go_simp
          · refine stepE rfl fun sdn sa sw sE sd sk => ?_
            refine Runs.of_run (r := .pointer (some ⟨sw.heap.size, 0, none⟩)) (w' := sw.alloc (.cells #[.int .i64 ((0 : Int)), .int .i64 ((0 : Int)), .slice (none) (0) (0), .slice (none) (0) (0)] 69)) ?_ ⟨Ext.new _ _, _, rfl, Blk.new _ _ _, sE.size⟩
            unfold execOp
            go_simp
          intro vals W10 hE10 hv10 gst vst hgst hvst
          have e0 : vals 0 = .slice ((some ⟨gA, 0, none⟩)) (4) (c) := hv10 0 (by omega) 31 rfl
          have e1 : vals 1 = .int .i64 ((i : Int)) := hv10 1 (by omega) 32 rfl
          have e2 : vals 2 = .pointer (some ((⟨gA, 0, none⟩ : Addr).add (i))) := hv10 2 (by omega) 33 rfl
          have e3 : vals 3 = .pointer (some ⟨gO, 0, none⟩) := hv10 3 (by omega) 34 rfl
          have e4 : vals 4 = .pointer (some ⟨gO, 0, none⟩) := hv10 4 (by omega) 35 rfl
          have e5 : vals 5 = .pointer (some ⟨gO, 0, none⟩) := hv10 5 (by omega) 36 rfl
          have e6 : vals 6 = .slice (BO) (32) (cO1) := hv10 6 (by omega) 37 rfl
          have e7 : vals 7 = .int .i64 ((i : Int)) := hv10 7 (by omega) 38 rfl
          have e8 : vals 8 = .int .i64 ((i : Int)) := hv10 8 (by omega) 39 rfl
          have e9 : vals 9 = .agg #[.int .i64 (2), .slice (B) (32) (d)] := hv10 9 (by omega) 40 rfl
          obtain ⟨A41x0, c41x0, r41x0, A41x1, c41x1, r41x1, e10⟩ := hv10 10 (by omega) 41 rfl
          replace e10 : vals 10 = .tuple #[.agg #[.int .i64 ((i : Int)), .int .i64 ((i : Int)), .slice (A41x0) (64) (c41x0), .slice (A41x1) (4) (c41x1)], .int .i64 ((0 : Int))] := e10
          obtain ⟨A30x0, c30x0, r30x0, A30x1, c30x1, r30x1, e11⟩ := hv10 11 (by omega) 30 rfl
          replace e11 : vals 11 = .tuple #[.agg #[.int .i64 ((i : Int)), .int .i64 ((i : Int)), .slice (A30x0) (64) (c30x0), .slice (A30x1) (4) (c30x1)], .int .i64 ((0 : Int))] := e11
          obtain ⟨A42x0, c42x0, r42x0, A42x1, c42x1, r42x1, e12⟩ := hv10 12 (by omega) 42 rfl
          replace e12 : vals 12 = .agg #[.int .i64 ((i : Int)), .int .i64 ((i : Int)), .slice (A42x0) (64) (c42x0), .slice (A42x1) (4) (c42x1)] := e12
          have e13 : vals 13 = .int .i64 ((0 : Int)) := hv10 13 (by omega) 43 rfl
          obtain ⟨g6, e14, hb6, gb6⟩ := hv10 14 (by omega) 6 rfl
          obtain rfl : gst = g6 := pointer_eq hgst e14
          obtain rfl : vst = #[.int .i64 ((i : Int)), .int .i64 ((i : Int)), .slice (A42x0) (64) (c42x0), .slice (A42x1) (4) (c42x1)] := Value.agg.inj (hvst.symm.trans e12)
          simp only [putAll, Act.put, List.take_succ_cons, List.take_zero, List.drop_succ_cons, List.drop_zero, List.drop_nil, List.take_nil, Nat.reduceAdd, List.setIfInBounds_toArray, List.set_cons_succ, List.set_cons_zero, e0, e1, e2, e3, e4, e5, e6, e7, e8, e9, e10, e11, e12, e13, e14]
          clear hv10 e0 e1 e2 e3 e4 e5 e6 e7 e8 e9 e10 e11 e12 e13 e14 hgst hvst
          have hGt := grown_setCells gst (#[.int .i64 ((i : Int)), .int .i64 ((i : Int)), .slice (A42x0) (64) (c42x0), .slice (A42x1) (4) (c42x1)] : Array Value).toList 0 W10
          have hB10 := hb6.setAll (vs := #[.int .i64 ((i : Int)), .int .i64 ((i : Int)), .slice (A42x0) (64) (c42x0), .slice (A42x1) (4) (c42x1)]) rfl
          have hE10s := hE10.then_grown hGt (by intro k hk; cases hk; exact gb6)
          replace r42x0 := r42x0.away hb6 (nou8 (by kernel_rfl)) hGt (fun _ => r42x0.apart3 hb6 (no3 (by kernel_rfl)) (by omega))
          replace r42x1 := r42x1.away hb6 (nou8 (by kernel_rfl)) hGt (fun _ => r42x1.apart3 hb6 (no3 (by kernel_rfl)) (by omega))
          clear hGt hb6 gb6
          generalize W10.setCells gst 0 (#[.int .i64 ((i : Int)), .int .i64 ((i : Int)), .slice (A42x0) (64) (c42x0), .slice (A42x1) (4) (c42x1)] : Array Value).toList = W10b at *
          obtain ⟨g6, rfl⟩ : ∃ g6, g6 = gst := ⟨_, rfl⟩
          have hSd : Sd = seedL ((i : Nat) : Int) := by rw [HSd.out, HSs.out]; exact lb_range _ (by omega)
          replace hB10 : Blk W10b g6 69 #[.int .i64 (i : Int), .int .i64 (i : Int), .slice A42x0 64 c42x0, .slice A42x1 4 c42x1] := hB10
          rw [hSd] at r42x0 r42x1
          clear hE10 hcO hcO0 oA1 rR1 hB21 rS hBO hSd HSd hcap
          have y0 := hB10.cell (i := 0) (v := .int .i64 (i : Int)) rfl
          have y1 := hB10.cell (i := 1) (v := .int .i64 (i : Int)) rfl
          have y2 := hB10.cell (i := 2) (v := .slice A42x0 64 c42x0) rfl
          have y3 := hB10.cell (i := 3) (v := .slice A42x1 4 c42x1) rfl
          have hEx := Ext.new W10b (.cells #[.int .i64 (i : Int), .int .i64 (i : Int), .slice A42x0 64 c42x0, .slice A42x1 4 c42x1] 69)
          have hBx := Blk.new W10b 69 #[.int .i64 (i : Int), .int .i64 (i : Int), .slice A42x0 64 c42x0, .slice A42x1 4 c42x1]
          have one := RCV.one hBx (r42x0.ext hEx) (r42x1.ext hEx)
          have hEz := hE10s.trans hEx
          have own2 := own.ext hEz
          have hEq := hEi.trans hEz
          clear hE10s hEx hBx r42x0 r42x1 hEz
          go_wp2_with (refine appcs_law rfl rfl rfl rfl own2 one hEq.size (by omega) (by omega) ?_; intro O5 c5 w5 own5 g5)
          have hE5 := hEq.then_grown g5 (fun b hb => (own2.lt hb).1)
          go_roundw
          case rel => exact ⟨i + 1, c5, O5, _, by omega, by go_num, rfl, by rw [nsigs_snoc]; exact own5, hE5⟩
          case measure => simp [intOf]; omega
        · obtain rfl : i = k := by omega
          have hEw := hEr.trans hEi
          have rM := own.rcv.rcs
          clear own hEr hEi hik hi
          obtain ⟨wq, hwq⟩ : ∃ wq, wq = wr := ⟨_, rfl⟩
          subst hwq
          go_wp2_with fail
          go_loopw [8] (fun z wr => NumQ wq z wr) (fun z _ => (6 - intOf z).toNat)
          case atStart => exact ⟨-1, by omega, by omega, rfl, Ext.refl _⟩
          case round =>
            obtain ⟨z, hz0, hz1, rfl, hEq⟩ := hrel
            by_cases hz5 : z ≤ 5
            · have hEt := hEw.trans hEq
              have oA1 := oA.ext hEt
              have rR1 := rR.ext hEt
              have hB21 := hB2.ext hEt
              have rM1 := rM.ext hEq
              go_wp2_with fail
              refine (policy_any A 4 c w.heap.size z Ss (by omega) wr oA1).mono ?_
              rintro e w6 ⟨G, cg, Q2, dq, rfl, rG, rQ, hE⟩
              rw [HK.out] at rQ
              have hEn := Ext.new w6 (.cells #[.slice G 32 cg, .slice Q2 4 dq, .int .i64 z] 77)
              have hB9 := Blk.new w6 77 #[.slice G 32 cg, .slice Q2 4 dq, .int .i64 z]
              replace hE := hE.trans hEn
              replace rR1 := rR1.ext hE
              replace rM1 := rM1.ext hE
              replace hB21 := hB21.ext hE
              replace rG := rG.ext hEn
              replace rQ := rQ.ext hEn
              have hEp := hEq.trans hE
              clear hEn hE oA1 hEt
              by_cases h1 : 1 ≤ z
              · by_cases h4 : z ≤ 4
                · have hp : polB (khash 9) (keys 4) z = true := by rw [keys_pol (by omega) (by omega)]; exact decide_eq_true ⟨h1, h4⟩
                  have hcnt := num_cnt Hc.out ⟨h1, h4⟩ hkn
                  have Hp := Lib.hid hp
                  have Hcnt := Lib.hid hcnt
                  clear hp hcnt
                  have y0 := hB9.cell (i := 0) (v := .slice G 32 cg) rfl
                  have y1 := hB9.cell (i := 1) (v := .slice Q2 4 dq) rfl
                  have y2 := hB9.cell (i := 2) (v := .int .i64 z) rfl
                  go_wp2_with fail
                  refine (cosright_any G Q2 32 cg 4 dq z (khash 9) (keys 4) _ rG rQ).mono ?_
                  rintro e w8 ⟨rfl, hE⟩
                  rw [Hp.out]
                  replace rG := rG.ext hE
                  replace rQ := rQ.ext hE
                  replace rR1 := rR1.ext hE
                  replace rM1 := rM1.ext hE
                  replace hB21 := hB21.ext hE
                  replace hB9 := hB9.ext hE
                  replace hEp := hEp.trans hE
                  clear hE y0 y1 y2
                  have y0 := hB9.cell (i := 0) (v := .slice G 32 cg) rfl
                  have y1 := hB9.cell (i := 1) (v := .slice Q2 4 dq) rfl
                  have y2 := hB9.cell (i := 2) (v := .int .i64 z) rfl
                  have x0 := hB21.cell (i := 0) (v := .int .i64 2) rfl
                  have x1 := hB21.cell (i := 1) (v := .slice B 32 d) rfl
                  go_wp2_with fail
                  refine (cMet_any G Q2 B O 32 cg 4 dq 32 d i cO z 2 (khash 9) R (keys 4) (nsigs R i) w8 rG rQ rR1 rM1).mono ?_
                  rintro e w9 ⟨rfl, hE⟩
                  rw [Hp.out, Hcnt.out, Bool.true_and]
                  replace rG := rG.ext hE
                  replace rQ := rQ.ext hE
                  replace rR1 := rR1.ext hE
                  replace rM1 := rM1.ext hE
                  replace hB21 := hB21.ext hE
                  replace hB9 := hB9.ext hE
                  replace hEp := hEp.trans hE
                  clear hE y0 y1 y2 x0 x1
                  have y0 := hB9.cell (i := 0) (v := .slice G 32 cg) rfl
                  have y1 := hB9.cell (i := 1) (v := .slice Q2 4 dq) rfl
                  have y2 := hB9.cell (i := 2) (v := .int .i64 z) rfl
                  have x0 := hB21.cell (i := 0) (v := .int .i64 2) rfl
                  have x1 := hB21.cell (i := 1) (v := .slice B 32 d) rfl
                  by_cases hzk : z ≤ (i : Int)
                  · rw [decide_eq_true hzk]
                    go_wp2_with fail
                    refine (cCount_any G Q2 B O 32 cg 4 dq 32 d i cO z 2 (khash 9) R (keys 4) (nsigs R i) w9 rG rQ rR1 rM1).mono ?_
                    rintro e w10 ⟨rfl, hE⟩
                    rw [Hcnt.out]
                    replace hEp := hEp.trans hE
                    clear hE y0 y1 y2 x0 x1
                    go_wp2_with fail
                    go_roundw
                    case rel => exact ⟨z + 1, by omega, by omega, rfl, hEp⟩
                    case measure => simp [intOf]; omega
                  · rw [decide_eq_false hzk]
                    go_wp2_with fail
                    refine (cCount_any G Q2 B O 32 cg 4 dq 32 d i cO z 2 (khash 9) R (keys 4) (nsigs R i) w9 rG rQ rR1 rM1).mono ?_
                    rintro e w10 ⟨rfl, hE⟩
                    rw [Hcnt.out]
                    replace hEp := hEp.trans hE
                    clear hE y0 y1 y2 x0 x1
                    go_wp2_with fail
                    go_roundw
                    case rel => exact ⟨z + 1, by omega, by omega, rfl, hEp⟩
                    case measure => simp [intOf]; omega
                · have hno : ¬ (1 ≤ z ∧ z ≤ 4) := by omega
                  have hp : polB (khash 9) (keys 4) z = false := by rw [keys_pol (by omega) (by omega)]; exact decide_eq_false (by omega)
                  have Hp := Lib.hid hp
                  clear hp
                  have y0 := hB9.cell (i := 0) (v := .slice G 32 cg) rfl
                  have y1 := hB9.cell (i := 1) (v := .slice Q2 4 dq) rfl
                  have y2 := hB9.cell (i := 2) (v := .int .i64 z) rfl
                  go_wp2_with fail
                  refine (cosright_any G Q2 32 cg 4 dq z (khash 9) (keys 4) _ rG rQ).mono ?_
                  rintro e w8 ⟨rfl, hE⟩
                  rw [Hp.out]
                  replace rG := rG.ext hE
                  replace rQ := rQ.ext hE
                  replace rR1 := rR1.ext hE
                  replace rM1 := rM1.ext hE
                  replace hB21 := hB21.ext hE
                  replace hB9 := hB9.ext hE
                  replace hEp := hEp.trans hE
                  clear hE y0 y1 y2
                  have y0 := hB9.cell (i := 0) (v := .slice G 32 cg) rfl
                  have y1 := hB9.cell (i := 1) (v := .slice Q2 4 dq) rfl
                  have y2 := hB9.cell (i := 2) (v := .int .i64 z) rfl
                  have x0 := hB21.cell (i := 0) (v := .int .i64 2) rfl
                  have x1 := hB21.cell (i := 1) (v := .slice B 32 d) rfl
                  go_wp2_with fail
                  refine (cMet_any G Q2 B O 32 cg 4 dq 32 d i cO z 2 (khash 9) R (keys 4) (nsigs R i) w8 rG rQ rR1 rM1).mono ?_
                  rintro e w9 ⟨rfl, hE⟩
                  rw [Hp.out, Bool.false_and]
                  replace hEp := hEp.trans hE
                  clear hE y0 y1 y2 x0 x1
                  go_wp2_with fail
                  go_roundw
                  case rel => exact ⟨z + 1, by omega, by omega, rfl, hEp⟩
                  case measure => simp [intOf]; omega
              · have hno : ¬ (1 ≤ z ∧ z ≤ 4) := by omega
                have hp : polB (khash 9) (keys 4) z = false := by rw [keys_pol (by omega) (by omega)]; exact decide_eq_false (by omega)
                have Hp := Lib.hid hp
                clear hp
                have y0 := hB9.cell (i := 0) (v := .slice G 32 cg) rfl
                have y1 := hB9.cell (i := 1) (v := .slice Q2 4 dq) rfl
                have y2 := hB9.cell (i := 2) (v := .int .i64 z) rfl
                go_wp2_with fail
                refine (cosright_any G Q2 32 cg 4 dq z (khash 9) (keys 4) _ rG rQ).mono ?_
                rintro e w8 ⟨rfl, hE⟩
                rw [Hp.out]
                replace rG := rG.ext hE
                replace rQ := rQ.ext hE
                replace rR1 := rR1.ext hE
                replace rM1 := rM1.ext hE
                replace hB21 := hB21.ext hE
                replace hB9 := hB9.ext hE
                replace hEp := hEp.trans hE
                clear hE y0 y1 y2
                have y0 := hB9.cell (i := 0) (v := .slice G 32 cg) rfl
                have y1 := hB9.cell (i := 1) (v := .slice Q2 4 dq) rfl
                have y2 := hB9.cell (i := 2) (v := .int .i64 z) rfl
                have x0 := hB21.cell (i := 0) (v := .int .i64 2) rfl
                have x1 := hB21.cell (i := 1) (v := .slice B 32 d) rfl
                go_wp2_with fail
                refine (cMet_any G Q2 B O 32 cg 4 dq 32 d i cO z 2 (khash 9) R (keys 4) (nsigs R i) w8 rG rQ rR1 rM1).mono ?_
                rintro e w9 ⟨rfl, hE⟩
                rw [Hp.out, Bool.false_and]
                replace hEp := hEp.trans hE
                clear hE y0 y1 y2 x0 x1
                go_wp2_with fail
                go_roundw
                case rel => exact ⟨z + 1, by omega, by omega, rfl, hEp⟩
                case measure => simp [intOf]; omega
            · obtain rfl : z = 6 := by omega
              go_wp2_with fail
              go_roundw
              case rel => exact ⟨i + 1, by omega, by go_num, hEw.trans hEq⟩
              case measure => simp [intOf]; omega
    · obtain rfl : k = 5 := by omega
      replace oA := oA.ext hEr
      replace rR := rR.ext hEr
      replace hB2 := hB2.ext hEr
      replace hEa := hEa.trans hEr
      clear hEr hlt hk
      have hroom := oA.room
      have hcapc := oA.cap_
      unfold maxLen at hcapc
      go_wp2_with fail
      refine (policy_own A 4 c w.heap.size 1 Ss (by omega) wr oA).mono ?_
      rintro e w4 ⟨G1, cg1, Q1, dq1, rfl, rG1, oQ1, hE⟩
      rw [HK.out] at oQ1
      have hgw := hE.size
      have hEn := Ext.new w4 (.cells #[.slice G1 32 cg1, .slice Q1 4 dq1, .int .i64 1] 77)
      have hB11 := Blk.new w4 77 #[.slice G1 32 cg1, .slice Q1 4 dq1, .int .i64 1]
      have hEw5 := hE.trans hEn
      replace rG1 := rG1.ext hEn
      replace oQ1 := oQ1.ext hEn
      clear hEn hE
      go_upto_region 22 with (fail)
      generalize w4.alloc (.cells #[.slice G1 32 cg1, .slice Q1 4 dq1, .int .i64 1] 77) = w5 at *
      generalize hg11 : w4.heap.size = g11 at *
      clear hg11
      have hEx := Ext.new w5 (.cells #[] 22)
      have hBx := Blk.new w5 22 #[]
      have hB11x := hB11.ext hEx
      have y0 := hB11x.cell (i := 0) (v := .slice G1 32 cg1) rfl
      have y1 := hB11x.cell (i := 1) (v := .slice Q1 4 dq1) rfl
      have y2 := hB11x.cell (i := 2) (v := .int .i64 1) rfl
      obtain ⟨gq, _, _, _, rfl, _⟩ := oQ1.at_ (j := 0) (by omega)
      obtain ⟨us, hul, hcells, hone, hus⟩ := (oQ1.rbb.ext hEx).vals
      obtain ⟨us0, hul0, hcells0, hone0, hus0⟩ := oQ1.rbb.vals
      have hown0 : (w5.alloc (.cells #[] 22)).ownsRow w5.heap.size 22 1 (.slice (some ⟨w5.heap.size, 0, none⟩) 0 0) 0 [] := ⟨rfl, .inr ⟨w5.heap.size, 0, #[], rfl, Nat.le_refl _, hBx, Nat.le_refl _, Nat.zero_le _, rfl, rfl⟩⟩
      go_wp2_with (refine appvs_law rfl rfl rfl rfl hown0 hul (hcells _ rfl) hone (by omega) hEx.size (by omega) ?_; intro A7 c7 w7 own7 g7)
      have hE57 := hEx.then_grown g7 (by intro k hk; cases hk; exact Nat.le_refl _)
      have oP7 : OBC w7 w5.heap.size A7 4 c7 (keys 4) := OBC.of_vals own7 (Nat.le_refl _) (hE57) (keys_length 4) (fun j hj => by
        obtain ⟨B', m', d', h4, h5⟩ := hus0 j hj
        have e1 := hcells _ rfl
        have e2 : us[j]? = us0[j]? := by
          obtain ⟨u1, hu1⟩ : ∃ u1, us[j]? = some u1 := ⟨us[j]'(by omega), by simp⟩
          have k1 := hcells _ rfl j u1 hu1
          have k2 := hEx.cell (hcells0 _ rfl j _ h4)
          rw [k1] at k2
          rw [hu1, h4, k2]
        exact ⟨B', m', d', by rw [List.nil_append, e2]; exact h4, h5⟩)
      clear hul hcells hone hus hul0 hcells0 hone0 hus0 own7 g7 hown0 hBx hEx y0 y1 y2 hB11x
      refine (hash_any 1 w7 (by omega) (by omega)).mono ?_
      rintro e w8 ⟨H1, ch, rfl, oH, hE8⟩
      have hEx := Ext.new w8 (.cells #[.slice H1 32 ch] 22)
      have hBa := Blk.new w8 22 #[.slice H1 32 ch]
      have hE88 := hE8.trans hEx
      have oP8 := oP7.ext hE88
      have hE58 := hE57.trans hE88
      have hB118 := hB11.ext hE58
      have rG8 := rG1.ext hE58
      have hw5 : Ext wr (w8.alloc (.cells #[.slice H1 32 ch] 22)) := hEw5.trans hE58
      have hneH : 0 < 32 → blk H1 ≠ blk A7 := by
        intro _ e
        obtain ⟨j, hj⟩ : ∃ j, blk H1 = some j := by
          obtain ⟨ad', h1, _⟩ := oH.rb.cells (by omega)
          rw [h1]
          exact ⟨_, rfl⟩
        have h1 := (oH.lt hj).1
        have h2 := (oP7.lt (e.symm.trans hj)).2
        omega
      have rH := oH.rb.ext hEx
      have hgG : 0 < 32 → blk G1 ≠ blk A7 := by
        intro h0 e
        obtain ⟨j, hj⟩ : ∃ j, blk G1 = some j := by
          obtain ⟨ad', h1, _⟩ := rG1.cells h0
          rw [h1]
          exact ⟨_, rfl⟩
        have h2 := rb_blk_lt rG1 h0 _ hj
        have h3 := (oP7.lt (e.symm.trans hj)).1
        omega
      go_wp2_with (refine appbc_law (base := w5.heap.size) (Y := khash 1) rfl rfl rfl rfl (by rw [add_plain]; exact hBa.cell (i := 0) rfl) oP8 rH hneH hE58.size (by omega) ?_; intro P5 c5 w9 oP9 g9; have hB119 := hB118.grown g9 (oP8.apart_blk hB118 (by decide)); have y5 := hB119.cell (i := 1) (v := .slice (some ⟨gq, 0, none⟩) 4 dq1) rfl; have y6 := hB119.frozen 1)
      have gs := grown_set w9 ⟨g11, 1, none⟩ (.slice P5 5 c5)
      have rG9 := rG8.grown g9 hgG
      have oP10 := oP9.far hB119 (by decide) (pol_no _ _ _ _ _ _ _) gs
      have hB1110 : Blk (w9.setCell ⟨g11, 1, none⟩ (.slice P5 5 c5)) g11 77 #[.slice G1 32 cg1, .slice P5 5 c5, .int .i64 1] := hB119.set 1 _
      have rG10 := rG9.grown gs (rG9.apart5 hB119 (pol_no _ _ _ _ _ _ _))
      have hEs := (hw5.then_grown g9 (fun b hb => Nat.le_trans hEw5.size (oP8.lt hb).1)).set (p := ⟨g11, 1, none⟩) hgw (.slice P5 5 c5)
      clear oP9 hB119 y5 y6 g9 gs rG8 rG9 oP8 oP7 hB118 hB11 hE58 hE88 hE57 hE8 hEx hBa oH rH hneH hgG hw5 hEw5 rG1 oQ1
      generalize w9.setCell ⟨g11, 1, none⟩ (.slice P5 5 c5) = wA at *
      replace oA := oA.ext hEs
      replace rR := rR.ext hEs
      replace hB2 := hB2.ext hEs
      replace hEa := hEa.trans hEs
      clear hEs hgw
      have oA2 := oA.take (k := 2) (by omega) (by omega)
      refine (policy_ob A 2 c w.heap.size 1 (Ss.take 2) (by omega) wA oA2).mono ?_
      rintro e w10 ⟨G2, cg2, Q2, dq2, rfl, ⟨b2, oG2⟩, oQ2, hE⟩
      obtain ⟨a, b, hab⟩ : ∃ a b, (List.range 2).map (fun j => ownP (lb (Ss.take 2) j)) = [a, b] := ⟨_, _, rfl⟩
      rw [hab] at oQ2
      have hEn := Ext.new w10 (.cells #[.slice G2 32 cg2, .slice Q2 2 dq2, .int .i64 1] 77)
      have hB12 := Blk.new w10 77 #[.slice G2 32 cg2, .slice Q2 2 dq2, .int .i64 1]
      replace oG2 := oG2.ext hEn
      replace oQ2 := oQ2.ext hEn
      have hEB := hE.trans hEn
      clear hEn hE oA2 hab
      go_upto_region 24 with (fail)
      generalize w10.alloc (.cells #[.slice G2 32 cg2, .slice Q2 2 dq2, .int .i64 1] 77) = w11 at *
      generalize w10.heap.size = g12 at *
      obtain ⟨gQ, E, z, y, rfl, hcl0, rE, hneE, hgq, _, hkd⟩ := oQ2.at_ (j := 0) (by omega)
      have hcl : w11.cell? ((⟨gQ, 0, none⟩ : Addr).add 0) = some (.slice E z y) := by rw [add_plain]; exact hcl0
      have rQ2 := oQ2.rbb
      have rG2 := oG2.rb
      refine par_ext (n := 6) (by kernel_rfl) [.is (.pointer (some ⟨g12, 1, none⟩)), .is (.slice ((some ⟨gQ, 0, none⟩)) (2) (dq2)), .is (.pointer (some ⟨g12, 1, none⟩)), .is (.slice ((some ⟨gQ, 0, none⟩)) (2) (dq2)), .is (.pointer (some ((⟨gQ, 0, none⟩ : Addr).add 0))), .is (.slice (E) (z) (y))] rfl ⟨?_, ?_, ?_, ?_, ?_, ?_, trivial⟩ ?_
      · refine stepE rfl fun sdn sa sw sE sd sk => ?_
        have h12 : sa.eval (.tmp 12) = .pointer (some ⟨g12, 0, none⟩) := sk.old 12 rfl
        refine Runs.of_run (r := .pointer (some ⟨g12, 1, none⟩)) (w' := sw) ?_ ⟨Ext.refl _, rfl⟩
        unfold execOp
        simp only [h12]
        go_simp
      · refine stepE rfl fun sdn sa sw sE sd sk => ?_
        have h104 : sa.eval (.tmp 104) = .pointer (some ⟨g12, 1, none⟩) := sk.fact 0 104 rfl (sd 0 rfl)
        exact Runs.load rfl h104 (run_load1 Try.underlying37 rfl ((hB12.ext sE).cell (i := 1) rfl)) ⟨Ext.refl _, rfl⟩
      · refine stepE rfl fun sdn sa sw sE sd sk => ?_
        have h12 : sa.eval (.tmp 12) = .pointer (some ⟨g12, 0, none⟩) := sk.old 12 rfl
        refine Runs.of_run (r := .pointer (some ⟨g12, 1, none⟩)) (w' := sw) ?_ ⟨Ext.refl _, rfl⟩
        unfold execOp
        simp only [h12]
        go_simp
      · refine stepE rfl fun sdn sa sw sE sd sk => ?_
        have h106 : sa.eval (.tmp 106) = .pointer (some ⟨g12, 1, none⟩) := sk.fact 2 106 rfl (sd 2 rfl)
        exact Runs.load rfl h106 (run_load1 Try.underlying37 rfl ((hB12.ext sE).cell (i := 1) rfl)) ⟨Ext.refl _, rfl⟩
      · refine stepE rfl fun sdn sa sw sE sd sk => ?_
        have h107 : sa.eval (.tmp 107) = .slice ((some ⟨gQ, 0, none⟩)) (2) (dq2) := sk.fact 3 107 rfl (sd 3 rfl)
        exact Runs.idx rfl h107 rfl (run_idx_sl1 Try.underlying37 infZZ_eq infZZ_size 0 (by omega) (by omega)) ⟨Ext.refl _, rfl⟩
      · refine stepE rfl fun sdn sa sw sE sd sk => ?_
        have h108 : sa.eval (.tmp 108) = .pointer (some ((⟨gQ, 0, none⟩ : Addr).add 0)) := sk.fact 4 108 rfl (sd 4 rfl)
        exact Runs.load rfl h108 (run_load1 Try.underlying22 rfl (sE.cell hcl)) ⟨Ext.refl _, rfl⟩
      intro vals W24 hE24 hv24
      have e0 : vals 0 = .pointer (some ⟨g12, 1, none⟩) := hv24 0 (by omega) 104 rfl
      have e1 : vals 1 = .slice ((some ⟨gQ, 0, none⟩)) (2) (dq2) := hv24 1 (by omega) 105 rfl
      have e2 : vals 2 = .pointer (some ⟨g12, 1, none⟩) := hv24 2 (by omega) 106 rfl
      have e3 : vals 3 = .slice ((some ⟨gQ, 0, none⟩)) (2) (dq2) := hv24 3 (by omega) 107 rfl
      have e4 : vals 4 = .pointer (some ((⟨gQ, 0, none⟩ : Addr).add 0)) := hv24 4 (by omega) 108 rfl
      have e5 : vals 5 = .slice (E) (z) (y) := hv24 5 (by omega) 109 rfl
      simp only [putAll, Act.put, List.take_succ_cons, List.take_zero, List.drop_succ_cons, List.drop_zero, List.drop_nil, List.take_nil, Nat.reduceAdd, List.setIfInBounds_toArray, List.set_cons_succ, List.set_cons_zero, e0, e1, e2, e3, e4, e5]
      clear hv24 e0 e1 e2 e3 e4 e5
      have o2 := oQ2.ext hE24
      have hEB2 := hEB.trans hE24
      obtain ⟨st, hEB3⟩ := o2.store (rE.ext hE24) hneE 1 (by omega) hEB2 (Nat.le_refl _)
      have f0 := o2.frz 1
      obtain ⟨gR, E0, z0, y0', hR, hc0, _⟩ := o2.at_ (j := 1) (by omega)
      cases hR
      have hB122 := (hB12.ext hE24).far (p := ⟨gQ, 1, none⟩) (by have := o2.apart_blk (hB12.ext hE24) (by decide); intro e; exact this (congrArg some e)) (.slice E z y)
      have oG22 := (oG2.ext hE24).grown (grown_set W24 ⟨gQ, 1, none⟩ (.slice E z y)) ((oG2.ext hE24).apart o2)
      have rG22 := oG22.rb
      go_upto_region 25 with (fail)
      have rQ22 : RBB (W24.setCell ⟨gQ, 1, none⟩ (.slice E z y)) (some ⟨gQ, 0, none⟩) 2 dq2 [a, a] := st.rbb
      clear st oQ2 hB12 rG2 oG2 oG22 rQ2 hcl hcl0 o2 hEB hEB2 hE24 rE f0 hc0 hneE
      generalize W24.setCell ⟨gQ, 1, none⟩ (.slice E z y) = wB at *
      replace oA := oA.ext hEB3
      replace rR := rR.ext hEB3
      replace hB2 := hB2.ext hEB3
      replace hB1110 := hB1110.ext hEB3
      replace rG10 := rG10.ext hEB3
      replace oP10 := oP10.ext hEB3
      replace hEa := hEa.trans hEB3
      clear hEB3
      have oA1 := oA.take (k := 1) (by omega) (by omega)
      go_wp2_with fail
      refine (policy_own A 1 c w.heap.size 1 (Ss.take 1) (by omega) wB oA1).mono ?_
      rintro e w12 ⟨G3, cg3, Q3, dq3, rfl, _, oQ3, hE⟩
      have hEn := Ext.new w12 (.cells #[.slice G3 32 cg3, .slice Q3 1 dq3, .int .i64 1] 77)
      have hB13 := Blk.new w12 77 #[.slice G3 32 cg3, .slice Q3 1 dq3, .int .i64 1]
      replace oQ3 := oQ3.ext hEn
      have hg13 := hE.size
      have hEC := hE.trans hEn
      clear hEn hE oA1
      go_upto_region 26 with (fail)
      generalize w12.alloc (.cells #[.slice G3 32 cg3, .slice Q3 1 dq3, .int .i64 1] 77) = w13 at *
      generalize w12.heap.size = g13 at *
      have fhB130 := hB13.frozen 0
      have fhB131 := hB13.frozen 1
      have fhB132 := hB13.frozen 2
      have xhB130 := hB13.cell (i := 0) rfl
      have xhB131 := hB13.cell (i := 1) rfl
      have xhB132 := hB13.cell (i := 2) rfl
      go_upto_region 27 with (fail)
      clear fhB130 xhB130 fhB131 xhB131 fhB132 xhB132
      have gs := grown_set w13 ⟨g13, 0, none⟩ (.slice none 0 0)
      have oQ33 := oQ3.far hB13 (by decide) (pol_no _ _ _ _ _ _ _) gs
      have hB133 : Blk (w13.setCell ⟨g13, 0, none⟩ (.slice none 0 0)) g13 77 #[.slice none 0 0, .slice Q3 1 dq3, .int .i64 1] := hB13.set 0 _
      have hEC3 := hEC.set (p := ⟨g13, 0, none⟩) hg13 (.slice none 0 0)
      clear oQ3 hB13 hEC gs hg13
      generalize w13.setCell ⟨g13, 0, none⟩ (.slice none 0 0) = wC at *
      replace oA := oA.ext hEC3
      replace rR := rR.ext hEC3
      replace hB2 := hB2.ext hEC3
      replace hB1110 := hB1110.ext hEC3
      replace rG10 := rG10.ext hEC3
      replace oP10 := oP10.ext hEC3
      replace hB122 := hB122.ext hEC3
      replace rG22 := rG22.ext hEC3
      replace rQ22 := rQ22.ext hEC3
      replace hEa := hEa.trans hEC3
      clear hEC3
      obtain ⟨gA, gO, bO, BO, rfl, hcO0, oS⟩ := oA.cell (j := 0) (by omega)
      have hcO : wC.cell? ((⟨gA, 0, none⟩ : Addr).add 0) = some (.pointer (some ⟨gO, 0, none⟩)) := by rw [add_plain]; exact hcO0
      obtain ⟨Sd, hSd⟩ : ∃ Sd, Sd = lb Ss 0 := ⟨_, rfl⟩
      rw [← hSd] at oS
      obtain ⟨cO1, LA, lc, rS, hBO, _⟩ := oS
      have hneg : rightC (-1) (khash 1) = false := by
        cases h : rightC (-1) (khash 1) with
        | false => rfl
        | true => have := (rightC_true h).1; omega
      have hneg' := Lib.hid hneg
      clear hcO0 hSd oA hneg
      refine par_tup (n := 13) (jp := 12) (jq := 10) 11 4 (by kernel_rfl) [.is (.slice ((some ⟨gA, 0, none⟩)) (4) (c)), .is (.pointer (some ((⟨gA, 0, none⟩ : Addr).add (0)))), .is (.pointer (some ⟨gO, 0, none⟩)), .is (.pointer (some ⟨gO, 0, none⟩)), .is (.pointer (some ⟨gO, 0, none⟩)), .is (.slice (BO) (32) (cO1)), .rk (32) (khash (1 : Int)), .ag [.val (.int .i64 ((-1 : Int))), .b8 (32) (khash (1 : Int))], .is (.tuple #[.agg #[.int .i64 ((0 : Int)), .int .i64 ((0 : Int)), .slice (none) (0) (0), .slice (none) (0) (0)], .int .i64 ((12 : Int))]), .is (.tuple #[.agg #[.int .i64 ((0 : Int)), .int .i64 ((0 : Int)), .slice (none) (0) (0), .slice (none) (0) (0)], .int .i64 ((12 : Int))]), .is (.agg #[.int .i64 ((0 : Int)), .int .i64 ((0 : Int)), .slice (none) (0) (0), .slice (none) (0) (0)]), .is (.int .i64 ((12 : Int))), .bk (wC.heap.size) 69 #[.int .i64 ((0 : Int)), .int .i64 ((0 : Int)), .slice (none) (0) (0), .slice (none) (0) (0)]] rfl rfl rfl rfl rfl rfl rfl rfl rfl rfl rfl (by decide) (by decide) (by decide) (by decide) (tup_bk _ rfl) (tup_is _ rfl rfl) (by kernel_rfl) ⟨?_, ?_, ?_, ?_, ?_, ?_, ?_, ?_, ?_, ?_, ?_, ?_, ?_, trivial⟩ ?_
      · refine stepE rfl fun sdn sa sw sE sd sk => ?_
        have h1 : sa.eval (.tmp 1) = .slice ((some ⟨gA, 0, none⟩)) (4) (c) := sk.old 1 rfl
        exact Runs.move rfl h1 ⟨Ext.refl _, rfl⟩
      · refine stepE rfl fun sdn sa sw sE sd sk => ?_
        have h116 : sa.eval (.tmp 116) = .slice ((some ⟨gA, 0, none⟩)) (4) (c) := sk.fact 0 116 rfl (sd 0 rfl)
        exact Runs.idx rfl h116 rfl (run_idx_sl1 Try.underlying65 infO_eq infO_size (0) (by omega) (by omega)) ⟨Ext.refl _, rfl⟩
      · refine stepE rfl fun sdn sa sw sE sd sk => ?_
        have h117 : sa.eval (.tmp 117) = .pointer (some ((⟨gA, 0, none⟩ : Addr).add (0))) := sk.fact 1 117 rfl (sd 1 rfl)
        exact Runs.load rfl h117 (run_load1 Try.underlying75 rfl (sE.cell hcO)) ⟨Ext.refl _, rfl⟩
      · refine stepE rfl fun sdn sa sw sE sd sk => ?_
        have h118 : sa.eval (.tmp 118) = .pointer (some ⟨gO, 0, none⟩) := sk.fact 2 118 rfl (sd 2 rfl)
        exact Runs.nil_ rfl h118 ⟨Ext.refl _, rfl⟩
      · refine stepE rfl fun sdn sa sw sE sd sk => ?_
        have h119 : sa.eval (.tmp 119) = .pointer (some ⟨gO, 0, none⟩) := sk.fact 3 119 rfl (sd 3 rfl)
        refine Runs.of_run (r := .pointer (some ⟨gO, 0, none⟩)) (w' := sw) ?_ ⟨Ext.refl _, rfl⟩
        unfold execOp
        simp only [h119]
        go_simp
      · refine stepE rfl fun sdn sa sw sE sd sk => ?_
        have h120 : sa.eval (.tmp 120) = .pointer (some ⟨gO, 0, none⟩) := sk.fact 4 120 rfl (sd 4 rfl)
        exact Runs.load rfl h120 (run_load1 Try.underlying22 rfl ((hBO.ext sE).cell (i := 0) rfl)) ⟨Ext.refl _, rfl⟩
      · refine stepE rfl fun sdn sa sw sE sd sk => ?_
        refine Runs.call (f := 37) (vs := [.int .i64 ((1 : Int))]) rfl rfl rfl (by simp only [List.map_toArray, List.map_cons, List.map_nil] <;> rfl) (ent37 _ _) ((hash_any (1 : Int) sw (by omega) (by omega)).mono ?_); rintro e w' ⟨A', c', rfl, own, hx⟩; exact ⟨_, rfl, hx, A', c', rfl, own.rb⟩
      · refine stepE rfl fun sdn sa sw sE sd sk => ?_
        obtain ⟨A122, c122, h122, r122⟩ := sk.fact 6 122 rfl (sd 6 rfl)
        refine Runs.of_run (r := .agg #[.int .i64 ((-1 : Int)), .slice (A122) (32) (c122)]) (w' := sw) ?_ ⟨Ext.refl _, ⟨_, _, r122, rfl⟩⟩
        unfold execOp
        simp only [List.map_toArray, List.map_cons, List.map_nil, h122]
        go_simp
      · refine stepE rfl fun sdn sa sw sE sd sk => ?_
        have h121 : sa.eval (.tmp 121) = .slice (BO) (32) (cO1) := sk.fact 5 121 rfl (sd 5 rfl)
        obtain ⟨A123x0, c123x0, r123x0, h123⟩ := sk.fact 7 123 rfl (sd 7 rfl)
        replace h123 : sa.eval (.tmp 123) = .agg #[.int .i64 ((-1 : Int)), .slice (A123x0) (32) (c123x0)] := h123
        refine Runs.call (f := 40) (vs := [.slice (BO) (32) (cO1), .int .i64 ((0 : Int)), .int .i64 ((0 : Int)), .agg #[.int .i64 ((-1 : Int)), .slice (A123x0) (32) (c123x0)]]) rfl rfl rfl (by simp only [List.map_toArray, List.map_cons, List.map_nil, h121, h123] <;> rfl) (ent40 _ _) ((cosign_no _ _ _ _ _ _ _ _ _ _ sw (by decide) r123x0 hneg'.out).mono ?_); rintro e w' ⟨rfl, hx⟩; exact ⟨_, rfl, hx, rfl⟩
      · refine stepE rfl fun sdn sa sw sE sd sk => ?_
        have h124 : sa.eval (.tmp 124) = .tuple #[.agg #[.int .i64 ((0 : Int)), .int .i64 ((0 : Int)), .slice (none) (0) (0), .slice (none) (0) (0)], .int .i64 ((12 : Int))] := sk.fact 8 124 rfl (sd 8 rfl)
        exact Runs.move rfl h124 ⟨Ext.refl _, rfl⟩
      · refine stepE rfl fun sdn sa sw sE sd sk => ?_
        have h115 : sa.eval (.tmp 115) = .tuple #[.agg #[.int .i64 ((0 : Int)), .int .i64 ((0 : Int)), .slice (none) (0) (0), .slice (none) (0) (0)], .int .i64 ((12 : Int))] := sk.fact 9 115 rfl (sd 9 rfl)
        refine Runs.of_run (r := .agg #[.int .i64 ((0 : Int)), .int .i64 ((0 : Int)), .slice (none) (0) (0), .slice (none) (0) (0)]) (w' := sw) ?_ ⟨Ext.refl _, rfl⟩
        unfold execOp
        simp only [h115]
        go_simp
      · refine stepE rfl fun sdn sa sw sE sd sk => ?_
        have h115 : sa.eval (.tmp 115) = .tuple #[.agg #[.int .i64 ((0 : Int)), .int .i64 ((0 : Int)), .slice (none) (0) (0), .slice (none) (0) (0)], .int .i64 ((12 : Int))] := sk.fact 9 115 rfl (sd 9 rfl)
        refine Runs.of_run (r := .int .i64 ((12 : Int))) (w' := sw) ?_ ⟨Ext.refl _, rfl⟩
        unfold execOp
        simp only [h115]
        go_simp
      · refine stepE rfl fun sdn sa sw sE sd sk => ?_
        refine Runs.of_run (r := .pointer (some ⟨sw.heap.size, 0, none⟩)) (w' := sw.alloc (.cells #[.int .i64 ((0 : Int)), .int .i64 ((0 : Int)), .slice (none) (0) (0), .slice (none) (0) (0)] 69)) ?_ ⟨Ext.new _ _, _, rfl, Blk.new _ _ _, sE.size⟩
        unfold execOp
        go_simp
      intro vals W27 hE27 hv27 gst vst hgst hvst
      have e0 : vals 0 = .slice ((some ⟨gA, 0, none⟩)) (4) (c) := hv27 0 (by omega) 116 rfl
      have e1 : vals 1 = .pointer (some ((⟨gA, 0, none⟩ : Addr).add (0))) := hv27 1 (by omega) 117 rfl
      have e2 : vals 2 = .pointer (some ⟨gO, 0, none⟩) := hv27 2 (by omega) 118 rfl
      have e3 : vals 3 = .pointer (some ⟨gO, 0, none⟩) := hv27 3 (by omega) 119 rfl
      have e4 : vals 4 = .pointer (some ⟨gO, 0, none⟩) := hv27 4 (by omega) 120 rfl
      have e5 : vals 5 = .slice (BO) (32) (cO1) := hv27 5 (by omega) 121 rfl
      obtain ⟨A122, c122, e6, r122⟩ := hv27 6 (by omega) 122 rfl
      obtain ⟨A123x0, c123x0, r123x0, e7⟩ := hv27 7 (by omega) 123 rfl
      replace e7 : vals 7 = .agg #[.int .i64 ((-1 : Int)), .slice (A123x0) (32) (c123x0)] := e7
      have e8 : vals 8 = .tuple #[.agg #[.int .i64 ((0 : Int)), .int .i64 ((0 : Int)), .slice (none) (0) (0), .slice (none) (0) (0)], .int .i64 ((12 : Int))] := hv27 8 (by omega) 124 rfl
      have e9 : vals 9 = .tuple #[.agg #[.int .i64 ((0 : Int)), .int .i64 ((0 : Int)), .slice (none) (0) (0), .slice (none) (0) (0)], .int .i64 ((12 : Int))] := hv27 9 (by omega) 115 rfl
      have e10 : vals 10 = .agg #[.int .i64 ((0 : Int)), .int .i64 ((0 : Int)), .slice (none) (0) (0), .slice (none) (0) (0)] := hv27 10 (by omega) 125 rfl
      have e11 : vals 11 = .int .i64 ((12 : Int)) := hv27 11 (by omega) 126 rfl
      obtain ⟨g14, e12, hb14, gb14⟩ := hv27 12 (by omega) 14 rfl
      obtain rfl : gst = g14 := pointer_eq hgst e12
      obtain rfl : vst = #[.int .i64 ((0 : Int)), .int .i64 ((0 : Int)), .slice (none) (0) (0), .slice (none) (0) (0)] := Value.agg.inj (hvst.symm.trans e10)
      simp only [putAll, Act.put, List.take_succ_cons, List.take_zero, List.drop_succ_cons, List.drop_zero, List.drop_nil, List.take_nil, Nat.reduceAdd, List.setIfInBounds_toArray, List.set_cons_succ, List.set_cons_zero, e0, e1, e2, e3, e4, e5, e6, e7, e8, e9, e10, e11, e12]
      clear hv27 e0 e1 e2 e3 e4 e5 e6 e7 e8 e9 e10 e11 e12 hgst hvst
      have hGt := grown_setCells gst (#[.int .i64 ((0 : Int)), .int .i64 ((0 : Int)), .slice (none) (0) (0), .slice (none) (0) (0)] : Array Value).toList 0 W27
      have hB27 := hb14.setAll (vs := #[.int .i64 ((0 : Int)), .int .i64 ((0 : Int)), .slice (none) (0) (0), .slice (none) (0) (0)]) rfl
      have hE27s := hE27.then_grown hGt (by intro k hk; cases hk; exact gb14)
      clear hGt hb14 gb14
      generalize W27.setCells gst 0 (#[.int .i64 ((0 : Int)), .int .i64 ((0 : Int)), .slice (none) (0) (0), .slice (none) (0) (0)] : Array Value).toList = W27b at *
      replace hcO : W27b.cell? ((⟨gA, 0, none⟩ : Addr).add 0) = some (.pointer (some ⟨gO, 0, none⟩)) := hE27s.cell hcO
      replace rR := rR.ext hE27s
      replace hB2 := hB2.ext hE27s
      replace hB1110 := hB1110.ext hE27s
      replace rG10 := rG10.ext hE27s
      replace oP10 := oP10.ext hE27s
      replace hB122 := hB122.ext hE27s
      replace rG22 := rG22.ext hE27s
      replace rQ22 := rQ22.ext hE27s
      replace hB133 := hB133.ext hE27s
      replace oQ33 := oQ33.ext hE27s
      replace rS := rS.ext hE27s
      replace hBO := hBO.ext hE27s
      replace hEa := hEa.trans hE27s
      clear hE27 hE27s hB27
      go_upto_region 28 with (fail)
      refine par_tup (n := 12) (jp := 11) (jq := 9) 10 4 (by kernel_rfl) [.is (.slice ((some ⟨gA, 0, none⟩)) (4) (c)), .is (.pointer (some ((⟨gA, 0, none⟩ : Addr).add (0)))), .is (.pointer (some ⟨gO, 0, none⟩)), .is (.pointer (some ⟨gO, 0, none⟩)), .is (.pointer (some ⟨gO, 0, none⟩)), .is (.slice (BO) (32) (cO1)), .is (.agg #[.int .i64 (2), .slice (B) (32) (d)]), .is (.tuple #[.agg #[.int .i64 ((0 : Int)), .int .i64 ((0 : Int)), .slice (none) (0) (0), .slice (none) (0) (0)], .int .i64 ((23 : Int))]), .is (.tuple #[.agg #[.int .i64 ((0 : Int)), .int .i64 ((0 : Int)), .slice (none) (0) (0), .slice (none) (0) (0)], .int .i64 ((23 : Int))]), .is (.agg #[.int .i64 ((0 : Int)), .int .i64 ((0 : Int)), .slice (none) (0) (0), .slice (none) (0) (0)]), .is (.int .i64 ((23 : Int))), .bk (W27b.heap.size) 69 #[.int .i64 ((0 : Int)), .int .i64 ((0 : Int)), .slice (none) (0) (0), .slice (none) (0) (0)]] rfl rfl rfl rfl rfl rfl rfl rfl rfl rfl rfl (by decide) (by decide) (by decide) (by decide) (tup_bk _ rfl) (tup_is _ rfl rfl) (by kernel_rfl) ⟨?_, ?_, ?_, ?_, ?_, ?_, ?_, ?_, ?_, ?_, ?_, ?_, trivial⟩ ?_
      · refine stepE rfl fun sdn sa sw sE sd sk => ?_
        have h1 : sa.eval (.tmp 1) = .slice ((some ⟨gA, 0, none⟩)) (4) (c) := sk.old 1 rfl
        exact Runs.move rfl h1 ⟨Ext.refl _, rfl⟩
      · refine stepE rfl fun sdn sa sw sE sd sk => ?_
        have h128 : sa.eval (.tmp 128) = .slice ((some ⟨gA, 0, none⟩)) (4) (c) := sk.fact 0 128 rfl (sd 0 rfl)
        exact Runs.idx rfl h128 rfl (run_idx_sl1 Try.underlying65 infO_eq infO_size (0) (by omega) (by omega)) ⟨Ext.refl _, rfl⟩
      · refine stepE rfl fun sdn sa sw sE sd sk => ?_
        have h129 : sa.eval (.tmp 129) = .pointer (some ((⟨gA, 0, none⟩ : Addr).add (0))) := sk.fact 1 129 rfl (sd 1 rfl)
        exact Runs.load rfl h129 (run_load1 Try.underlying75 rfl (sE.cell hcO)) ⟨Ext.refl _, rfl⟩
      · refine stepE rfl fun sdn sa sw sE sd sk => ?_
        have h130 : sa.eval (.tmp 130) = .pointer (some ⟨gO, 0, none⟩) := sk.fact 2 130 rfl (sd 2 rfl)
        exact Runs.nil_ rfl h130 ⟨Ext.refl _, rfl⟩
      · refine stepE rfl fun sdn sa sw sE sd sk => ?_
        have h131 : sa.eval (.tmp 131) = .pointer (some ⟨gO, 0, none⟩) := sk.fact 3 131 rfl (sd 3 rfl)
        refine Runs.of_run (r := .pointer (some ⟨gO, 0, none⟩)) (w' := sw) ?_ ⟨Ext.refl _, rfl⟩
        unfold execOp
        simp only [h131]
        go_simp
      · refine stepE rfl fun sdn sa sw sE sd sk => ?_
        have h132 : sa.eval (.tmp 132) = .pointer (some ⟨gO, 0, none⟩) := sk.fact 4 132 rfl (sd 4 rfl)
        exact Runs.load rfl h132 (run_load1 Try.underlying22 rfl ((hBO.ext sE).cell (i := 0) rfl)) ⟨Ext.refl _, rfl⟩
      · refine stepE rfl fun sdn sa sw sE sd sk => ?_
        have h2 : sa.eval (.tmp 2) = .pointer (some ⟨g2, 0, none⟩) := sk.old 2 rfl
        exact Runs.load rfl h2 (load_part (hB2.ext sE) 0 (vs := [.int .i64 (2), .slice (B) (32) (d)]) rfl Try.underlying24 rfl (by kernel_rfl)) ⟨Ext.refl _, rfl⟩
      · refine stepE rfl fun sdn sa sw sE sd sk => ?_
        have h133 : sa.eval (.tmp 133) = .slice (BO) (32) (cO1) := sk.fact 5 133 rfl (sd 5 rfl)
        have h134 : sa.eval (.tmp 134) = .agg #[.int .i64 (2), .slice (B) (32) (d)] := sk.fact 6 134 rfl (sd 6 rfl)
        refine Runs.call (f := 40) (vs := [.slice (BO) (32) (cO1), .int .i64 ((16 : Int)), .int .i64 ((0 : Int)), .agg #[.int .i64 (2), .slice (B) (32) (d)]]) rfl rfl rfl (by simp only [List.map_toArray, List.map_cons, List.map_nil, h133, h134] <;> rfl) (ent40 _ _) ((cosign_used _ _ _ _ _ _ _ _ _ _ sw (rS.ext sE) (by decide) (rR.ext sE) Hc.out (by decide)).mono ?_); rintro e w' ⟨rfl, hx⟩; exact ⟨_, rfl, hx, rfl⟩
      · refine stepE rfl fun sdn sa sw sE sd sk => ?_
        have h135 : sa.eval (.tmp 135) = .tuple #[.agg #[.int .i64 ((0 : Int)), .int .i64 ((0 : Int)), .slice (none) (0) (0), .slice (none) (0) (0)], .int .i64 ((23 : Int))] := sk.fact 7 135 rfl (sd 7 rfl)
        exact Runs.move rfl h135 ⟨Ext.refl _, rfl⟩
      · refine stepE rfl fun sdn sa sw sE sd sk => ?_
        have h127 : sa.eval (.tmp 127) = .tuple #[.agg #[.int .i64 ((0 : Int)), .int .i64 ((0 : Int)), .slice (none) (0) (0), .slice (none) (0) (0)], .int .i64 ((23 : Int))] := sk.fact 8 127 rfl (sd 8 rfl)
        refine Runs.of_run (r := .agg #[.int .i64 ((0 : Int)), .int .i64 ((0 : Int)), .slice (none) (0) (0), .slice (none) (0) (0)]) (w' := sw) ?_ ⟨Ext.refl _, rfl⟩
        unfold execOp
        simp only [h127]
        go_simp
      · refine stepE rfl fun sdn sa sw sE sd sk => ?_
        have h127 : sa.eval (.tmp 127) = .tuple #[.agg #[.int .i64 ((0 : Int)), .int .i64 ((0 : Int)), .slice (none) (0) (0), .slice (none) (0) (0)], .int .i64 ((23 : Int))] := sk.fact 8 127 rfl (sd 8 rfl)
        refine Runs.of_run (r := .int .i64 ((23 : Int))) (w' := sw) ?_ ⟨Ext.refl _, rfl⟩
        unfold execOp
        simp only [h127]
        go_simp
      · refine stepE rfl fun sdn sa sw sE sd sk => ?_
        refine Runs.of_run (r := .pointer (some ⟨sw.heap.size, 0, none⟩)) (w' := sw.alloc (.cells #[.int .i64 ((0 : Int)), .int .i64 ((0 : Int)), .slice (none) (0) (0), .slice (none) (0) (0)] 69)) ?_ ⟨Ext.new _ _, _, rfl, Blk.new _ _ _, sE.size⟩
        unfold execOp
        go_simp
      intro vals W28 hE28 hv28 gst vst hgst hvst
      have e0 : vals 0 = .slice ((some ⟨gA, 0, none⟩)) (4) (c) := hv28 0 (by omega) 128 rfl
      have e1 : vals 1 = .pointer (some ((⟨gA, 0, none⟩ : Addr).add (0))) := hv28 1 (by omega) 129 rfl
      have e2 : vals 2 = .pointer (some ⟨gO, 0, none⟩) := hv28 2 (by omega) 130 rfl
      have e3 : vals 3 = .pointer (some ⟨gO, 0, none⟩) := hv28 3 (by omega) 131 rfl
      have e4 : vals 4 = .pointer (some ⟨gO, 0, none⟩) := hv28 4 (by omega) 132 rfl
      have e5 : vals 5 = .slice (BO) (32) (cO1) := hv28 5 (by omega) 133 rfl
      have e6 : vals 6 = .agg #[.int .i64 (2), .slice (B) (32) (d)] := hv28 6 (by omega) 134 rfl
      have e7 : vals 7 = .tuple #[.agg #[.int .i64 ((0 : Int)), .int .i64 ((0 : Int)), .slice (none) (0) (0), .slice (none) (0) (0)], .int .i64 ((23 : Int))] := hv28 7 (by omega) 135 rfl
      have e8 : vals 8 = .tuple #[.agg #[.int .i64 ((0 : Int)), .int .i64 ((0 : Int)), .slice (none) (0) (0), .slice (none) (0) (0)], .int .i64 ((23 : Int))] := hv28 8 (by omega) 127 rfl
      have e9 : vals 9 = .agg #[.int .i64 ((0 : Int)), .int .i64 ((0 : Int)), .slice (none) (0) (0), .slice (none) (0) (0)] := hv28 9 (by omega) 136 rfl
      have e10 : vals 10 = .int .i64 ((23 : Int)) := hv28 10 (by omega) 137 rfl
      obtain ⟨g16, e11, hb16, gb16⟩ := hv28 11 (by omega) 16 rfl
      obtain rfl : gst = g16 := pointer_eq hgst e11
      obtain rfl : vst = #[.int .i64 ((0 : Int)), .int .i64 ((0 : Int)), .slice (none) (0) (0), .slice (none) (0) (0)] := Value.agg.inj (hvst.symm.trans e9)
      simp only [putAll, Act.put, List.take_succ_cons, List.take_zero, List.drop_succ_cons, List.drop_zero, List.drop_nil, List.take_nil, Nat.reduceAdd, List.setIfInBounds_toArray, List.set_cons_succ, List.set_cons_zero, e0, e1, e2, e3, e4, e5, e6, e7, e8, e9, e10, e11]
      clear hv28 e0 e1 e2 e3 e4 e5 e6 e7 e8 e9 e10 e11 hgst hvst
      have hGt := grown_setCells gst (#[.int .i64 ((0 : Int)), .int .i64 ((0 : Int)), .slice (none) (0) (0), .slice (none) (0) (0)] : Array Value).toList 0 W28
      have hB28 := hb16.setAll (vs := #[.int .i64 ((0 : Int)), .int .i64 ((0 : Int)), .slice (none) (0) (0), .slice (none) (0) (0)]) rfl
      have hE28s := hE28.then_grown hGt (by intro k hk; cases hk; exact gb16)
      clear hGt hb16 gb16
      generalize W28.setCells gst 0 (#[.int .i64 ((0 : Int)), .int .i64 ((0 : Int)), .slice (none) (0) (0), .slice (none) (0) (0)] : Array Value).toList = W28b at *
      replace rR := rR.ext hE28s
      replace hB2 := hB2.ext hE28s
      replace hB1110 := hB1110.ext hE28s
      replace rG10 := rG10.ext hE28s
      replace oP10 := oP10.ext hE28s
      replace hB122 := hB122.ext hE28s
      replace rG22 := rG22.ext hE28s
      replace rQ22 := rQ22.ext hE28s
      replace hB133 := hB133.ext hE28s
      replace oQ33 := oQ33.ext hE28s
      replace hEa := hEa.trans hE28s
      clear hE28 hE28s hB28 hcO rS hBO
      go_upto_region 29 with (fail)
      have rP10 := oP10.rbb
      have rQ33 := oQ33.rbb
      have hp5 : polB (khash 9) (keys 4 ++ [khash 1]) 1 = false := pol_five (by rw [List.length_append, keys_length]; decide)
      have hp2 : polB (khash 9) [a, a] 1 = false := pol_twice
      generalize keys 4 ++ [khash 1] = K5 at *
      generalize [a, a] = K2 at *
      generalize (List.range 1).map (fun j => ownP (lb (Ss.take 1) j)) = K1 at *
      have hp1 : polB [] K1 1 = false := pol_log
      have hp0 : polB [] [] 0 = false := pol_log
      generalize khash 9 = H9 at *
      refine par_ext (n := 38) (by kernel_rfl) [.is (.agg #[.slice (G1) (32) (cg1), .slice (P5) (5) (c5), .int .i64 (1)]), .is (.bool (false)), .is (.bool (true)), .is (.bool (true)), .is (.agg #[.slice (G2) (32) (cg2), .slice ((some ⟨gQ, 0, none⟩)) (2) (dq2), .int .i64 (1)]), .is (.bool (false)), .is (.bool (true)), .is (.bool (true)), .is (.bool (true)), .is (.agg #[.slice (none) (0) (0), .slice (Q3) (1) (dq3), .int .i64 (1)]), .is (.bool (false)), .is (.bool (true)), .is (.bool (true)), .is (.bool (true)), .is (.agg #[.slice (none) (0) (0), .slice (none) (0) (0), .int .i64 ((0 : Int))]), .is (.bool (false)), .is (.bool (true)), .is (.bool (true)), .is (.bool (true)), .is (.int .i64 ((12 : Int))), .is (.bool (true)), .is (.bool (true)), .is (.bool (true)), .is (.int .i64 ((23 : Int))), .is (.bool (true)), .is (.bool (true)), .is (.bool (true)), .is (.agg #[.int .i64 (2), .slice (B) (32) (d)]), .rk (53) (bodyC cosignL 2 R), .is (.string (str (bodyC cosignL 2 R))), .is (.agg #[.int .i64 (2), .slice (B) (32) (d)]), .rb (bodyC cosignL 2 R), .is (.string (str (bodyC cosignL 2 R))), .is (.bool (true)), .is (.bool (true)), .is (.bool (true)), .is (.bool (true)), .is (.bool (true))] rfl ⟨?_, ?_, ?_, ?_, ?_, ?_, ?_, ?_, ?_, ?_, ?_, ?_, ?_, ?_, ?_, ?_, ?_, ?_, ?_, ?_, ?_, ?_, ?_, ?_, ?_, ?_, ?_, ?_, ?_, ?_, ?_, ?_, ?_, ?_, ?_, ?_, ?_, ?_, trivial⟩ ?_
      · refine stepE rfl fun sdn sa sw sE sd sk => ?_
        have h11 : sa.eval (.tmp 11) = .pointer (some ⟨g11, 0, none⟩) := sk.old 11 rfl
        exact Runs.load rfl h11 (load_part (hB1110.ext sE) 0 (vs := [.slice (G1) (32) (cg1), .slice (P5) (5) (c5), .int .i64 (1)]) rfl Try.underlying77 rfl (by kernel_rfl)) ⟨Ext.refl _, rfl⟩
      · refine stepE rfl fun sdn sa sw sE sd sk => ?_
        have h138 : sa.eval (.tmp 138) = .agg #[.slice (G1) (32) (cg1), .slice (P5) (5) (c5), .int .i64 (1)] := sk.fact 0 138 rfl (sd 0 rfl)
        refine Runs.call (f := 42) (vs := [.agg #[.slice (G1) (32) (cg1), .slice (P5) (5) (c5), .int .i64 (1)]]) rfl rfl rfl (by simp only [List.map_toArray, List.map_cons, List.map_nil, h138] <;> rfl) (ent42 _ _) ((cosright_any _ _ _ _ _ _ _ _ _ sw (rG10.ext sE) (rP10.ext sE)).mono ?_); rintro e w' ⟨rfl, hx⟩; exact ⟨_, rfl, hx, congrArg Value.bool (hp5)⟩
      · refine stepE rfl fun sdn sa sw sE sd sk => ?_
        have h139 : sa.eval (.tmp 139) = .bool (false) := sk.fact 1 139 rfl (sd 1 rfl)
        exact Runs.un rfl h139 (by rfl) ⟨Ext.refl _, rfl⟩
      · refine stepE rfl fun sdn sa sw sE sd sk => ?_
        have h140 : sa.eval (.tmp 140) = .bool (true) := sk.fact 2 140 rfl (sd 2 rfl)
        exact Runs.move rfl h140 ⟨Ext.refl _, rfl⟩
      · refine stepY (j := 3) (d := 141) (b := true) rfl rfl rfl (fun v w h => h) fun sdn sa sw sE sd sk => ?_
        have h12 : sa.eval (.tmp 12) = .pointer (some ⟨g12, 0, none⟩) := sk.old 12 rfl
        exact Runs.load rfl h12 (load_part (hB122.ext sE) 0 (vs := [.slice (G2) (32) (cg2), .slice ((some ⟨gQ, 0, none⟩)) (2) (dq2), .int .i64 (1)]) rfl Try.underlying77 rfl (by kernel_rfl)) ⟨Ext.refl _, rfl⟩
      · refine stepY (j := 3) (d := 141) (b := true) rfl rfl rfl (fun v w h => h) fun sdn sa sw sE sd sk => ?_
        have h142 : sa.eval (.tmp 142) = .agg #[.slice (G2) (32) (cg2), .slice ((some ⟨gQ, 0, none⟩)) (2) (dq2), .int .i64 (1)] := sk.fact 4 142 rfl (sd 4 rfl)
        refine Runs.call (f := 42) (vs := [.agg #[.slice (G2) (32) (cg2), .slice ((some ⟨gQ, 0, none⟩)) (2) (dq2), .int .i64 (1)]]) rfl rfl rfl (by simp only [List.map_toArray, List.map_cons, List.map_nil, h142] <;> rfl) (ent42 _ _) ((cosright_any _ _ _ _ _ _ _ _ _ sw (rG22.ext sE) (rQ22.ext sE)).mono ?_); rintro e w' ⟨rfl, hx⟩; exact ⟨_, rfl, hx, congrArg Value.bool (hp2)⟩
      · refine stepY (j := 3) (d := 141) (b := true) rfl rfl rfl (fun v w h => h) fun sdn sa sw sE sd sk => ?_
        have h143 : sa.eval (.tmp 143) = .bool (false) := sk.fact 5 143 rfl (sd 5 rfl)
        exact Runs.un rfl h143 (by rfl) ⟨Ext.refl _, rfl⟩
      · refine stepE rfl fun sdn sa sw sE sd sk => ?_
        have h141 : sa.eval (.tmp 141) = .bool (true) := sk.fact 3 141 rfl (sd 3 rfl)
        have h144 : sa.eval (.tmp 144) = .bool (true) := sk.fact 6 144 rfl (sd 6 rfl)
        exact Runs.pick rfl h141 ⟨Ext.refl _, by first | exact h144 | simpa using h144⟩
      · refine stepE rfl fun sdn sa sw sE sd sk => ?_
        have h145 : sa.eval (.tmp 145) = .bool (true) := sk.fact 7 145 rfl (sd 7 rfl)
        exact Runs.move rfl h145 ⟨Ext.refl _, rfl⟩
      · refine stepY (j := 8) (d := 146) (b := true) rfl rfl rfl (fun v w h => h) fun sdn sa sw sE sd sk => ?_
        have h13 : sa.eval (.tmp 13) = .pointer (some ⟨g13, 0, none⟩) := sk.old 13 rfl
        exact Runs.load rfl h13 (load_part (hB133.ext sE) 0 (vs := [.slice (none) (0) (0), .slice (Q3) (1) (dq3), .int .i64 (1)]) rfl Try.underlying77 rfl (by kernel_rfl)) ⟨Ext.refl _, rfl⟩
      · refine stepY (j := 8) (d := 146) (b := true) rfl rfl rfl (fun v w h => h) fun sdn sa sw sE sd sk => ?_
        have h147 : sa.eval (.tmp 147) = .agg #[.slice (none) (0) (0), .slice (Q3) (1) (dq3), .int .i64 (1)] := sk.fact 9 147 rfl (sd 9 rfl)
        refine Runs.call (f := 42) (vs := [.agg #[.slice (none) (0) (0), .slice (Q3) (1) (dq3), .int .i64 (1)]]) rfl rfl rfl (by simp only [List.map_toArray, List.map_cons, List.map_nil, h147] <;> rfl) (ent42 _ _) ((cosright_any _ _ _ _ _ _ _ _ _ sw (RB.nil_ _) (rQ33.ext sE)).mono ?_); rintro e w' ⟨rfl, hx⟩; exact ⟨_, rfl, hx, congrArg Value.bool (hp1)⟩
      · refine stepY (j := 8) (d := 146) (b := true) rfl rfl rfl (fun v w h => h) fun sdn sa sw sE sd sk => ?_
        have h148 : sa.eval (.tmp 148) = .bool (false) := sk.fact 10 148 rfl (sd 10 rfl)
        exact Runs.un rfl h148 (by rfl) ⟨Ext.refl _, rfl⟩
      · refine stepE rfl fun sdn sa sw sE sd sk => ?_
        have h146 : sa.eval (.tmp 146) = .bool (true) := sk.fact 8 146 rfl (sd 8 rfl)
        have h149 : sa.eval (.tmp 149) = .bool (true) := sk.fact 11 149 rfl (sd 11 rfl)
        exact Runs.pick rfl h146 ⟨Ext.refl _, by first | exact h149 | simpa using h149⟩
      · refine stepE rfl fun sdn sa sw sE sd sk => ?_
        have h150 : sa.eval (.tmp 150) = .bool (true) := sk.fact 12 150 rfl (sd 12 rfl)
        exact Runs.move rfl h150 ⟨Ext.refl _, rfl⟩
      · refine stepY (j := 13) (d := 151) (b := true) rfl rfl rfl (fun v w h => h) fun sdn sa sw sE sd sk => ?_
        refine Runs.of_run (r := .agg #[.slice (none) (0) (0), .slice (none) (0) (0), .int .i64 ((0 : Int))]) (w' := sw) ?_ ⟨Ext.refl _, rfl⟩
        unfold execOp
        simp only [List.map_toArray, List.map_cons, List.map_nil]
        go_simp
      · refine stepY (j := 13) (d := 151) (b := true) rfl rfl rfl (fun v w h => h) fun sdn sa sw sE sd sk => ?_
        have h152 : sa.eval (.tmp 152) = .agg #[.slice (none) (0) (0), .slice (none) (0) (0), .int .i64 ((0 : Int))] := sk.fact 14 152 rfl (sd 14 rfl)
        refine Runs.call (f := 42) (vs := [.agg #[.slice (none) (0) (0), .slice (none) (0) (0), .int .i64 ((0 : Int))]]) rfl rfl rfl (by simp only [List.map_toArray, List.map_cons, List.map_nil, h152] <;> rfl) (ent42 _ _) ((cosright_any _ _ _ _ _ _ _ _ _ sw (RB.nil_ _) (RBB.nil_ _)).mono ?_); rintro e w' ⟨rfl, hx⟩; exact ⟨_, rfl, hx, congrArg Value.bool (hp0)⟩
      · refine stepY (j := 13) (d := 151) (b := true) rfl rfl rfl (fun v w h => h) fun sdn sa sw sE sd sk => ?_
        have h153 : sa.eval (.tmp 153) = .bool (false) := sk.fact 15 153 rfl (sd 15 rfl)
        exact Runs.un rfl h153 (by rfl) ⟨Ext.refl _, rfl⟩
      · refine stepE rfl fun sdn sa sw sE sd sk => ?_
        have h151 : sa.eval (.tmp 151) = .bool (true) := sk.fact 13 151 rfl (sd 13 rfl)
        have h154 : sa.eval (.tmp 154) = .bool (true) := sk.fact 16 154 rfl (sd 16 rfl)
        exact Runs.pick rfl h151 ⟨Ext.refl _, by first | exact h154 | simpa using h154⟩
      · refine stepE rfl fun sdn sa sw sE sd sk => ?_
        have h155 : sa.eval (.tmp 155) = .bool (true) := sk.fact 17 155 rfl (sd 17 rfl)
        exact Runs.move rfl h155 ⟨Ext.refl _, rfl⟩
      · refine stepY (j := 18) (d := 156) (b := true) rfl rfl rfl (fun v w h => h) fun sdn sa sw sE sd sk => ?_
        have h15 : sa.eval (.tmp 15) = .int .i64 ((12 : Int)) := sk.old 15 rfl
        exact Runs.move rfl h15 ⟨Ext.refl _, rfl⟩
      · refine stepY (j := 18) (d := 156) (b := true) rfl rfl rfl (fun v w h => h) fun sdn sa sw sE sd sk => ?_
        have h157 : sa.eval (.tmp 157) = .int .i64 ((12 : Int)) := sk.fact 19 157 rfl (sd 19 rfl)
        exact Runs.bin rfl h157 rfl (by rfl) (bin_eql _ _ _ _) ⟨Ext.refl _, congrArg Value.bool (by decide)⟩
      · refine stepE rfl fun sdn sa sw sE sd sk => ?_
        have h156 : sa.eval (.tmp 156) = .bool (true) := sk.fact 18 156 rfl (sd 18 rfl)
        have h158 : sa.eval (.tmp 158) = .bool (true) := sk.fact 20 158 rfl (sd 20 rfl)
        exact Runs.pick rfl h156 ⟨Ext.refl _, by first | exact h158 | simpa using h158⟩
      · refine stepE rfl fun sdn sa sw sE sd sk => ?_
        have h159 : sa.eval (.tmp 159) = .bool (true) := sk.fact 21 159 rfl (sd 21 rfl)
        exact Runs.move rfl h159 ⟨Ext.refl _, rfl⟩
      · refine stepY (j := 22) (d := 160) (b := true) rfl rfl rfl (fun v w h => h) fun sdn sa sw sE sd sk => ?_
        have h17 : sa.eval (.tmp 17) = .int .i64 ((23 : Int)) := sk.old 17 rfl
        exact Runs.move rfl h17 ⟨Ext.refl _, rfl⟩
      · refine stepY (j := 22) (d := 160) (b := true) rfl rfl rfl (fun v w h => h) fun sdn sa sw sE sd sk => ?_
        have h161 : sa.eval (.tmp 161) = .int .i64 ((23 : Int)) := sk.fact 23 161 rfl (sd 23 rfl)
        exact Runs.bin rfl h161 rfl (by rfl) (bin_eql _ _ _ _) ⟨Ext.refl _, congrArg Value.bool (by decide)⟩
      · refine stepE rfl fun sdn sa sw sE sd sk => ?_
        have h160 : sa.eval (.tmp 160) = .bool (true) := sk.fact 22 160 rfl (sd 22 rfl)
        have h162 : sa.eval (.tmp 162) = .bool (true) := sk.fact 24 162 rfl (sd 24 rfl)
        exact Runs.pick rfl h160 ⟨Ext.refl _, by first | exact h162 | simpa using h162⟩
      · refine stepE rfl fun sdn sa sw sE sd sk => ?_
        have h163 : sa.eval (.tmp 163) = .bool (true) := sk.fact 25 163 rfl (sd 25 rfl)
        exact Runs.move rfl h163 ⟨Ext.refl _, rfl⟩
      · refine stepY (j := 26) (d := 164) (b := true) rfl rfl rfl (fun v w h => h) fun sdn sa sw sE sd sk => ?_
        have h2 : sa.eval (.tmp 2) = .pointer (some ⟨g2, 0, none⟩) := sk.old 2 rfl
        exact Runs.load rfl h2 (load_part (hB2.ext sE) 0 (vs := [.int .i64 (2), .slice (B) (32) (d)]) rfl Try.underlying24 rfl (by kernel_rfl)) ⟨Ext.refl _, rfl⟩
      · refine stepY (j := 26) (d := 164) (b := true) rfl rfl rfl (fun v w h => h) fun sdn sa sw sE sd sk => ?_
        have h165 : sa.eval (.tmp 165) = .agg #[.int .i64 (2), .slice (B) (32) (d)] := sk.fact 27 165 rfl (sd 27 rfl)
        refine Runs.call (f := 45) (vs := [.agg #[.int .i64 (2), .slice (B) (32) (d)]]) rfl rfl rfl (by simp only [List.map_toArray, List.map_cons, List.map_nil, h165] <;> rfl) (ent45 _ _) ((cosbody_53 _ _ _ _ _ sw (rR.ext sE) (Hc.out)).mono ?_); rintro e w' ⟨A', c', rfl, own, hx⟩; exact ⟨_, rfl, hx, A', c', rfl, own⟩
      · refine stepY (j := 26) (d := 164) (b := true) rfl rfl rfl (fun v w h => h) fun sdn sa sw sE sd sk => ?_
        obtain ⟨A166, c166, h166, r166⟩ := sk.fact 28 166 rfl (sd 28 rfl)
        exact Runs.conv rfl h166 (run_str r166) ⟨Ext.refl _, rfl⟩
      · refine stepY (j := 26) (d := 164) (b := true) rfl rfl rfl (fun v w h => h) fun sdn sa sw sE sd sk => ?_
        have h2 : sa.eval (.tmp 2) = .pointer (some ⟨g2, 0, none⟩) := sk.old 2 rfl
        exact Runs.load rfl h2 (load_part (hB2.ext sE) 0 (vs := [.int .i64 (2), .slice (B) (32) (d)]) rfl Try.underlying24 rfl (by kernel_rfl)) ⟨Ext.refl _, rfl⟩
      · refine stepY (j := 26) (d := 164) (b := true) rfl rfl rfl (fun v w h => h) fun sdn sa sw sE sd sk => ?_
        have h168 : sa.eval (.tmp 168) = .agg #[.int .i64 (2), .slice (B) (32) (d)] := sk.fact 30 168 rfl (sd 30 rfl)
        refine Runs.call (f := 46) (vs := [.agg #[.int .i64 (2), .slice (B) (32) (d)]]) rfl rfl rfl (by simp only [List.map_toArray, List.map_cons, List.map_nil, h168] <;> rfl) (ent46 _ _) ((rcos_any _ _ _ _ _ sw (rR.ext sE)).mono ?_); rintro e w' ⟨A', n', c', rfl, own, hx⟩; exact ⟨_, rfl, hx, A', n', c', rfl, own⟩
      · refine stepY (j := 26) (d := 164) (b := true) rfl rfl rfl (fun v w h => h) fun sdn sa sw sE sd sk => ?_
        obtain ⟨A169, n169, c169, h169, r169⟩ := sk.fact 31 169 rfl (sd 31 rfl)
        exact Runs.conv rfl h169 (run_str r169) ⟨Ext.refl _, rfl⟩
      · refine stepY (j := 26) (d := 164) (b := true) rfl rfl rfl (fun v w h => h) fun sdn sa sw sE sd sk => ?_
        have h167 : sa.eval (.tmp 167) = .string (str (bodyC cosignL 2 R)) := sk.fact 29 167 rfl (sd 29 rfl)
        have h170 : sa.eval (.tmp 170) = .string (str (bodyC cosignL 2 R)) := sk.fact 32 170 rfl (sd 32 rfl)
        exact Runs.bin rfl h167 h170 (by rfl) (bin_eqs _ _ _) ⟨Ext.refl _, congrArg Value.bool (by simp)⟩
      · refine stepE rfl fun sdn sa sw sE sd sk => ?_
        have h164 : sa.eval (.tmp 164) = .bool (true) := sk.fact 26 164 rfl (sd 26 rfl)
        have h171 : sa.eval (.tmp 171) = .bool (true) := sk.fact 33 171 rfl (sd 33 rfl)
        exact Runs.pick rfl h164 ⟨Ext.refl _, by first | exact h171 | simpa using h171⟩
      · refine stepE rfl fun sdn sa sw sE sd sk => ?_
        have h172 : sa.eval (.tmp 172) = .bool (true) := sk.fact 34 172 rfl (sd 34 rfl)
        exact Runs.move rfl h172 ⟨Ext.refl _, rfl⟩
      · refine stepY (j := 35) (d := 173) (b := true) rfl rfl rfl (fun v w h => h) fun sdn sa sw sE sd sk => ?_
        refine Runs.call (f := 47) (vs := []) rfl rfl rfl (by simp only [List.map_toArray, List.map_cons, List.map_nil] <;> rfl) (ent47 _ _) ((known11_any sw).mono ?_); rintro e w' ⟨rfl, hx⟩; exact ⟨_, rfl, hx, rfl⟩
      · refine stepE rfl fun sdn sa sw sE sd sk => ?_
        have h173 : sa.eval (.tmp 173) = .bool (true) := sk.fact 35 173 rfl (sd 35 rfl)
        have h174 : sa.eval (.tmp 174) = .bool (true) := sk.fact 36 174 rfl (sd 36 rfl)
        exact Runs.pick rfl h173 ⟨Ext.refl _, by first | exact h174 | simpa using h174⟩
      intro vals W29 hE29 hv29
      have e0 : vals 0 = .agg #[.slice (G1) (32) (cg1), .slice (P5) (5) (c5), .int .i64 (1)] := hv29 0 (by omega) 138 rfl
      have e1 : vals 1 = .bool (false) := hv29 1 (by omega) 139 rfl
      have e2 : vals 2 = .bool (true) := hv29 2 (by omega) 140 rfl
      have e3 : vals 3 = .bool (true) := hv29 3 (by omega) 141 rfl
      have e4 : vals 4 = .agg #[.slice (G2) (32) (cg2), .slice ((some ⟨gQ, 0, none⟩)) (2) (dq2), .int .i64 (1)] := hv29 4 (by omega) 142 rfl
      have e5 : vals 5 = .bool (false) := hv29 5 (by omega) 143 rfl
      have e6 : vals 6 = .bool (true) := hv29 6 (by omega) 144 rfl
      have e7 : vals 7 = .bool (true) := hv29 7 (by omega) 145 rfl
      have e8 : vals 8 = .bool (true) := hv29 8 (by omega) 146 rfl
      have e9 : vals 9 = .agg #[.slice (none) (0) (0), .slice (Q3) (1) (dq3), .int .i64 (1)] := hv29 9 (by omega) 147 rfl
      have e10 : vals 10 = .bool (false) := hv29 10 (by omega) 148 rfl
      have e11 : vals 11 = .bool (true) := hv29 11 (by omega) 149 rfl
      have e12 : vals 12 = .bool (true) := hv29 12 (by omega) 150 rfl
      have e13 : vals 13 = .bool (true) := hv29 13 (by omega) 151 rfl
      have e14 : vals 14 = .agg #[.slice (none) (0) (0), .slice (none) (0) (0), .int .i64 ((0 : Int))] := hv29 14 (by omega) 152 rfl
      have e15 : vals 15 = .bool (false) := hv29 15 (by omega) 153 rfl
      have e16 : vals 16 = .bool (true) := hv29 16 (by omega) 154 rfl
      have e17 : vals 17 = .bool (true) := hv29 17 (by omega) 155 rfl
      have e18 : vals 18 = .bool (true) := hv29 18 (by omega) 156 rfl
      have e19 : vals 19 = .int .i64 ((12 : Int)) := hv29 19 (by omega) 157 rfl
      have e20 : vals 20 = .bool (true) := hv29 20 (by omega) 158 rfl
      have e21 : vals 21 = .bool (true) := hv29 21 (by omega) 159 rfl
      have e22 : vals 22 = .bool (true) := hv29 22 (by omega) 160 rfl
      have e23 : vals 23 = .int .i64 ((23 : Int)) := hv29 23 (by omega) 161 rfl
      have e24 : vals 24 = .bool (true) := hv29 24 (by omega) 162 rfl
      have e25 : vals 25 = .bool (true) := hv29 25 (by omega) 163 rfl
      have e26 : vals 26 = .bool (true) := hv29 26 (by omega) 164 rfl
      have e27 : vals 27 = .agg #[.int .i64 (2), .slice (B) (32) (d)] := hv29 27 (by omega) 165 rfl
      obtain ⟨A166, c166, e28, r166⟩ := hv29 28 (by omega) 166 rfl
      have e29 : vals 29 = .string (str (bodyC cosignL 2 R)) := hv29 29 (by omega) 167 rfl
      have e30 : vals 30 = .agg #[.int .i64 (2), .slice (B) (32) (d)] := hv29 30 (by omega) 168 rfl
      obtain ⟨A169, n169, c169, e31, r169⟩ := hv29 31 (by omega) 169 rfl
      have e32 : vals 32 = .string (str (bodyC cosignL 2 R)) := hv29 32 (by omega) 170 rfl
      have e33 : vals 33 = .bool (true) := hv29 33 (by omega) 171 rfl
      have e34 : vals 34 = .bool (true) := hv29 34 (by omega) 172 rfl
      have e35 : vals 35 = .bool (true) := hv29 35 (by omega) 173 rfl
      have e36 : vals 36 = .bool (true) := hv29 36 (by omega) 174 rfl
      have e37 : vals 37 = .bool (true) := hv29 37 (by omega) 175 rfl
      simp only [putAll, Act.put, List.take_succ_cons, List.take_zero, List.drop_succ_cons, List.drop_zero, List.drop_nil, List.take_nil, Nat.reduceAdd, List.setIfInBounds_toArray, List.set_cons_succ, List.set_cons_zero, e0, e1, e2, e3, e4, e5, e6, e7, e8, e9, e10, e11, e12, e13, e14, e15, e16, e17, e18, e19, e20, e21, e22, e23, e24, e25, e26, e27, e28, e29, e30, e31, e32, e33, e34, e35, e36, e37]
      clear hv29 e0 e1 e2 e3 e4 e5 e6 e7 e8 e9 e10 e11 e12 e13 e14 e15 e16 e17 e18 e19 e20 e21 e22 e23 e24 e25 e26 e27 e28 e29 e30 e31 e32 e33 e34 e35 e36 e37
      go_wp2_with fail
      go_ret
      exact ⟨rfl, hEa.trans hE29⟩
end Go.Proofs.Ythggfbpdhkpkjaa
