/-
  law26's made, walked. Rows of byte slices, and where they lie. Worlds in which some blocks may have been turned; facts that stay whatever is turned there. Plain theorems.
-/
import Derived.Test.YtkndgpjamijbbaaLawCom26Q29
import Derived.Test.YtkndgpjamijbbaaLawCom26Q25
import Derived.Test.YtkndgpjamijbbaaLawCom26Q24
import Derived.Test.YtkndgpjamijbbaaLawCom26Q20
import Derived.Test.YtkndgpjamijbbaaLawCom26Q21
namespace Go.Proofs.Ytkndgpjamijbbaa
set_option maxRecDepth 100000
open Go Go.RowKit
set_option maxHeartbeats 8000000 in
theorem made26_any (L : Option Addr) (n c : Nat) (zs : List Int) (A : Option Addr) (q cA base : Nat) (Ss : List (List UInt8)) (x : Int) (B : Option Addr) (nb d : Nat) (R : List UInt8) (bad : Bool) (w : World) (hL : RI w L n c zs) (oA : OwO w base A q cA Ss) (hq0 : 1 ≤ q) (hq1 : q ≤ 4) (rR : RB w B nb d R) :
    Calls Try.prog 30 #[.slice L n c, .slice A q cA, .agg #[.int .i64 x, .slice B nb d], .bool bad] w fun e w' => ∃ A' m' c' vs gs, e = .returned (.slice A' m' c') ∧ m' ≤ 5 ∧ OCS w' w.heap.size A' m' c' vs gs ∧ Ext w w' := by
  have hcap := hL.cap
  have hroom := hL.room
  unfold maxLen at hcap
  go_enter Try.func30, Try.ntmps30
  go_wp2_with fail
  have hE0 := Ext.new w (.cells #[.int .i64 x, .slice B nb d] 54)
  have hB6 := Blk.new w 54 #[.int .i64 x, .slice B nb d]
  go_loopw [10, 9] (fun i o wr => MadeI w (min n 5) x B nb d i o wr) (fun i _ _ => min n 5 - (intOf i).toNat)
  case atStart => exact ⟨0, 0, none, [], [], by omega, rfl, rfl, OCS.none_ _ _, hB6, hE0⟩
  case round =>
    clear hB6 hE0
    obtain ⟨k, cO, O, vs, gs, hk, rfl, rfl, own, hB6, hEr⟩ := hrel
    by_cases hlt : k < min n 5
    · have hki : (k : Int) < (n : Int) := by omega
      have hk6 : (k : Int) < 5 := by omega
      have hkn : k < n := by omega
      obtain ⟨ad, rfl, hcl⟩ := (hL.ext hEr).cells (by omega)
      obtain ⟨q0, i0⟩ := hcl k hkn
      clear hcl
      generalize zs.getD k 0 = who at *
      have oA1 := oA.ext hEr
      have rR1 := rR.ext hEr
      obtain ⟨wi, hwi⟩ : ∃ wi, wi = within who 0 ((q : Int) - 1) := ⟨_, rfl⟩
      have hwr := within_in who 0 ((q : Int) - 1) (by omega)
      rw [← hwi] at hwr
      obtain ⟨j, hj⟩ : ∃ j : Nat, wi = (j : Int) := ⟨wi.toNat, (Int.toNat_of_nonneg hwr.1).symm⟩
      have hj1 : j < q := by omega
      have Hw := Lib.hid (show within who 0 ((q : Int) - 1) = (j : Int) by rw [← hwi, hj])
      clear hwi hwr hj
      go_wp2_with fail
      refine (within_any who 0 ((q : Int) - 1) wr i0.1 i0.2 (by omega) (by omega) (by omega)).mono ?_
      rintro e w2 ⟨rfl, rfl⟩
      rw [Hw.out]
      clear Hw i0 q0
      go_upto_region 6 with (fail)
      obtain ⟨gA, gO, bO, BO, rfl, hcO0, oS⟩ := oA1.cell (j := j) hj1
      have hcO : wr.cell? ((⟨gA, 0, none⟩ : Addr).add j) = some (.pointer (some ⟨gO, 0, none⟩)) := by rw [add_plain]; exact hcO0
      obtain ⟨Sd, hSd⟩ : ∃ Sd, Sd = lb Ss j := ⟨_, rfl⟩
      rw [← hSd] at oS
      have rO := oS.own
      have hroomO := oA1.room
      clear hSd oS hcO0
      refine par_ext (n := 11) (by kernel_rfl) [.is (.int .i64 ((j : Int))), .is (.slice ((some ⟨gA, 0, none⟩)) (q) (cA)), .is (.int .i64 ((j : Int))), .is (.pointer (some ((⟨gA, 0, none⟩ : Addr).add (j)))), .is (.pointer (some ⟨gO, 0, none⟩)), .is (.int .i64 (((k : Nat) : Int))), .is (.agg #[.int .i64 (x), .slice (B) (nb) (d)]), .rb (bodyC cosignL x R), .ag [.val (.int .i64 (((k : Nat) : Int))), .bb (64) (sigP Sd (bodyC cosignL x R) k), .bb (4) (pathL Sd k)], .ag [.val (.int .i64 ((j : Int))), .val (.int .i64 (((k : Nat) : Int))), .bb (64) (sigP Sd (bodyC cosignL x R) k), .bb (4) (pathL Sd k)], .bk (wr.heap.size) 104 #[.int .i64 ((0 : Int)), .int .i64 ((0 : Int)), .slice (none) (0) (0), .slice (none) (0) (0)]] rfl ⟨?_, ?_, ?_, ?_, ?_, ?_, ?_, ?_, ?_, ?_, ?_, trivial⟩ ?_
      · refine stepE rfl fun sdn sa sw sE sd sk => ?_
        have h11 : sa.eval (.tmp 11) = .int .i64 ((j : Int)) := sk.old 11 rfl
        exact Runs.move rfl h11 ⟨Ext.refl _, rfl⟩
      · refine stepE rfl fun sdn sa sw sE sd sk => ?_
        have h1 : sa.eval (.tmp 1) = .slice ((some ⟨gA, 0, none⟩)) (q) (cA) := sk.old 1 rfl
        exact Runs.move rfl h1 ⟨Ext.refl _, rfl⟩
      · refine stepE rfl fun sdn sa sw sE sd sk => ?_
        have h11 : sa.eval (.tmp 11) = .int .i64 ((j : Int)) := sk.old 11 rfl
        exact Runs.move rfl h11 ⟨Ext.refl _, rfl⟩
      · refine stepE rfl fun sdn sa sw sE sd sk => ?_
        have h32 : sa.eval (.tmp 32) = .slice ((some ⟨gA, 0, none⟩)) (q) (cA) := sk.fact 1 32 rfl (sd 1 rfl)
        have h33 : sa.eval (.tmp 33) = .int .i64 ((j : Int)) := sk.fact 2 33 rfl (sd 2 rfl)
        exact Runs.idx rfl h32 h33 (run_idx_sl1 Try.underlying50 infO_eq infO_size (j) (by omega) (by omega)) ⟨Ext.refl _, rfl⟩
      · refine stepE rfl fun sdn sa sw sE sd sk => ?_
        have h34 : sa.eval (.tmp 34) = .pointer (some ((⟨gA, 0, none⟩ : Addr).add (j))) := sk.fact 3 34 rfl (sd 3 rfl)
        exact Runs.load rfl h34 (run_load1 Try.underlying37 rfl (sE.cell hcO)) ⟨Ext.refl _, rfl⟩
      · refine stepE rfl fun sdn sa sw sE sd sk => ?_
        have h10 : sa.eval (.tmp 10) = .int .i64 (((k : Nat) : Int)) := sk.old 10 rfl
        exact Runs.move rfl h10 ⟨Ext.refl _, rfl⟩
      · refine stepE rfl fun sdn sa sw sE sd sk => ?_
        have h6 : sa.eval (.tmp 6) = .pointer (some ⟨w.heap.size, 0, none⟩) := sk.old 6 rfl
        exact Runs.load rfl h6 (load_part (hB6.ext sE) 0 (vs := [.int .i64 (x), .slice (B) (nb) (d)]) rfl Try.underlying54 rfl (by kernel_rfl)) ⟨Ext.refl _, rfl⟩
      · refine stepE rfl fun sdn sa sw sE sd sk => ?_
        have h37 : sa.eval (.tmp 37) = .agg #[.int .i64 (x), .slice (B) (nb) (d)] := sk.fact 6 37 rfl (sd 6 rfl)
        refine Runs.call (f := 67) (vs := [.agg #[.int .i64 (x), .slice (B) (nb) (d)]]) rfl rfl rfl (by simp only [List.map_toArray, List.map_cons, List.map_nil, h37] <;> rfl) (ent67 _ _) ((rcos_any _ _ _ _ _ sw (rR1.ext sE)).mono ?_); rintro e w' ⟨A', n', c', rfl, own, hx⟩; exact ⟨_, rfl, hx, A', n', c', rfl, own⟩
      · refine stepE rfl fun sdn sa sw sE sd sk => ?_
        have h35 : sa.eval (.tmp 35) = .pointer (some ⟨gO, 0, none⟩) := sk.fact 4 35 rfl (sd 4 rfl)
        have h36 : sa.eval (.tmp 36) = .int .i64 (((k : Nat) : Int)) := sk.fact 5 36 rfl (sd 5 rfl)
        obtain ⟨A38, n38, c38, h38, r38⟩ := sk.fact 7 38 rfl (sd 7 rfl)
        refine Runs.call (f := 25) (vs := [.pointer (some ⟨gO, 0, none⟩), .int .i64 (((k : Nat) : Int)), .slice (A38) (n38) (c38)]) rfl rfl rfl (by simp only [List.map_toArray, List.map_cons, List.map_nil, h35, h36, h38] <;> rfl) (ent25 _ _) ((rsign_len _ _ _ _ _ k _ _ sw (rO.ext sE) r38 lenK (by omega)).mono ?_); rintro e w' ⟨P, d, Q, d', rfl, h1, h2, hx⟩; exact ⟨_, rfl, hx, P, d, h1, Q, d', h2, rfl⟩
      · refine stepE rfl fun sdn sa sw sE sd sk => ?_
        have h31 : sa.eval (.tmp 31) = .int .i64 ((j : Int)) := sk.fact 0 31 rfl (sd 0 rfl)
        obtain ⟨A39x0, c39x0, r39x0, A39x1, c39x1, r39x1, h39⟩ := sk.fact 8 39 rfl (sd 8 rfl)
        replace h39 : sa.eval (.tmp 39) = .agg #[.int .i64 (((k : Nat) : Int)), .slice (A39x0) (64) (c39x0), .slice (A39x1) (4) (c39x1)] := h39
        refine Runs.of_run (r := .agg #[.int .i64 ((j : Int)), .int .i64 (((k : Nat) : Int)), .slice (A39x0) (64) (c39x0), .slice (A39x1) (4) (c39x1)]) (w' := sw) ?_ ⟨Ext.refl _, ⟨_, _, r39x0, _, _, r39x1, rfl⟩⟩
        unfold execOp
        simp only [List.map_toArray, List.map_cons, List.map_nil, h31, h39]
        go_simp
      · refine stepE rfl fun sdn sa sw sE sd sk => ?_
        refine Runs.of_run (r := .pointer (some ⟨sw.heap.size, 0, none⟩)) (w' := sw.alloc (.cells #[.int .i64 ((0 : Int)), .int .i64 ((0 : Int)), .slice (none) (0) (0), .slice (none) (0) (0)] 104)) ?_ ⟨Ext.new _ _, _, rfl, Blk.new _ _ _, sE.size⟩
        unfold execOp
        go_simp
      intro vals W6 hE6 hv6
      have e0 : vals 0 = .int .i64 ((j : Int)) := hv6 0 (by omega) 31 rfl
      have e1 : vals 1 = .slice ((some ⟨gA, 0, none⟩)) (q) (cA) := hv6 1 (by omega) 32 rfl
      have e2 : vals 2 = .int .i64 ((j : Int)) := hv6 2 (by omega) 33 rfl
      have e3 : vals 3 = .pointer (some ((⟨gA, 0, none⟩ : Addr).add (j))) := hv6 3 (by omega) 34 rfl
      have e4 : vals 4 = .pointer (some ⟨gO, 0, none⟩) := hv6 4 (by omega) 35 rfl
      have e5 : vals 5 = .int .i64 (((k : Nat) : Int)) := hv6 5 (by omega) 36 rfl
      have e6 : vals 6 = .agg #[.int .i64 (x), .slice (B) (nb) (d)] := hv6 6 (by omega) 37 rfl
      obtain ⟨A38, n38, c38, e7, r38⟩ := hv6 7 (by omega) 38 rfl
      obtain ⟨A39x0, c39x0, r39x0, A39x1, c39x1, r39x1, e8⟩ := hv6 8 (by omega) 39 rfl
      replace e8 : vals 8 = .agg #[.int .i64 (((k : Nat) : Int)), .slice (A39x0) (64) (c39x0), .slice (A39x1) (4) (c39x1)] := e8
      obtain ⟨A40x0, c40x0, r40x0, A40x1, c40x1, r40x1, e9⟩ := hv6 9 (by omega) 40 rfl
      replace e9 : vals 9 = .agg #[.int .i64 ((j : Int)), .int .i64 (((k : Nat) : Int)), .slice (A40x0) (64) (c40x0), .slice (A40x1) (4) (c40x1)] := e9
      obtain ⟨g12, e10, hb12, gb12⟩ := hv6 10 (by omega) 12 rfl
      simp only [putAll, Act.put, List.take_succ_cons, List.take_zero, List.drop_succ_cons, List.drop_zero, List.drop_nil, List.take_nil, Nat.reduceAdd, List.setIfInBounds_toArray, List.set_cons_succ, List.set_cons_zero, e0, e1, e2, e3, e4, e5, e6, e7, e8, e9, e10]
      clear hv6 e0 e1 e2 e3 e4 e5 e6 e7 e8 e9 e10
      have fhb120 := hb12.frozen 0
      have fhb121 := hb12.frozen 1
      have fhb122 := hb12.frozen 2
      have fhb123 := hb12.frozen 3
      have xhb120 := hb12.cell (i := 0) rfl
      have xhb121 := hb12.cell (i := 1) rfl
      have xhb122 := hb12.cell (i := 2) rfl
      have xhb123 := hb12.cell (i := 3) rfl
      go_upto_region 7 with (fail)
      have rP := r40x0.set4 (by omega) hb12 (j : Int) (k : Int) A40x0 A40x1 64 c40x0 4 c40x1
      have rQ := r40x1.set4 (by omega) hb12 (j : Int) (k : Int) A40x0 A40x1 64 c40x0 4 c40x1
      have hB12 := setall4 hb12 (.int .i64 (j : Int)) (.int .i64 (k : Int)) (.slice A40x0 64 c40x0) (.slice A40x1 4 c40x1)
      have hEw := ext4 hE6 gb12 (.int .i64 (j : Int)) (.int .i64 (k : Int)) (.slice A40x0 64 c40x0) (.slice A40x1 4 c40x1)
      generalize (((W6.setCell ⟨g12, 0, none⟩ (.int .i64 (j : Int))).setCell ⟨g12, 1, none⟩ (.int .i64 (k : Int))).setCell ⟨g12, 2, none⟩ (.slice A40x0 64 c40x0)).setCell ⟨g12, 3, none⟩ (.slice A40x1 4 c40x1) = w9 at *
      clear r39x0 r39x1 r40x0 r40x1 hb12 hE6 rO hcO oA1 rR1
      cases bad with
      | true =>
        obtain ⟨kz, hkz⟩ : ∃ kz : Int, kz = (k : Int) := ⟨_, rfl⟩
        rw [← hkz] at hB12 hki hk6 ⊢
        have Hkz := Lib.hid hkz
        clear hkz
        by_cases hm : kz.tmod 2 = 0
        · have fs := hB12.frozen 0
          have xs := hB12.cell (i := 0) (v := .int .i64 (j : Int)) rfl
          obtain ⟨jz, hjz⟩ : ∃ jz : Int, jz = (j : Int) := ⟨_, rfl⟩
          have hjz1 : 0 ≤ jz ∧ jz ≤ 3 := by omega
          rw [← hjz] at hB12 xs ⊢
          clear hjz
          have hqz0 : ¬ (q : Int) = 0 := by omega
          have hwr : wrap64 (jz + 1) = jz + 1 := by unfold wrap64; omega
          go_upto_region 9 with (fail)
          have hB12b : Blk (w9.setCell ⟨g12, 0, none⟩ (.int .i64 ((jz + 1) % (q : Int)))) g12 104 #[.int .i64 ((jz + 1) % (q : Int)), .int .i64 kz, .slice A40x0 64 c40x0, .slice A40x1 4 c40x1] := hB12.set 0 _
          have rP2 := rP.away hB12 (nou8 rfl) (grown_set w9 ⟨g12, 0, none⟩ (.int .i64 ((jz + 1) % (q : Int)))) (fun _ => rP.apart3 hB12 (no3 rfl) (by omega))
          have rQ2 := rQ.away hB12 (nou8 rfl) (grown_set w9 ⟨g12, 0, none⟩ (.int .i64 ((jz + 1) % (q : Int)))) (fun _ => rQ.apart3 hB12 (no3 rfl) (by omega))
          have hEw2 := hEw.set (p := ⟨g12, 0, none⟩) gb12 (.int .i64 ((jz + 1) % (q : Int)))
          generalize w9.setCell ⟨g12, 0, none⟩ (.int .i64 ((jz + 1) % (q : Int))) = wq at *
          generalize (jz + 1) % (q : Int) = jn at *
          obtain rfl := Hkz.out
          clear hB12 rP rQ hEw fs xs hm hwr Hkz hqz0
          have v0 := hB12b.cell (i := 0) (v := .int .i64 jn) rfl
          have v1 := hB12b.cell (i := 1) (v := .int .i64 (k : Int)) rfl
          have v2 := hB12b.cell (i := 2) (v := .slice A40x0 64 c40x0) rfl
          have v3 := hB12b.cell (i := 3) (v := .slice A40x1 4 c40x1) rfl
          have hEx := Ext.new wq (.cells #[.int .i64 jn, .int .i64 (k : Int), .slice A40x0 64 c40x0, .slice A40x1 4 c40x1] 104)
          have hBx := Blk.new wq 104 #[.int .i64 jn, .int .i64 (k : Int), .slice A40x0 64 c40x0, .slice A40x1 4 c40x1]
          have one := RCV.one hBx (rP2.ext hEx) (rQ2.ext hEx)
          have hEz := hEw2.trans hEx
          have own2 := own.ext hEz
          have hB62 := hB6.ext hEz
          have hEq := hEr.trans hEz
          go_wp2_with (refine appcs_law rfl rfl rfl rfl own2 one hEq.size (by omega) (by omega) ?_; intro O5 c5 w5 own5 g5)
          have hB65 := hB62.grown g5 (fun e => own2.ne_blk hB62 (by decide) e.symm)
          have hE5 := hEq.then_grown g5 (fun b hb => (own2.lt hb).1)
          go_roundw
          case rel => exact ⟨k + 1, c5, O5, _, _, by omega, by go_num, rfl, own5, hB65, hE5⟩
          case measure => simp [intOf]; omega
        · go_upto_region 9 with (fail)
          obtain rfl := Hkz.out
          clear hm Hkz
          have v0 := hB12.cell (i := 0) (v := .int .i64 (j : Int)) rfl
          have v1 := hB12.cell (i := 1) (v := .int .i64 (k : Int)) rfl
          have v2 := hB12.cell (i := 2) (v := .slice A40x0 64 c40x0) rfl
          have v3 := hB12.cell (i := 3) (v := .slice A40x1 4 c40x1) rfl
          have hEx := Ext.new w9 (.cells #[.int .i64 (j : Int), .int .i64 (k : Int), .slice A40x0 64 c40x0, .slice A40x1 4 c40x1] 104)
          have hBx := Blk.new w9 104 #[.int .i64 (j : Int), .int .i64 (k : Int), .slice A40x0 64 c40x0, .slice A40x1 4 c40x1]
          have one := RCV.one hBx (rP.ext hEx) (rQ.ext hEx)
          have hEz := hEw.trans hEx
          have own2 := own.ext hEz
          have hB62 := hB6.ext hEz
          have hEq := hEr.trans hEz
          go_wp2_with (refine appcs_law rfl rfl rfl rfl own2 one hEq.size (by omega) (by omega) ?_; intro O5 c5 w5 own5 g5)
          have hB65 := hB62.grown g5 (fun e => own2.ne_blk hB62 (by decide) e.symm)
          have hE5 := hEq.then_grown g5 (fun b hb => (own2.lt hb).1)
          go_roundw
          case rel => exact ⟨k + 1, c5, O5, _, _, by omega, by go_num, rfl, own5, hB65, hE5⟩
          case measure => simp [intOf]; omega
      | false =>
        go_upto_region 9 with (fail)
        have v0 := hB12.cell (i := 0) (v := .int .i64 (j : Int)) rfl
        have v1 := hB12.cell (i := 1) (v := .int .i64 (k : Int)) rfl
        have v2 := hB12.cell (i := 2) (v := .slice A40x0 64 c40x0) rfl
        have v3 := hB12.cell (i := 3) (v := .slice A40x1 4 c40x1) rfl
        have hEx := Ext.new w9 (.cells #[.int .i64 (j : Int), .int .i64 (k : Int), .slice A40x0 64 c40x0, .slice A40x1 4 c40x1] 104)
        have hBx := Blk.new w9 104 #[.int .i64 (j : Int), .int .i64 (k : Int), .slice A40x0 64 c40x0, .slice A40x1 4 c40x1]
        have one := RCV.one hBx (rP.ext hEx) (rQ.ext hEx)
        have hEz := hEw.trans hEx
        have own2 := own.ext hEz
        have hB62 := hB6.ext hEz
        have hEq := hEr.trans hEz
        go_wp2_with (refine appcs_law rfl rfl rfl rfl own2 one hEq.size (by omega) (by omega) ?_; intro O5 c5 w5 own5 g5)
        have hB65 := hB62.grown g5 (fun e => own2.ne_blk hB62 (by decide) e.symm)
        have hE5 := hEq.then_grown g5 (fun b hb => (own2.lt hb).1)
        go_roundw
        case rel => exact ⟨k + 1, c5, O5, _, _, by omega, by go_num, rfl, own5, hB65, hE5⟩
        case measure => simp [intOf]; omega
    · by_cases hpn : k < n
      · have a1 : (k : Int) < (n : Int) := by omega
        have a2 : ¬ ((k : Int) < 5) := by omega
        clear hB6
        go_wp2_with fail
        go_ret
        exact ⟨O, k, cO, rfl, by omega, ⟨vs, gs, own⟩, hEr⟩
      · have a1 : ¬ (k : Int) < (n : Int) := by omega
        clear hB6
        go_wp2_with fail
        go_ret
        exact ⟨O, k, cO, rfl, by omega, ⟨vs, gs, own⟩, hEr⟩
end Go.Proofs.Ytkndgpjamijbbaa
namespace Go.Proofs.Ytkndgpjamijbbaa
set_option maxRecDepth 100000
open Go Go.RowKit
/-- a slice of byte slices that reads as Ls; it and its elements lie in blocks of which φ holds -/
structure RBBP (w : World) (φ : Nat → Prop) (A : Option Addr) (n c : Nat) (Ls : List (List UInt8)) : Prop where
  len : Ls.length = n
  room : n ≤ c
  cap : c ≤ maxLen
  row : 0 < n → ∀ k, blk A = some k → φ k
  cells : 0 < n → ∃ ad, A = some ad ∧ ∀ j, j < n → ∃ B m d, w.cell? (ad.add j) = some (.slice B m d) ∧ RB w B m d (lb Ls j) ∧ (0 < m → ∀ k, blk B = some k → φ k)
theorem RBBP.rbb {w : World} {φ : Nat → Prop} {A : Option Addr} {n c : Nat} {Ls : List (List UInt8)} (h : RBBP w φ A n c Ls) : RBB w A n c Ls :=
  ⟨h.len, h.room, h.cap, fun hn => by
    obtain ⟨ad, ha, hc⟩ := h.cells hn
    refine ⟨ad, ha, fun j hj => ?_⟩
    obtain ⟨B, m, d, h1, h2, _⟩ := hc j hj
    exact ⟨B, m, d, h1, h2⟩⟩
theorem RBBP.ext {w w' : World} {φ : Nat → Prop} {A : Option Addr} {n c : Nat} {Ls : List (List UInt8)} (h : RBBP w φ A n c Ls) (e : Ext w w') : RBBP w' φ A n c Ls :=
  ⟨h.len, h.room, h.cap, h.row, fun hn => by
    obtain ⟨ad, ha, hc⟩ := h.cells hn
    refine ⟨ad, ha, fun j hj => ?_⟩
    obtain ⟨B, m, d, h1, h2, h3⟩ := hc j hj
    exact ⟨B, m, d, e.cell h1, h2.ext e, h3⟩⟩
/-- blocks that φ holds of stay -/
theorem RB.keep {w w' : World} {φ : Nat → Prop} {A : Option Addr} {n c : Nat} {L : List UInt8} (h : RB w A n c L) (hf : 0 < n → ∀ k, blk A = some k → φ k) (hk : ∀ k, k < w.heap.size → φ k → w'.heap[k]? = w.heap[k]?) : RB w' A n c L :=
  ⟨h.len, h.room, h.cap, fun hn => by
    obtain ⟨ad, ha, hc⟩ := h.cells hn
    refine ⟨ad, ha, fun j hj => ?_⟩
    have h1 := hc j hj
    have h3 := World.block_lt_of_cell? w _ h1
    refine (World.cell?_of_block ?_).trans h1
    rw [block_of_add] at h3 ⊢
    exact hk _ h3 (hf hn _ (by rw [ha]; rfl))⟩
theorem RBBP.keep {w w' : World} {φ : Nat → Prop} {A : Option Addr} {n c : Nat} {Ls : List (List UInt8)} (h : RBBP w φ A n c Ls) (hk : ∀ k, k < w.heap.size → φ k → w'.heap[k]? = w.heap[k]?) : RBBP w' φ A n c Ls :=
  ⟨h.len, h.room, h.cap, h.row, fun hn => by
    obtain ⟨ad, ha, hc⟩ := h.cells hn
    refine ⟨ad, ha, fun j hj => ?_⟩
    obtain ⟨B, m, d, h1, h2, h3⟩ := hc j hj
    refine ⟨B, m, d, ?_, h2.keep h3 hk, h3⟩
    have h4 := World.block_lt_of_cell? w _ h1
    refine (World.cell?_of_block ?_).trans h1
    rw [block_of_add] at h4 ⊢
    exact hk _ h4 (h.row hn _ (by rw [ha]; rfl))⟩
/-- another block is turned -/
theorem RBBP.away {w w' : World} {φ : Nat → Prop} {A : Option Addr} {n c : Nat} {Ls : List (List UInt8)} (h : RBBP w φ A n c Ls) {k : Nat} {t : TypeId} {cs : Array Value} (hb : Blk w k t cs) (hno : ∀ (i : Nat) (x : Int), cs[i]? ≠ some (.int .u8 x)) (g : w.grownBy w' (some k)) (hA : 0 < n → blk A ≠ some k) : RBBP w' φ A n c Ls :=
  ⟨h.len, h.room, h.cap, h.row, fun hn => by
    obtain ⟨ad, rfl, hc⟩ := h.cells hn
    refine ⟨ad, rfl, fun j hj => ?_⟩
    obtain ⟨B, m, d, h1, h2, h3⟩ := hc j hj
    exact ⟨B, m, d, g.cell h1 (by rw [block_of_add]; exact hA hn), h2.grown g (h2.apart5 hb hno), h3⟩⟩
/-- a row of byte slices of the call's own, from block base on; its elements lie from block b on -/
def OBF (w : World) (base b : Nat) (A : Option Addr) (n c : Nat) (Ls : List (List UInt8)) : Prop :=
  ∃ vs : List Value, w.ownsRow base 22 1 (.slice A n c) n vs ∧ Ls.length = n ∧ ∀ j, j < n → ∃ B m d, vs[j]? = some (.slice B m d) ∧ RB w B m d (lb Ls j) ∧ (0 < m → blk B ≠ blk A ∧ ∀ k, blk B = some k → b ≤ k)
section
variable {w w' : World} {base b n c : Nat} {A : Option Addr} {Ls : List (List UInt8)}
theorem OBF.none_ (w : World) (base b : Nat) : OBF w base b none 0 0 [] := ⟨[], World.ownsRow_nil w _ _ _, rfl, fun j hj => absurd hj (Nat.not_lt_zero _)⟩
theorem OBF.obc (h : OBF w base b A n c Ls) : OBC w base A n c Ls := by
  obtain ⟨vs, h1, h2, h3⟩ := h
  refine ⟨vs, h1, h2, fun j hj => ?_⟩
  obtain ⟨B, m, d, h4, h5, h6⟩ := h3 j hj
  exact ⟨B, m, d, h4, h5, fun hm => (h6 hm).1⟩
theorem OBF.lt (h : OBF w base b A n c Ls) {k : Nat} (hk : blk A = some k) : base ≤ k ∧ k < w.heap.size := h.obc.lt hk
theorem OBF.ext (h : OBF w base b A n c Ls) (e : Ext w w') : OBF w' base b A n c Ls := by
  obtain ⟨vs, h1, h2, h3⟩ := h
  refine ⟨vs, World.ownsRow.kept h1 (e.grownBy none) ?_, h2, fun j hj => ?_⟩
  · cases hb : Value.ownBlock (.slice A n c) <;> simp
  · obtain ⟨B, m, d, h4, h5, h6⟩ := h3 j hj
    exact ⟨B, m, d, h4, h5.ext e, h6⟩
theorem OBF.far (h : OBF w base b A n c Ls) {g : Nat} {t : TypeId} {cs : Array Value} (hb : Blk w g t cs) (ht : t ≠ 22) (hno : ∀ (i : Nat) (x : Int), cs[i]? ≠ some (.int .u8 x)) (e : w.grownBy w' (some g)) : OBF w' base b A n c Ls := by
  obtain ⟨vs, h1, h2, h3⟩ := h
  refine ⟨vs, World.ownsRow.kept h1 e (.inr (row_ne h1 hb ht)), h2, fun j hj => ?_⟩
  obtain ⟨B, m, d, h4, h5, h6⟩ := h3 j hj
  exact ⟨B, m, d, h4, h5.grown e (h5.apart5 hb hno), h6⟩
end
end Go.Proofs.Ytkndgpjamijbbaa
namespace Go.Proofs.Ytkndgpjamijbbaa
set_option maxRecDepth 100000
open Go Go.RowKit
/-- a later world: of the old blocks none but those of φ was turned -/
structure Upd (φ : Nat → Prop) (w w' : World) : Prop where
  os : w'.os = w.os
  tape : w'.tape = w.tape
  output : w'.output = w.output
  size : w.heap.size ≤ w'.heap.size
  block : ∀ k, k < w.heap.size → ¬ φ k → w'.heap[k]? = w.heap[k]?
theorem Upd.refl (φ : Nat → Prop) (w : World) : Upd φ w w := ⟨rfl, rfl, rfl, Nat.le_refl _, fun _ _ _ => rfl⟩
theorem Upd.of_ext {φ : Nat → Prop} {w w' : World} (e : Ext w w') : Upd φ w w' := ⟨e.os, e.tape, e.output, e.size, fun k hk _ => e.block hk⟩
theorem Upd.of_grown {φ : Nat → Prop} {w w' : World} {row : Option Nat} (g : w.grownBy w' row) (h : ∀ k, row = some k → φ k) : Upd φ w w' :=
  ⟨g.os, g.tape, g.output, g.size, fun k hk hn => g.block k hk (fun e => hn (h k e.symm))⟩
theorem Upd.trans {φ : Nat → Prop} {a b c : World} (h : Upd φ a b) (k : Upd φ b c) : Upd φ a c :=
  ⟨k.os.trans h.os, k.tape.trans h.tape, k.output.trans h.output, Nat.le_trans h.size k.size, fun i hi hn => (k.block i (Nat.lt_of_lt_of_le hi h.size) hn).trans (h.block i hi hn)⟩
theorem Upd.mono {φ ψ : Nat → Prop} {w w' : World} (h : Upd φ w w') (hs : ∀ k, k < w.heap.size → φ k → ψ k) : Upd ψ w w' :=
  ⟨h.os, h.tape, h.output, h.size, fun k hk hn => h.block k hk (fun p => hn (hs k hk p))⟩
/-- nothing old was turned: what was is new -/
theorem Upd.ext {φ : Nat → Prop} {a w w' : World} (h : Ext a w) (k : Upd φ w w') (hn : ∀ i, φ i → a.heap.size ≤ i) : Ext a w' :=
  ⟨k.os.trans h.os, k.tape.trans h.tape, k.output.trans h.output, Nat.le_trans h.size k.size, fun i hi => (k.block i (Nat.lt_of_lt_of_le hi h.size) (fun p => by have := hn i p; omega)).trans (h.block hi)⟩
/-- a fact that stays whatever is turned in φ -/
def Keep (φ : Nat → Prop) (X : World → Prop) (w : World) : Prop := ∀ w', Upd φ w w' → X w'
theorem Keep.self {φ : Nat → Prop} {X : World → Prop} {w : World} (h : Keep φ X w) : X w := h w (Upd.refl φ w)
theorem Keep.step {φ : Nat → Prop} {X : World → Prop} {w w' : World} (h : Keep φ X w) (u : Upd φ w w') : Keep φ X w' := fun w'' u' => h w'' (u.trans u')
theorem Keep.ext {φ : Nat → Prop} {X : World → Prop} {w w' : World} (h : Keep φ X w) (e : Ext w w') : Keep φ X w' := h.step (Upd.of_ext e)
/-- behind a step other blocks may be turned: those are new, or were free before -/
theorem Keep.move {φ ψ : Nat → Prop} {X : World → Prop} {w w' : World} (h : Keep φ X w) (u : Upd φ w w') (hs : ∀ k, k < w.heap.size → ψ k → φ k) : Keep ψ X w' :=
  fun w'' u' => h w'' ⟨u'.os.trans u.os, u'.tape.trans u.tape, u'.output.trans u.output, Nat.le_trans u.size u'.size, fun k hk hn => (u'.block k (Nat.lt_of_lt_of_le hk u.size) (fun p => hn (hs k hk p))).trans (u.block k hk hn)⟩
theorem ownsRow_upd {φ : Nat → Prop} {w w' : World} {base n sz : Nat} {e : TypeId} {v : Value} {xs : List Value} (h : w.ownsRow base e sz v n xs) (u : Upd φ w w') (hb : ∀ k, v.ownBlock = some k → ¬ φ k) : w'.ownsRow base e sz v n xs := by
  refine ⟨h.1, ?_⟩
  rcases h.2 with h0 | ⟨g, cap, cur, rfl, h1, h2, h3⟩
  · exact .inl h0
  · have hlt : g < w.heap.size := (Array.getElem?_eq_some_iff.1 h2).1
    exact .inr ⟨g, cap, cur, rfl, h1, (u.block g hlt (hb g rfl)).trans h2, h3⟩
theorem RB.upd {φ : Nat → Prop} {w w' : World} {A : Option Addr} {n c : Nat} {L : List UInt8} (h : RB w A n c L) (u : Upd φ w w') (hA : 0 < n → ∀ k, blk A = some k → ¬ φ k) : RB w' A n c L :=
  h.keep (φ := fun k => ¬ φ k) hA (fun k hk hn => u.block k hk hn)
theorem Blk.upd {φ : Nat → Prop} {w w' : World} {g : Nat} {t : TypeId} {cs : Array Value} (h : Blk w g t cs) (u : Upd φ w w') (hg : ¬ φ g) : Blk w' g t cs := (u.block g h.lt hg).trans h
theorem OB.upd {φ : Nat → Prop} {w w' : World} {base n c : Nat} {A : Option Addr} {L : List UInt8} (h : OB w base A n c L) (u : Upd φ w w') (hA : ∀ k, blk A = some k → ¬ φ k) : OB w' base A n c L :=
  ownsRow_upd h u (by rw [ownBlock_slice]; exact hA)
theorem OBD.upd {φ : Nat → Prop} {w w' : World} {base n c : Nat} {A : Option Addr} {Ls : List (List UInt8)} (h : OBD w base A n c Ls) (u : Upd φ w w') (hb : ∀ k, base ≤ k → k < w.heap.size → ¬ φ k) : OBD w' base A n c Ls := by
  obtain ⟨vs, h1, h2, h3⟩ := h
  refine ⟨vs, ownsRow_upd h1 u (fun k hk => ?_), h2, fun j hj => ?_⟩
  · have := World.ownsRow.lt h1 k hk
    exact hb k this.1 this.2
  · obtain ⟨g, d, h4, h5, h6⟩ := h3 j hj
    exact ⟨g, d, h4, h5.upd u (fun k hk => by have := h5.lt hk; exact hb k this.1 this.2), h6⟩
theorem LevO.upd {φ : Nat → Prop} {w w' : World} {b n c : Nat} {A : Option Addr} {S : List UInt8} (h : LevO w b A n c S) (u : Upd φ w w') (hb : ∀ k, b ≤ k → k < w.heap.size → ¬ φ k) : LevO w' b A n c S := by
  obtain ⟨vs, h1, h3⟩ := h
  refine ⟨vs, ownsRow_upd h1 u (fun k hk => ?_), fun j hj => ?_⟩
  · have := World.ownsRow.lt h1 k hk
    exact hb k this.1 this.2
  · obtain ⟨g, d, h4, h5⟩ := h3 j hj
    exact ⟨g, d, h4, h5.upd u hb⟩
theorem OwnS.upd {φ : Nat → Prop} {w w' : World} {b g : Nat} {A : Option Addr} {S : List UInt8} (h : OwnS w b g A S) (u : Upd φ w w') (hb : ∀ k, b ≤ k → k < w.heap.size → ¬ φ k) (hg : ¬ φ g) (hA : ∀ k, blk A = some k → ¬ φ k) : OwnS w' b g A S := by
  obtain ⟨c, LA, lc, h1, h2, h3⟩ := h
  exact ⟨c, LA, lc, h1.upd u (fun _ => hA), h2.upd u hg, h3.upd u hb⟩
theorem RB.keep_ {φ : Nat → Prop} {w : World} {A : Option Addr} {n c : Nat} {L : List UInt8} (h : RB w A n c L) (hA : 0 < n → ∀ k, blk A = some k → ¬ φ k) : Keep φ (fun w => RB w A n c L) w := fun _ u => h.upd u hA
theorem OwnS.keep_ {φ : Nat → Prop} {w : World} {b g : Nat} {A : Option Addr} {S : List UInt8} (h : OwnS w b g A S) (hb : ∀ k, b ≤ k → k < w.heap.size → ¬ φ k) (hg : ¬ φ g) (hA : ∀ k, blk A = some k → ¬ φ k) : Keep φ (fun w => OwnS w b g A S) w := fun _ u => h.upd u hb hg hA
/-- one cell is appended to an own row -/
theorem app1_law {tS tE : TypeId} {z : Value} {by_ : Nat} (hu : Try.prog.underlying tS = some (.slice tE)) (hinf : (Try.prog.info? tE).map (fun i => (i.zero, i.size, i.bytes)) = some (some z, 1, by_)) (hz : z.cells.size = 1) (hby : by_ ≤ 24)
    {ops : Array Oper} {rest : List Oper} {o : Oper} {a : Act} {Q : Exit → Act → World → Prop} {w : World} (hgd : o.guard = none) {s x : Operand} (ho : o.op = .call { callee := .builtin .append, args := #[s, x], argTypes := #[tS, tS] })
    {A : Option Addr} {n c : Nat} (hs : a.eval s = .slice A n c) {ad : Addr} (hx : a.eval x = .slice (some ad) 1 1) {base : Nat} {vs : List Value} {v : Value} (hcell : w.cell? (ad.add 0) = some v)
    (hown : w.ownsRow base tE 1 (.slice A n c) n vs) (hv : v.oneCell' = true) (hbase : base ≤ w.heap.size) (hnk : n + 1 ≤ 1000000)
    (h : ∀ A' c' w', w'.ownsRow base tE 1 (.slice A' (n + 1) c') (n + 1) (vs ++ [v]) → w.grownBy w' (blk A) → (blk A' = blk A ∨ blk A' = some w.heap.size) → wpList Try.prog ops Q rest (a.put o.dst (.slice A' (n + 1) c')) w') : wpList Try.prog ops Q (o :: rest) a w := by
  obtain ⟨i0, hi0, hz0, hz1, hz2⟩ := info_parts hinf
  obtain ⟨v', w', hrun, r1, r2, _, r4⟩ := run_append_own_at (P := Try.prog) w base tS o.type tE i0 z 1 by_ hu hi0 hz0 hz1 hz2 hz (by omega) (.slice A n c) n vs hown ad 1 1 [v] rfl
    (by
      intro j u hu
      rcases j with _ | j
      · injection hu with hu
        subst hu
        exact hcell
      · cases hu) (by simpa using hv) (small_maxLen hnk) (by first | omega | exact Nat.le_trans (Nat.mul_le_mul hnk hby) (by decide) | (rw [hz2]; exact Nat.le_trans (Nat.mul_le_mul hnk hby) (by decide))) hbase
  obtain ⟨A', c', rfl⟩ : ∃ A' c', v' = .slice A' (n + 1) c' := by
    rcases r1.2 with ⟨_, h0⟩ | ⟨g, cap, _, rfl, _⟩
    · omega
    · exact ⟨_, cap, rfl⟩
  rw [ownBlock_slice] at r2
  rw [ownBlock_slice, ownBlock_slice] at r4
  refine run_law hgd (v := .slice A' (n + 1) c') (w' := w') ?_ (h A' c' w' r1 r2 r4)
  unfold execOp
  simp only [ho, resolve, invoke, builtin, Sem.run_bind, Sem.run_pure, Result.andThen_ok, List.map_toArray, List.map_cons, List.map_nil, hs, hx, hrun]
end Go.Proofs.Ytkndgpjamijbbaa
