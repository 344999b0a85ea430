/-
  ref5: an owner's public and signatures, Right and Verify, walked.
-/
import Derived.Test.YtkndgpjamijbbaaGreatLawNumbers22Q16
import Derived.Test.YtkndgpjamijbbaaGreatLawNumbers22Q14
import Derived.Test.YtkndgpjamijbbaaGreatLawNumbers22Q4
namespace Go.Proofs.YtkndgpjamijbbaaGreat
set_option maxRecDepth 100000
open Go Go.RowKit
noncomputable def infYY : TypeInfo := (Tryz.prog.info? 33).getD default
theorem infYY_eq : Tryz.prog.info? 33 = some infYY := by kernel_rfl
theorem infYY_size : infYY.size = 1 := by kernel_rfl
theorem bin_shrI {P : Program} {w : World} (t : TypeId) {kk : IntKind} (k h : Nat) (hh : h ≤ 60) : (binOp .shr t (.int .i64 (k : Int)) (.int kk (h : Int))).run P w = .ok (.int .i64 ((k / 2 ^ h : Nat) : Int)) w := by
  have h1 : ¬ ((h : Int) < 0) := by omega
  have h2 : min (h : Int).toNat IntKind.i64.bits = h := by simp [IntKind.bits]; omega
  have e : ((k : Int)).fdiv (2 ^ h) = ((k / 2 ^ h : Nat) : Int) := by
    rw [Int.fdiv_eq_ediv_of_nonneg _ (Int.pow_nonneg (by decide))]
    simp
  simp only [binOp, Op.shift, if_neg h1, h2, e, Sem.run_pure]
theorem bin_and1 {P : Program} {w : World} (t : TypeId) (q : Nat) (hq : q < 16) : (binOp .and t (.int .i64 (q : Int)) (.int .i64 1)).run P w = .ok (.int .i64 ((q % 2 : Nat) : Int)) w := by
  have h : q = 0 ∨ q = 1 ∨ q = 2 ∨ q = 3 ∨ q = 4 ∨ q = 5 ∨ q = 6 ∨ q = 7 ∨ q = 8 ∨ q = 9 ∨ q = 10 ∨ q = 11 ∨ q = 12 ∨ q = 13 ∨ q = 14 ∨ q = 15 := by omega
  rcases h with rfl | rfl | rfl | rfl | rfl | rfl | rfl | rfl | rfl | rfl | rfl | rfl | rfl | rfl | rfl | rfl
  all_goals rfl
set_option maxHeartbeats 2000000 in
theorem rpublic_any (g b : Nat) (S : List UInt8) (w : World) (h : OwnR w b g S) :
    Calls Tryz.prog 11 #[.pointer (some ⟨g, 0, none⟩)] w fun e w' => ∃ A' c', e = .returned (.slice A' 32 c') ∧ RB w' A' 32 c' (ownP S) ∧ Ext w w' := by
  obtain ⟨A, c, LA, lc, h1, h2, h3⟩ := h
  obtain ⟨gl, rfl⟩ := h3.plain (by omega)
  obtain ⟨g4, d4, hc4, o4⟩ := h3.cell (j := 4) (by omega)
  have e4 : (Value.slice (some (⟨g4, 0, none⟩ : Addr)) (16 / 2 ^ 4) d4) = .slice (some ⟨g4, 0, none⟩) 1 d4 := rfl
  rw [e4, add_plain] at hc4
  have o4' : OBD w b (some ⟨g4, 0, none⟩) 1 d4 (lev S 4) := o4
  obtain ⟨g5, d5, hc5, o5⟩ := o4'.cell (j := 0) (by omega)
  rw [add_plain] at hc5
  have y1 : w.cell? ⟨g, 1, none⟩ = some (.slice (some ⟨gl, 0, none⟩) 5 lc) := h2.cell (i := 1) rfl
  clear e4 o4 h1
  go_enter Tryz.func11, Tryz.ntmps11
  go_wp2_with fail
  go_ret
  exact ⟨_, d5, rfl, o5.rb, Ext.refl _⟩
def RSignI (w1 : World) (S : List UInt8) (k dp : Nat) (Pp : Option Addr) (i : Value) (wr : World) : Prop :=
  ∃ (h dq : Nat) (Q : Option Addr), h ≤ 4 ∧ i = .int .i64 h ∧ OBC wr w1.heap.size Q h dq ((List.range h).map (pathB S k)) ∧ Blk wr w1.heap.size 38 #[.int .i64 (k : Int), .slice Pp 64 dp, .slice Q h dq] ∧ Ext w1 wr
theorem OwnR.far {w w' : World} {b g : Nat} {S : List UInt8} (h : OwnR w b g S) {k : Nat} {cs : Array Value} (hb : Blk w k 38 cs) (hno : ∀ (i : Nat) (x : Int), cs[i]? ≠ some (.int .u8 x)) (e : w.grownBy w' (some k)) : OwnR w' b g S := by
  obtain ⟨A, c, LA, lc, h1, h2, h3⟩ := h
  refine ⟨A, c, LA, lc, h1.grown e (h1.apart5 hb hno), h2.grown e (fun e' => ?_), h3.far hb (by decide) (by decide) (by decide) e⟩
  injection e' with e'
  subst e'
  unfold Blk at h2 hb
  rw [h2] at hb
  injection hb with hb
  injection hb with _ hb
  revert hb
  decide
set_option maxHeartbeats 4000000 in
theorem rsign_own (B : Option Addr) (g b m e' k : Nat) (S M : List UInt8) (w : World) (ho : OwnR w b g S) (hm : RB w B m e' M) (hmn : m ≤ 140737488355000) (hk : k < 16) :
    Calls Tryz.prog 31 #[.pointer (some ⟨g, 0, none⟩), .int .i64 (k : Int), .slice B m e'] w fun e w' => ∃ P d Q d', e = .returned (.agg #[.int .i64 (k : Int), .slice P 64 d, .slice Q 4 d']) ∧ OBC w' w.heap.size P 64 d ((List.range 64).map (partS (digestW M) S k)) ∧ OBC w' w.heap.size Q 4 d' (pathL S k) ∧ Ext w w' := by
  have hki : (k : Int) < 16 := by omega
  obtain ⟨A, c, LA, lc, h1, h2, h3⟩ := ho
  obtain ⟨gl, rfl⟩ := h3.plain (by omega)
  go_enter Tryz.func31, Tryz.ntmps31
  have hE0 := Ext.new w (.cells #[.int .i64 0, .slice none 0 0, .slice none 0 0] 38)
  have hB6 := Blk.new w 38 #[.int .i64 0, .slice none 0 0, .slice none 0 0]
  have y0 := (h2.ext hE0).cell (i := 0) rfl
  go_wp2_with fail
  refine (r4sign_any A B 32 c m e' S M k _ (h1.ext hE0) (by omega) (hm.ext hE0) hmn).mono ?_
  rintro e w1 ⟨P1, d1, rfl, own1, hE1⟩
  have hB6 := hB6.ext hE1
  have hE01 := hE0.trans hE1
  have h2 := h2.ext hE01
  have h3 := h3.ext hE01
  have hlt6 := hB6.lt
  clear hE1 hm y0 hE0 h1
  have hE2 := Ext.new w1 (.cells #[.int .i64 (k : Int), .slice P1 64 d1, .slice none 0 0] 38)
  have hB8 := Blk.new w1 38 #[.int .i64 (k : Int), .slice P1 64 d1, .slice none 0 0]
  go_wp2_with fail
  go_loopw [8] (fun i wr => RSignI w1 S k d1 P1 i wr) (fun i _ => 4 - (intOf i).toNat)
  case atStart => exact ⟨0, 0, none, by omega, rfl, OBC.none_ _ _, hB8, hE2⟩
  case round =>
    clear hB8 hE2
    obtain ⟨h, dq, Q, hh, rfl, ownQ, hB8, hEr⟩ := hrel
    have hlt8 := hB8.lt
    by_cases hlt : h < 4
    · have hhi : (h : Int) < 4 := by omega
      obtain ⟨s1, s2, s3⟩ := step_lt hk hlt
      have hq16 : k / 2 ^ h < 16 := Nat.lt_of_le_of_lt (Nat.div_le_self _ _) hk
      have hpB : pathB S k h = lb (lev S h) (k / 2 ^ h + 1 - 2 * (k / 2 ^ h % 2)) := rfl
      have hsn := range_snoc (pathB S k) h
      rw [hpB] at hsn
      have Hsn := Lib.hid hsn
      obtain ⟨gP, dP, hcP, oP⟩ := (h3.ext hEr).cell (j := h) (by omega)
      obtain ⟨g1, d9, hc1, o1⟩ := oP.cell (j := k / 2 ^ h + 1 - 2 * (k / 2 ^ h % 2)) s1
      have r1 := o1.rb
      obtain ⟨Y, hY⟩ : ∃ Y, Y = lb (lev S h) (k / 2 ^ h + 1 - 2 * (k / 2 ^ h % 2)) := ⟨_, rfl⟩
      rw [← hY] at r1 o1 Hsn
      obtain ⟨q, hq⟩ : ∃ q, q = k / 2 ^ h := ⟨_, rfl⟩
      rw [← hq] at hc1 s1 hq16
      have Hq := Lib.hid hq
      obtain ⟨N, hN⟩ : ∃ N, N = 16 / 2 ^ h := ⟨_, rfl⟩
      rw [← hN] at hcP s1
      clear hY hsn hpB s2 s3 hq hN oP
      have y1 : wr.cell? ⟨w1.heap.size, 2, none⟩ = some (.slice Q h dq) := hB8.cell (i := 2) rfl
      have y2 : wr.cell? ⟨g, 1, none⟩ = some (.slice (some ⟨gl, 0, none⟩) 5 lc) := (h2.ext hEr).cell (i := 1) rfl
      go_upto_region 5 with (fail)
      refine par_ext (n := 17) (by kernel_rfl) [.is (.pointer (some ⟨w1.heap.size, 2, none⟩)), .is (.slice (Q) (h) (dq)), .is (.pointer (some ⟨g, 0, none⟩)), .is (.pointer (some ⟨g, 0, none⟩)), .is (.pointer (some ⟨g, 1, none⟩)), .is (.slice (some ⟨gl, 0, none⟩) (5) (lc)), .is (.int .i64 (((h : Nat) : Int))), .is (.pointer (some ((⟨gl, 0, none⟩ : Addr).add (h)))), .is (.slice (some ⟨gP, 0, none⟩) (N) (dP)), .is (.int .i64 (((k : Nat) : Int))), .is (.int .i64 (((h : Nat) : Int))), .is (.int .u64 ((h : Nat) : Int)), .is (.int .i64 (((q : Nat) : Int))), .is (.int .i64 (((q + 1 - 2 * (q % 2) : Nat) : Int))), .is (.pointer (some ((⟨gP, 0, none⟩ : Addr).add ((q + 1 - 2 * (q % 2)))))), .is (.slice (some ⟨g1, 0, none⟩) (32) (d9)), .one1 (.slice (some ⟨g1, 0, none⟩) (32) (d9))] rfl ⟨?_, ?_, ?_, ?_, ?_, ?_, ?_, ?_, ?_, ?_, ?_, ?_, ?_, ?_, ?_, ?_, ?_, trivial⟩ ?_
      · refine stepE rfl fun sdn sa sw sE sd sk => ?_
        have h7 : sa.eval (.tmp 7) = .pointer (some ⟨w1.heap.size, 0, none⟩) := sk.old 7 rfl
        refine Runs.of_run (r := .pointer (some ⟨w1.heap.size, 2, none⟩)) (w' := sw) ?_ ⟨Ext.refl _, rfl⟩
        unfold execOp
        simp only [h7]
        go_simp
      · refine stepE rfl fun sdn sa sw sE sd sk => ?_
        have h22 : sa.eval (.tmp 22) = .pointer (some ⟨w1.heap.size, 2, none⟩) := sk.fact 0 22 rfl (sd 0 rfl)
        exact Runs.load rfl h22 (run_load1 Tryz.underlying33 rfl (sE.cell y1)) ⟨Ext.refl _, rfl⟩
      · refine stepE rfl fun sdn sa sw sE sd sk => ?_
        have h0 : sa.eval (.tmp 0) = .pointer (some ⟨g, 0, none⟩) := sk.old 0 rfl
        exact Runs.move rfl h0 ⟨Ext.refl _, rfl⟩
      · refine stepE rfl fun sdn sa sw sE sd sk => ?_
        have h24 : sa.eval (.tmp 24) = .pointer (some ⟨g, 0, none⟩) := sk.fact 2 24 rfl (sd 2 rfl)
        exact Runs.nil_ rfl h24 ⟨Ext.refl _, rfl⟩
      · refine stepE rfl fun sdn sa sw sE sd sk => ?_
        have h25 : sa.eval (.tmp 25) = .pointer (some ⟨g, 0, none⟩) := sk.fact 3 25 rfl (sd 3 rfl)
        refine Runs.of_run (r := .pointer (some ⟨g, 1, none⟩)) (w' := sw) ?_ ⟨Ext.refl _, rfl⟩
        unfold execOp
        simp only [h25]
        go_simp
      · refine stepE rfl fun sdn sa sw sE sd sk => ?_
        have h26 : sa.eval (.tmp 26) = .pointer (some ⟨g, 1, none⟩) := sk.fact 4 26 rfl (sd 4 rfl)
        exact Runs.load rfl h26 (run_load1 Tryz.underlying69 rfl (sE.cell y2)) ⟨Ext.refl _, rfl⟩
      · refine stepE rfl fun sdn sa sw sE sd sk => ?_
        have h8 : sa.eval (.tmp 8) = .int .i64 (((h : Nat) : Int)) := sk.old 8 rfl
        exact Runs.move rfl h8 ⟨Ext.refl _, rfl⟩
      · refine stepE rfl fun sdn sa sw sE sd sk => ?_
        have h27 : sa.eval (.tmp 27) = .slice (some ⟨gl, 0, none⟩) (5) (lc) := sk.fact 5 27 rfl (sd 5 rfl)
        have h28 : sa.eval (.tmp 28) = .int .i64 (((h : Nat) : Int)) := sk.fact 6 28 rfl (sd 6 rfl)
        exact Runs.idx rfl h27 h28 (run_idx_sl1 Tryz.underlying69 infYY_eq infYY_size (h) (by omega) (by omega)) ⟨Ext.refl _, rfl⟩
      · refine stepE rfl fun sdn sa sw sE sd sk => ?_
        have h29 : sa.eval (.tmp 29) = .pointer (some ((⟨gl, 0, none⟩ : Addr).add (h))) := sk.fact 7 29 rfl (sd 7 rfl)
        exact Runs.load rfl h29 (run_load1 Tryz.underlying33 rfl (sE.cell hcP)) ⟨Ext.refl _, rfl⟩
      · refine stepE rfl fun sdn sa sw sE sd sk => ?_
        have h1 : sa.eval (.tmp 1) = .int .i64 (((k : Nat) : Int)) := sk.old 1 rfl
        exact Runs.move rfl h1 ⟨Ext.refl _, rfl⟩
      · refine stepE rfl fun sdn sa sw sE sd sk => ?_
        have h8 : sa.eval (.tmp 8) = .int .i64 (((h : Nat) : Int)) := sk.old 8 rfl
        exact Runs.move rfl h8 ⟨Ext.refl _, rfl⟩
      · refine stepE rfl fun sdn sa sw sE sd sk => ?_
        have h32 : sa.eval (.tmp 32) = .int .i64 (((h : Nat) : Int)) := sk.fact 10 32 rfl (sd 10 rfl)
        exact Runs.conv rfl h32 (conv_i64_u64 Tryz.underlying3 Tryz.underlying95 _ h rfl (by omega)) ⟨Ext.refl _, rfl⟩
      · refine stepE rfl fun sdn sa sw sE sd sk => ?_
        have h31 : sa.eval (.tmp 31) = .int .i64 (((k : Nat) : Int)) := sk.fact 9 31 rfl (sd 9 rfl)
        have h33 : sa.eval (.tmp 33) = .int .u64 ((h : Nat) : Int) := sk.fact 11 33 rfl (sd 11 rfl)
        exact Runs.bin rfl h31 h33 (eqGuard_bin rfl) (bin_shrI _ k h (by omega)) ⟨Ext.refl _, congrArg (fun z : Nat => Value.int .i64 (z : Int)) Hq.out.symm⟩
      · refine stepE rfl fun sdn sa sw sE sd sk => ?_
        have h34 : sa.eval (.tmp 34) = .int .i64 (((q : Nat) : Int)) := sk.fact 12 34 rfl (sd 12 rfl)
        exact Runs.bin rfl h34 rfl (eqGuard_bin rfl) (bin_xor1 _ q hq16) ⟨Ext.refl _, rfl⟩
      · refine stepE rfl fun sdn sa sw sE sd sk => ?_
        have h30 : sa.eval (.tmp 30) = .slice (some ⟨gP, 0, none⟩) (N) (dP) := sk.fact 8 30 rfl (sd 8 rfl)
        have h35 : sa.eval (.tmp 35) = .int .i64 (((q + 1 - 2 * (q % 2) : Nat) : Int)) := sk.fact 13 35 rfl (sd 13 rfl)
        exact Runs.idx rfl h30 h35 (run_idx_sl1 Tryz.underlying33 infZZ_eq infZZ_size ((q + 1 - 2 * (q % 2))) (by omega) (by omega)) ⟨Ext.refl _, rfl⟩
      · refine stepE rfl fun sdn sa sw sE sd sk => ?_
        have h36 : sa.eval (.tmp 36) = .pointer (some ((⟨gP, 0, none⟩ : Addr).add ((q + 1 - 2 * (q % 2))))) := sk.fact 14 36 rfl (sd 14 rfl)
        exact Runs.load rfl h36 (run_load1 Tryz.underlying26 rfl (sE.cell hc1)) ⟨Ext.refl _, rfl⟩
      · refine stepE rfl fun sdn sa sw sE sd sk => ?_
        have h37 : sa.eval (.tmp 37) = .slice (some ⟨g1, 0, none⟩) (32) (d9) := sk.fact 15 37 rfl (sd 15 rfl)
        exact Runs.one1 rfl h37 (fun w1 e1 b1 => ⟨e1, _, rfl, b1⟩)
      intro vals W1 hE hv
      have e0 : vals 0 = .pointer (some ⟨w1.heap.size, 2, none⟩) := hv 0 (by omega) 22 rfl
      have e1 : vals 1 = .slice (Q) (h) (dq) := hv 1 (by omega) 23 rfl
      have e2 : vals 2 = .pointer (some ⟨g, 0, none⟩) := hv 2 (by omega) 24 rfl
      have e3 : vals 3 = .pointer (some ⟨g, 0, none⟩) := hv 3 (by omega) 25 rfl
      have e4 : vals 4 = .pointer (some ⟨g, 1, none⟩) := hv 4 (by omega) 26 rfl
      have e5 : vals 5 = .slice (some ⟨gl, 0, none⟩) (5) (lc) := hv 5 (by omega) 27 rfl
      have e6 : vals 6 = .int .i64 (((h : Nat) : Int)) := hv 6 (by omega) 28 rfl
      have e7 : vals 7 = .pointer (some ((⟨gl, 0, none⟩ : Addr).add (h))) := hv 7 (by omega) 29 rfl
      have e8 : vals 8 = .slice (some ⟨gP, 0, none⟩) (N) (dP) := hv 8 (by omega) 30 rfl
      have e9 : vals 9 = .int .i64 (((k : Nat) : Int)) := hv 9 (by omega) 31 rfl
      have e10 : vals 10 = .int .i64 (((h : Nat) : Int)) := hv 10 (by omega) 32 rfl
      have e11 : vals 11 = .int .u64 ((h : Nat) : Int) := hv 11 (by omega) 33 rfl
      have e12 : vals 12 = .int .i64 (((q : Nat) : Int)) := hv 12 (by omega) 34 rfl
      have e13 : vals 13 = .int .i64 (((q + 1 - 2 * (q % 2) : Nat) : Int)) := hv 13 (by omega) 35 rfl
      have e14 : vals 14 = .pointer (some ((⟨gP, 0, none⟩ : Addr).add ((q + 1 - 2 * (q % 2))))) := hv 14 (by omega) 36 rfl
      have e15 : vals 15 = .slice (some ⟨g1, 0, none⟩) (32) (d9) := hv 15 (by omega) 37 rfl
      obtain ⟨x38, e16, hc38⟩ := hv 16 (by omega) 38 rfl
      simp only [putAll, Act.put, List.take_succ_cons, List.take_zero, List.drop_succ_cons, List.drop_zero, List.drop_nil, List.take_nil, Nat.reduceAdd, List.setIfInBounds_toArray, List.set_cons_succ, List.set_cons_zero, e0, e1, e2, e3, e4, e5, e6, e7, e8, e9, e10, e11, e12, e13, e14, e15, e16]
      clear hv e0 e1 e2 e3 e4 e5 e6 e7 e8 e9 e10 e11 e12 e13 e14 e15 e16
      have ownQ1 := ownQ.ext hE
      have hB81 := hB8.ext hE
      have hEw := hEr.trans hE
      have hne : 0 < 32 → blk (some ⟨g1, 0, none⟩) ≠ blk Q := by
        intro _ e
        obtain ⟨vs, r1', _⟩ := ownQ
        obtain ⟨cs, hcs⟩ := row_type o1 (k := g1) (by rw [ownBlock_slice]; rfl)
        exact row_ne r1' hcs (by decide) (by rw [ownBlock_slice]; exact e.symm)
      have hne8 : some w1.heap.size ≠ blk Q := by
        intro e
        obtain ⟨vs, r1', _⟩ := ownQ
        exact row_ne r1' hB8 (by decide) (by rw [ownBlock_slice]; exact e.symm)
      go_wp2_with (refine appbc_law (base := w1.heap.size) (Y := Y) rfl rfl rfl rfl hc38 ownQ1 (r1.ext hE) hne hEw.size (by omega) ?_; intro Q5 d5 w5 ownQ5 g5; have hB85 := hB81.grown g5 hne8; have y5 := hB85.cell (i := 2) (v := .slice Q h dq) rfl; have y6 := hB85.frozen 2)
      have gs := grown_set w5 ⟨w1.heap.size, 2, none⟩ (.slice Q5 (h + 1) d5)
      have ownQ6 := ownQ5.far hB85 (by decide) (sig_no _ _ _ _ _ _ _) gs
      have hB86 := hB85.set 2 (.slice Q5 (h + 1) d5)
      have hE6 := (hEw.then_grown g5 (fun b hb => (ownQ1.lt hb).1)).set (p := ⟨w1.heap.size, 2, none⟩) (Nat.le_refl _) (.slice Q5 (h + 1) d5)
      clear hB81 hEw ownQ1 ownQ5 g5 hB85 y5 y6 gs y1 y2 hcP hc1 o1 r1
      go_roundw
      case rel => exact ⟨h + 1, d5, Q5, by omega, by go_num, by rw [Hsn.out]; exact ownQ6, hB86, hE6⟩
      case measure => simp [intOf]; omega
    · obtain rfl : h = 4 := by omega
      have z0 : wr.cell? ⟨w1.heap.size, 0, none⟩ = some (.int .i64 (k : Int)) := hB8.cell (i := 0) rfl
      have z1 : wr.cell? ⟨w1.heap.size, 1, none⟩ = some (.slice P1 64 d1) := hB8.cell (i := 1) rfl
      have z2 : wr.cell? ⟨w1.heap.size, 2, none⟩ = some (.slice Q 4 dq) := hB8.cell (i := 2) rfl
      have hB6r := hB6.ext hEr
      have f0 := hB6r.frozen 0
      have f1 := hB6r.frozen 1
      have f2 := hB6r.frozen 2
      have x0 := hB6r.cell (i := 0) rfl
      have x1 := hB6r.cell (i := 1) rfl
      have x2 := hB6r.cell (i := 2) rfl
      go_wp2_with fail
      have g1 := fun (w' : World) (u : Value) (i : Nat) => grown_set w' ⟨w.heap.size, i, none⟩ u
      have b1 := hB6r.set 0 (.int .i64 (k : Int))
      have b2 := b1.set 1 (.slice P1 64 d1)
      have b3 := b2.set 2 (.slice Q 4 dq)
      have oP := own1.ext hEr
      have oP3 := ((oP.far hB6r (by decide) (sig_no _ _ _ _ _ _ _) (g1 _ (.int .i64 (k : Int)) 0)).far b1 (by decide) (sig_no _ _ _ _ _ _ _) (g1 _ (.slice P1 64 d1) 1)).far b2 (by decide) (sig_no _ _ _ _ _ _ _) (g1 _ (.slice Q 4 dq) 2)
      have oQ3 := ((ownQ.far hB6r (by decide) (sig_no _ _ _ _ _ _ _) (g1 _ (.int .i64 (k : Int)) 0)).far b1 (by decide) (sig_no _ _ _ _ _ _ _) (g1 _ (.slice P1 64 d1) 1)).far b2 (by decide) (sig_no _ _ _ _ _ _ _) (g1 _ (.slice Q 4 dq) 2)
      have hEf := (((hE01.trans hEr).set (p := ⟨w.heap.size, 0, none⟩) (Nat.le_refl _) (.int .i64 (k : Int))).set (p := ⟨w.heap.size, 1, none⟩) (Nat.le_refl _) (.slice P1 64 d1)).set (p := ⟨w.heap.size, 2, none⟩) (Nat.le_refl _) (.slice Q 4 dq)
      clear oP ownQ hEr hB8 hB6 hB6r z0 z1 z2 x0 x1 x2 f0 f1 f2
      refine bodyPost_ret (results_cell_row rfl _ _ w.heap.size _ _ _ _ rfl b3 Tryz.underlying38 rfl rfl) rfl ?_
      exact ⟨P1, d1, Q, dq, rfl, oP3.base (by rw [World.size_alloc]; omega), oQ3.base hE01.size, hEf⟩
end Go.Proofs.YtkndgpjamijbbaaGreat
