/-
  ref5: an owner's public and signatures, Right and Verify, walked. sign.Encode and ref5.Encode, walked. wire's Reader, walked: Read, take, number, Byte, Num, Bytes, Raw, End.
-/
import Derived.Test.YtkndgpjamijbbaaLawPieces22Q18
import Derived.Test.YtkndgpjamijbbaaLawPieces22Q19
import Derived.Test.YtkndgpjamijbbaaLawPieces22Q15
import Derived.Test.YtkndgpjamijbbaaLawPieces22Q5
import Derived.Test.YtkndgpjamijbbaaLawPieces22Q17
import Derived.Lib.AppendZerosOnto
namespace Go.Proofs.Ytkndgpjamijbbaa
set_option maxRecDepth 100000
open Go Go.RowKit
noncomputable def infYY : TypeInfo := (Try.prog.info? 23).getD default
theorem infYY_eq : Try.prog.info? 23 = some infYY := by kernel_rfl
theorem infYY_size : infYY.size = 1 := by kernel_rfl
theorem bin_shrI {P : Program} {w : World} (t : TypeId) {kk : IntKind} (k h : Nat) (hh : h ≤ 60) : (binOp .shr t (.int .i64 (k : Int)) (.int kk (h : Int))).run P w = .ok (.int .i64 ((k / 2 ^ h : Nat) : Int)) w := by
  have h1 : ¬ ((h : Int) < 0) := by omega
  have h2 : min (h : Int).toNat IntKind.i64.bits = h := by simp [IntKind.bits]; omega
  have e : ((k : Int)).fdiv (2 ^ h) = ((k / 2 ^ h : Nat) : Int) := by
    rw [Int.fdiv_eq_ediv_of_nonneg _ (Int.pow_nonneg (by decide))]
    simp
  simp only [binOp, Op.shift, if_neg h1, h2, e, Sem.run_pure]
set_option maxHeartbeats 2000000 in
theorem rpublic_any (g b : Nat) (S : List UInt8) (w : World) (h : OwnR w b g S) :
    Calls Try.prog 27 #[.pointer (some ⟨g, 0, none⟩)] w fun e w' => ∃ A' c', e = .returned (.slice A' 32 c') ∧ RB w' A' 32 c' (ownP S) ∧ Ext w w' := by
  obtain ⟨A, c, LA, lc, h1, h2, h3⟩ := h
  obtain ⟨gl, rfl⟩ := h3.plain (by omega)
  obtain ⟨g4, d4, hc4, o4⟩ := h3.cell (j := 4) (by omega)
  have e4 : (Value.slice (some (⟨g4, 0, none⟩ : Addr)) (16 / 2 ^ 4) d4) = .slice (some ⟨g4, 0, none⟩) 1 d4 := rfl
  rw [e4, add_plain] at hc4
  have o4' : OBD w b (some ⟨g4, 0, none⟩) 1 d4 (lev S 4) := o4
  obtain ⟨g5, d5, hc5, o5⟩ := o4'.cell (j := 0) (by omega)
  rw [add_plain] at hc5
  have y1 : w.cell? ⟨g, 1, none⟩ = some (.slice (some ⟨gl, 0, none⟩) 5 lc) := h2.cell (i := 1) rfl
  clear e4 o4 h1
  go_enter Try.func27, Try.ntmps27
  go_wp2_with fail
  go_ret
  exact ⟨_, d5, rfl, o5.rb, Ext.refl _⟩
def RSignI (w1 : World) (S : List UInt8) (k dp : Nat) (Pp : Option Addr) (i : Value) (wr : World) : Prop :=
  ∃ (h dq : Nat) (Q : Option Addr), h ≤ 4 ∧ i = .int .i64 h ∧ OBC wr w1.heap.size Q h dq ((List.range h).map (pathB S k)) ∧ Blk wr w1.heap.size 42 #[.int .i64 (k : Int), .slice Pp 64 dp, .slice Q h dq] ∧ Ext w1 wr
theorem OwnR.far {w w' : World} {b g : Nat} {S : List UInt8} (h : OwnR w b g S) {k : Nat} {cs : Array Value} (hb : Blk w k 42 cs) (hno : ∀ (i : Nat) (x : Int), cs[i]? ≠ some (.int .u8 x)) (e : w.grownBy w' (some k)) : OwnR w' b g S := by
  obtain ⟨A, c, LA, lc, h1, h2, h3⟩ := h
  refine ⟨A, c, LA, lc, h1.grown e (h1.apart5 hb hno), h2.grown e (fun e' => ?_), h3.far hb (by decide) (by decide) (by decide) e⟩
  injection e' with e'
  subst e'
  unfold Blk at h2 hb
  rw [h2] at hb
  injection hb with hb
  injection hb with _ hb
  revert hb
  decide
set_option maxHeartbeats 4000000 in
theorem rsign_own (B : Option Addr) (g b m e' k : Nat) (S M : List UInt8) (w : World) (ho : OwnR w b g S) (hm : RB w B m e' M) (hmn : m ≤ 140737488355000) (hk : k < 16) :
    Calls Try.prog 25 #[.pointer (some ⟨g, 0, none⟩), .int .i64 (k : Int), .slice B m e'] w fun e w' => ∃ P d Q d', e = .returned (.agg #[.int .i64 (k : Int), .slice P 64 d, .slice Q 4 d']) ∧ OBC w' w.heap.size P 64 d ((List.range 64).map (partS (digestW M) S k)) ∧ OBC w' w.heap.size Q 4 d' (pathL S k) ∧ Ext w w' := by
  have hki : (k : Int) < 16 := by omega
  obtain ⟨A, c, LA, lc, h1, h2, h3⟩ := ho
  obtain ⟨gl, rfl⟩ := h3.plain (by omega)
  go_enter Try.func25, Try.ntmps25
  have hE0 := Ext.new w (.cells #[.int .i64 0, .slice none 0 0, .slice none 0 0] 42)
  have hB6 := Blk.new w 42 #[.int .i64 0, .slice none 0 0, .slice none 0 0]
  have y0 := (h2.ext hE0).cell (i := 0) rfl
  go_wp2_with fail
  refine (r4sign_any A B 32 c m e' S M k _ (h1.ext hE0) (by omega) (hm.ext hE0) hmn).mono ?_
  rintro e w1 ⟨P1, d1, rfl, own1, hE1⟩
  have hB6 := hB6.ext hE1
  have hE01 := hE0.trans hE1
  have h2 := h2.ext hE01
  have h3 := h3.ext hE01
  have hlt6 := hB6.lt
  clear hE1 hm y0 hE0 h1
  have hE2 := Ext.new w1 (.cells #[.int .i64 (k : Int), .slice P1 64 d1, .slice none 0 0] 42)
  have hB8 := Blk.new w1 42 #[.int .i64 (k : Int), .slice P1 64 d1, .slice none 0 0]
  go_wp2_with fail
  go_loopw [8] (fun i wr => RSignI w1 S k d1 P1 i wr) (fun i _ => 4 - (intOf i).toNat)
  case atStart => exact ⟨0, 0, none, by omega, rfl, OBC.none_ _ _, hB8, hE2⟩
  case round =>
    clear hB8 hE2
    obtain ⟨h, dq, Q, hh, rfl, ownQ, hB8, hEr⟩ := hrel
    have hlt8 := hB8.lt
    by_cases hlt : h < 4
    · have hhi : (h : Int) < 4 := by omega
      obtain ⟨s1, s2, s3⟩ := step_lt hk hlt
      have hq16 : k / 2 ^ h < 16 := Nat.lt_of_le_of_lt (Nat.div_le_self _ _) hk
      have hpB : pathB S k h = lb (lev S h) (k / 2 ^ h + 1 - 2 * (k / 2 ^ h % 2)) := rfl
      have hsn := range_snoc (pathB S k) h
      rw [hpB] at hsn
      have Hsn := Lib.hid hsn
      obtain ⟨gP, dP, hcP, oP⟩ := (h3.ext hEr).cell (j := h) (by omega)
      obtain ⟨g1, d9, hc1, o1⟩ := oP.cell (j := k / 2 ^ h + 1 - 2 * (k / 2 ^ h % 2)) s1
      have r1 := o1.rb
      obtain ⟨Y, hY⟩ : ∃ Y, Y = lb (lev S h) (k / 2 ^ h + 1 - 2 * (k / 2 ^ h % 2)) := ⟨_, rfl⟩
      rw [← hY] at r1 o1 Hsn
      obtain ⟨q, hq⟩ : ∃ q, q = k / 2 ^ h := ⟨_, rfl⟩
      rw [← hq] at hc1 s1 hq16
      have Hq := Lib.hid hq
      obtain ⟨N, hN⟩ : ∃ N, N = 16 / 2 ^ h := ⟨_, rfl⟩
      rw [← hN] at hcP s1
      clear hY hsn hpB s2 s3 hq hN oP
      have y1 : wr.cell? ⟨w1.heap.size, 2, none⟩ = some (.slice Q h dq) := hB8.cell (i := 2) rfl
      have y2 : wr.cell? ⟨g, 1, none⟩ = some (.slice (some ⟨gl, 0, none⟩) 5 lc) := (h2.ext hEr).cell (i := 1) rfl
      go_upto_region 5 with (fail)
      refine par_ext (n := 17) (by kernel_rfl) [.is (.pointer (some ⟨w1.heap.size, 2, none⟩)), .is (.slice (Q) (h) (dq)), .is (.pointer (some ⟨g, 0, none⟩)), .is (.pointer (some ⟨g, 0, none⟩)), .is (.pointer (some ⟨g, 1, none⟩)), .is (.slice (some ⟨gl, 0, none⟩) (5) (lc)), .is (.int .i64 (((h : Nat) : Int))), .is (.pointer (some ((⟨gl, 0, none⟩ : Addr).add (h)))), .is (.slice (some ⟨gP, 0, none⟩) (N) (dP)), .is (.int .i64 (((k : Nat) : Int))), .is (.int .i64 (((h : Nat) : Int))), .is (.int .u64 ((h : Nat) : Int)), .is (.int .i64 (((q : Nat) : Int))), .is (.int .i64 (((q + 1 - 2 * (q % 2) : Nat) : Int))), .is (.pointer (some ((⟨gP, 0, none⟩ : Addr).add ((q + 1 - 2 * (q % 2)))))), .is (.slice (some ⟨g1, 0, none⟩) (32) (d9)), .one1 (.slice (some ⟨g1, 0, none⟩) (32) (d9))] rfl ⟨?_, ?_, ?_, ?_, ?_, ?_, ?_, ?_, ?_, ?_, ?_, ?_, ?_, ?_, ?_, ?_, ?_, trivial⟩ ?_
      · refine stepE rfl fun sdn sa sw sE sd sk => ?_
        have h7 : sa.eval (.tmp 7) = .pointer (some ⟨w1.heap.size, 0, none⟩) := sk.old 7 rfl
        refine Runs.of_run (r := .pointer (some ⟨w1.heap.size, 2, none⟩)) (w' := sw) ?_ ⟨Ext.refl _, rfl⟩
        unfold execOp
        simp only [h7]
        go_simp
      · refine stepE rfl fun sdn sa sw sE sd sk => ?_
        have h22 : sa.eval (.tmp 22) = .pointer (some ⟨w1.heap.size, 2, none⟩) := sk.fact 0 22 rfl (sd 0 rfl)
        exact Runs.load rfl h22 (run_load1 Try.underlying23 rfl (sE.cell y1)) ⟨Ext.refl _, rfl⟩
      · refine stepE rfl fun sdn sa sw sE sd sk => ?_
        have h0 : sa.eval (.tmp 0) = .pointer (some ⟨g, 0, none⟩) := sk.old 0 rfl
        exact Runs.move rfl h0 ⟨Ext.refl _, rfl⟩
      · refine stepE rfl fun sdn sa sw sE sd sk => ?_
        have h24 : sa.eval (.tmp 24) = .pointer (some ⟨g, 0, none⟩) := sk.fact 2 24 rfl (sd 2 rfl)
        exact Runs.nil_ rfl h24 ⟨Ext.refl _, rfl⟩
      · refine stepE rfl fun sdn sa sw sE sd sk => ?_
        have h25 : sa.eval (.tmp 25) = .pointer (some ⟨g, 0, none⟩) := sk.fact 3 25 rfl (sd 3 rfl)
        refine Runs.of_run (r := .pointer (some ⟨g, 1, none⟩)) (w' := sw) ?_ ⟨Ext.refl _, rfl⟩
        unfold execOp
        simp only [h25]
        go_simp
      · refine stepE rfl fun sdn sa sw sE sd sk => ?_
        have h26 : sa.eval (.tmp 26) = .pointer (some ⟨g, 1, none⟩) := sk.fact 4 26 rfl (sd 4 rfl)
        exact Runs.load rfl h26 (run_load1 Try.underlying33 rfl (sE.cell y2)) ⟨Ext.refl _, rfl⟩
      · refine stepE rfl fun sdn sa sw sE sd sk => ?_
        have h8 : sa.eval (.tmp 8) = .int .i64 (((h : Nat) : Int)) := sk.old 8 rfl
        exact Runs.move rfl h8 ⟨Ext.refl _, rfl⟩
      · refine stepE rfl fun sdn sa sw sE sd sk => ?_
        have h27 : sa.eval (.tmp 27) = .slice (some ⟨gl, 0, none⟩) (5) (lc) := sk.fact 5 27 rfl (sd 5 rfl)
        have h28 : sa.eval (.tmp 28) = .int .i64 (((h : Nat) : Int)) := sk.fact 6 28 rfl (sd 6 rfl)
        exact Runs.idx rfl h27 h28 (run_idx_sl1 Try.underlying33 infYY_eq infYY_size (h) (by omega) (by omega)) ⟨Ext.refl _, rfl⟩
      · refine stepE rfl fun sdn sa sw sE sd sk => ?_
        have h29 : sa.eval (.tmp 29) = .pointer (some ((⟨gl, 0, none⟩ : Addr).add (h))) := sk.fact 7 29 rfl (sd 7 rfl)
        exact Runs.load rfl h29 (run_load1 Try.underlying23 rfl (sE.cell hcP)) ⟨Ext.refl _, rfl⟩
      · refine stepE rfl fun sdn sa sw sE sd sk => ?_
        have h1 : sa.eval (.tmp 1) = .int .i64 (((k : Nat) : Int)) := sk.old 1 rfl
        exact Runs.move rfl h1 ⟨Ext.refl _, rfl⟩
      · refine stepE rfl fun sdn sa sw sE sd sk => ?_
        have h8 : sa.eval (.tmp 8) = .int .i64 (((h : Nat) : Int)) := sk.old 8 rfl
        exact Runs.move rfl h8 ⟨Ext.refl _, rfl⟩
      · refine stepE rfl fun sdn sa sw sE sd sk => ?_
        have h32 : sa.eval (.tmp 32) = .int .i64 (((h : Nat) : Int)) := sk.fact 10 32 rfl (sd 10 rfl)
        exact Runs.conv rfl h32 (conv_i64_u64 Try.underlying3 Try.underlying91 _ h rfl (by omega)) ⟨Ext.refl _, rfl⟩
      · refine stepE rfl fun sdn sa sw sE sd sk => ?_
        have h31 : sa.eval (.tmp 31) = .int .i64 (((k : Nat) : Int)) := sk.fact 9 31 rfl (sd 9 rfl)
        have h33 : sa.eval (.tmp 33) = .int .u64 ((h : Nat) : Int) := sk.fact 11 33 rfl (sd 11 rfl)
        exact Runs.bin rfl h31 h33 (eqGuard_bin rfl) (bin_shrI _ k h (by omega)) ⟨Ext.refl _, congrArg (fun z : Nat => Value.int .i64 (z : Int)) Hq.out.symm⟩
      · refine stepE rfl fun sdn sa sw sE sd sk => ?_
        have h34 : sa.eval (.tmp 34) = .int .i64 (((q : Nat) : Int)) := sk.fact 12 34 rfl (sd 12 rfl)
        exact Runs.bin rfl h34 rfl (eqGuard_bin rfl) (bin_xor1 _ q hq16) ⟨Ext.refl _, rfl⟩
      · refine stepE rfl fun sdn sa sw sE sd sk => ?_
        have h30 : sa.eval (.tmp 30) = .slice (some ⟨gP, 0, none⟩) (N) (dP) := sk.fact 8 30 rfl (sd 8 rfl)
        have h35 : sa.eval (.tmp 35) = .int .i64 (((q + 1 - 2 * (q % 2) : Nat) : Int)) := sk.fact 13 35 rfl (sd 13 rfl)
        exact Runs.idx rfl h30 h35 (run_idx_sl1 Try.underlying23 infZZ_eq infZZ_size ((q + 1 - 2 * (q % 2))) (by omega) (by omega)) ⟨Ext.refl _, rfl⟩
      · refine stepE rfl fun sdn sa sw sE sd sk => ?_
        have h36 : sa.eval (.tmp 36) = .pointer (some ((⟨gP, 0, none⟩ : Addr).add ((q + 1 - 2 * (q % 2))))) := sk.fact 14 36 rfl (sd 14 rfl)
        exact Runs.load rfl h36 (run_load1 Try.underlying22 rfl (sE.cell hc1)) ⟨Ext.refl _, rfl⟩
      · refine stepE rfl fun sdn sa sw sE sd sk => ?_
        have h37 : sa.eval (.tmp 37) = .slice (some ⟨g1, 0, none⟩) (32) (d9) := sk.fact 15 37 rfl (sd 15 rfl)
        exact Runs.one1 rfl h37 (fun w1 e1 b1 => ⟨e1, _, rfl, b1⟩)
      intro vals W1 hE hv
      have e0 : vals 0 = .pointer (some ⟨w1.heap.size, 2, none⟩) := hv 0 (by omega) 22 rfl
      have e1 : vals 1 = .slice (Q) (h) (dq) := hv 1 (by omega) 23 rfl
      have e2 : vals 2 = .pointer (some ⟨g, 0, none⟩) := hv 2 (by omega) 24 rfl
      have e3 : vals 3 = .pointer (some ⟨g, 0, none⟩) := hv 3 (by omega) 25 rfl
      have e4 : vals 4 = .pointer (some ⟨g, 1, none⟩) := hv 4 (by omega) 26 rfl
      have e5 : vals 5 = .slice (some ⟨gl, 0, none⟩) (5) (lc) := hv 5 (by omega) 27 rfl
      have e6 : vals 6 = .int .i64 (((h : Nat) : Int)) := hv 6 (by omega) 28 rfl
      have e7 : vals 7 = .pointer (some ((⟨gl, 0, none⟩ : Addr).add (h))) := hv 7 (by omega) 29 rfl
      have e8 : vals 8 = .slice (some ⟨gP, 0, none⟩) (N) (dP) := hv 8 (by omega) 30 rfl
      have e9 : vals 9 = .int .i64 (((k : Nat) : Int)) := hv 9 (by omega) 31 rfl
      have e10 : vals 10 = .int .i64 (((h : Nat) : Int)) := hv 10 (by omega) 32 rfl
      have e11 : vals 11 = .int .u64 ((h : Nat) : Int) := hv 11 (by omega) 33 rfl
      have e12 : vals 12 = .int .i64 (((q : Nat) : Int)) := hv 12 (by omega) 34 rfl
      have e13 : vals 13 = .int .i64 (((q + 1 - 2 * (q % 2) : Nat) : Int)) := hv 13 (by omega) 35 rfl
      have e14 : vals 14 = .pointer (some ((⟨gP, 0, none⟩ : Addr).add ((q + 1 - 2 * (q % 2))))) := hv 14 (by omega) 36 rfl
      have e15 : vals 15 = .slice (some ⟨g1, 0, none⟩) (32) (d9) := hv 15 (by omega) 37 rfl
      obtain ⟨x38, e16, hc38⟩ := hv 16 (by omega) 38 rfl
      simp only [putAll, Act.put, List.take_succ_cons, List.take_zero, List.drop_succ_cons, List.drop_zero, List.drop_nil, List.take_nil, Nat.reduceAdd, List.setIfInBounds_toArray, List.set_cons_succ, List.set_cons_zero, e0, e1, e2, e3, e4, e5, e6, e7, e8, e9, e10, e11, e12, e13, e14, e15, e16]
      clear hv e0 e1 e2 e3 e4 e5 e6 e7 e8 e9 e10 e11 e12 e13 e14 e15 e16
      have ownQ1 := ownQ.ext hE
      have hB81 := hB8.ext hE
      have hEw := hEr.trans hE
      have hne : 0 < 32 → blk (some ⟨g1, 0, none⟩) ≠ blk Q := by
        intro _ e
        obtain ⟨vs, r1', _⟩ := ownQ
        obtain ⟨cs, hcs⟩ := row_type o1 (k := g1) (by rw [ownBlock_slice]; rfl)
        exact row_ne r1' hcs (by decide) (by rw [ownBlock_slice]; exact e.symm)
      have hne8 : some w1.heap.size ≠ blk Q := by
        intro e
        obtain ⟨vs, r1', _⟩ := ownQ
        exact row_ne r1' hB8 (by decide) (by rw [ownBlock_slice]; exact e.symm)
      go_wp2_with (refine appbc_law (base := w1.heap.size) (Y := Y) rfl rfl rfl rfl hc38 ownQ1 (r1.ext hE) hne hEw.size (by omega) ?_; intro Q5 d5 w5 ownQ5 g5; have hB85 := hB81.grown g5 hne8; have y5 := hB85.cell (i := 2) (v := .slice Q h dq) rfl; have y6 := hB85.frozen 2)
      have gs := grown_set w5 ⟨w1.heap.size, 2, none⟩ (.slice Q5 (h + 1) d5)
      have ownQ6 := ownQ5.far hB85 (by decide) (sig_no _ _ _ _ _ _ _) gs
      have hB86 := hB85.set 2 (.slice Q5 (h + 1) d5)
      have hE6 := (hEw.then_grown g5 (fun b hb => (ownQ1.lt hb).1)).set (p := ⟨w1.heap.size, 2, none⟩) (Nat.le_refl _) (.slice Q5 (h + 1) d5)
      clear hB81 hEw ownQ1 ownQ5 g5 hB85 y5 y6 gs y1 y2 hcP hc1 o1 r1
      go_roundw
      case rel => exact ⟨h + 1, d5, Q5, by omega, by go_num, by rw [Hsn.out]; exact ownQ6, hB86, hE6⟩
      case measure => simp [intOf]; omega
    · obtain rfl : h = 4 := by omega
      have z0 : wr.cell? ⟨w1.heap.size, 0, none⟩ = some (.int .i64 (k : Int)) := hB8.cell (i := 0) rfl
      have z1 : wr.cell? ⟨w1.heap.size, 1, none⟩ = some (.slice P1 64 d1) := hB8.cell (i := 1) rfl
      have z2 : wr.cell? ⟨w1.heap.size, 2, none⟩ = some (.slice Q 4 dq) := hB8.cell (i := 2) rfl
      have hB6r := hB6.ext hEr
      have f0 := hB6r.frozen 0
      have f1 := hB6r.frozen 1
      have f2 := hB6r.frozen 2
      have x0 := hB6r.cell (i := 0) rfl
      have x1 := hB6r.cell (i := 1) rfl
      have x2 := hB6r.cell (i := 2) rfl
      go_wp2_with fail
      have g1 := fun (w' : World) (u : Value) (i : Nat) => grown_set w' ⟨w.heap.size, i, none⟩ u
      have b1 := hB6r.set 0 (.int .i64 (k : Int))
      have b2 := b1.set 1 (.slice P1 64 d1)
      have b3 := b2.set 2 (.slice Q 4 dq)
      have oP := own1.ext hEr
      have oP3 := ((oP.far hB6r (by decide) (sig_no _ _ _ _ _ _ _) (g1 _ (.int .i64 (k : Int)) 0)).far b1 (by decide) (sig_no _ _ _ _ _ _ _) (g1 _ (.slice P1 64 d1) 1)).far b2 (by decide) (sig_no _ _ _ _ _ _ _) (g1 _ (.slice Q 4 dq) 2)
      have oQ3 := ((ownQ.far hB6r (by decide) (sig_no _ _ _ _ _ _ _) (g1 _ (.int .i64 (k : Int)) 0)).far b1 (by decide) (sig_no _ _ _ _ _ _ _) (g1 _ (.slice P1 64 d1) 1)).far b2 (by decide) (sig_no _ _ _ _ _ _ _) (g1 _ (.slice Q 4 dq) 2)
      have hEf := (((hE01.trans hEr).set (p := ⟨w.heap.size, 0, none⟩) (Nat.le_refl _) (.int .i64 (k : Int))).set (p := ⟨w.heap.size, 1, none⟩) (Nat.le_refl _) (.slice P1 64 d1)).set (p := ⟨w.heap.size, 2, none⟩) (Nat.le_refl _) (.slice Q 4 dq)
      clear oP ownQ hEr hB8 hB6 hB6r z0 z1 z2 x0 x1 x2 f0 f1 f2
      refine bodyPost_ret (results_cell_row rfl _ _ w.heap.size _ _ _ _ rfl b3 Try.underlying42 rfl rfl) rfl ?_
      exact ⟨P1, d1, Q, dq, rfl, oP3.base (by rw [World.size_alloc]; omega), oQ3.base hE01.size, hEf⟩
end Go.Proofs.Ytkndgpjamijbbaa
namespace Go.Proofs.Ytkndgpjamijbbaa
set_option maxRecDepth 100000
open Go Go.RowKit
theorem beBytes_four (x : UInt32) : beBytes x 4 = bytesOf x := by
  unfold beBytes bytesOf
  simp only [List.range_succ, List.range_zero, List.nil_append, List.cons_append, List.map_cons, List.map_nil]
  refine congrArg (fun z => [_, _, _, z]) ?_
  apply UInt8.toNat_inj.1
  rw [UInt32.toNat_toUInt8, shr_toNat, UInt32.toNat_toUInt8]
  simp
end Go.Proofs.Ytkndgpjamijbbaa
namespace Go.Proofs.Ytkndgpjamijbbaa
set_option maxRecDepth 100000
open Go Go.RowKit
/-- what a Reader does: what it takes, what is left, whether bytes lacked -/
def rtake (L : List UInt8) (bad : Bool) (z : Int) : List UInt8 × List UInt8 × Bool := if bad = true ∨ z < 0 ∨ (L.length : Int) < z then ([], [], true) else (L.take z.toNat, L.drop z.toNat, false)
/-- A Reader: block q holds what is left, and whether bytes lacked. -/
structure Rdr (w : World) (base q : Nat) (A : Option Addr) (n c : Nat) (L : List UInt8) (bad : Bool) : Prop where
  blk : Blk w q 151 #[.slice A n c, .bool bad]
  rb : RB w A n c L
  ne : 0 < n → Go.Proofs.Ytkndgpjamijbbaa.blk A ≠ some q
  base : base ≤ q
  ty : 0 < n → ∀ k, Go.Proofs.Ytkndgpjamijbbaa.blk A = some k → ∃ cs fr, w.heap[k]? = some (.cells cs 5 fr)
theorem OB.typed {w : World} {base n c : Nat} {A : Option Addr} {L : List UInt8} (h : OB w base A n c L) (k : Nat) (hk : blk A = some k) : ∃ cs fr, w.heap[k]? = some (.cells cs 5 fr) := by
  rcases h.2 with ⟨e, _⟩ | ⟨g, cap, cur, e, _, h1, _⟩
  · injection e with e1
    subst e1
    cases hk
  · injection e with e1
    subst e1
    have h2 : some g = some k := hk
    injection h2 with h2
    subst h2
    exact ⟨cur, (0, 0), h1⟩
theorem typed_ext {w w' : World} (e : Ext w w') {k : Nat} (h : ∃ cs fr, w.heap[k]? = some (.cells cs 5 fr)) : ∃ cs fr, w'.heap[k]? = some (.cells cs 5 fr) := by
  obtain ⟨cs, fr, h1⟩ := h
  exact ⟨cs, fr, (e.block (Array.getElem?_eq_some_iff.1 h1).1).trans h1⟩
def RdrS (w : World) (base q : Nat) (L : List UInt8) (bad : Bool) : Prop := ∃ A n c, n ≤ 140737488355328 ∧ Rdr w base q A n c L bad
theorem Rdr.later {w w' : World} {base q n c : Nat} {A : Option Addr} {L : List UInt8} {bad : Bool} (h : Rdr w base q A n c L bad) (e : Ext w w') : Rdr w' base q A n c L bad :=
  ⟨h.blk.ext e, h.rb.ext e, h.ne, h.base, fun hn k hk => typed_ext e (h.ty hn k hk)⟩
theorem RdrS.later {w w' : World} {base q : Nat} {L : List UInt8} {bad : Bool} (h : RdrS w base q L bad) (e : Ext w w') : RdrS w' base q L bad := by
  obtain ⟨A, n, c, h1, h2⟩ := h
  exact ⟨A, n, c, h1, h2.later e⟩
set_option maxHeartbeats 1000000 in
theorem rread_any (A : Option Addr) (n c : Nat) (L : List UInt8) (w : World) (hr : RB w A n c L) (hn : n ≤ 140737488355328) :
    Calls Try.prog 102 #[.slice A n c] w fun e w' => ∃ q, e = .returned (.pointer (some ⟨q, 0, none⟩)) ∧ RdrS w' w.heap.size q L false ∧ Ext w w' := by
  go_enter Try.func102, Try.ntmps102
  go_wp2_with fail
  refine (clone_any A n c L w hr hn).mono ?_
  rintro e w1 ⟨B, d, rfl, own, hE⟩
  go_wp2_with fail
  go_ret
  refine ⟨w1.heap.size, rfl, ⟨B, n, d, hn, Blk.new w1 _ _, own.rb.ext (Ext.new w1 _), fun hn e => ?_, hE.size, fun _ k hk => typed_ext (Ext.new w1 _) (own.typed k hk)⟩, hE.alloc _⟩
  have := (own.lt e).2
  omega
set_option maxHeartbeats 1000000 in
theorem rtake_no (w : World) (base q n c : Nat) (A : Option Addr) (L : List UInt8) (bad : Bool) (z : Int) (hR : Rdr w base q A n c L bad) (hz0 : -9223372036854775808 ≤ z) (hz1 : z ≤ 9223372036854775807) (hno : bad = true ∨ z < 0 ∨ (n : Int) < z) :
    Calls Try.prog 126 #[.pointer (some ⟨q, 0, none⟩), .int .i64 z] w fun e w' => e = .returned (.slice none 0 0) ∧ RdrS w' base q [] true ∧ w.grownBy w' (some q) := by
  have y1 := hR.blk.cell (i := 0) rfl
  have y2 := hR.blk.cell (i := 1) rfl
  have y3 := hR.blk.frozen 0
  have y4 := hR.blk.frozen 1
  have hb := hR.blk
  have fin : ∀ w', w' = (w.setCell ⟨q, 0, none⟩ (.slice none 0 0)).setCell ⟨q, 1, none⟩ (.bool true) → RdrS w' base q [] true ∧ w.grownBy w' (some q) := by
    rintro w' rfl
    refine ⟨⟨none, 0, 0, by omega, (hb.set 0 _).set 1 _, RB.nil_ _, fun h => by omega, hR.base, fun h => by omega⟩, (grownBy_setCell w ⟨q, 0, none⟩ _).trans (grownBy_setCell _ ⟨q, 1, none⟩ _)⟩
  have Fin := Lib.hid fin
  clear fin hb hR
  by_cases hb : bad = true
  · subst hb
    go_enter Try.func126, Try.ntmps126
    go_wp2_with fail
    go_ret
    exact ⟨rfl, Fin.out _ rfl⟩
  · have hb' : bad = false := by simpa using hb
    subst hb'
    clear hb
    by_cases hz : z < 0
    · have d1 : decide (z < 0) = true := by simpa using hz
      go_enter Try.func126, Try.ntmps126
      go_wp2_with fail
      go_ret
      exact ⟨rfl, Fin.out _ rfl⟩
    · have d1 : decide (z < 0) = false := by simpa using hz
      have hlt : (n : Int) < z := by rcases hno with h | h | h <;> first | (cases h; done) | omega
      have d2 : decide ((n : Int) < z) = true := by simpa using hlt
      clear hno
      go_enter Try.func126, Try.ntmps126
      go_wp2_with fail
      go_ret
      exact ⟨rfl, Fin.out _ rfl⟩
set_option maxHeartbeats 1000000 in
theorem rtake_yes (w : World) (base q n c : Nat) (A : Option Addr) (L : List UInt8) (z : Int) (hR : Rdr w base q A n c L false) (hn : n ≤ 140737488355328) (hz0 : 0 ≤ z) (hz1 : z ≤ (n : Int)) :
    Calls Try.prog 126 #[.pointer (some ⟨q, 0, none⟩), .int .i64 z] w fun e w' => (∃ B m d, e = .returned (.slice B m d) ∧ RB w' B m d (L.take z.toNat) ∧ m ≤ 140737488355328 ∧ (0 < m → blk B ≠ some q)) ∧ RdrS w' base q (L.drop z.toNat) false ∧ w.grownBy w' (some q) := by
  obtain ⟨k, rfl⟩ := Int.eq_ofNat_of_zero_le hz0
  have hk : k ≤ n := by omega
  have hroom := hR.rb.room
  have hcap := hR.rb.cap
  unfold maxLen at hcap
  have y1 := hR.blk.cell (i := 0) rfl
  have y2 := hR.blk.cell (i := 1) rfl
  have y3 := hR.blk.frozen 0
  have y4 := hR.blk.frozen 1
  have d1 : decide ((k : Int) < 0) = false := by simp
  have d2 : decide ((n : Int) < (k : Int)) = false := by simp; omega
  have fin : ∀ (A' : Option Addr) (w' : World), (A' = if c = k then A else A.map (·.add (k * 1))) → w' = w.setCell ⟨q, 0, none⟩ (.slice A' (n - k) (c - k)) →
      (∃ B m d, Ending.returned (.slice A k c) = .returned (.slice B m d) ∧ RB w' B m d (L.take (k : Int).toNat) ∧ m ≤ 140737488355328 ∧ (0 < m → blk B ≠ some q)) ∧ RdrS w' base q (L.drop (k : Int).toNat) false ∧ w.grownBy w' (some q) := by
    rintro A' w' hA' rfl
    have hl := hR.rb.len
    have hbl : 0 < n - k → blk A' ≠ some q := by
      intro h e
      rw [hA', if_neg (by omega)] at e
      refine hR.ne (by omega) ?_
      cases A with
      | none => simp [blk] at e
      | some ad => simpa [blk, block_of_add] using e
    have hty : 0 < n - k → ∀ b, blk A' = some b → ∃ cs fr, (w.setCell ⟨q, 0, none⟩ (.slice A' (n - k) (c - k))).heap[b]? = some (.cells cs 5 fr) := by
      intro h b hb
      have hbq : b ≠ q := fun e => hbl h (by rw [hb, e])
      rw [Below.heap_setCell w ⟨q, 0, none⟩ _ b hbq]
      refine hR.ty (by omega) b ?_
      rw [hA', if_neg (by omega)] at hb
      cases A with
      | none => simp [blk] at hb
      | some ad => simpa [blk, block_of_add] using hb
    refine ⟨⟨A, k, c, rfl, ?_, by omega, fun h => hR.ne (by omega)⟩, ⟨A', n - k, c - k, by omega, ?_, ?_, hbl, hR.base, hty⟩, grownBy_setCell w ⟨q, 0, none⟩ _⟩
    · have h1 := hR.rb.cut (i := 0) (j := k) (c' := c) (A' := A) (by omega) hk rfl (fun _ => by cases A <;> simp [Addr.add])
      refine RB.grown (by simpa using h1) (grownBy_setCell w ⟨q, 0, none⟩ _) (fun h => hR.ne (by omega))
    · exact hR.blk.set 0 (.slice A' (n - k) (c - k))
    · have h2 := hR.rb.cut (i := k) (j := n) (c' := c - k) (A' := A') hk (Nat.le_refl _) rfl (fun h => by rw [hA', if_neg (by omega)]; simp)
      rw [List.take_of_length_le (by omega)] at h2
      exact RB.grown h2 (grownBy_setCell w ⟨q, 0, none⟩ _) hbl
  have Fin := Lib.hid fin
  clear fin hR
  by_cases hck : c = k
  · subst hck
    go_enter Try.func126, Try.ntmps126
    go_wp2_with fail
    go_ret
    have hcn : n - c = 0 := by omega
    exact Fin.out A _ (by simp) (by rw [Nat.sub_self]; try rw [hcn])
  · go_enter Try.func126, Try.ntmps126
    go_wp2_with fail
    go_ret
    exact Fin.out _ _ (by rw [if_neg hck, Nat.mul_one]) rfl
theorem rtake_any (w : World) (base q : Nat) (L : List UInt8) (bad : Bool) (z : Int) (hR : RdrS w base q L bad) (hz0 : -9223372036854775808 ≤ z) (hz1 : z ≤ 9223372036854775807) :
    Calls Try.prog 126 #[.pointer (some ⟨q, 0, none⟩), .int .i64 z] w fun e w' => (∃ B m d, e = .returned (.slice B m d) ∧ RB w' B m d (rtake L bad z).1 ∧ m ≤ 140737488355328 ∧ (0 < m → blk B ≠ some q)) ∧ RdrS w' base q (rtake L bad z).2.1 (rtake L bad z).2.2 ∧ w.grownBy w' (some q) := by
  obtain ⟨A, n, c, hn, hR⟩ := hR
  have hl := hR.rb.len
  unfold rtake
  by_cases h : bad = true ∨ z < 0 ∨ (L.length : Int) < z
  · rw [if_pos h]
    rw [hl] at h
    refine (rtake_no w base q n c A L bad z hR hz0 hz1 h).mono ?_
    rintro e w' ⟨rfl, h1, h2⟩
    exact ⟨⟨none, 0, 0, rfl, RB.nil_ _, by omega, fun h => by omega⟩, h1, h2⟩
  · rw [if_neg h]
    rw [hl] at h
    have hb : bad = false := by
      cases bad with
      | false => rfl
      | true => exact absurd (.inl rfl) h
    subst hb
    exact rtake_yes w base q n c A L z hR hn (by omega) (by omega)
set_option maxHeartbeats 1000000 in
theorem rraw_any (w : World) (base q : Nat) (L : List UInt8) (bad : Bool) (z : Int) (hR : RdrS w base q L bad) (hz0 : -9223372036854775808 ≤ z) (hz1 : z ≤ 9223372036854775807) :
    Calls Try.prog 106 #[.pointer (some ⟨q, 0, none⟩), .int .i64 z] w fun e w' => (∃ B m d, e = .returned (.slice B m d) ∧ OB w' w.heap.size B m d (rtake L bad z).1) ∧ RdrS w' base q (rtake L bad z).2.1 (rtake L bad z).2.2 ∧ w.grownBy w' (some q) := by
  go_enter Try.func106, Try.ntmps106
  go_wp2_with fail
  refine (rtake_any w base q L bad z hR hz0 hz1).mono ?_
  rintro e w1 ⟨⟨B, m, d, rfl, h1, h2, h3⟩, h4, h5⟩
  go_wp2_with fail
  refine (clone_any B m d _ w1 h1 h2).mono ?_
  rintro e w2 ⟨B2, d2, rfl, own, hE⟩
  go_wp2_with fail
  go_ret
  exact ⟨⟨B2, m, d2, rfl, own.base h5.size⟩, h4.later hE, h5.trans (hE.grownBy _)⟩
theorem bits_or32 (x y : UInt32) : bits .or .u32 (u32i x) (u32i y) = u32i (x ||| y) := by
  have h1 : BitVec.ofInt (IntKind.u32).bits (u32i x) = x.toBitVec := bitvec_u32 x
  have h2 : BitVec.ofInt (IntKind.u32).bits (u32i y) = y.toBitVec := bitvec_u32 y
  unfold bits
  simp only [h1, h2]
  exact u32_wrap_id (x ||| y)
theorem u32_shl8 (x : UInt32) : u32i x * 256 % 4294967296 = u32i (shl x 8) := by
  unfold u32i
  rw [shl_toNat]
  omega
/-- bytes, the highest first, as a number -/
def beNum (l : List UInt8) : UInt32 := l.foldl (fun n c => shl n 8 ||| c.toUInt32) 0
theorem beNum_snoc (l : List UInt8) (b : UInt8) : beNum (l ++ [b]) = (shl (beNum l) 8 ||| b.toUInt32) := by simp [beNum]
theorem take_snoc_ub (M : List UInt8) (k : Nat) (hk : k < M.length) : M.take (k + 1) = M.take k ++ [ub M k] := by
  rw [List.take_succ_eq_append_getElem hk]
  simp [ub, hk]
set_option maxHeartbeats 1000000 in
theorem rnumber_any (w : World) (base q : Nat) (L : List UInt8) (bad : Bool) (z : Int) (hR : RdrS w base q L bad) (hz0 : 0 ≤ z) (hz1 : z ≤ 4) :
    Calls Try.prog 125 #[.pointer (some ⟨q, 0, none⟩), .int .i64 z] w fun e w' => e = .returned (.int .u32 (u32i (beNum (rtake L bad z).1))) ∧ RdrS w' base q (rtake L bad z).2.1 (rtake L bad z).2.2 ∧ w.grownBy w' (some q) := by
  go_enter Try.func125, Try.ntmps125
  go_wp2_with fail
  refine (rtake_any w base q L bad z hR (by omega) (by omega)).mono ?_
  rintro e w1 ⟨⟨B, m, d, rfl, h1, h2, h3⟩, h4, h5⟩
  obtain ⟨M, hM⟩ : ∃ M, M = (rtake L bad z).1 := ⟨_, rfl⟩
  rw [← hM] at h1
  have HM := Lib.hid hM
  clear hM
  go_wp2_with fail
  go_loop [5, 12] (fun v i => ∃ k : Nat, k ≤ m ∧ i = .int .i64 k ∧ v = .int .u32 (u32i (beNum (M.take k)))) (fun _ i => m - (intOf i).toNat)
  case atStart => exact ⟨0, Nat.zero_le _, rfl, rfl⟩
  case round =>
    obtain ⟨k, hk, rfl, rfl⟩ := hrel
    have hroom := h1.room
    have hcap := h1.cap
    unfold maxLen at hcap
    by_cases hlt : k < m
    · obtain ⟨ad, rfl, hc⟩ := h1.cells (by omega)
      have y1 := hc k hlt
      clear hc
      have e2 := fun w' : World => conv_u8_u32' (P := Try.prog) (w := w') Try.underlying5 Try.underlying84 (ub M k)
      go_wp2_with fail
      go_round
      case rel => exact ⟨k + 1, by omega, by go_num, by rw [u32_shl8, bits_or32, take_snoc_ub M k (by rw [h1.len]; exact hlt), beNum_snoc]⟩
      case measure => simp [intOf]; omega
    · obtain rfl : k = m := by omega
      rw [List.take_of_length_le (by rw [h1.len]; exact Nat.le_refl _)]
      go_wp2_with fail
      go_ret
      refine ⟨?_, h4, h5⟩
      rw [← HM.out]
      rfl
end Go.Proofs.Ytkndgpjamijbbaa
