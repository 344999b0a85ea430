/-
  extract's Common, book.Same of ints, walked.
-/
import Derived.Test.YtkndgpjamijbbaaLawCom26Q27
import Derived.Test.YtkndgpjamijbbaaLawCom26Q28
import Derived.Test.YtkndgpjamijbbaaLawCom26Q24
namespace Go.Proofs.Ytkndgpjamijbbaa
set_option maxRecDepth 100000
open Go Go.RowKit
noncomputable def infI : TypeInfo := (Try.prog.info? 3).getD default
theorem infI_eq : Try.prog.info? 3 = some infI := by kernel_rfl
theorem infI_size : infI.size = 1 := by kernel_rfl
def SaiI (w : World) (xs ys : List Int) (i : Value) (wr : World) : Prop := ∃ k : Nat, k ≤ xs.length ∧ i = .int .i64 k ∧ xs.take k = ys.take k ∧ Ext w wr
theorem takes_i (Ls : List Int) {k : Nat} (h : k < Ls.length) : Ls.take (k + 1) = Ls.take k ++ [Ls.getD k 0] := by
  rw [List.take_succ_eq_append_getElem h]
  simp [h]
set_option maxHeartbeats 4000000 in
theorem samei_any (A B : Option Addr) (n c m d : Nat) (xs ys : List Int) (w : World) (rA0 : RIS w A n c xs) (rB0 : RIS w B m d ys) :
    Calls Try.prog 33 #[.slice A n c, .slice B m d] w fun e w' => e = .returned (.bool (decide (xs = ys))) ∧ Ext w w' := by
  have hcap := rA0.cap
  have hroom := rA0.room
  have hcapB := rB0.cap
  have hroomB := rB0.room
  unfold maxLen at hcap hcapB
  have hl := rA0.len
  have hlB := rB0.len
  have Hl := Lib.hid hl
  have HlB := Lib.hid hlB
  clear hl hlB
  go_enter Try.func33, Try.ntmps33
  by_cases hnm : n = m
  · subst hnm
    go_wp2_with fail
    go_loopw [5] (fun i wr => SaiI w xs ys i wr) (fun i _ => n - (intOf i).toNat)
    case atStart => exact ⟨0, by omega, rfl, rfl, Ext.refl _⟩
    case round =>
      obtain ⟨k, hk, rfl, hall, hEr⟩ := hrel
      rw [Hl.out] at hk
      have Hall := Lib.hid hall
      clear hall
      by_cases hlt : k < n
      · have hki : (k : Int) < (n : Int) := by omega
        obtain ⟨ad, rfl, hc⟩ := rA0.cells (by omega)
        have hcell0 := hc k hlt
        obtain ⟨bd, rfl, hc2⟩ := rB0.cells (by omega)
        have hcell20 := hc2 k hlt
        have hcell := hEr.cell hcell0
        have hcell2 := hEr.cell hcell20
        clear hc hc2 hcell0 hcell20
        go_upto_region 6 with (fail)
        by_cases h32 : xs.getD k 0 = ys.getD k 0
        · have H32 := Lib.hid h32
          replace h32 : decide (xs.getD k 0 ≠ ys.getD k 0) = false := decide_eq_false (fun h => h h32)
          refine par_ext (n := 9) (by kernel_rfl) [.is (.slice ((some ad)) (n) (c)), .is (.int .i64 (((k : Nat) : Int))), .is (.pointer (some (ad.add k))), .is (.int .i64 (xs.getD k 0)), .is (.slice ((some bd)) (n) (d)), .is (.int .i64 (((k : Nat) : Int))), .is (.pointer (some (bd.add k))), .is (.int .i64 (ys.getD k 0)), .is (.bool (false))] rfl ⟨?_, ?_, ?_, ?_, ?_, ?_, ?_, ?_, ?_, trivial⟩ ?_
          · refine stepE rfl fun sdn sa sw sE sd sk => ?_
            have h0 : sa.eval (.tmp 0) = .slice ((some ad)) (n) (c) := sk.old 0 rfl
            exact Runs.move rfl h0 ⟨Ext.refl _, rfl⟩
          · refine stepE rfl fun sdn sa sw sE sd sk => ?_
            have h5 : sa.eval (.tmp 5) = .int .i64 (((k : Nat) : Int)) := sk.old 5 rfl
            exact Runs.move rfl h5 ⟨Ext.refl _, rfl⟩
          · refine stepE rfl fun sdn sa sw sE sd sk => ?_
            have h17 : sa.eval (.tmp 17) = .slice ((some ad)) (n) (c) := sk.fact 0 17 rfl (sd 0 rfl)
            have h18 : sa.eval (.tmp 18) = .int .i64 (((k : Nat) : Int)) := sk.fact 1 18 rfl (sd 1 rfl)
            exact Runs.idx rfl h17 h18 (run_idx_sl1 Try.underlying49 infI_eq infI_size k (by first | rfl | omega) (by omega)) ⟨Ext.refl _, rfl⟩
          · refine stepE rfl fun sdn sa sw sE sd sk => ?_
            have h19 : sa.eval (.tmp 19) = .pointer (some (ad.add k)) := sk.fact 2 19 rfl (sd 2 rfl)
            exact Runs.load rfl h19 (run_load1 Try.underlying3 rfl (sE.cell hcell)) ⟨Ext.refl _, rfl⟩
          · refine stepE rfl fun sdn sa sw sE sd sk => ?_
            have h1 : sa.eval (.tmp 1) = .slice ((some bd)) (n) (d) := sk.old 1 rfl
            exact Runs.move rfl h1 ⟨Ext.refl _, rfl⟩
          · refine stepE rfl fun sdn sa sw sE sd sk => ?_
            have h5 : sa.eval (.tmp 5) = .int .i64 (((k : Nat) : Int)) := sk.old 5 rfl
            exact Runs.move rfl h5 ⟨Ext.refl _, rfl⟩
          · refine stepE rfl fun sdn sa sw sE sd sk => ?_
            have h21 : sa.eval (.tmp 21) = .slice ((some bd)) (n) (d) := sk.fact 4 21 rfl (sd 4 rfl)
            have h22 : sa.eval (.tmp 22) = .int .i64 (((k : Nat) : Int)) := sk.fact 5 22 rfl (sd 5 rfl)
            exact Runs.idx rfl h21 h22 (run_idx_sl1 Try.underlying49 infI_eq infI_size k (by first | rfl | omega) (by omega)) ⟨Ext.refl _, rfl⟩
          · refine stepE rfl fun sdn sa sw sE sd sk => ?_
            have h23 : sa.eval (.tmp 23) = .pointer (some (bd.add k)) := sk.fact 6 23 rfl (sd 6 rfl)
            exact Runs.load rfl h23 (run_load1 Try.underlying3 rfl (sE.cell hcell2)) ⟨Ext.refl _, rfl⟩
          · refine stepE rfl fun sdn sa sw sE sd sk => ?_
            have h20 : sa.eval (.tmp 20) = .int .i64 (xs.getD k 0) := sk.fact 3 20 rfl (sd 3 rfl)
            have h24 : sa.eval (.tmp 24) = .int .i64 (ys.getD k 0) := sk.fact 7 24 rfl (sd 7 rfl)
            exact Runs.bin rfl h20 h24 (by rfl) (bin_neq _ _ _ _) ⟨Ext.refl _, congrArg Value.bool (h32)⟩
          intro vals W6 hE6 hv6
          have e0 : vals 0 = .slice ((some ad)) (n) (c) := hv6 0 (by omega) 17 rfl
          have e1 : vals 1 = .int .i64 (((k : Nat) : Int)) := hv6 1 (by omega) 18 rfl
          have e2 : vals 2 = .pointer (some (ad.add k)) := hv6 2 (by omega) 19 rfl
          have e3 : vals 3 = .int .i64 (xs.getD k 0) := hv6 3 (by omega) 20 rfl
          have e4 : vals 4 = .slice ((some bd)) (n) (d) := hv6 4 (by omega) 21 rfl
          have e5 : vals 5 = .int .i64 (((k : Nat) : Int)) := hv6 5 (by omega) 22 rfl
          have e6 : vals 6 = .pointer (some (bd.add k)) := hv6 6 (by omega) 23 rfl
          have e7 : vals 7 = .int .i64 (ys.getD k 0) := hv6 7 (by omega) 24 rfl
          have e8 : vals 8 = .bool (false) := hv6 8 (by omega) 25 rfl
          simp only [putAll, Act.put, List.take_succ_cons, List.take_zero, List.drop_succ_cons, List.drop_zero, List.drop_nil, List.take_nil, Nat.reduceAdd, List.setIfInBounds_toArray, List.set_cons_succ, List.set_cons_zero, e0, e1, e2, e3, e4, e5, e6, e7, e8]
          clear hv6 e0 e1 e2 e3 e4 e5 e6 e7 e8
          clear h32
          go_wp2_with fail
          go_roundw
          case rel =>
            refine ⟨k + 1, by rw [Hl.out]; omega, by go_num, ?_, hEr.trans hE6⟩
            rw [takes_i xs (by rw [Hl.out]; omega), takes_i ys (by rw [HlB.out]; omega), Hall.out, H32.out]
          case measure => simp [intOf]; omega
        · have hno : ¬ xs = ys := fun e => h32 (by rw [e])
          have Hno := Lib.hid hno
          replace h32 : decide (xs.getD k 0 ≠ ys.getD k 0) = true := decide_eq_true h32
          clear hno
          refine par_ext (n := 9) (by kernel_rfl) [.is (.slice ((some ad)) (n) (c)), .is (.int .i64 (((k : Nat) : Int))), .is (.pointer (some (ad.add k))), .is (.int .i64 (xs.getD k 0)), .is (.slice ((some bd)) (n) (d)), .is (.int .i64 (((k : Nat) : Int))), .is (.pointer (some (bd.add k))), .is (.int .i64 (ys.getD k 0)), .is (.bool (true))] rfl ⟨?_, ?_, ?_, ?_, ?_, ?_, ?_, ?_, ?_, trivial⟩ ?_
          · refine stepE rfl fun sdn sa sw sE sd sk => ?_
            have h0 : sa.eval (.tmp 0) = .slice ((some ad)) (n) (c) := sk.old 0 rfl
            exact Runs.move rfl h0 ⟨Ext.refl _, rfl⟩
          · refine stepE rfl fun sdn sa sw sE sd sk => ?_
            have h5 : sa.eval (.tmp 5) = .int .i64 (((k : Nat) : Int)) := sk.old 5 rfl
            exact Runs.move rfl h5 ⟨Ext.refl _, rfl⟩
          · refine stepE rfl fun sdn sa sw sE sd sk => ?_
            have h17 : sa.eval (.tmp 17) = .slice ((some ad)) (n) (c) := sk.fact 0 17 rfl (sd 0 rfl)
            have h18 : sa.eval (.tmp 18) = .int .i64 (((k : Nat) : Int)) := sk.fact 1 18 rfl (sd 1 rfl)
            exact Runs.idx rfl h17 h18 (run_idx_sl1 Try.underlying49 infI_eq infI_size k (by first | rfl | omega) (by omega)) ⟨Ext.refl _, rfl⟩
          · refine stepE rfl fun sdn sa sw sE sd sk => ?_
            have h19 : sa.eval (.tmp 19) = .pointer (some (ad.add k)) := sk.fact 2 19 rfl (sd 2 rfl)
            exact Runs.load rfl h19 (run_load1 Try.underlying3 rfl (sE.cell hcell)) ⟨Ext.refl _, rfl⟩
          · refine stepE rfl fun sdn sa sw sE sd sk => ?_
            have h1 : sa.eval (.tmp 1) = .slice ((some bd)) (n) (d) := sk.old 1 rfl
            exact Runs.move rfl h1 ⟨Ext.refl _, rfl⟩
          · refine stepE rfl fun sdn sa sw sE sd sk => ?_
            have h5 : sa.eval (.tmp 5) = .int .i64 (((k : Nat) : Int)) := sk.old 5 rfl
            exact Runs.move rfl h5 ⟨Ext.refl _, rfl⟩
          · refine stepE rfl fun sdn sa sw sE sd sk => ?_
            have h21 : sa.eval (.tmp 21) = .slice ((some bd)) (n) (d) := sk.fact 4 21 rfl (sd 4 rfl)
            have h22 : sa.eval (.tmp 22) = .int .i64 (((k : Nat) : Int)) := sk.fact 5 22 rfl (sd 5 rfl)
            exact Runs.idx rfl h21 h22 (run_idx_sl1 Try.underlying49 infI_eq infI_size k (by first | rfl | omega) (by omega)) ⟨Ext.refl _, rfl⟩
          · refine stepE rfl fun sdn sa sw sE sd sk => ?_
            have h23 : sa.eval (.tmp 23) = .pointer (some (bd.add k)) := sk.fact 6 23 rfl (sd 6 rfl)
            exact Runs.load rfl h23 (run_load1 Try.underlying3 rfl (sE.cell hcell2)) ⟨Ext.refl _, rfl⟩
          · refine stepE rfl fun sdn sa sw sE sd sk => ?_
            have h20 : sa.eval (.tmp 20) = .int .i64 (xs.getD k 0) := sk.fact 3 20 rfl (sd 3 rfl)
            have h24 : sa.eval (.tmp 24) = .int .i64 (ys.getD k 0) := sk.fact 7 24 rfl (sd 7 rfl)
            exact Runs.bin rfl h20 h24 (by rfl) (bin_neq _ _ _ _) ⟨Ext.refl _, congrArg Value.bool (h32)⟩
          intro vals W6 hE6 hv6
          have e0 : vals 0 = .slice ((some ad)) (n) (c) := hv6 0 (by omega) 17 rfl
          have e1 : vals 1 = .int .i64 (((k : Nat) : Int)) := hv6 1 (by omega) 18 rfl
          have e2 : vals 2 = .pointer (some (ad.add k)) := hv6 2 (by omega) 19 rfl
          have e3 : vals 3 = .int .i64 (xs.getD k 0) := hv6 3 (by omega) 20 rfl
          have e4 : vals 4 = .slice ((some bd)) (n) (d) := hv6 4 (by omega) 21 rfl
          have e5 : vals 5 = .int .i64 (((k : Nat) : Int)) := hv6 5 (by omega) 22 rfl
          have e6 : vals 6 = .pointer (some (bd.add k)) := hv6 6 (by omega) 23 rfl
          have e7 : vals 7 = .int .i64 (ys.getD k 0) := hv6 7 (by omega) 24 rfl
          have e8 : vals 8 = .bool (true) := hv6 8 (by omega) 25 rfl
          simp only [putAll, Act.put, List.take_succ_cons, List.take_zero, List.drop_succ_cons, List.drop_zero, List.drop_nil, List.take_nil, Nat.reduceAdd, List.setIfInBounds_toArray, List.set_cons_succ, List.set_cons_zero, e0, e1, e2, e3, e4, e5, e6, e7, e8]
          clear hv6 e0 e1 e2 e3 e4 e5 e6 e7 e8
          clear h32
          go_wp2_with fail
          go_ret
          rw [decide_eq_false Hno.out]
          exact ⟨rfl, hEr.trans hE6⟩
      · obtain rfl : k = n := by omega
        have hyes : xs = ys := by
          have h := Hall.out
          rwa [List.take_of_length_le (by rw [Hl.out]; omega), List.take_of_length_le (by rw [HlB.out]; omega)] at h
        have Hy := Lib.hid hyes
        clear hyes
        go_wp2_with fail
        go_ret
        rw [decide_eq_true Hy.out]
        exact ⟨rfl, hEr⟩
  · have hnm2 : ¬ (n : Int) = (m : Int) := by omega
    have hno : ¬ xs = ys := fun e => hnm (by rw [← Hl.out, ← HlB.out, e])
    have Hno := Lib.hid hno
    clear hno
    go_wp2_with fail
    go_ret
    rw [decide_eq_false Hno.out]
    exact ⟨rfl, Ext.refl _⟩
def ComI (w : World) (g11 g12 : Nat) (s t : Nat → Bool) (v i : Value) (wr : World) : Prop :=
  ∃ (k p d : Nat) (P : Option Addr), k ≤ 4 ∧ i = .int .i64 k ∧ v = .slice P p d ∧ p ≤ k ∧ OI wr w.heap.size P p d (bothL s t k) ∧ Blk wr g11 106 (boolsA s) ∧ Blk wr g12 106 (boolsA t) ∧ Ext w wr
theorem OI.ne_blk {w : World} {base n c g : Nat} {A : Option Addr} {xs : List Int} {t : TypeId} {cs : Array Value} (h : OI w base A n c xs) (hb : Blk w g t cs) (ht : t ≠ 3) : some g ≠ blk A := by
  intro e
  exact row_ne h hb ht (by rw [ownBlock_slice]; exact e.symm)
theorem Blk.far4 {w : World} {g g' : Nat} {t : TypeId} {cs : Array Value} (h : Blk w g t cs) (hne : g ≠ g') (u0 u1 u2 u3 : Value) : Blk ((((w.setCell ⟨g', 0, none⟩ u0).setCell ⟨g', 1, none⟩ u1).setCell ⟨g', 2, none⟩ u2).setCell ⟨g', 3, none⟩ u3) g t cs :=
  (((h.far (p := ⟨g', 0, none⟩) hne u0).far (p := ⟨g', 1, none⟩) hne u1).far (p := ⟨g', 2, none⟩) hne u2).far (p := ⟨g', 3, none⟩) hne u3
set_option maxHeartbeats 16000000 in
theorem common_any (G A B D L M : Option Addr) (ng cg n c nb d nd dd nl cl nm cm : Nat) (q x y : Int) (LG R T : List UInt8) (Ws : List (List UInt8)) (gs hs : List CSig) (w : World) (rG : RB w G ng cg LG) (rW : RBB w A n c Ws) (rR : RB w B nb d R) (rL : RCS w L nl cl gs) (rT : RB w D nd dd T) (rM : RCS w M nm cm hs) :
    Calls Try.prog 32 #[.agg #[.slice G ng cg, .slice A n c, .int .i64 q], .agg #[.int .i64 x, .slice B nb d], .slice L nl cl, .agg #[.int .i64 y, .slice D nd dd], .slice M nm cm] w fun e w' =>
      ∃ P p dp, e = .returned (.slice P p dp) ∧ RIS w' P p dp (bothL (seenL (fun g => cosB LG Ws q x R g.wn g.k g.ps g.qs) gs) (seenL (fun g => cosB LG Ws q y T g.wn g.k g.ps g.qs) hs) 4) ∧ Ext w w' := by
  have hE1 := Ext.new w (.cells #[.slice G ng cg, .slice A n c, .int .i64 q] 52)
  have hB5 := Blk.new w 52 #[.slice G ng cg, .slice A n c, .int .i64 q]
  have hE2 := Ext.new (w.alloc (.cells #[.slice G ng cg, .slice A n c, .int .i64 q] 52)) (.cells #[.int .i64 x, .slice B nb d] 54)
  have hB6 := Blk.new (w.alloc (.cells #[.slice G ng cg, .slice A n c, .int .i64 q] 52)) 54 #[.int .i64 x, .slice B nb d]
  have hE3 := Ext.new ((w.alloc (.cells #[.slice G ng cg, .slice A n c, .int .i64 q] 52)).alloc (.cells #[.int .i64 x, .slice B nb d] 54)) (.cells #[.int .i64 y, .slice D nd dd] 54)
  have hB8 := Blk.new ((w.alloc (.cells #[.slice G ng cg, .slice A n c, .int .i64 q] 52)).alloc (.cells #[.int .i64 x, .slice B nb d] 54)) 54 #[.int .i64 y, .slice D nd dd]
  rw [World.size_alloc] at hB6
  rw [World.size_alloc, World.size_alloc] at hB8
  replace hB5 := (hB5.ext hE2).ext hE3
  replace hB6 := hB6.ext hE3
  have hEa := (hE1.trans hE2).trans hE3
  clear hE1 hE2 hE3
  go_enter Try.func32, Try.ntmps32
  go_upto_region 1 with (fail)
  generalize ((w.alloc (.cells #[.slice G ng cg, .slice A n c, .int .i64 q] 52)).alloc (.cells #[.int .i64 x, .slice B nb d] 54)).alloc (.cells #[.int .i64 y, .slice D nd dd] 54) = w1 at *
  generalize w.heap.size + 1 + 1 = g8 at *
  generalize w.heap.size + 1 = g6 at *
  obtain ⟨g5, hg⟩ : ∃ g5, g5 = w.heap.size := ⟨_, rfl⟩
  rw [← hg] at hB5 ⊢
  clear hg
  replace rG := rG.ext hEa
  replace rW := rW.ext hEa
  replace rR := rR.ext hEa
  replace rL := rL.ext hEa
  replace rT := rT.ext hEa
  replace rM := rM.ext hEa
  refine par_two (n := 10) 8 9 11 12 (by kernel_rfl) [.is (.agg #[.slice (G) (ng) (cg), .slice (A) (n) (c), .int .i64 (q)]), .is (.agg #[.int .i64 (x), .slice (B) (nb) (d)]), .is (.slice (L) (nl) (cl)), .is (.agg #[.bool (seenL (fun g => cosB LG Ws q x R g.wn g.k g.ps g.qs) gs 0), .bool (seenL (fun g => cosB LG Ws q x R g.wn g.k g.ps g.qs) gs 1), .bool (seenL (fun g => cosB LG Ws q x R g.wn g.k g.ps g.qs) gs 2), .bool (seenL (fun g => cosB LG Ws q x R g.wn g.k g.ps g.qs) gs 3)]), .is (.agg #[.slice (G) (ng) (cg), .slice (A) (n) (c), .int .i64 (q)]), .is (.agg #[.int .i64 (y), .slice (D) (nd) (dd)]), .is (.slice (M) (nm) (cm)), .is (.agg #[.bool (seenL (fun g => cosB LG Ws q y T g.wn g.k g.ps g.qs) hs 0), .bool (seenL (fun g => cosB LG Ws q y T g.wn g.k g.ps g.qs) hs 1), .bool (seenL (fun g => cosB LG Ws q y T g.wn g.k g.ps g.qs) hs 2), .bool (seenL (fun g => cosB LG Ws q y T g.wn g.k g.ps g.qs) hs 3)]), .bk (w1.heap.size) 106 #[.bool (false), .bool (false), .bool (false), .bool (false)], .bk (w1.heap.size) 106 #[.bool (false), .bool (false), .bool (false), .bool (false)]] rfl rfl rfl (by decide) (by decide) ⟨?_, ?_, ?_, ?_, ?_, ?_, ?_, ?_, ?_, ?_, trivial⟩ ?_
  · refine stepE2T rfl (by decide) fun sdn sa sw sE sd sk => ?_
    have h5 : sa.eval (.tmp 5) = .pointer (some ⟨g5, 0, none⟩) := sk.old 5 rfl
    exact Runs.load rfl h5 (load_part (hB5.ext sE) 0 (vs := [.slice (G) (ng) (cg), .slice (A) (n) (c), .int .i64 (q)]) rfl Try.underlying52 rfl (by kernel_rfl)) ⟨Ext.refl _, rfl⟩
  · refine stepE2T rfl (by decide) fun sdn sa sw sE sd sk => ?_
    have h6 : sa.eval (.tmp 6) = .pointer (some ⟨g6, 0, none⟩) := sk.old 6 rfl
    exact Runs.load rfl h6 (load_part (hB6.ext sE) 0 (vs := [.int .i64 (x), .slice (B) (nb) (d)]) rfl Try.underlying54 rfl (by kernel_rfl)) ⟨Ext.refl _, rfl⟩
  · refine stepE2T rfl (by decide) fun sdn sa sw sE sd sk => ?_
    have h2 : sa.eval (.tmp 2) = .slice (L) (nl) (cl) := sk.old 2 rfl
    exact Runs.move rfl h2 ⟨Ext.refl _, rfl⟩
  · refine stepE2T rfl (by decide) fun sdn sa sw sE sd sk => ?_
    have h15 : sa.eval (.tmp 15) = .agg #[.slice (G) (ng) (cg), .slice (A) (n) (c), .int .i64 (q)] := sk.fact 0 15 rfl (sd 0 rfl)
    have h16 : sa.eval (.tmp 16) = .agg #[.int .i64 (x), .slice (B) (nb) (d)] := sk.fact 1 16 rfl (sd 1 rfl)
    have h17 : sa.eval (.tmp 17) = .slice (L) (nl) (cl) := sk.fact 2 17 rfl (sd 2 rfl)
    refine Runs.call (f := 69) (vs := [.agg #[.slice (G) (ng) (cg), .slice (A) (n) (c), .int .i64 (q)], .agg #[.int .i64 (x), .slice (B) (nb) (d)], .slice (L) (nl) (cl)]) rfl rfl rfl (by simp only [List.map_toArray, List.map_cons, List.map_nil, h15, h16, h17] <;> rfl) (ent69 _ _) ((who_any _ _ _ _ _ _ _ _ _ _ _ _ _ _ _ _ _ _ sw (rG.ext sE) (rW.ext sE) (rR.ext sE) (rL.ext sE)).mono ?_); rintro e w' ⟨rfl, hx⟩; exact ⟨_, rfl, hx, rfl⟩
  · refine stepE2T rfl (by decide) fun sdn sa sw sE sd sk => ?_
    have h5 : sa.eval (.tmp 5) = .pointer (some ⟨g5, 0, none⟩) := sk.old 5 rfl
    exact Runs.load rfl h5 (load_part (hB5.ext sE) 0 (vs := [.slice (G) (ng) (cg), .slice (A) (n) (c), .int .i64 (q)]) rfl Try.underlying52 rfl (by kernel_rfl)) ⟨Ext.refl _, rfl⟩
  · refine stepE2T rfl (by decide) fun sdn sa sw sE sd sk => ?_
    have h8 : sa.eval (.tmp 8) = .pointer (some ⟨g8, 0, none⟩) := sk.old 8 rfl
    exact Runs.load rfl h8 (load_part (hB8.ext sE) 0 (vs := [.int .i64 (y), .slice (D) (nd) (dd)]) rfl Try.underlying54 rfl (by kernel_rfl)) ⟨Ext.refl _, rfl⟩
  · refine stepE2T rfl (by decide) fun sdn sa sw sE sd sk => ?_
    have h4 : sa.eval (.tmp 4) = .slice (M) (nm) (cm) := sk.old 4 rfl
    exact Runs.move rfl h4 ⟨Ext.refl _, rfl⟩
  · refine stepE2T rfl (by decide) fun sdn sa sw sE sd sk => ?_
    have h19 : sa.eval (.tmp 19) = .agg #[.slice (G) (ng) (cg), .slice (A) (n) (c), .int .i64 (q)] := sk.fact 4 19 rfl (sd 4 rfl)
    have h20 : sa.eval (.tmp 20) = .agg #[.int .i64 (y), .slice (D) (nd) (dd)] := sk.fact 5 20 rfl (sd 5 rfl)
    have h21 : sa.eval (.tmp 21) = .slice (M) (nm) (cm) := sk.fact 6 21 rfl (sd 6 rfl)
    refine Runs.call (f := 69) (vs := [.agg #[.slice (G) (ng) (cg), .slice (A) (n) (c), .int .i64 (q)], .agg #[.int .i64 (y), .slice (D) (nd) (dd)], .slice (M) (nm) (cm)]) rfl rfl rfl (by simp only [List.map_toArray, List.map_cons, List.map_nil, h19, h20, h21] <;> rfl) (ent69 _ _) ((who_any _ _ _ _ _ _ _ _ _ _ _ _ _ _ _ _ _ _ sw (rG.ext sE) (rW.ext sE) (rT.ext sE) (rM.ext sE)).mono ?_); rintro e w' ⟨rfl, hx⟩; exact ⟨_, rfl, hx, rfl⟩
  · refine stepNew (j := 9) (t := 11) (tj := 12) rfl (by decide) rfl rfl (by decide) (by decide) (by first | decide | simp) (bk_lt rfl) fun sdn sa sw sE => ?_
    refine Runs.of_run (r := .pointer (some ⟨sw.heap.size, 0, none⟩)) (w' := sw.alloc (.cells #[.bool (false), .bool (false), .bool (false), .bool (false)] 106)) ?_ ⟨Ext.new _ _, rfl, _, rfl, Blk.new _ _ _, sE.size⟩
    unfold execOp
    go_simp
  · refine stepNew (j := 8) (t := 12) (tj := 11) rfl (by decide) rfl rfl (by decide) (by decide) (by first | decide | simp) (bk_lt rfl) fun sdn sa sw sE => ?_
    refine Runs.of_run (r := .pointer (some ⟨sw.heap.size, 0, none⟩)) (w' := sw.alloc (.cells #[.bool (false), .bool (false), .bool (false), .bool (false)] 106)) ?_ ⟨Ext.new _ _, rfl, _, rfl, Blk.new _ _ _, sE.size⟩
    unfold execOp
    go_simp
  intro vals W1 hE1 hne1 hv1
  have e0 : vals 0 = .agg #[.slice (G) (ng) (cg), .slice (A) (n) (c), .int .i64 (q)] := hv1 0 (by omega) 15 rfl
  have e1 : vals 1 = .agg #[.int .i64 (x), .slice (B) (nb) (d)] := hv1 1 (by omega) 16 rfl
  have e2 : vals 2 = .slice (L) (nl) (cl) := hv1 2 (by omega) 17 rfl
  have e3 : vals 3 = .agg #[.bool (seenL (fun g => cosB LG Ws q x R g.wn g.k g.ps g.qs) gs 0), .bool (seenL (fun g => cosB LG Ws q x R g.wn g.k g.ps g.qs) gs 1), .bool (seenL (fun g => cosB LG Ws q x R g.wn g.k g.ps g.qs) gs 2), .bool (seenL (fun g => cosB LG Ws q x R g.wn g.k g.ps g.qs) gs 3)] := hv1 3 (by omega) 18 rfl
  have e4 : vals 4 = .agg #[.slice (G) (ng) (cg), .slice (A) (n) (c), .int .i64 (q)] := hv1 4 (by omega) 19 rfl
  have e5 : vals 5 = .agg #[.int .i64 (y), .slice (D) (nd) (dd)] := hv1 5 (by omega) 20 rfl
  have e6 : vals 6 = .slice (M) (nm) (cm) := hv1 6 (by omega) 21 rfl
  have e7 : vals 7 = .agg #[.bool (seenL (fun g => cosB LG Ws q y T g.wn g.k g.ps g.qs) hs 0), .bool (seenL (fun g => cosB LG Ws q y T g.wn g.k g.ps g.qs) hs 1), .bool (seenL (fun g => cosB LG Ws q y T g.wn g.k g.ps g.qs) hs 2), .bool (seenL (fun g => cosB LG Ws q y T g.wn g.k g.ps g.qs) hs 3)] := hv1 7 (by omega) 22 rfl
  obtain ⟨g11, e8, hb11, gb11⟩ := hv1 8 (by omega) 11 rfl
  obtain ⟨g12, e9, hb12, gb12⟩ := hv1 9 (by omega) 12 rfl
  have hd1 : g11 ≠ g12 := fun e => hne1 (by rw [e8, e9, e])
  clear hne1
  simp only [putAll, Act.put, List.take_succ_cons, List.take_zero, List.drop_succ_cons, List.drop_zero, List.drop_nil, List.take_nil, Nat.reduceAdd, List.setIfInBounds_toArray, List.set_cons_succ, List.set_cons_zero, e0, e1, e2, e3, e4, e5, e6, e7, e8, e9]
  clear hv1 e0 e1 e2 e3 e4 e5 e6 e7 e8 e9
  clear rG rW rR rL rT rM hB5 hB6 hB8
  generalize hsx : seenL (fun g => cosB LG Ws q x R g.wn g.k g.ps g.qs) gs = s at *
  have HS := Lib.hid hsx
  generalize htx : seenL (fun g => cosB LG Ws q y T g.wn g.k g.ps g.qs) hs = t at *
  have HT := Lib.hid htx
  clear hsx htx
  have fhb110 := hb11.frozen 0
  have fhb111 := hb11.frozen 1
  have fhb112 := hb11.frozen 2
  have fhb113 := hb11.frozen 3
  have xhb110 := hb11.cell (i := 0) rfl
  have xhb111 := hb11.cell (i := 1) rfl
  have xhb112 := hb11.cell (i := 2) rfl
  have xhb113 := hb11.cell (i := 3) rfl
  have fhb120 := hb12.frozen 0
  have fhb121 := hb12.frozen 1
  have fhb122 := hb12.frozen 2
  have fhb123 := hb12.frozen 3
  have xhb120 := hb12.cell (i := 0) rfl
  have xhb121 := hb12.cell (i := 1) rfl
  have xhb122 := hb12.cell (i := 2) rfl
  have xhb123 := hb12.cell (i := 3) rfl
  have hge11 : w.heap.size ≤ g11 := Nat.le_trans hEa.size gb11
  have hge12 : w.heap.size ≤ g12 := Nat.le_trans hEa.size gb12
  go_wp2_with fail
  have b11 := setall4 hb11 (.bool (s 0)) (.bool (s 1)) (.bool (s 2)) (.bool (s 3))
  have c12 := hb12.far4 (Ne.symm hd1) (.bool (s 0)) (.bool (s 1)) (.bool (s 2)) (.bool (s 3))
  have b12 := setall4 c12 (.bool (t 0)) (.bool (t 1)) (.bool (t 2)) (.bool (t 3))
  have c11 := b11.far4 hd1 (.bool (t 0)) (.bool (t 1)) (.bool (t 2)) (.bool (t 3))
  have hEx := ext4 (ext4 (hEa.trans hE1) hge11 (.bool (s 0)) (.bool (s 1)) (.bool (s 2)) (.bool (s 3))) hge12 (.bool (t 0)) (.bool (t 1)) (.bool (t 2)) (.bool (t 3))
  clear fhb110 xhb110 fhb111 xhb111 fhb112 xhb112 fhb113 xhb113
  clear fhb120 xhb120 fhb121 xhb121 fhb122 xhb122 fhb123 xhb123
  clear b11 c12 hb11 hb12 gb11 gb12 hE1 hEa
  go_loopw [13, 23] (fun v i wr => ComI w g11 g12 s t v i wr) (fun _ i _ => 4 - (intOf i).toNat)
  case atStart => exact ⟨0, 0, 0, none, by omega, rfl, rfl, Nat.le_refl _, OI.none_ _ _, c11, b12, hEx⟩
  case round =>
    clear c11 b12 hEx
    obtain ⟨k, p, d, P, hk, rfl, rfl, hpk, own, hB11, hB12, hEr⟩ := hrel
    by_cases hlt : k < 4
    · have hki : (k : Int) < 4 := by omega
      have y1 := hB11.cell (boolsA_get s hlt)
      have y2 := hB12.cell (boolsA_get t hlt)
      cases hs1 : s k with
      | false =>
        have hno := bothL_no (s := s) (t := t) (n := k) (by rw [hs1]; rfl)
        have Hno := Lib.hid hno
        rw [hs1] at y1
        clear hno hs1
        go_wp2_with fail
        go_roundw
        case rel => exact ⟨k + 1, p, d, P, by omega, by go_num, rfl, by omega, by rw [Hno.out]; exact own, hB11, hB12, hEr⟩
        case measure => simp [intOf]; omega
      | true =>
        cases ht1 : t k with
        | false =>
          have hno := bothL_no (s := s) (t := t) (n := k) (by rw [hs1, ht1]; rfl)
          have Hno := Lib.hid hno
          rw [hs1] at y1
          rw [ht1] at y2
          clear hno hs1 ht1
          go_wp2_with fail
          go_roundw
          case rel => exact ⟨k + 1, p, d, P, by omega, by go_num, rfl, by omega, by rw [Hno.out]; exact own, hB11, hB12, hEr⟩
          case measure => simp [intOf]; omega
        | true =>
          have hyes := bothL_yes (s := s) (t := t) (n := k) (by rw [hs1, ht1]; rfl)
          have Hy := Lib.hid hyes
          rw [hs1] at y1
          rw [ht1] at y2
          clear hyes hs1 ht1
          have hEn := Ext.new wr (.cells #[.int .i64 (k : Int)] 3)
          have hBn := Blk.new wr 3 #[.int .i64 (k : Int)]
          have own2 := own.ext hEn
          have hB112 := hB11.ext hEn
          have hB122 := hB12.ext hEn
          have hEw := hEr.trans hEn
          go_wp2_with (refine appi_law (base := w.heap.size) (y := (k : Int)) rfl rfl rfl rfl (by rw [add_plain]; exact hBn.cell (i := 0) rfl) own2 hEw.size (by omega) ?_; intro P5 d5 w5 own5 g5)
          have hB11n := hB112.grown g5 (own2.ne_blk hB112 (by decide))
          have hB12n := hB122.grown g5 (own2.ne_blk hB122 (by decide))
          go_roundw
          case rel => exact ⟨k + 1, p + 1, d5, P5, by omega, by go_num, rfl, by omega, by rw [Hy.out]; exact own5, hB11n, hB12n, hEw.then_grown g5 (fun b hb => (own2.lt hb).1)⟩
          case measure => simp [intOf]; omega
    · obtain rfl : k = 4 := by omega
      go_wp2_with fail
      go_ret
      rw [HS.out, HT.out]
      exact ⟨P, p, d, rfl, own.ris, hEr⟩
end Go.Proofs.Ytkndgpjamijbbaa
