/-
  ref5.Same of two like signatures, and law5.same, walked. sign.Decode, walked. A row of byte slices of the call's own, each of its own block, all unlike. Plain theorems. law5.turned, walked. law5.SignTells, walked.
-/
import Derived.Test.YtkndgpjamijbbaaGreatLawNumbers22Q18
import Derived.Test.YtkndgpjamijbbaaGreatLawNumbers22Q19
import Derived.Test.YtkndgpjamijbbaaGreatLawNumbers22Q15
import Derived.Lib.AppendZerosOnto
import Derived.Test.YtkndgpjamijbbaaGreatLawNumbers22Q11
import Derived.Test.YtkndgpjamijbbaaGreatLawNumbers22Q4
import Derived.Test.YtkndgpjamijbbaaGreatLawNumbers22Q14
namespace Go.Proofs.YtkndgpjamijbbaaGreat
set_option maxRecDepth 100000
open Go Go.RowKit
def UpTo (w1 : World) (n : Nat) (i : Value) (wr : World) : Prop := ∃ k : Nat, k ≤ n ∧ i = .int .i64 k ∧ Ext w1 wr
set_option maxHeartbeats 4000000 in
theorem rsame_true (x : Int) (P Q P' Q' : Option Addr) (np cp nq cq np' cp' nq' cq' : Nat) (Ps Qs : List (List UInt8)) (w : World) (hp : RBB w P np cp Ps) (hq : RBB w Q nq cq Qs) (hp' : RBB w P' np' cp' Ps) (hq' : RBB w Q' nq' cq' Qs) :
    Calls Tryz.prog 25 #[.agg #[.int .i64 x, .slice P np cp, .slice Q nq cq], .agg #[.int .i64 x, .slice P' np' cp', .slice Q' nq' cq']] w fun e w' => e = .returned (.bool true) ∧ Ext w w' := by
  obtain rfl : np = np' := hp.len.symm.trans hp'.len
  obtain rfl : nq = nq' := hq.len.symm.trans hq'.len
  have hc1 := hp.cap
  have hc2 := hq.cap
  have hc3 := hp.room
  have hc4 := hq.room
  have hc5 := hp'.room
  have hc6 := hq'.room
  unfold maxLen at hc1 hc2
  have hE1 := Ext.new w (.cells #[.int .i64 x, .slice P np cp, .slice Q nq cq] 38)
  have hB1 := Blk.new w 38 #[.int .i64 x, .slice P np cp, .slice Q nq cq]
  obtain ⟨w1, hw1⟩ : ∃ w1, w1 = w.alloc (.cells #[.int .i64 x, .slice P np cp, .slice Q nq cq] 38) := ⟨_, rfl⟩
  rw [← hw1] at hE1 hB1
  have hE2 := Ext.new w1 (.cells #[.int .i64 x, .slice P' np cp', .slice Q' nq cq'] 38)
  have hB2 := Blk.new w1 38 #[.int .i64 x, .slice P' np cp', .slice Q' nq cq']
  have hs1 : w1.heap.size = w.heap.size + 1 := by rw [hw1]; exact World.size_alloc _ _
  have hB1 := hB1.ext hE2
  have hE12 := hE1.trans hE2
  rw [hs1] at hB2
  rw [hw1] at hE12 hB1 hB2
  clear hw1 hs1 hE1 hE2
  go_enter Tryz.func25, Tryz.ntmps25
  go_wp2_with fail
  generalize (w.alloc (.cells #[.int .i64 x, .slice P np cp, .slice Q nq cq] 38)).alloc (.cells #[.int .i64 x, .slice P' np cp', .slice Q' nq cq'] 38) = w2 at *
  go_loopw [5] (fun i wr => UpTo w2 np i wr) (fun i _ => np - (intOf i).toNat)
  case atStart => exact ⟨0, by omega, rfl, Ext.refl _⟩
  case round =>
    obtain ⟨k, hk, rfl, hEr⟩ := hrel
    have hEw := hE12.trans hEr
    have b1 := hB1.ext hEr
    have b2 := hB2.ext hEr
    have u1 : wr.cell? ⟨w.heap.size, 1, none⟩ = some (.slice P np cp) := b1.cell (i := 1) rfl
    have v1 : wr.cell? ⟨w.heap.size + 1, 1, none⟩ = some (.slice P' np cp') := b2.cell (i := 1) rfl
    by_cases hlt : k < np
    · have hki : (k : Int) < (np : Int) := by omega
      obtain ⟨adP, rfl, hcP⟩ := hp.cells (by omega)
      obtain ⟨adR, rfl, hcR⟩ := hp'.cells (by omega)
      obtain ⟨E1, z1, y1, hc1, hr1⟩ := hcP k hlt
      obtain ⟨E2, z2, y2, hc2, hr2⟩ := hcR k hlt
      have hr1 := hr1.ext hEw
      have hr2 := hr2.ext hEw
      have hc1 := hEw.cell hc1
      have hc2 := hEw.cell hc2
      clear hcP hcR
      go_upto_region 6 with (fail)
      refine par_ext (n := 13) (by kernel_rfl) [.is (.pointer (some ⟨w.heap.size, 1, none⟩)), .is (.slice (some adP) (np) (cp)), .is (.int .i64 (((k : Nat) : Int))), .is (.pointer (some ((adP : Addr).add (k)))), .is (.slice (E1) (z1) (y1)), .is (.string (str (lb Ps k))), .is (.pointer (some ⟨w.heap.size + 1, 1, none⟩)), .is (.slice (some adR) (np) (cp')), .is (.int .i64 (((k : Nat) : Int))), .is (.pointer (some ((adR : Addr).add (k)))), .is (.slice (E2) (z2) (y2)), .is (.string (str (lb Ps k))), .is (.bool (false))] rfl ⟨?_, ?_, ?_, ?_, ?_, ?_, ?_, ?_, ?_, ?_, ?_, ?_, ?_, trivial⟩ ?_
      · refine stepE rfl fun sdn sa sw sE sd sk => ?_
        have h2 : sa.eval (.tmp 2) = .pointer (some ⟨w.heap.size, 0, none⟩) := sk.old 2 rfl
        refine Runs.of_run (r := .pointer (some ⟨w.heap.size, 1, none⟩)) (w' := sw) ?_ ⟨Ext.refl _, rfl⟩
        unfold execOp
        simp only [h2]
        go_simp
      · refine stepE rfl fun sdn sa sw sE sd sk => ?_
        have h37 : sa.eval (.tmp 37) = .pointer (some ⟨w.heap.size, 1, none⟩) := sk.fact 0 37 rfl (sd 0 rfl)
        exact Runs.load rfl h37 (run_load1 Tryz.underlying33 rfl (sE.cell u1)) ⟨Ext.refl _, rfl⟩
      · refine stepE rfl fun sdn sa sw sE sd sk => ?_
        have h5 : sa.eval (.tmp 5) = .int .i64 (((k : Nat) : Int)) := sk.old 5 rfl
        exact Runs.move rfl h5 ⟨Ext.refl _, rfl⟩
      · refine stepE rfl fun sdn sa sw sE sd sk => ?_
        have h38 : sa.eval (.tmp 38) = .slice (some adP) (np) (cp) := sk.fact 1 38 rfl (sd 1 rfl)
        have h39 : sa.eval (.tmp 39) = .int .i64 (((k : Nat) : Int)) := sk.fact 2 39 rfl (sd 2 rfl)
        exact Runs.idx rfl h38 h39 (run_idx_sl1 Tryz.underlying33 infZZ_eq infZZ_size (k) (by omega) (by omega)) ⟨Ext.refl _, rfl⟩
      · refine stepE rfl fun sdn sa sw sE sd sk => ?_
        have h40 : sa.eval (.tmp 40) = .pointer (some ((adP : Addr).add (k))) := sk.fact 3 40 rfl (sd 3 rfl)
        exact Runs.load rfl h40 (run_load1 Tryz.underlying26 rfl (sE.cell hc1)) ⟨Ext.refl _, rfl⟩
      · refine stepE rfl fun sdn sa sw sE sd sk => ?_
        have h41 : sa.eval (.tmp 41) = .slice (E1) (z1) (y1) := sk.fact 4 41 rfl (sd 4 rfl)
        exact Runs.conv rfl h41 (run_str (hr1.ext sE)) ⟨Ext.refl _, rfl⟩
      · refine stepE rfl fun sdn sa sw sE sd sk => ?_
        have h3 : sa.eval (.tmp 3) = .pointer (some ⟨w.heap.size + 1, 0, none⟩) := sk.old 3 rfl
        refine Runs.of_run (r := .pointer (some ⟨w.heap.size + 1, 1, none⟩)) (w' := sw) ?_ ⟨Ext.refl _, rfl⟩
        unfold execOp
        simp only [h3]
        go_simp
      · refine stepE rfl fun sdn sa sw sE sd sk => ?_
        have h43 : sa.eval (.tmp 43) = .pointer (some ⟨w.heap.size + 1, 1, none⟩) := sk.fact 6 43 rfl (sd 6 rfl)
        exact Runs.load rfl h43 (run_load1 Tryz.underlying33 rfl (sE.cell v1)) ⟨Ext.refl _, rfl⟩
      · refine stepE rfl fun sdn sa sw sE sd sk => ?_
        have h5 : sa.eval (.tmp 5) = .int .i64 (((k : Nat) : Int)) := sk.old 5 rfl
        exact Runs.move rfl h5 ⟨Ext.refl _, rfl⟩
      · refine stepE rfl fun sdn sa sw sE sd sk => ?_
        have h44 : sa.eval (.tmp 44) = .slice (some adR) (np) (cp') := sk.fact 7 44 rfl (sd 7 rfl)
        have h45 : sa.eval (.tmp 45) = .int .i64 (((k : Nat) : Int)) := sk.fact 8 45 rfl (sd 8 rfl)
        exact Runs.idx rfl h44 h45 (run_idx_sl1 Tryz.underlying33 infZZ_eq infZZ_size (k) (by omega) (by omega)) ⟨Ext.refl _, rfl⟩
      · refine stepE rfl fun sdn sa sw sE sd sk => ?_
        have h46 : sa.eval (.tmp 46) = .pointer (some ((adR : Addr).add (k))) := sk.fact 9 46 rfl (sd 9 rfl)
        exact Runs.load rfl h46 (run_load1 Tryz.underlying26 rfl (sE.cell hc2)) ⟨Ext.refl _, rfl⟩
      · refine stepE rfl fun sdn sa sw sE sd sk => ?_
        have h47 : sa.eval (.tmp 47) = .slice (E2) (z2) (y2) := sk.fact 10 47 rfl (sd 10 rfl)
        exact Runs.conv rfl h47 (run_str (hr2.ext sE)) ⟨Ext.refl _, rfl⟩
      · refine stepE rfl fun sdn sa sw sE sd sk => ?_
        have h42 : sa.eval (.tmp 42) = .string (str (lb Ps k)) := sk.fact 5 42 rfl (sd 5 rfl)
        have h48 : sa.eval (.tmp 48) = .string (str (lb Ps k)) := sk.fact 11 48 rfl (sd 11 rfl)
        exact Runs.bin rfl h42 h48 (by rfl) (bin_nes _ _ _) ⟨Ext.refl _, congrArg Value.bool (by simp)⟩
      intro vals W1 hE hv
      have e0 : vals 0 = .pointer (some ⟨w.heap.size, 1, none⟩) := hv 0 (by omega) 37 rfl
      have e1 : vals 1 = .slice (some adP) (np) (cp) := hv 1 (by omega) 38 rfl
      have e2 : vals 2 = .int .i64 (((k : Nat) : Int)) := hv 2 (by omega) 39 rfl
      have e3 : vals 3 = .pointer (some ((adP : Addr).add (k))) := hv 3 (by omega) 40 rfl
      have e4 : vals 4 = .slice (E1) (z1) (y1) := hv 4 (by omega) 41 rfl
      have e5 : vals 5 = .string (str (lb Ps k)) := hv 5 (by omega) 42 rfl
      have e6 : vals 6 = .pointer (some ⟨w.heap.size + 1, 1, none⟩) := hv 6 (by omega) 43 rfl
      have e7 : vals 7 = .slice (some adR) (np) (cp') := hv 7 (by omega) 44 rfl
      have e8 : vals 8 = .int .i64 (((k : Nat) : Int)) := hv 8 (by omega) 45 rfl
      have e9 : vals 9 = .pointer (some ((adR : Addr).add (k))) := hv 9 (by omega) 46 rfl
      have e10 : vals 10 = .slice (E2) (z2) (y2) := hv 10 (by omega) 47 rfl
      have e11 : vals 11 = .string (str (lb Ps k)) := hv 11 (by omega) 48 rfl
      have e12 : vals 12 = .bool (false) := hv 12 (by omega) 49 rfl
      simp only [putAll, Act.put, List.take_succ_cons, List.take_zero, List.drop_succ_cons, List.drop_zero, List.drop_nil, List.take_nil, Nat.reduceAdd, List.setIfInBounds_toArray, List.set_cons_succ, List.set_cons_zero, e0, e1, e2, e3, e4, e5, e6, e7, e8, e9, e10, e11, e12]
      clear hv e0 e1 e2 e3 e4 e5 e6 e7 e8 e9 e10 e11 e12
      go_wp2_with fail
      go_roundw
      case rel => exact ⟨k + 1, by omega, by go_num, hEr.trans hE⟩
      case measure => simp [intOf]; omega
    · obtain rfl : k = np := by omega
      go_wp2_with fail
      obtain ⟨w3, rfl⟩ : ∃ w3, w3 = wr := ⟨_, rfl⟩
      clear u1 v1 b1 b2
      go_loopw [6] (fun i wr => UpTo w2 nq i wr) (fun i _ => nq - (intOf i).toNat)
      case atStart => exact ⟨0, by omega, rfl, hEr⟩
      case round =>
        clear hEr hEw
        obtain ⟨j, hj, rfl, hEr⟩ := hrel
        have hEw := hE12.trans hEr
        have b1 := hB1.ext hEr
        have b2 := hB2.ext hEr
        have u1 : wr.cell? ⟨w.heap.size, 2, none⟩ = some (.slice Q nq cq) := b1.cell (i := 2) rfl
        have v1 : wr.cell? ⟨w.heap.size + 1, 2, none⟩ = some (.slice Q' nq cq') := b2.cell (i := 2) rfl
        by_cases hlt2 : j < nq
        · have hji : (j : Int) < (nq : Int) := by omega
          obtain ⟨adP, rfl, hcP⟩ := hq.cells (by omega)
          obtain ⟨adR, rfl, hcR⟩ := hq'.cells (by omega)
          obtain ⟨E1, z1, y1, hc1, hr1⟩ := hcP j hlt2
          obtain ⟨E2, z2, y2, hc2, hr2⟩ := hcR j hlt2
          have hr1 := hr1.ext hEw
          have hr2 := hr2.ext hEw
          have hc1 := hEw.cell hc1
          have hc2 := hEw.cell hc2
          clear hcP hcR
          go_upto_region 11 with (fail)
          refine par_ext (n := 13) (by kernel_rfl) [.is (.pointer (some ⟨w.heap.size, 2, none⟩)), .is (.slice (some adP) (nq) (cq)), .is (.int .i64 (((j : Nat) : Int))), .is (.pointer (some ((adP : Addr).add (j)))), .is (.slice (E1) (z1) (y1)), .is (.string (str (lb Qs j))), .is (.pointer (some ⟨w.heap.size + 1, 2, none⟩)), .is (.slice (some adR) (nq) (cq')), .is (.int .i64 (((j : Nat) : Int))), .is (.pointer (some ((adR : Addr).add (j)))), .is (.slice (E2) (z2) (y2)), .is (.string (str (lb Qs j))), .is (.bool (false))] rfl ⟨?_, ?_, ?_, ?_, ?_, ?_, ?_, ?_, ?_, ?_, ?_, ?_, ?_, trivial⟩ ?_
          · refine stepE rfl fun sdn sa sw sE sd sk => ?_
            have h2 : sa.eval (.tmp 2) = .pointer (some ⟨w.heap.size, 0, none⟩) := sk.old 2 rfl
            refine Runs.of_run (r := .pointer (some ⟨w.heap.size, 2, none⟩)) (w' := sw) ?_ ⟨Ext.refl _, rfl⟩
            unfold execOp
            simp only [h2]
            go_simp
          · refine stepE rfl fun sdn sa sw sE sd sk => ?_
            have h57 : sa.eval (.tmp 57) = .pointer (some ⟨w.heap.size, 2, none⟩) := sk.fact 0 57 rfl (sd 0 rfl)
            exact Runs.load rfl h57 (run_load1 Tryz.underlying33 rfl (sE.cell u1)) ⟨Ext.refl _, rfl⟩
          · refine stepE rfl fun sdn sa sw sE sd sk => ?_
            have h6 : sa.eval (.tmp 6) = .int .i64 (((j : Nat) : Int)) := sk.old 6 rfl
            exact Runs.move rfl h6 ⟨Ext.refl _, rfl⟩
          · refine stepE rfl fun sdn sa sw sE sd sk => ?_
            have h58 : sa.eval (.tmp 58) = .slice (some adP) (nq) (cq) := sk.fact 1 58 rfl (sd 1 rfl)
            have h59 : sa.eval (.tmp 59) = .int .i64 (((j : Nat) : Int)) := sk.fact 2 59 rfl (sd 2 rfl)
            exact Runs.idx rfl h58 h59 (run_idx_sl1 Tryz.underlying33 infZZ_eq infZZ_size (j) (by omega) (by omega)) ⟨Ext.refl _, rfl⟩
          · refine stepE rfl fun sdn sa sw sE sd sk => ?_
            have h60 : sa.eval (.tmp 60) = .pointer (some ((adP : Addr).add (j))) := sk.fact 3 60 rfl (sd 3 rfl)
            exact Runs.load rfl h60 (run_load1 Tryz.underlying26 rfl (sE.cell hc1)) ⟨Ext.refl _, rfl⟩
          · refine stepE rfl fun sdn sa sw sE sd sk => ?_
            have h61 : sa.eval (.tmp 61) = .slice (E1) (z1) (y1) := sk.fact 4 61 rfl (sd 4 rfl)
            exact Runs.conv rfl h61 (run_str (hr1.ext sE)) ⟨Ext.refl _, rfl⟩
          · refine stepE rfl fun sdn sa sw sE sd sk => ?_
            have h3 : sa.eval (.tmp 3) = .pointer (some ⟨w.heap.size + 1, 0, none⟩) := sk.old 3 rfl
            refine Runs.of_run (r := .pointer (some ⟨w.heap.size + 1, 2, none⟩)) (w' := sw) ?_ ⟨Ext.refl _, rfl⟩
            unfold execOp
            simp only [h3]
            go_simp
          · refine stepE rfl fun sdn sa sw sE sd sk => ?_
            have h63 : sa.eval (.tmp 63) = .pointer (some ⟨w.heap.size + 1, 2, none⟩) := sk.fact 6 63 rfl (sd 6 rfl)
            exact Runs.load rfl h63 (run_load1 Tryz.underlying33 rfl (sE.cell v1)) ⟨Ext.refl _, rfl⟩
          · refine stepE rfl fun sdn sa sw sE sd sk => ?_
            have h6 : sa.eval (.tmp 6) = .int .i64 (((j : Nat) : Int)) := sk.old 6 rfl
            exact Runs.move rfl h6 ⟨Ext.refl _, rfl⟩
          · refine stepE rfl fun sdn sa sw sE sd sk => ?_
            have h64 : sa.eval (.tmp 64) = .slice (some adR) (nq) (cq') := sk.fact 7 64 rfl (sd 7 rfl)
            have h65 : sa.eval (.tmp 65) = .int .i64 (((j : Nat) : Int)) := sk.fact 8 65 rfl (sd 8 rfl)
            exact Runs.idx rfl h64 h65 (run_idx_sl1 Tryz.underlying33 infZZ_eq infZZ_size (j) (by omega) (by omega)) ⟨Ext.refl _, rfl⟩
          · refine stepE rfl fun sdn sa sw sE sd sk => ?_
            have h66 : sa.eval (.tmp 66) = .pointer (some ((adR : Addr).add (j))) := sk.fact 9 66 rfl (sd 9 rfl)
            exact Runs.load rfl h66 (run_load1 Tryz.underlying26 rfl (sE.cell hc2)) ⟨Ext.refl _, rfl⟩
          · refine stepE rfl fun sdn sa sw sE sd sk => ?_
            have h67 : sa.eval (.tmp 67) = .slice (E2) (z2) (y2) := sk.fact 10 67 rfl (sd 10 rfl)
            exact Runs.conv rfl h67 (run_str (hr2.ext sE)) ⟨Ext.refl _, rfl⟩
          · refine stepE rfl fun sdn sa sw sE sd sk => ?_
            have h62 : sa.eval (.tmp 62) = .string (str (lb Qs j)) := sk.fact 5 62 rfl (sd 5 rfl)
            have h68 : sa.eval (.tmp 68) = .string (str (lb Qs j)) := sk.fact 11 68 rfl (sd 11 rfl)
            exact Runs.bin rfl h62 h68 (by rfl) (bin_nes _ _ _) ⟨Ext.refl _, congrArg Value.bool (by simp)⟩
          intro vals W1 hE hv
          have e0 : vals 0 = .pointer (some ⟨w.heap.size, 2, none⟩) := hv 0 (by omega) 57 rfl
          have e1 : vals 1 = .slice (some adP) (nq) (cq) := hv 1 (by omega) 58 rfl
          have e2 : vals 2 = .int .i64 (((j : Nat) : Int)) := hv 2 (by omega) 59 rfl
          have e3 : vals 3 = .pointer (some ((adP : Addr).add (j))) := hv 3 (by omega) 60 rfl
          have e4 : vals 4 = .slice (E1) (z1) (y1) := hv 4 (by omega) 61 rfl
          have e5 : vals 5 = .string (str (lb Qs j)) := hv 5 (by omega) 62 rfl
          have e6 : vals 6 = .pointer (some ⟨w.heap.size + 1, 2, none⟩) := hv 6 (by omega) 63 rfl
          have e7 : vals 7 = .slice (some adR) (nq) (cq') := hv 7 (by omega) 64 rfl
          have e8 : vals 8 = .int .i64 (((j : Nat) : Int)) := hv 8 (by omega) 65 rfl
          have e9 : vals 9 = .pointer (some ((adR : Addr).add (j))) := hv 9 (by omega) 66 rfl
          have e10 : vals 10 = .slice (E2) (z2) (y2) := hv 10 (by omega) 67 rfl
          have e11 : vals 11 = .string (str (lb Qs j)) := hv 11 (by omega) 68 rfl
          have e12 : vals 12 = .bool (false) := hv 12 (by omega) 69 rfl
          simp only [putAll, Act.put, List.take_succ_cons, List.take_zero, List.drop_succ_cons, List.drop_zero, List.drop_nil, List.take_nil, Nat.reduceAdd, List.setIfInBounds_toArray, List.set_cons_succ, List.set_cons_zero, e0, e1, e2, e3, e4, e5, e6, e7, e8, e9, e10, e11, e12]
          clear hv e0 e1 e2 e3 e4 e5 e6 e7 e8 e9 e10 e11 e12
          go_wp2_with fail
          go_roundw
          case rel => exact ⟨j + 1, by omega, by go_num, hEr.trans hE⟩
          case measure => simp [intOf]; omega
        · obtain rfl : j = nq := by omega
          go_wp2_with fail
          go_ret
          exact ⟨rfl, hEw⟩
end Go.Proofs.YtkndgpjamijbbaaGreat
namespace Go.Proofs.YtkndgpjamijbbaaGreat
set_option maxRecDepth 100000
open Go Go.RowKit
theorem RdrS.row {w w' : World} {base q : Nat} {L : List UInt8} {bad : Bool} (h : RdrS w base q L bad) {b : Nat} {A : Option Addr} {n c : Nat} {vs : List Value} (own : w.ownsRow b 26 1 (.slice A n c) n vs) (g : w.grownBy w' (blk A)) : RdrS w' base q L bad := by
  obtain ⟨A', n', c', hn, hR⟩ := h
  have hne : ∀ k, blk A = some k → ∀ cs t fr, w.heap[k]? = some (.cells cs t fr) → t = 26 := by
    intro k hk cs t fr hc
    obtain ⟨cs', h1⟩ := row_type own (k := k) (by rw [ownBlock_slice]; exact hk)
    rw [h1] at hc
    injection hc with hc
    injection hc with _ hc
    exact hc.symm
  have hbA : 0 < n' → blk A' ≠ blk A := by
    intro h0 e
    cases hA : blk A with
    | none =>
      rw [hA] at e
      obtain ⟨ad, h1, _⟩ := hR.rb.cells h0
      rw [h1] at e
      cases e
    | some k =>
      rw [hA] at e
      obtain ⟨cs, fr, h1⟩ := hR.ty h0 k e
      have := hne k hA cs _ fr h1
      revert this
      decide
  refine ⟨A', n', c', hn, hR.blk.grown g ?_, hR.rb.grown g hbA, hR.ne, hR.base, fun h0 k hk => ?_⟩
  · intro e
    have := hne q e.symm _ _ _ hR.blk
    revert this
    decide
  · obtain ⟨cs, fr, h1⟩ := hR.ty h0 k hk
    exact ⟨cs, fr, (g.block k (Array.getElem?_eq_some_iff.1 h1).1 (fun e => hbA h0 (by rw [hk, e]))).trans h1⟩
theorem RdrS.blk_ {w : World} {base q : Nat} {L : List UInt8} {bad : Bool} (h : RdrS w base q L bad) : base ≤ q ∧ ∃ cs, Blk w q 126 cs ∧ ∀ (i : Nat) (x : Int), cs[i]? ≠ some (.int .u8 x) := by
  obtain ⟨A', n', c', hn, hR⟩ := h
  refine ⟨hR.base, _, hR.blk, fun i x => ?_⟩
  rcases i with _ | _ | i <;> simp
/-- a row of byte slices of the call's own, all of them of blocks at or beyond b -/
def OBE (w : World) (b : Nat) (A : Option Addr) (n c : Nat) (Ls : List (List UInt8)) : Prop :=
  ∃ vs : List Value, w.ownsRow b 26 1 (.slice A n c) n vs ∧ Ls.length = n ∧ ∀ j, j < n → ∃ B m d, vs[j]? = some (.slice B m d) ∧ RB w B m d (lb Ls j) ∧ (0 < m → blk B ≠ blk A ∧ ∀ k, blk B = some k → b ≤ k)
section
variable {w w' : World} {b n c : Nat} {A : Option Addr} {Ls : List (List UInt8)}
theorem OBE.none_ (w : World) (b : Nat) : OBE w b none 0 0 [] := ⟨[], World.ownsRow_nil w _ _ _, rfl, fun j hj => absurd hj (Nat.not_lt_zero _)⟩
theorem OBE.obc (h : OBE w b A n c Ls) : OBC w b A n c Ls := by
  obtain ⟨vs, h1, h2, h3⟩ := h
  refine ⟨vs, h1, h2, fun j hj => ?_⟩
  obtain ⟨B, m, d, h4, h5, h6⟩ := h3 j hj
  exact ⟨B, m, d, h4, h5, fun hm => (h6 hm).1⟩
theorem OBE.lt (h : OBE w b A n c Ls) {k : Nat} (hk : blk A = some k) : b ≤ k ∧ k < w.heap.size := h.obc.lt hk
theorem OBE.ext (h : OBE w b A n c Ls) (e : Ext w w') : OBE w' b A n c Ls := by
  obtain ⟨vs, h1, h2, h3⟩ := h
  refine ⟨vs, World.ownsRow.kept h1 (e.grownBy none) ?_, h2, fun j hj => ?_⟩
  · cases hb : Value.ownBlock (.slice A n c) <;> simp
  · obtain ⟨B, m, d, h4, h5, h6⟩ := h3 j hj
    exact ⟨B, m, d, h4, h5.ext e, h6⟩
theorem OBE.base {b' : Nat} (h : OBE w b A n c Ls) (hb : b' ≤ b) : OBE w b' A n c Ls := by
  obtain ⟨vs, h1, h2, h3⟩ := h
  refine ⟨vs, ownsRow_base h1 hb, h2, fun j hj => ?_⟩
  obtain ⟨B, m, d, h4, h5, h6⟩ := h3 j hj
  exact ⟨B, m, d, h4, h5, fun hm => ⟨(h6 hm).1, fun k hk => Nat.le_trans hb ((h6 hm).2 k hk)⟩⟩
theorem OBE.far (h : OBE w b A n c Ls) {g : Nat} {t : TypeId} {cs : Array Value} (hb : Blk w g t cs) (ht : t ≠ 26) (hno : ∀ (i : Nat) (x : Int), cs[i]? ≠ some (.int .u8 x)) (e : w.grownBy w' (some g)) : OBE w' b A n c Ls := by
  obtain ⟨vs, h1, h2, h3⟩ := h
  refine ⟨vs, World.ownsRow.kept h1 e (.inr (row_ne h1 hb ht)), h2, fun j hj => ?_⟩
  obtain ⟨B, m, d, h4, h5, h6⟩ := h3 j hj
  exact ⟨B, m, d, h4, h5.grown e (h5.apart5 hb hno), h6⟩
end
end Go.Proofs.YtkndgpjamijbbaaGreat
namespace Go.Proofs.YtkndgpjamijbbaaGreat
set_option maxRecDepth 100000
open Go Go.RowKit
/-- blocks of b and beyond, below u; the elements' ones rise -/
def OBX (w : World) (b u : Nat) (A : Option Addr) (n c : Nat) (Ls : List (List UInt8)) : Prop :=
  ∃ (vs : List Value) (f d : Nat → Nat), w.ownsRow b 26 1 (.slice A n c) n vs ∧ Ls.length = n ∧ (∀ j, j < n → vs[j]? = some (.slice (some ⟨f j, 0, none⟩) 32 (d j)) ∧ OB w b (some ⟨f j, 0, none⟩) 32 (d j) (lb Ls j) ∧ f j < u) ∧ (∀ i j, i < j → j < n → f i < f j) ∧ ∀ k, blk A = some k → k < u
section
variable {w w' : World} {b u n c : Nat} {A : Option Addr} {Ls : List (List UInt8)}
theorem OBX.none_ (w : World) (b u : Nat) : OBX w b u none 0 0 [] := ⟨[], fun _ => 0, fun _ => 0, World.ownsRow_nil w _ _ _, rfl, fun j hj => absurd hj (Nat.not_lt_zero _), fun i j _ hj => absurd hj (Nat.not_lt_zero _), fun k hk => by cases hk⟩
theorem OBX.len (h : OBX w b u A n c Ls) : Ls.length = n := by
  obtain ⟨vs, f, d, h1, h2, _⟩ := h
  exact h2
theorem OBX.lt (h : OBX w b u A n c Ls) {k : Nat} (hk : blk A = some k) : b ≤ k ∧ k < w.heap.size := by
  obtain ⟨vs, f, d, h1, _⟩ := h
  exact World.ownsRow.lt h1 k (by rw [ownBlock_slice]; exact hk)
theorem OBX.kept (h : OBX w b u A n c Ls) {row : Option Nat} (e : w.grownBy w' row) (h1' : ∀ k, row = some k → blk A ≠ some k) (h2' : ∀ (k g m d : Nat) (Y : List UInt8), row = some k → OB w b (some ⟨g, 0, none⟩) m d Y → g < u → g ≠ k) : OBX w' b u A n c Ls := by
  obtain ⟨vs, f, d, h1, h2, h3, h4, h5⟩ := h
  refine ⟨vs, f, d, World.ownsRow.kept h1 e ?_, h2, fun j hj => ⟨(h3 j hj).1, (h3 j hj).2.1.grown e ?_, (h3 j hj).2.2⟩, h4, h5⟩
  · cases row with
    | none => cases hb : Value.ownBlock (.slice A n c) <;> simp
    | some k => exact .inr (by rw [ownBlock_slice]; exact h1' k rfl)
  · cases row with
    | none => exact .inr (by intro e; cases e)
    | some k => exact .inr (fun e => by
        have e2 : some (f j) = some k := e
        injection e2 with e2
        exact h2' k (f j) _ _ _ rfl (h3 j hj).2.1 (h3 j hj).2.2 e2)
theorem OBX.ext (h : OBX w b u A n c Ls) (e : Ext w w') : OBX w' b u A n c Ls := h.kept (e.grownBy none) (fun k hk => by cases hk) (fun k _ _ _ _ hk => by cases hk)
theorem OBX.far (h : OBX w b u A n c Ls) {row : Option Nat} (e : w.grownBy w' row) (hr : ∀ k, row = some k → Other w k) : OBX w' b u A n c Ls := by
  refine h.kept e (fun k hk e => ?_) (fun k g _ _ _ hk ho _ e => ho.other (hr k hk) (by rw [e]))
  obtain ⟨cs, t, fr, g1, g2, g3⟩ := hr k hk
  obtain ⟨vs, f, d, h1, _⟩ := h
  exact row_ne h1 g1 g2 (by rw [ownBlock_slice]; exact e)
theorem OBX.plain (h : OBX w b u A n c Ls) (hn : 0 < n) : ∃ g, A = some ⟨g, 0, none⟩ := by
  obtain ⟨vs, f, d, h1, _⟩ := h
  rcases h1.2 with ⟨_, h0⟩ | ⟨g, cap, cur, e, _⟩
  · omega
  · injection e with e1
    exact ⟨g, e1⟩
theorem OBX.ne_blk {g k : Nat} {t : TypeId} {cs : Array Value} (h : OBX w b u (some ⟨g, 0, none⟩) n c Ls) (hb : Blk w k t cs) (ht : t ≠ 26) : k ≠ g := by
  obtain ⟨vs, f, d, h1, _⟩ := h
  intro e
  exact row_ne h1 hb ht (by rw [ownBlock_slice, e]; rfl)
theorem OB.ne_blk {g k : Nat} {t : TypeId} {cs : Array Value} {L : List UInt8} (h : OB w b (some ⟨g, 0, none⟩) n c L) (hb : Blk w k t cs) (ht : t ≠ 5) : k ≠ g := by
  intro e
  exact row_ne h hb ht (by rw [ownBlock_slice, e]; rfl)
theorem OBX.obc (h : OBX w b u A n c Ls) : OBC w b A n c Ls := by
  obtain ⟨vs, f, d, h1, h2, h3, h4, h5⟩ := h
  refine ⟨vs, h1, h2, fun j hj => ?_⟩
  obtain ⟨g1, g2, g3⟩ := h3 j hj
  refine ⟨_, _, _, g1, g2.rb, fun _ e => ?_⟩
  obtain ⟨cs, hcs⟩ := row_type g2 (k := f j) (by rw [ownBlock_slice]; rfl)
  exact row_ne h1 hcs (by decide) (by rw [ownBlock_slice]; exact e.symm)
/-- an element, opened to be turned -/
theorem OBX.at_ {g : Nat} (h : OBX w b u (some ⟨g, 0, none⟩) n c Ls) {i : Nat} (hi : i < n) :
    ∃ g' d', w.cell? ⟨g, i, none⟩ = some (.slice (some ⟨g', 0, none⟩) 32 d') ∧ OB w b (some ⟨g', 0, none⟩) 32 d' (lb Ls i) ∧ g' < u ∧ g' ≠ g ∧
      ∀ (q : Nat) (x : UInt8), OBX (w.setCell ⟨g', q, none⟩ (.int .u8 (u8i x))) b u (some ⟨g, 0, none⟩) n c (Ls.set i ((lb Ls i).set q x)) := by
  obtain ⟨vs, f, d, h1, h2, h3, h4, h5⟩ := h
  obtain ⟨g1, g2, g3⟩ := h3 i hi
  have hne : f i ≠ g := by
    intro e
    obtain ⟨cs, hcs⟩ := row_type g2 (k := f i) (by rw [ownBlock_slice]; rfl)
    exact row_ne h1 hcs (by decide) (by rw [ownBlock_slice, e]; rfl)
  have hc := World.ownsRow.cells h1 (g := g) (by rw [ownBlock_slice]; rfl) i _ g1
  rw [add_plain] at hc
  refine ⟨f i, d i, hc, g2, g3, hne, fun q x => ?_⟩
  have gs := grown_set w ⟨f i, q, none⟩ (.int .u8 (u8i x))
  refine ⟨vs, f, d, World.ownsRow.kept h1 gs (.inr (by rw [ownBlock_slice]; intro e; injection e with e; exact hne e.symm)), by rw [List.length_set]; exact h2, fun j hj => ?_, h4, h5⟩
  obtain ⟨k1, k2, k3⟩ := h3 j hj
  refine ⟨k1, ?_, k3⟩
  rw [lb_set (by omega)]
  by_cases hji : j = i
  · subst hji
    rw [if_pos rfl]
    exact (g2.set q x).1
  · rw [if_neg hji]
    refine k2.grown gs (.inr fun e => ?_)
    have e2 : f j = f i := by
      have e3 : some (f j) = some (f i) := e
      injection e3
    rcases Nat.lt_or_ge j i with h6 | h6
    · have := h4 j i h6 hi; omega
    · have := h4 i j (by omega) hj; omega
end
end Go.Proofs.YtkndgpjamijbbaaGreat
namespace Go.Proofs.YtkndgpjamijbbaaGreat
set_option maxRecDepth 100000
open Go Go.RowKit
def TurnPost (w : World) (x how : Int) (i : Nat) (t : UInt8) (Ps Qs : List (List UInt8)) (e : Ending) (w' : World) : Prop :=
  ∃ x' P' n c Q' m d Ps' Qs', e = .returned (.agg #[.int .i64 x', .slice P' n c, .slice Q' m d]) ∧ RBB w' P' n c Ps' ∧ RBB w' Q' m d Qs' ∧ (how = 1 → x' = x ∧ Qs' = Qs ∧ Ps' = Ps.set i ((lb Ps i).set 0 (ub (lb Ps i) 0 ^^^ t))) ∧ Ext w w'
theorem TurnPost.mk {w : World} {x how : Int} {i : Nat} {t : UInt8} {Ps Qs : List (List UInt8)} {e : Ending} {w' : World} (h : ∃ x' P' n c Q' m d Ps' Qs', e = .returned (.agg #[.int .i64 x', .slice P' n c, .slice Q' m d]) ∧ RBB w' P' n c Ps' ∧ RBB w' Q' m d Qs' ∧ (how = 1 → x' = x ∧ Qs' = Qs ∧ Ps' = Ps.set i ((lb Ps i).set 0 (ub (lb Ps i) 0 ^^^ t))) ∧ Ext w w') : TurnPost w x how i t Ps Qs e w' := h
end Go.Proofs.YtkndgpjamijbbaaGreat
namespace Go.Proofs.YtkndgpjamijbbaaGreat
set_option maxRecDepth 100000
open Go Go.RowKit
/-- a signature that is read -/
def MP.sg (x : Int) (n m : Nat) (Ps Qs : List (List UInt8)) : MP Ext := ⟨fun u w => ∃ P d Q d', u = .agg #[.int .i64 x, .slice P n d, .slice Q m d'] ∧ RBB w P n d Ps ∧ RBB w Q m d' Qs, fun _ _ _ e ⟨P, d, Q, d', h1, h2, h3⟩ => ⟨P, d, Q, d', h1, h2.ext e, h3.ext e⟩⟩
end Go.Proofs.YtkndgpjamijbbaaGreat
