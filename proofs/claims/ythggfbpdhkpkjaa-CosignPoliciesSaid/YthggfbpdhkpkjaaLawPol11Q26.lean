/-
  ref10's Policy and Cosigned, walked.
-/
import Derived.Test.YthggfbpdhkpkjaaLawPol11Q25
namespace Go.Proofs.Ythggfbpdhkpkjaa
set_option maxRecDepth 100000
open Go Go.RowKit
def RPI (w1 : World) (Ws : List (List UInt8)) (i : Value) (wr : World) : Prop := ∃ k : Nat, k ≤ Ws.length ∧ i = .int .i64 k ∧ okW Ws k ∧ Ext w1 wr
def RPJ (w1 : World) (Ws : List (List UInt8)) (k : Nat) (i : Value) (wr : World) : Prop := ∃ j : Nat, j ≤ k ∧ i = .int .i64 j ∧ (∀ i, i < j → lb Ws i ≠ lb Ws k) ∧ Ext w1 wr
set_option maxHeartbeats 8000000 in
theorem rpolicy_any (G A : Option Addr) (ng cg n c : Nat) (q : Int) (LG : List UInt8) (Ws : List (List UInt8)) (w : World) (rG : RB w G ng cg LG) (rW : RBB w A n c Ws) :
    Calls Try.prog 53 #[.agg #[.slice G ng cg, .slice A n c, .int .i64 q]] w fun e w' => e = .returned (.bool (polB LG Ws q)) ∧ Ext w w' := by
  have hEa := Ext.new w (.cells #[.slice G ng cg, .slice A n c, .int .i64 q] 77)
  have hB := Blk.new w 77 #[.slice G ng cg, .slice A n c, .int .i64 q]
  have hlg := rG.len
  have hlw := rW.len
  have hcap := rW.cap
  have hroom := rW.room
  unfold maxLen at hcap
  go_enter Try.func53, Try.ntmps53
  by_cases hA : ng = 32 ∧ 1 ≤ n ∧ n ≤ 4 ∧ 1 ≤ q ∧ q ≤ (n : Int)
  · obtain ⟨a1, a2, a3, a4, a5⟩ := hA
    subst a1
    have hpol : okW Ws Ws.length → polB LG Ws q = true := polB_yes ⟨by omega, by omega, by omega, a4, by omega⟩
    have hnol : ¬ okW Ws Ws.length → polB LG Ws q = false := polB_noW
    have Hpol := Lib.hid hpol
    have Hnol := Lib.hid hnol
    have Hlw := Lib.hid hlw
    have b1 : ¬ ((n : Int) < 1) := by omega
    have b2 : ¬ ((4 : Int) < (n : Int)) := by omega
    have b3 : ¬ (q < 1) := by omega
    have b4 : ¬ ((n : Int) < q) := by omega
    clear hpol hnol hlw hlg
    go_wp2_with fail
    generalize w.alloc (.cells #[.slice G 32 cg, .slice A n c, .int .i64 q] 77) = w1 at *
    obtain ⟨gp, hgp⟩ : ∃ gp, gp = w.heap.size := ⟨_, rfl⟩
    rw [← hgp] at hB ⊢
    clear hgp b1 b2 b3 b4
    replace rW := rW.ext hEa
    replace rG := rG.ext hEa
    go_loopw [4] (fun i wr => RPI w1 Ws i wr) (fun i _ => n - (intOf i).toNat)
    case atStart => exact ⟨0, by omega, rfl, fun i hi => absurd hi (Nat.not_lt_zero _), Ext.refl _⟩
    case round =>
      obtain ⟨k, hk, rfl, hok, hEr⟩ := hrel
      rw [Hlw.out] at hk
      have Hok := Lib.hid hok
      replace hB := hB.ext hEr
      replace rW := rW.ext hEr
      replace rG := rG.ext hEr
      replace hEa := hEa.trans hEr
      clear hok
      by_cases hlt : k < n
      · have hki : (k : Int) < (n : Int) := by omega
        obtain ⟨ad, rfl, hc⟩ := rW.cells (by omega)
        obtain ⟨E, z, y, hck, rE⟩ := hc k hlt
        have hz := Lib.hid rE.len
        have y1 := hB.cell (i := 1) (v := .slice (some ad) n c) rfl
        have Hc := Lib.hid hc
        clear hc
        by_cases h32 : z = 32
        · subst h32
          go_wp2_with fail
          clear y1
          obtain ⟨wo, rfl⟩ : ∃ wo, wo = wr := ⟨_, rfl⟩
          go_loopw [5] (fun i wr => RPJ wo Ws k i wr) (fun i _ => k - (intOf i).toNat)
          case atStart => exact ⟨0, by omega, rfl, fun i hi => absurd hi (Nat.not_lt_zero _), Ext.refl _⟩
          case round =>
            obtain ⟨j, hj, rfl, hall, hEs⟩ := hrel
            have Hall := Lib.hid hall
            clear hall
            by_cases hjk : j < k
            · have hjki : (j : Int) < (k : Int) := by omega
              obtain ⟨F, z, x, hcj, rF⟩ := Hc.out j (by omega)
              replace hB := hB.ext hEs
              replace rG := rG.ext hEs
              replace rE := rE.ext hEs
              replace rF := rF.ext hEs
              replace hck := hEs.cell hck
              replace hcj := hEs.cell hcj
              by_cases heq : lb Ws k = lb Ws j
              · have hno : ¬ okW Ws Ws.length := fun h => (h k (by rw [Hlw.out]; exact hlt)).2 j hjk heq.symm
                have Hno := Lib.hid hno
                have Heq := Lib.hid heq
                clear hno heq
                go_upto_region 12 with (fail)
                have heq := Heq.out
                refine par_ext (n := 13) (by kernel_rfl) [.is (.pointer (some ⟨gp, 1, none⟩)), .is (.slice ((some ad)) (n) (c)), .is (.int .i64 ((k : Int))), .is (.pointer (some (ad.add (k)))), .is (.slice (E) (32) (y)), .is (.string (str ((lb Ws k)))), .is (.pointer (some ⟨gp, 1, none⟩)), .is (.slice ((some ad)) (n) (c)), .is (.int .i64 ((j : Int))), .is (.pointer (some (ad.add (j)))), .is (.slice (F) (z) (x)), .is (.string (str ((lb Ws j)))), .is (.bool (true))] rfl ⟨?_, ?_, ?_, ?_, ?_, ?_, ?_, ?_, ?_, ?_, ?_, ?_, ?_, trivial⟩ ?_
                · refine stepE rfl fun sdn sa sw sE sd sk => ?_
                  have h1 : sa.eval (.tmp 1) = .pointer (some ⟨gp, 0, none⟩) := sk.old 1 rfl
                  refine Runs.of_run (r := .pointer (some ⟨gp, 1, none⟩)) (w' := sw) ?_ ⟨Ext.refl _, rfl⟩
                  unfold execOp
                  simp only [h1]
                  go_simp
                · refine stepE rfl fun sdn sa sw sE sd sk => ?_
                  have h49 : sa.eval (.tmp 49) = .pointer (some ⟨gp, 1, none⟩) := sk.fact 0 49 rfl (sd 0 rfl)
                  exact Runs.load rfl h49 (run_load1 Try.underlying37 rfl ((hB.ext sE).cell (i := 1) rfl)) ⟨Ext.refl _, rfl⟩
                · refine stepE rfl fun sdn sa sw sE sd sk => ?_
                  have h4 : sa.eval (.tmp 4) = .int .i64 ((k : Int)) := sk.old 4 rfl
                  exact Runs.move rfl h4 ⟨Ext.refl _, rfl⟩
                · refine stepE rfl fun sdn sa sw sE sd sk => ?_
                  have h50 : sa.eval (.tmp 50) = .slice ((some ad)) (n) (c) := sk.fact 1 50 rfl (sd 1 rfl)
                  have h51 : sa.eval (.tmp 51) = .int .i64 ((k : Int)) := sk.fact 2 51 rfl (sd 2 rfl)
                  exact Runs.idx rfl h50 h51 (run_idx_sl1 Try.underlying37 infYB_eq infYB_size (k) (by omega) (by omega)) ⟨Ext.refl _, rfl⟩
                · refine stepE rfl fun sdn sa sw sE sd sk => ?_
                  have h52 : sa.eval (.tmp 52) = .pointer (some (ad.add (k))) := sk.fact 3 52 rfl (sd 3 rfl)
                  exact Runs.load rfl h52 (run_load1 Try.underlying22 rfl (sE.cell hck)) ⟨Ext.refl _, rfl⟩
                · refine stepE rfl fun sdn sa sw sE sd sk => ?_
                  have h53 : sa.eval (.tmp 53) = .slice (E) (32) (y) := sk.fact 4 53 rfl (sd 4 rfl)
                  exact Runs.conv rfl h53 (run_str (rE.ext sE)) ⟨Ext.refl _, rfl⟩
                · refine stepE rfl fun sdn sa sw sE sd sk => ?_
                  have h1 : sa.eval (.tmp 1) = .pointer (some ⟨gp, 0, none⟩) := sk.old 1 rfl
                  refine Runs.of_run (r := .pointer (some ⟨gp, 1, none⟩)) (w' := sw) ?_ ⟨Ext.refl _, rfl⟩
                  unfold execOp
                  simp only [h1]
                  go_simp
                · refine stepE rfl fun sdn sa sw sE sd sk => ?_
                  have h55 : sa.eval (.tmp 55) = .pointer (some ⟨gp, 1, none⟩) := sk.fact 6 55 rfl (sd 6 rfl)
                  exact Runs.load rfl h55 (run_load1 Try.underlying37 rfl ((hB.ext sE).cell (i := 1) rfl)) ⟨Ext.refl _, rfl⟩
                · refine stepE rfl fun sdn sa sw sE sd sk => ?_
                  have h5 : sa.eval (.tmp 5) = .int .i64 ((j : Int)) := sk.old 5 rfl
                  exact Runs.move rfl h5 ⟨Ext.refl _, rfl⟩
                · refine stepE rfl fun sdn sa sw sE sd sk => ?_
                  have h56 : sa.eval (.tmp 56) = .slice ((some ad)) (n) (c) := sk.fact 7 56 rfl (sd 7 rfl)
                  have h57 : sa.eval (.tmp 57) = .int .i64 ((j : Int)) := sk.fact 8 57 rfl (sd 8 rfl)
                  exact Runs.idx rfl h56 h57 (run_idx_sl1 Try.underlying37 infYB_eq infYB_size (j) (by omega) (by omega)) ⟨Ext.refl _, rfl⟩
                · refine stepE rfl fun sdn sa sw sE sd sk => ?_
                  have h58 : sa.eval (.tmp 58) = .pointer (some (ad.add (j))) := sk.fact 9 58 rfl (sd 9 rfl)
                  exact Runs.load rfl h58 (run_load1 Try.underlying22 rfl (sE.cell hcj)) ⟨Ext.refl _, rfl⟩
                · refine stepE rfl fun sdn sa sw sE sd sk => ?_
                  have h59 : sa.eval (.tmp 59) = .slice (F) (z) (x) := sk.fact 10 59 rfl (sd 10 rfl)
                  exact Runs.conv rfl h59 (run_str (rF.ext sE)) ⟨Ext.refl _, rfl⟩
                · refine stepE rfl fun sdn sa sw sE sd sk => ?_
                  have h54 : sa.eval (.tmp 54) = .string (str ((lb Ws k))) := sk.fact 5 54 rfl (sd 5 rfl)
                  have h60 : sa.eval (.tmp 60) = .string (str ((lb Ws j))) := sk.fact 11 60 rfl (sd 11 rfl)
                  exact Runs.bin rfl h54 h60 (by rfl) (bin_eqs _ _ _) ⟨Ext.refl _, congrArg Value.bool (by simp [heq])⟩
                intro vals W12 hE12 hv12
                have e0 : vals 0 = .pointer (some ⟨gp, 1, none⟩) := hv12 0 (by omega) 49 rfl
                have e1 : vals 1 = .slice ((some ad)) (n) (c) := hv12 1 (by omega) 50 rfl
                have e2 : vals 2 = .int .i64 ((k : Int)) := hv12 2 (by omega) 51 rfl
                have e3 : vals 3 = .pointer (some (ad.add (k))) := hv12 3 (by omega) 52 rfl
                have e4 : vals 4 = .slice (E) (32) (y) := hv12 4 (by omega) 53 rfl
                have e5 : vals 5 = .string (str ((lb Ws k))) := hv12 5 (by omega) 54 rfl
                have e6 : vals 6 = .pointer (some ⟨gp, 1, none⟩) := hv12 6 (by omega) 55 rfl
                have e7 : vals 7 = .slice ((some ad)) (n) (c) := hv12 7 (by omega) 56 rfl
                have e8 : vals 8 = .int .i64 ((j : Int)) := hv12 8 (by omega) 57 rfl
                have e9 : vals 9 = .pointer (some (ad.add (j))) := hv12 9 (by omega) 58 rfl
                have e10 : vals 10 = .slice (F) (z) (x) := hv12 10 (by omega) 59 rfl
                have e11 : vals 11 = .string (str ((lb Ws j))) := hv12 11 (by omega) 60 rfl
                have e12 : vals 12 = .bool (true) := hv12 12 (by omega) 61 rfl
                simp only [putAll, Act.put, List.take_succ_cons, List.take_zero, List.drop_succ_cons, List.drop_zero, List.drop_nil, List.take_nil, Nat.reduceAdd, List.setIfInBounds_toArray, List.set_cons_succ, List.set_cons_zero, e0, e1, e2, e3, e4, e5, e6, e7, e8, e9, e10, e11, e12]
                clear hv12 e0 e1 e2 e3 e4 e5 e6 e7 e8 e9 e10 e11 e12
                clear heq
                go_wp2_with fail
                go_ret
                exact ⟨by rw [Hnol.out Hno.out]; rfl, (hEa.trans hEs).trans hE12⟩
              · have Heq := Lib.hid heq
                clear heq
                go_upto_region 12 with (fail)
                have heq := Heq.out
                refine par_ext (n := 13) (by kernel_rfl) [.is (.pointer (some ⟨gp, 1, none⟩)), .is (.slice ((some ad)) (n) (c)), .is (.int .i64 ((k : Int))), .is (.pointer (some (ad.add (k)))), .is (.slice (E) (32) (y)), .is (.string (str ((lb Ws k)))), .is (.pointer (some ⟨gp, 1, none⟩)), .is (.slice ((some ad)) (n) (c)), .is (.int .i64 ((j : Int))), .is (.pointer (some (ad.add (j)))), .is (.slice (F) (z) (x)), .is (.string (str ((lb Ws j)))), .is (.bool (false))] rfl ⟨?_, ?_, ?_, ?_, ?_, ?_, ?_, ?_, ?_, ?_, ?_, ?_, ?_, trivial⟩ ?_
                · refine stepE rfl fun sdn sa sw sE sd sk => ?_
                  have h1 : sa.eval (.tmp 1) = .pointer (some ⟨gp, 0, none⟩) := sk.old 1 rfl
                  refine Runs.of_run (r := .pointer (some ⟨gp, 1, none⟩)) (w' := sw) ?_ ⟨Ext.refl _, rfl⟩
                  unfold execOp
                  simp only [h1]
                  go_simp
                · refine stepE rfl fun sdn sa sw sE sd sk => ?_
                  have h49 : sa.eval (.tmp 49) = .pointer (some ⟨gp, 1, none⟩) := sk.fact 0 49 rfl (sd 0 rfl)
                  exact Runs.load rfl h49 (run_load1 Try.underlying37 rfl ((hB.ext sE).cell (i := 1) rfl)) ⟨Ext.refl _, rfl⟩
                · refine stepE rfl fun sdn sa sw sE sd sk => ?_
                  have h4 : sa.eval (.tmp 4) = .int .i64 ((k : Int)) := sk.old 4 rfl
                  exact Runs.move rfl h4 ⟨Ext.refl _, rfl⟩
                · refine stepE rfl fun sdn sa sw sE sd sk => ?_
                  have h50 : sa.eval (.tmp 50) = .slice ((some ad)) (n) (c) := sk.fact 1 50 rfl (sd 1 rfl)
                  have h51 : sa.eval (.tmp 51) = .int .i64 ((k : Int)) := sk.fact 2 51 rfl (sd 2 rfl)
                  exact Runs.idx rfl h50 h51 (run_idx_sl1 Try.underlying37 infYB_eq infYB_size (k) (by omega) (by omega)) ⟨Ext.refl _, rfl⟩
                · refine stepE rfl fun sdn sa sw sE sd sk => ?_
                  have h52 : sa.eval (.tmp 52) = .pointer (some (ad.add (k))) := sk.fact 3 52 rfl (sd 3 rfl)
                  exact Runs.load rfl h52 (run_load1 Try.underlying22 rfl (sE.cell hck)) ⟨Ext.refl _, rfl⟩
                · refine stepE rfl fun sdn sa sw sE sd sk => ?_
                  have h53 : sa.eval (.tmp 53) = .slice (E) (32) (y) := sk.fact 4 53 rfl (sd 4 rfl)
                  exact Runs.conv rfl h53 (run_str (rE.ext sE)) ⟨Ext.refl _, rfl⟩
                · refine stepE rfl fun sdn sa sw sE sd sk => ?_
                  have h1 : sa.eval (.tmp 1) = .pointer (some ⟨gp, 0, none⟩) := sk.old 1 rfl
                  refine Runs.of_run (r := .pointer (some ⟨gp, 1, none⟩)) (w' := sw) ?_ ⟨Ext.refl _, rfl⟩
                  unfold execOp
                  simp only [h1]
                  go_simp
                · refine stepE rfl fun sdn sa sw sE sd sk => ?_
                  have h55 : sa.eval (.tmp 55) = .pointer (some ⟨gp, 1, none⟩) := sk.fact 6 55 rfl (sd 6 rfl)
                  exact Runs.load rfl h55 (run_load1 Try.underlying37 rfl ((hB.ext sE).cell (i := 1) rfl)) ⟨Ext.refl _, rfl⟩
                · refine stepE rfl fun sdn sa sw sE sd sk => ?_
                  have h5 : sa.eval (.tmp 5) = .int .i64 ((j : Int)) := sk.old 5 rfl
                  exact Runs.move rfl h5 ⟨Ext.refl _, rfl⟩
                · refine stepE rfl fun sdn sa sw sE sd sk => ?_
                  have h56 : sa.eval (.tmp 56) = .slice ((some ad)) (n) (c) := sk.fact 7 56 rfl (sd 7 rfl)
                  have h57 : sa.eval (.tmp 57) = .int .i64 ((j : Int)) := sk.fact 8 57 rfl (sd 8 rfl)
                  exact Runs.idx rfl h56 h57 (run_idx_sl1 Try.underlying37 infYB_eq infYB_size (j) (by omega) (by omega)) ⟨Ext.refl _, rfl⟩
                · refine stepE rfl fun sdn sa sw sE sd sk => ?_
                  have h58 : sa.eval (.tmp 58) = .pointer (some (ad.add (j))) := sk.fact 9 58 rfl (sd 9 rfl)
                  exact Runs.load rfl h58 (run_load1 Try.underlying22 rfl (sE.cell hcj)) ⟨Ext.refl _, rfl⟩
                · refine stepE rfl fun sdn sa sw sE sd sk => ?_
                  have h59 : sa.eval (.tmp 59) = .slice (F) (z) (x) := sk.fact 10 59 rfl (sd 10 rfl)
                  exact Runs.conv rfl h59 (run_str (rF.ext sE)) ⟨Ext.refl _, rfl⟩
                · refine stepE rfl fun sdn sa sw sE sd sk => ?_
                  have h54 : sa.eval (.tmp 54) = .string (str ((lb Ws k))) := sk.fact 5 54 rfl (sd 5 rfl)
                  have h60 : sa.eval (.tmp 60) = .string (str ((lb Ws j))) := sk.fact 11 60 rfl (sd 11 rfl)
                  exact Runs.bin rfl h54 h60 (by rfl) (bin_eqs _ _ _) ⟨Ext.refl _, congrArg Value.bool (by simp [heq])⟩
                intro vals W12 hE12 hv12
                have e0 : vals 0 = .pointer (some ⟨gp, 1, none⟩) := hv12 0 (by omega) 49 rfl
                have e1 : vals 1 = .slice ((some ad)) (n) (c) := hv12 1 (by omega) 50 rfl
                have e2 : vals 2 = .int .i64 ((k : Int)) := hv12 2 (by omega) 51 rfl
                have e3 : vals 3 = .pointer (some (ad.add (k))) := hv12 3 (by omega) 52 rfl
                have e4 : vals 4 = .slice (E) (32) (y) := hv12 4 (by omega) 53 rfl
                have e5 : vals 5 = .string (str ((lb Ws k))) := hv12 5 (by omega) 54 rfl
                have e6 : vals 6 = .pointer (some ⟨gp, 1, none⟩) := hv12 6 (by omega) 55 rfl
                have e7 : vals 7 = .slice ((some ad)) (n) (c) := hv12 7 (by omega) 56 rfl
                have e8 : vals 8 = .int .i64 ((j : Int)) := hv12 8 (by omega) 57 rfl
                have e9 : vals 9 = .pointer (some (ad.add (j))) := hv12 9 (by omega) 58 rfl
                have e10 : vals 10 = .slice (F) (z) (x) := hv12 10 (by omega) 59 rfl
                have e11 : vals 11 = .string (str ((lb Ws j))) := hv12 11 (by omega) 60 rfl
                have e12 : vals 12 = .bool (false) := hv12 12 (by omega) 61 rfl
                simp only [putAll, Act.put, List.take_succ_cons, List.take_zero, List.drop_succ_cons, List.drop_zero, List.drop_nil, List.take_nil, Nat.reduceAdd, List.setIfInBounds_toArray, List.set_cons_succ, List.set_cons_zero, e0, e1, e2, e3, e4, e5, e6, e7, e8, e9, e10, e11, e12]
                clear hv12 e0 e1 e2 e3 e4 e5 e6 e7 e8 e9 e10 e11 e12
                clear heq
                go_wp2_with fail
                go_roundw
                case rel =>
                  refine ⟨j + 1, by omega, by go_num, fun i hi => ?_, hEs.trans hE12⟩
                  by_cases hij : i = j
                  · subst hij; exact fun h => Heq.out h.symm
                  · exact Hall.out i (by omega)
                case measure => simp [intOf]; omega
            · obtain rfl : j = k := by omega
              have hok1 : okW Ws (j + 1) := by
                intro i hi
                by_cases hik : i = j
                · subst hik
                  exact ⟨hz.out, Hall.out⟩
                · exact Hok.out i (by omega)
              have Hok1 := Lib.hid hok1
              clear hok1
              go_wp2_with fail
              go_roundw
              case rel => exact ⟨j + 1, by rw [Hlw.out]; omega, by go_num, Hok1.out, hEr.trans hEs⟩
              case measure => simp [intOf]; omega
        · have hno : ¬ okW Ws Ws.length := by
            intro h
            have h1 := (h k (by rw [Hlw.out]; exact hlt)).1
            rw [hz.out] at h1
            exact h32 h1
          have Hno := Lib.hid hno
          have h33 : ¬ ((z : Int) = 32) := by omega
          clear hno
          go_wp2_with fail
          go_ret
          exact ⟨by rw [Hnol.out Hno.out]; rfl, hEa⟩
      · obtain rfl : k = n := by omega
        go_wp2_with fail
        go_ret
        exact ⟨by rw [Hpol.out (by rw [Hlw.out]; exact Hok.out)]; rfl, hEa⟩
  · have hno : polB LG Ws q = false := polB_no (fun h => hA ⟨by omega, by omega, by omega, h.2.2.2.1, by omega⟩)
    have Hno := Lib.hid hno
    clear hno hlg hlw
    by_cases a1 : ng = 32
    · subst a1
      by_cases a2 : (n : Int) < 1
      · clear hA
        go_wp2_with fail
        go_ret
        exact ⟨by rw [Hno.out]; rfl, hEa⟩
      · by_cases a3 : (4 : Int) < (n : Int)
        · clear hA
          go_wp2_with fail
          go_ret
          exact ⟨by rw [Hno.out]; rfl, hEa⟩
        · by_cases a4 : q < 1
          · clear hA
            go_wp2_with fail
            go_ret
            exact ⟨by rw [Hno.out]; rfl, hEa⟩
          · have a5 : (n : Int) < q := by
              by_cases h : (n : Int) < q
              · exact h
              · exact absurd ⟨rfl, by omega, by omega, by omega, by omega⟩ hA
            clear hA
            go_wp2_with fail
            go_ret
            exact ⟨by rw [Hno.out]; rfl, hEa⟩
    · have a1' : ¬ ((ng : Int) = 32) := by omega
      clear hA
      go_wp2_with fail
      go_ret
      exact ⟨by rw [Hno.out]; rfl, hEa⟩
end Go.Proofs.Ythggfbpdhkpkjaa
