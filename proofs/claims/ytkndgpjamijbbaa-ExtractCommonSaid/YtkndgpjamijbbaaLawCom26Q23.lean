/-
  ref10's Policy and Cosigned, walked.
-/
import Derived.Test.YtkndgpjamijbbaaLawCom26Q22
namespace Go.Proofs.Ytkndgpjamijbbaa
set_option maxRecDepth 100000
open Go Go.RowKit
def RPI (w1 : World) (Ws : List (List UInt8)) (i : Value) (wr : World) : Prop := ∃ k : Nat, k ≤ Ws.length ∧ i = .int .i64 k ∧ okW Ws k ∧ Ext w1 wr
def RPJ (w1 : World) (Ws : List (List UInt8)) (k : Nat) (i : Value) (wr : World) : Prop := ∃ j : Nat, j ≤ k ∧ i = .int .i64 j ∧ (∀ i, i < j → lb Ws i ≠ lb Ws k) ∧ Ext w1 wr
set_option maxHeartbeats 8000000 in
theorem rpolicy_any (G A : Option Addr) (ng cg n c : Nat) (q : Int) (LG : List UInt8) (Ws : List (List UInt8)) (w : World) (rG : RB w G ng cg LG) (rW : RBB w A n c Ws) :
    Calls Try.prog 93 #[.agg #[.slice G ng cg, .slice A n c, .int .i64 q]] w fun e w' => e = .returned (.bool (polB LG Ws q)) ∧ Ext w w' := by
  have hEa := Ext.new w (.cells #[.slice G ng cg, .slice A n c, .int .i64 q] 52)
  have hB := Blk.new w 52 #[.slice G ng cg, .slice A n c, .int .i64 q]
  have hlg := rG.len
  have hlw := rW.len
  have hcap := rW.cap
  have hroom := rW.room
  unfold maxLen at hcap
  go_enter Try.func93, Try.ntmps93
  by_cases hA : ng = 32 ∧ 1 ≤ n ∧ n ≤ 4 ∧ 1 ≤ q ∧ q ≤ (n : Int)
  · obtain ⟨a1, a2, a3, a4, a5⟩ := hA
    subst a1
    have hpol : okW Ws Ws.length → polB LG Ws q = true := polB_yes ⟨by omega, by omega, by omega, a4, by omega⟩
    have hnol : ¬ okW Ws Ws.length → polB LG Ws q = false := polB_noW
    have Hpol := Lib.hid hpol
    have Hnol := Lib.hid hnol
    have Hlw := Lib.hid hlw
    have b1 : ¬ ((n : Int) < 1) := by omega
    have b2 : ¬ ((4 : Int) < (n : Int)) := by omega
    have b3 : ¬ (q < 1) := by omega
    have b4 : ¬ ((n : Int) < q) := by omega
    clear hpol hnol hlw hlg
    go_wp2_with fail
    generalize w.alloc (.cells #[.slice G 32 cg, .slice A n c, .int .i64 q] 52) = w1 at *
    obtain ⟨gp, hgp⟩ : ∃ gp, gp = w.heap.size := ⟨_, rfl⟩
    rw [← hgp] at hB ⊢
    clear hgp b1 b2 b3 b4
    replace rW := rW.ext hEa
    replace rG := rG.ext hEa
    go_loopw [4] (fun i wr => RPI w1 Ws i wr) (fun i _ => n - (intOf i).toNat)
    case atStart => exact ⟨0, by omega, rfl, fun i hi => absurd hi (Nat.not_lt_zero _), Ext.refl _⟩
    case round =>
      obtain ⟨k, hk, rfl, hok, hEr⟩ := hrel
      rw [Hlw.out] at hk
      have Hok := Lib.hid hok
      replace hB := hB.ext hEr
      replace rW := rW.ext hEr
      replace rG := rG.ext hEr
      replace hEa := hEa.trans hEr
      clear hok
      by_cases hlt : k < n
      · have hki : (k : Int) < (n : Int) := by omega
        obtain ⟨ad, rfl, hc⟩ := rW.cells (by omega)
        obtain ⟨E, z, y, hck, rE⟩ := hc k hlt
        have hz := Lib.hid rE.len
        have y1 := hB.cell (i := 1) (v := .slice (some ad) n c) rfl
        have Hc := Lib.hid hc
        clear hc
        by_cases h32 : z = 32
        · subst h32
          go_wp2_with fail
          clear y1
          obtain ⟨wo, rfl⟩ : ∃ wo, wo = wr := ⟨_, rfl⟩
          go_loopw [5] (fun i wr => RPJ wo Ws k i wr) (fun i _ => k - (intOf i).toNat)
          case atStart => exact ⟨0, by omega, rfl, fun i hi => absurd hi (Nat.not_lt_zero _), Ext.refl _⟩
          case round =>
            obtain ⟨j, hj, rfl, hall, hEs⟩ := hrel
            have Hall := Lib.hid hall
            clear hall
            by_cases hjk : j < k
            · have hjki : (j : Int) < (k : Int) := by omega
              obtain ⟨F, z, x, hcj, rF⟩ := Hc.out j (by omega)
              replace hB := hB.ext hEs
              replace rG := rG.ext hEs
              replace rE := rE.ext hEs
              replace rF := rF.ext hEs
              replace hck := hEs.cell hck
              replace hcj := hEs.cell hcj
              by_cases heq : lb Ws k = lb Ws j
              · have hno : ¬ okW Ws Ws.length := fun h => (h k (by rw [Hlw.out]; exact hlt)).2 j hjk heq.symm
                have Hno := Lib.hid hno
                have Heq := Lib.hid heq
                clear hno heq
                go_upto_region 12 with (fail)
                have heq := Heq.out
                refine par_ext (n := 13) (by kernel_rfl) [.is (.pointer (some ⟨gp, 1, none⟩)), .is (.slice ((some ad)) (n) (c)), .is (.int .i64 ((k : Int))), .is (.pointer (some (ad.add (k)))), .is (.slice (E) (32) (y)), .is (.string (str ((lb Ws k)))), .is (.pointer (some ⟨gp, 1, none⟩)), .is (.slice ((some ad)) (n) (c)), .is (.int .i64 ((j : Int))), .is (.pointer (some (ad.add (j)))), .is (.slice (F) (z) (x)), .is (.string (str ((lb Ws j)))), .is (.bool (true))] rfl ⟨?_, ?_, ?_, ?_, ?_, ?_, ?_, ?_, ?_, ?_, ?_, ?_, ?_, trivial⟩ ?_
                · refine stepE rfl fun sdn sa sw sE sd sk => ?_
                  have h1 : sa.eval (.tmp 1) = .pointer (some ⟨gp, 0, none⟩) := sk.old 1 rfl
                  refine Runs.of_run (r := .pointer (some ⟨gp, 1, none⟩)) (w' := sw) ?_ ⟨Ext.refl _, rfl⟩
                  unfold execOp
                  simp only [h1]
                  go_simp
                · refine stepE rfl fun sdn sa sw sE sd sk => ?_
                  have h49 : sa.eval (.tmp 49) = .pointer (some ⟨gp, 1, none⟩) := sk.fact 0 49 rfl (sd 0 rfl)
                  exact Runs.load rfl h49 (run_load1 Try.underlying23 rfl ((hB.ext sE).cell (i := 1) rfl)) ⟨Ext.refl _, rfl⟩
                · refine stepE rfl fun sdn sa sw sE sd sk => ?_
                  have h4 : sa.eval (.tmp 4) = .int .i64 ((k : Int)) := sk.old 4 rfl
                  exact Runs.move rfl h4 ⟨Ext.refl _, rfl⟩
                · refine stepE rfl fun sdn sa sw sE sd sk => ?_
                  have h50 : sa.eval (.tmp 50) = .slice ((some ad)) (n) (c) := sk.fact 1 50 rfl (sd 1 rfl)
                  have h51 : sa.eval (.tmp 51) = .int .i64 ((k : Int)) := sk.fact 2 51 rfl (sd 2 rfl)
                  exact Runs.idx rfl h50 h51 (run_idx_sl1 Try.underlying23 infYB_eq infYB_size (k) (by omega) (by omega)) ⟨Ext.refl _, rfl⟩
                · refine stepE rfl fun sdn sa sw sE sd sk => ?_
                  have h52 : sa.eval (.tmp 52) = .pointer (some (ad.add (k))) := sk.fact 3 52 rfl (sd 3 rfl)
                  exact Runs.load rfl h52 (run_load1 Try.underlying22 rfl (sE.cell hck)) ⟨Ext.refl _, rfl⟩
                · refine stepE rfl fun sdn sa sw sE sd sk => ?_
                  have h53 : sa.eval (.tmp 53) = .slice (E) (32) (y) := sk.fact 4 53 rfl (sd 4 rfl)
                  exact Runs.conv rfl h53 (run_str (rE.ext sE)) ⟨Ext.refl _, rfl⟩
                · refine stepE rfl fun sdn sa sw sE sd sk => ?_
                  have h1 : sa.eval (.tmp 1) = .pointer (some ⟨gp, 0, none⟩) := sk.old 1 rfl
                  refine Runs.of_run (r := .pointer (some ⟨gp, 1, none⟩)) (w' := sw) ?_ ⟨Ext.refl _, rfl⟩
                  unfold execOp
                  simp only [h1]
                  go_simp
                · refine stepE rfl fun sdn sa sw sE sd sk => ?_
                  have h55 : sa.eval (.tmp 55) = .pointer (some ⟨gp, 1, none⟩) := sk.fact 6 55 rfl (sd 6 rfl)
                  exact Runs.load rfl h55 (run_load1 Try.underlying23 rfl ((hB.ext sE).cell (i := 1) rfl)) ⟨Ext.refl _, rfl⟩
                · refine stepE rfl fun sdn sa sw sE sd sk => ?_
                  have h5 : sa.eval (.tmp 5) = .int .i64 ((j : Int)) := sk.old 5 rfl
                  exact Runs.move rfl h5 ⟨Ext.refl _, rfl⟩
                · refine stepE rfl fun sdn sa sw sE sd sk => ?_
                  have h56 : sa.eval (.tmp 56) = .slice ((some ad)) (n) (c) := sk.fact 7 56 rfl (sd 7 rfl)
                  have h57 : sa.eval (.tmp 57) = .int .i64 ((j : Int)) := sk.fact 8 57 rfl (sd 8 rfl)
                  exact Runs.idx rfl h56 h57 (run_idx_sl1 Try.underlying23 infYB_eq infYB_size (j) (by omega) (by omega)) ⟨Ext.refl _, rfl⟩
                · refine stepE rfl fun sdn sa sw sE sd sk => ?_
                  have h58 : sa.eval (.tmp 58) = .pointer (some (ad.add (j))) := sk.fact 9 58 rfl (sd 9 rfl)
                  exact Runs.load rfl h58 (run_load1 Try.underlying22 rfl (sE.cell hcj)) ⟨Ext.refl _, rfl⟩
                · refine stepE rfl fun sdn sa sw sE sd sk => ?_
                  have h59 : sa.eval (.tmp 59) = .slice (F) (z) (x) := sk.fact 10 59 rfl (sd 10 rfl)
                  exact Runs.conv rfl h59 (run_str (rF.ext sE)) ⟨Ext.refl _, rfl⟩
                · refine stepE rfl fun sdn sa sw sE sd sk => ?_
                  have h54 : sa.eval (.tmp 54) = .string (str ((lb Ws k))) := sk.fact 5 54 rfl (sd 5 rfl)
                  have h60 : sa.eval (.tmp 60) = .string (str ((lb Ws j))) := sk.fact 11 60 rfl (sd 11 rfl)
                  exact Runs.bin rfl h54 h60 (by rfl) (bin_eqs _ _ _) ⟨Ext.refl _, congrArg Value.bool (by simp [heq])⟩
                intro vals W12 hE12 hv12
                have e0 : vals 0 = .pointer (some ⟨gp, 1, none⟩) := hv12 0 (by omega) 49 rfl
                have e1 : vals 1 = .slice ((some ad)) (n) (c) := hv12 1 (by omega) 50 rfl
                have e2 : vals 2 = .int .i64 ((k : Int)) := hv12 2 (by omega) 51 rfl
                have e3 : vals 3 = .pointer (some (ad.add (k))) := hv12 3 (by omega) 52 rfl
                have e4 : vals 4 = .slice (E) (32) (y) := hv12 4 (by omega) 53 rfl
                have e5 : vals 5 = .string (str ((lb Ws k))) := hv12 5 (by omega) 54 rfl
                have e6 : vals 6 = .pointer (some ⟨gp, 1, none⟩) := hv12 6 (by omega) 55 rfl
                have e7 : vals 7 = .slice ((some ad)) (n) (c) := hv12 7 (by omega) 56 rfl
                have e8 : vals 8 = .int .i64 ((j : Int)) := hv12 8 (by omega) 57 rfl
                have e9 : vals 9 = .pointer (some (ad.add (j))) := hv12 9 (by omega) 58 rfl
                have e10 : vals 10 = .slice (F) (z) (x) := hv12 10 (by omega) 59 rfl
                have e11 : vals 11 = .string (str ((lb Ws j))) := hv12 11 (by omega) 60 rfl
                have e12 : vals 12 = .bool (true) := hv12 12 (by omega) 61 rfl
                simp only [putAll, Act.put, List.take_succ_cons, List.take_zero, List.drop_succ_cons, List.drop_zero, List.drop_nil, List.take_nil, Nat.reduceAdd, List.setIfInBounds_toArray, List.set_cons_succ, List.set_cons_zero, e0, e1, e2, e3, e4, e5, e6, e7, e8, e9, e10, e11, e12]
                clear hv12 e0 e1 e2 e3 e4 e5 e6 e7 e8 e9 e10 e11 e12
                clear heq
                go_wp2_with fail
                go_ret
                exact ⟨by rw [Hnol.out Hno.out]; rfl, (hEa.trans hEs).trans hE12⟩
              · have Heq := Lib.hid heq
                clear heq
                go_upto_region 12 with (fail)
                have heq := Heq.out
                refine par_ext (n := 13) (by kernel_rfl) [.is (.pointer (some ⟨gp, 1, none⟩)), .is (.slice ((some ad)) (n) (c)), .is (.int .i64 ((k : Int))), .is (.pointer (some (ad.add (k)))), .is (.slice (E) (32) (y)), .is (.string (str ((lb Ws k)))), .is (.pointer (some ⟨gp, 1, none⟩)), .is (.slice ((some ad)) (n) (c)), .is (.int .i64 ((j : Int))), .is (.pointer (some (ad.add (j)))), .is (.slice (F) (z) (x)), .is (.string (str ((lb Ws j)))), .is (.bool (false))] rfl ⟨?_, ?_, ?_, ?_, ?_, ?_, ?_, ?_, ?_, ?_, ?_, ?_, ?_, trivial⟩ ?_
                · refine stepE rfl fun sdn sa sw sE sd sk => ?_
                  have h1 : sa.eval (.tmp 1) = .pointer (some ⟨gp, 0, none⟩) := sk.old 1 rfl
                  refine Runs.of_run (r := .pointer (some ⟨gp, 1, none⟩)) (w' := sw) ?_ ⟨Ext.refl _, rfl⟩
                  unfold execOp
                  simp only [h1]
                  go_simp
                · refine stepE rfl fun sdn sa sw sE sd sk => ?_
                  have h49 : sa.eval (.tmp 49) = .pointer (some ⟨gp, 1, none⟩) := sk.fact 0 49 rfl (sd 0 rfl)
                  exact Runs.load rfl h49 (run_load1 Try.underlying23 rfl ((hB.ext sE).cell (i := 1) rfl)) ⟨Ext.refl _, rfl⟩
                · refine stepE rfl fun sdn sa sw sE sd sk => ?_
                  have h4 : sa.eval (.tmp 4) = .int .i64 ((k : Int)) := sk.old 4 rfl
                  exact Runs.move rfl h4 ⟨Ext.refl _, rfl⟩
                · refine stepE rfl fun sdn sa sw sE sd sk => ?_
                  have h50 : sa.eval (.tmp 50) = .slice ((some ad)) (n) (c) := sk.fact 1 50 rfl (sd 1 rfl)
                  have h51 : sa.eval (.tmp 51) = .int .i64 ((k : Int)) := sk.fact 2 51 rfl (sd 2 rfl)
                  exact Runs.idx rfl h50 h51 (run_idx_sl1 Try.underlying23 infYB_eq infYB_size (k) (by omega) (by omega)) ⟨Ext.refl _, rfl⟩
                · refine stepE rfl fun sdn sa sw sE sd sk => ?_
                  have h52 : sa.eval (.tmp 52) = .pointer (some (ad.add (k))) := sk.fact 3 52 rfl (sd 3 rfl)
                  exact Runs.load rfl h52 (run_load1 Try.underlying22 rfl (sE.cell hck)) ⟨Ext.refl _, rfl⟩
                · refine stepE rfl fun sdn sa sw sE sd sk => ?_
                  have h53 : sa.eval (.tmp 53) = .slice (E) (32) (y) := sk.fact 4 53 rfl (sd 4 rfl)
                  exact Runs.conv rfl h53 (run_str (rE.ext sE)) ⟨Ext.refl _, rfl⟩
                · refine stepE rfl fun sdn sa sw sE sd sk => ?_
                  have h1 : sa.eval (.tmp 1) = .pointer (some ⟨gp, 0, none⟩) := sk.old 1 rfl
                  refine Runs.of_run (r := .pointer (some ⟨gp, 1, none⟩)) (w' := sw) ?_ ⟨Ext.refl _, rfl⟩
                  unfold execOp
                  simp only [h1]
                  go_simp
                · refine stepE rfl fun sdn sa sw sE sd sk => ?_
                  have h55 : sa.eval (.tmp 55) = .pointer (some ⟨gp, 1, none⟩) := sk.fact 6 55 rfl (sd 6 rfl)
                  exact Runs.load rfl h55 (run_load1 Try.underlying23 rfl ((hB.ext sE).cell (i := 1) rfl)) ⟨Ext.refl _, rfl⟩
                · refine stepE rfl fun sdn sa sw sE sd sk => ?_
                  have h5 : sa.eval (.tmp 5) = .int .i64 ((j : Int)) := sk.old 5 rfl
                  exact Runs.move rfl h5 ⟨Ext.refl _, rfl⟩
                · refine stepE rfl fun sdn sa sw sE sd sk => ?_
                  have h56 : sa.eval (.tmp 56) = .slice ((some ad)) (n) (c) := sk.fact 7 56 rfl (sd 7 rfl)
                  have h57 : sa.eval (.tmp 57) = .int .i64 ((j : Int)) := sk.fact 8 57 rfl (sd 8 rfl)
                  exact Runs.idx rfl h56 h57 (run_idx_sl1 Try.underlying23 infYB_eq infYB_size (j) (by omega) (by omega)) ⟨Ext.refl _, rfl⟩
                · refine stepE rfl fun sdn sa sw sE sd sk => ?_
                  have h58 : sa.eval (.tmp 58) = .pointer (some (ad.add (j))) := sk.fact 9 58 rfl (sd 9 rfl)
                  exact Runs.load rfl h58 (run_load1 Try.underlying22 rfl (sE.cell hcj)) ⟨Ext.refl _, rfl⟩
                · refine stepE rfl fun sdn sa sw sE sd sk => ?_
                  have h59 : sa.eval (.tmp 59) = .slice (F) (z) (x) := sk.fact 10 59 rfl (sd 10 rfl)
                  exact Runs.conv rfl h59 (run_str (rF.ext sE)) ⟨Ext.refl _, rfl⟩
                · refine stepE rfl fun sdn sa sw sE sd sk => ?_
                  have h54 : sa.eval (.tmp 54) = .string (str ((lb Ws k))) := sk.fact 5 54 rfl (sd 5 rfl)
                  have h60 : sa.eval (.tmp 60) = .string (str ((lb Ws j))) := sk.fact 11 60 rfl (sd 11 rfl)
                  exact Runs.bin rfl h54 h60 (by rfl) (bin_eqs _ _ _) ⟨Ext.refl _, congrArg Value.bool (by simp [heq])⟩
                intro vals W12 hE12 hv12
                have e0 : vals 0 = .pointer (some ⟨gp, 1, none⟩) := hv12 0 (by omega) 49 rfl
                have e1 : vals 1 = .slice ((some ad)) (n) (c) := hv12 1 (by omega) 50 rfl
                have e2 : vals 2 = .int .i64 ((k : Int)) := hv12 2 (by omega) 51 rfl
                have e3 : vals 3 = .pointer (some (ad.add (k))) := hv12 3 (by omega) 52 rfl
                have e4 : vals 4 = .slice (E) (32) (y) := hv12 4 (by omega) 53 rfl
                have e5 : vals 5 = .string (str ((lb Ws k))) := hv12 5 (by omega) 54 rfl
                have e6 : vals 6 = .pointer (some ⟨gp, 1, none⟩) := hv12 6 (by omega) 55 rfl
                have e7 : vals 7 = .slice ((some ad)) (n) (c) := hv12 7 (by omega) 56 rfl
                have e8 : vals 8 = .int .i64 ((j : Int)) := hv12 8 (by omega) 57 rfl
                have e9 : vals 9 = .pointer (some (ad.add (j))) := hv12 9 (by omega) 58 rfl
                have e10 : vals 10 = .slice (F) (z) (x) := hv12 10 (by omega) 59 rfl
                have e11 : vals 11 = .string (str ((lb Ws j))) := hv12 11 (by omega) 60 rfl
                have e12 : vals 12 = .bool (false) := hv12 12 (by omega) 61 rfl
                simp only [putAll, Act.put, List.take_succ_cons, List.take_zero, List.drop_succ_cons, List.drop_zero, List.drop_nil, List.take_nil, Nat.reduceAdd, List.setIfInBounds_toArray, List.set_cons_succ, List.set_cons_zero, e0, e1, e2, e3, e4, e5, e6, e7, e8, e9, e10, e11, e12]
                clear hv12 e0 e1 e2 e3 e4 e5 e6 e7 e8 e9 e10 e11 e12
                clear heq
                go_wp2_with fail
                go_roundw
                case rel =>
                  refine ⟨j + 1, by omega, by go_num, fun i hi => ?_, hEs.trans hE12⟩
                  by_cases hij : i = j
                  · subst hij; exact fun h => Heq.out h.symm
                  · exact Hall.out i (by omega)
                case measure => simp [intOf]; omega
            · obtain rfl : j = k := by omega
              have hok1 : okW Ws (j + 1) := by
                intro i hi
                by_cases hik : i = j
                · subst hik
                  exact ⟨hz.out, Hall.out⟩
                · exact Hok.out i (by omega)
              have Hok1 := Lib.hid hok1
              clear hok1
              go_wp2_with fail
              go_roundw
              case rel => exact ⟨j + 1, by rw [Hlw.out]; omega, by go_num, Hok1.out, hEr.trans hEs⟩
              case measure => simp [intOf]; omega
        · have hno : ¬ okW Ws Ws.length := by
            intro h
            have h1 := (h k (by rw [Hlw.out]; exact hlt)).1
            rw [hz.out] at h1
            exact h32 h1
          have Hno := Lib.hid hno
          have h33 : ¬ ((z : Int) = 32) := by omega
          clear hno
          go_wp2_with fail
          go_ret
          exact ⟨by rw [Hnol.out Hno.out]; rfl, hEa⟩
      · obtain rfl : k = n := by omega
        go_wp2_with fail
        go_ret
        exact ⟨by rw [Hpol.out (by rw [Hlw.out]; exact Hok.out)]; rfl, hEa⟩
  · have hno : polB LG Ws q = false := polB_no (fun h => hA ⟨by omega, by omega, by omega, h.2.2.2.1, by omega⟩)
    have Hno := Lib.hid hno
    clear hno hlg hlw
    by_cases a1 : ng = 32
    · subst a1
      by_cases a2 : (n : Int) < 1
      · clear hA
        go_wp2_with fail
        go_ret
        exact ⟨by rw [Hno.out]; rfl, hEa⟩
      · by_cases a3 : (4 : Int) < (n : Int)
        · clear hA
          go_wp2_with fail
          go_ret
          exact ⟨by rw [Hno.out]; rfl, hEa⟩
        · by_cases a4 : q < 1
          · clear hA
            go_wp2_with fail
            go_ret
            exact ⟨by rw [Hno.out]; rfl, hEa⟩
          · have a5 : (n : Int) < q := by
              by_cases h : (n : Int) < q
              · exact h
              · exact absurd ⟨rfl, by omega, by omega, by omega, by omega⟩ hA
            clear hA
            go_wp2_with fail
            go_ret
            exact ⟨by rw [Hno.out]; rfl, hEa⟩
    · have a1' : ¬ ((ng : Int) = 32) := by omega
      clear hA
      go_wp2_with fail
      go_ret
      exact ⟨by rw [Hno.out]; rfl, hEa⟩
set_option maxHeartbeats 8000000 in
theorem rcosigned_any (G A B P Q : Option Addr) (ng cg n c nb d np cp nq cq : Nat) (q x wn k : Int) (LG R : List UInt8) (Ws PS QS : List (List UInt8)) (w : World) (rG : RB w G ng cg LG) (rW : RBB w A n c Ws) (rR : RB w B nb d R) (rP : RBB w P np cp PS) (rQ : RBB w Q nq cq QS) :
    Calls Try.prog 68 #[.agg #[.slice G ng cg, .slice A n c, .int .i64 q], .agg #[.int .i64 x, .slice B nb d], .agg #[.int .i64 wn, .int .i64 k, .slice P np cp, .slice Q nq cq]] w fun e w' => e = .returned (.bool (cosB LG Ws q x R wn k PS QS)) ∧ Ext w w' := by
  have hEa := Ext.new w (.cells #[.slice G ng cg, .slice A n c, .int .i64 q] 52)
  have hB3 := Blk.new w 52 #[.slice G ng cg, .slice A n c, .int .i64 q]
  have hEn := Ext.new (w.alloc (.cells #[.slice G ng cg, .slice A n c, .int .i64 q] 52)) (.cells #[.int .i64 x, .slice B nb d] 54)
  have hB4 := Blk.new (w.alloc (.cells #[.slice G ng cg, .slice A n c, .int .i64 q] 52)) 54 #[.int .i64 x, .slice B nb d]
  rw [World.size_alloc] at hB4
  have hEm := Ext.new ((w.alloc (.cells #[.slice G ng cg, .slice A n c, .int .i64 q] 52)).alloc (.cells #[.int .i64 x, .slice B nb d] 54)) (.cells #[.int .i64 wn, .int .i64 k, .slice P np cp, .slice Q nq cq] 104)
  have hB5 := Blk.new ((w.alloc (.cells #[.slice G ng cg, .slice A n c, .int .i64 q] 52)).alloc (.cells #[.int .i64 x, .slice B nb d] 54)) 104 #[.int .i64 wn, .int .i64 k, .slice P np cp, .slice Q nq cq]
  rw [World.size_alloc, World.size_alloc] at hB5
  replace hB3 := (hB3.ext hEn).ext hEm
  replace hB4 := hB4.ext hEm
  replace hEa := (hEa.trans hEn).trans hEm
  replace rG := rG.ext hEa
  replace rW := rW.ext hEa
  replace rR := rR.ext hEa
  replace rP := rP.ext hEa
  replace rQ := rQ.ext hEa
  have hlw := rW.len
  have hcb : cosB LG Ws q x R wn k PS QS = (polB LG Ws q && (rightC x R && (decide (0 ≤ wn ∧ wn < (Ws.length : Int)) && verB (lb Ws wn.toNat) (bodyC cosignL x R) k PS QS))) := rfl
  rw [hlw] at hcb
  have Hcb := Lib.hid hcb
  have hcap := rW.cap
  have hroom := rW.room
  unfold maxLen at hcap
  clear hEn hEm hcb hlw
  go_enter Try.func68, Try.ntmps68
  go_upto_region 1 with (fail)
  generalize ((w.alloc (.cells #[.slice G ng cg, .slice A n c, .int .i64 q] 52)).alloc (.cells #[.int .i64 x, .slice B nb d] 54)).alloc (.cells #[.int .i64 wn, .int .i64 k, .slice P np cp, .slice Q nq cq] 104) = w1 at *
  generalize w.heap.size = g3 at *
  cases hpol : polB LG Ws q with
  | false =>
    have hv : cosB LG Ws q x R wn k PS QS = false := by rw [Hcb.out, hpol]; rfl
    have Hv := Lib.hid hv
    clear hv
    refine par_ext (n := 32) (by kernel_rfl) [.is (.agg #[.slice (G) (ng) (cg), .slice (A) (n) (c), .int .i64 (q)]), .is (.bool (false)), .is (.bool (false)), .is undef, .is undef, .is (.bool (false)), .is (.bool (false)), .is undef, .is undef, .is undef, .is (.bool (false)), .is (.bool (false)), .is undef, .is undef, .is undef, .is undef, .is undef, .is undef, .is (.bool (false)), .is (.bool (false)), .is undef, .is undef, .is undef, .is undef, .is undef, .is undef, .is undef, .is undef, .is undef, .is undef, .is undef, .is (.bool (false))] rfl ⟨?_, ?_, ?_, ?_, ?_, ?_, ?_, ?_, ?_, ?_, ?_, ?_, ?_, ?_, ?_, ?_, ?_, ?_, ?_, ?_, ?_, ?_, ?_, ?_, ?_, ?_, ?_, ?_, ?_, ?_, ?_, ?_, trivial⟩ ?_
    · refine stepE rfl fun sdn sa sw sE sd sk => ?_
      have h3 : sa.eval (.tmp 3) = .pointer (some ⟨g3, 0, none⟩) := sk.old 3 rfl
      exact Runs.load rfl h3 (load_part (hB3.ext sE) 0 (vs := [.slice (G) (ng) (cg), .slice (A) (n) (c), .int .i64 (q)]) rfl Try.underlying52 rfl (by kernel_rfl)) ⟨Ext.refl _, rfl⟩
    · refine stepE rfl fun sdn sa sw sE sd sk => ?_
      have h7 : sa.eval (.tmp 7) = .agg #[.slice (G) (ng) (cg), .slice (A) (n) (c), .int .i64 (q)] := sk.fact 0 7 rfl (sd 0 rfl)
      refine Runs.call (f := 93) (vs := [.agg #[.slice (G) (ng) (cg), .slice (A) (n) (c), .int .i64 (q)]]) rfl rfl rfl (by simp only [List.map_toArray, List.map_cons, List.map_nil, h7] <;> rfl) (ent93 _ _) ((rpolicy_any _ _ _ _ _ _ _ _ _ sw (rG.ext sE) (rW.ext sE)).mono ?_); rintro e w' ⟨rfl, hx⟩; exact ⟨_, rfl, hx, congrArg Value.bool (hpol)⟩
    · refine stepE rfl fun sdn sa sw sE sd sk => ?_
      have h8 : sa.eval (.tmp 8) = .bool (false) := sk.fact 1 8 rfl (sd 1 rfl)
      exact Runs.move rfl h8 ⟨Ext.refl _, rfl⟩
    · exact stepN (j := 2) (d := 9) (b := false) rfl rfl rfl (fun v w h => h) fun w => rfl
    · exact stepN (j := 2) (d := 9) (b := false) rfl rfl rfl (fun v w h => h) fun w => rfl
    · refine stepE rfl fun sdn sa sw sE sd sk => ?_
      have h9 : sa.eval (.tmp 9) = .bool (false) := sk.fact 2 9 rfl (sd 2 rfl)
      exact Runs.pick rfl h9 ⟨Ext.refl _, rfl⟩
    · refine stepE rfl fun sdn sa sw sE sd sk => ?_
      have h12 : sa.eval (.tmp 12) = .bool (false) := sk.fact 5 12 rfl (sd 5 rfl)
      exact Runs.move rfl h12 ⟨Ext.refl _, rfl⟩
    · exact stepN (j := 6) (d := 13) (b := false) rfl rfl rfl (fun v w h => h) fun w => rfl
    · exact stepN (j := 6) (d := 13) (b := false) rfl rfl rfl (fun v w h => h) fun w => rfl
    · exact stepN (j := 6) (d := 13) (b := false) rfl rfl rfl (fun v w h => h) fun w => rfl
    · refine stepE rfl fun sdn sa sw sE sd sk => ?_
      have h13 : sa.eval (.tmp 13) = .bool (false) := sk.fact 6 13 rfl (sd 6 rfl)
      exact Runs.pick rfl h13 ⟨Ext.refl _, rfl⟩
    · refine stepE rfl fun sdn sa sw sE sd sk => ?_
      have h17 : sa.eval (.tmp 17) = .bool (false) := sk.fact 10 17 rfl (sd 10 rfl)
      exact Runs.move rfl h17 ⟨Ext.refl _, rfl⟩
    · exact stepN (j := 11) (d := 18) (b := false) rfl rfl rfl (fun v w h => h) fun w => rfl
    · exact stepN (j := 11) (d := 18) (b := false) rfl rfl rfl (fun v w h => h) fun w => rfl
    · exact stepN (j := 11) (d := 18) (b := false) rfl rfl rfl (fun v w h => h) fun w => rfl
    · exact stepN (j := 11) (d := 18) (b := false) rfl rfl rfl (fun v w h => h) fun w => rfl
    · exact stepN (j := 11) (d := 18) (b := false) rfl rfl rfl (fun v w h => h) fun w => rfl
    · exact stepN (j := 11) (d := 18) (b := false) rfl rfl rfl (fun v w h => h) fun w => rfl
    · refine stepE rfl fun sdn sa sw sE sd sk => ?_
      have h18 : sa.eval (.tmp 18) = .bool (false) := sk.fact 11 18 rfl (sd 11 rfl)
      exact Runs.pick rfl h18 ⟨Ext.refl _, rfl⟩
    · refine stepE rfl fun sdn sa sw sE sd sk => ?_
      have h25 : sa.eval (.tmp 25) = .bool (false) := sk.fact 18 25 rfl (sd 18 rfl)
      exact Runs.move rfl h25 ⟨Ext.refl _, rfl⟩
    · exact stepN (j := 19) (d := 26) (b := false) rfl rfl rfl (fun v w h => h) fun w => rfl
    · exact stepN (j := 19) (d := 26) (b := false) rfl rfl rfl (fun v w h => h) fun w => rfl
    · exact stepN (j := 19) (d := 26) (b := false) rfl rfl rfl (fun v w h => h) fun w => rfl
    · exact stepN (j := 19) (d := 26) (b := false) rfl rfl rfl (fun v w h => h) fun w => rfl
    · exact stepN (j := 19) (d := 26) (b := false) rfl rfl rfl (fun v w h => h) fun w => rfl
    · exact stepN (j := 19) (d := 26) (b := false) rfl rfl rfl (fun v w h => h) fun w => rfl
    · exact stepN (j := 19) (d := 26) (b := false) rfl rfl rfl (fun v w h => h) fun w => rfl
    · exact stepN (j := 19) (d := 26) (b := false) rfl rfl rfl (fun v w h => h) fun w => rfl
    · exact stepN (j := 19) (d := 26) (b := false) rfl rfl rfl (fun v w h => h) fun w => rfl
    · exact stepN (j := 19) (d := 26) (b := false) rfl rfl rfl (fun v w h => h) fun w => rfl
    · exact stepN (j := 19) (d := 26) (b := false) rfl rfl rfl (fun v w h => h) fun w => rfl
    · refine stepE rfl fun sdn sa sw sE sd sk => ?_
      have h26 : sa.eval (.tmp 26) = .bool (false) := sk.fact 19 26 rfl (sd 19 rfl)
      exact Runs.pick rfl h26 ⟨Ext.refl _, rfl⟩
    intro vals W1 hE1 hv1
    have e0 : vals 0 = .agg #[.slice (G) (ng) (cg), .slice (A) (n) (c), .int .i64 (q)] := hv1 0 (by omega) 7 rfl
    have e1 : vals 1 = .bool (false) := hv1 1 (by omega) 8 rfl
    have e2 : vals 2 = .bool (false) := hv1 2 (by omega) 9 rfl
    have e5 : vals 5 = .bool (false) := hv1 5 (by omega) 12 rfl
    have e6 : vals 6 = .bool (false) := hv1 6 (by omega) 13 rfl
    have e10 : vals 10 = .bool (false) := hv1 10 (by omega) 17 rfl
    have e11 : vals 11 = .bool (false) := hv1 11 (by omega) 18 rfl
    have e18 : vals 18 = .bool (false) := hv1 18 (by omega) 25 rfl
    have e19 : vals 19 = .bool (false) := hv1 19 (by omega) 26 rfl
    have e31 : vals 31 = .bool (false) := hv1 31 (by omega) 38 rfl
    simp only [putAll, Act.put, List.take_succ_cons, List.take_zero, List.drop_succ_cons, List.drop_zero, List.drop_nil, List.take_nil, Nat.reduceAdd, List.setIfInBounds_toArray, List.set_cons_succ, List.set_cons_zero, e0, e1, e2, e5, e6, e10, e11, e18, e19, e31]
    clear hv1 e0 e1 e2 e5 e6 e10 e11 e18 e19 e31
    clear hpol
    go_wp2_with fail
    go_ret
    exact ⟨by rw [Hv.out]; rfl, hEa.trans hE1⟩
  | true =>
    cases hc : rightC x R with
    | false =>
      have hv : cosB LG Ws q x R wn k PS QS = false := by rw [Hcb.out, hpol, hc]; rfl
      have Hv := Lib.hid hv
      clear hv
      refine par_ext (n := 32) (by kernel_rfl) [.is (.agg #[.slice (G) (ng) (cg), .slice (A) (n) (c), .int .i64 (q)]), .is (.bool (true)), .is (.bool (true)), .is (.agg #[.int .i64 (x), .slice (B) (nb) (d)]), .is (.bool (false)), .is (.bool (false)), .is (.bool (false)), .is undef, .is undef, .is undef, .is (.bool (false)), .is (.bool (false)), .is undef, .is undef, .is undef, .is undef, .is undef, .is undef, .is (.bool (false)), .is (.bool (false)), .is undef, .is undef, .is undef, .is undef, .is undef, .is undef, .is undef, .is undef, .is undef, .is undef, .is undef, .is (.bool (false))] rfl ⟨?_, ?_, ?_, ?_, ?_, ?_, ?_, ?_, ?_, ?_, ?_, ?_, ?_, ?_, ?_, ?_, ?_, ?_, ?_, ?_, ?_, ?_, ?_, ?_, ?_, ?_, ?_, ?_, ?_, ?_, ?_, ?_, trivial⟩ ?_
      · refine stepE rfl fun sdn sa sw sE sd sk => ?_
        have h3 : sa.eval (.tmp 3) = .pointer (some ⟨g3, 0, none⟩) := sk.old 3 rfl
        exact Runs.load rfl h3 (load_part (hB3.ext sE) 0 (vs := [.slice (G) (ng) (cg), .slice (A) (n) (c), .int .i64 (q)]) rfl Try.underlying52 rfl (by kernel_rfl)) ⟨Ext.refl _, rfl⟩
      · refine stepE rfl fun sdn sa sw sE sd sk => ?_
        have h7 : sa.eval (.tmp 7) = .agg #[.slice (G) (ng) (cg), .slice (A) (n) (c), .int .i64 (q)] := sk.fact 0 7 rfl (sd 0 rfl)
        refine Runs.call (f := 93) (vs := [.agg #[.slice (G) (ng) (cg), .slice (A) (n) (c), .int .i64 (q)]]) rfl rfl rfl (by simp only [List.map_toArray, List.map_cons, List.map_nil, h7] <;> rfl) (ent93 _ _) ((rpolicy_any _ _ _ _ _ _ _ _ _ sw (rG.ext sE) (rW.ext sE)).mono ?_); rintro e w' ⟨rfl, hx⟩; exact ⟨_, rfl, hx, congrArg Value.bool (hpol)⟩
      · refine stepE rfl fun sdn sa sw sE sd sk => ?_
        have h8 : sa.eval (.tmp 8) = .bool (true) := sk.fact 1 8 rfl (sd 1 rfl)
        exact Runs.move rfl h8 ⟨Ext.refl _, rfl⟩
      · refine stepY (j := 2) (d := 9) (b := true) rfl rfl rfl (fun v w h => h) fun sdn sa sw sE sd sk => ?_
        have h4 : sa.eval (.tmp 4) = .pointer (some ⟨g3 + 1, 0, none⟩) := sk.old 4 rfl
        exact Runs.load rfl h4 (load_part (hB4.ext sE) 0 (vs := [.int .i64 (x), .slice (B) (nb) (d)]) rfl Try.underlying54 rfl (by kernel_rfl)) ⟨Ext.refl _, rfl⟩
      · refine stepY (j := 2) (d := 9) (b := true) rfl rfl rfl (fun v w h => h) fun sdn sa sw sE sd sk => ?_
        have h10 : sa.eval (.tmp 10) = .agg #[.int .i64 (x), .slice (B) (nb) (d)] := sk.fact 3 10 rfl (sd 3 rfl)
        refine Runs.call (f := 94) (vs := [.agg #[.int .i64 (x), .slice (B) (nb) (d)]]) rfl rfl rfl (by simp only [List.map_toArray, List.map_cons, List.map_nil, h10] <;> rfl) (ent94 _ _) ((rcright_any _ _ _ _ _ sw (rR.ext sE)).mono ?_); rintro e w' ⟨rfl, hx⟩; exact ⟨_, rfl, hx, congrArg Value.bool (hc)⟩
      · refine stepE rfl fun sdn sa sw sE sd sk => ?_
        have h9 : sa.eval (.tmp 9) = .bool (true) := sk.fact 2 9 rfl (sd 2 rfl)
        have h11 : sa.eval (.tmp 11) = .bool (false) := sk.fact 4 11 rfl (sd 4 rfl)
        exact Runs.pick rfl h9 ⟨Ext.refl _, by first | exact h11 | simpa using h11⟩
      · refine stepE rfl fun sdn sa sw sE sd sk => ?_
        have h12 : sa.eval (.tmp 12) = .bool (false) := sk.fact 5 12 rfl (sd 5 rfl)
        exact Runs.move rfl h12 ⟨Ext.refl _, rfl⟩
      · exact stepN (j := 6) (d := 13) (b := false) rfl rfl rfl (fun v w h => h) fun w => rfl
      · exact stepN (j := 6) (d := 13) (b := false) rfl rfl rfl (fun v w h => h) fun w => rfl
      · exact stepN (j := 6) (d := 13) (b := false) rfl rfl rfl (fun v w h => h) fun w => rfl
      · refine stepE rfl fun sdn sa sw sE sd sk => ?_
        have h13 : sa.eval (.tmp 13) = .bool (false) := sk.fact 6 13 rfl (sd 6 rfl)
        exact Runs.pick rfl h13 ⟨Ext.refl _, rfl⟩
      · refine stepE rfl fun sdn sa sw sE sd sk => ?_
        have h17 : sa.eval (.tmp 17) = .bool (false) := sk.fact 10 17 rfl (sd 10 rfl)
        exact Runs.move rfl h17 ⟨Ext.refl _, rfl⟩
      · exact stepN (j := 11) (d := 18) (b := false) rfl rfl rfl (fun v w h => h) fun w => rfl
      · exact stepN (j := 11) (d := 18) (b := false) rfl rfl rfl (fun v w h => h) fun w => rfl
      · exact stepN (j := 11) (d := 18) (b := false) rfl rfl rfl (fun v w h => h) fun w => rfl
      · exact stepN (j := 11) (d := 18) (b := false) rfl rfl rfl (fun v w h => h) fun w => rfl
      · exact stepN (j := 11) (d := 18) (b := false) rfl rfl rfl (fun v w h => h) fun w => rfl
      · exact stepN (j := 11) (d := 18) (b := false) rfl rfl rfl (fun v w h => h) fun w => rfl
      · refine stepE rfl fun sdn sa sw sE sd sk => ?_
        have h18 : sa.eval (.tmp 18) = .bool (false) := sk.fact 11 18 rfl (sd 11 rfl)
        exact Runs.pick rfl h18 ⟨Ext.refl _, rfl⟩
      · refine stepE rfl fun sdn sa sw sE sd sk => ?_
        have h25 : sa.eval (.tmp 25) = .bool (false) := sk.fact 18 25 rfl (sd 18 rfl)
        exact Runs.move rfl h25 ⟨Ext.refl _, rfl⟩
      · exact stepN (j := 19) (d := 26) (b := false) rfl rfl rfl (fun v w h => h) fun w => rfl
      · exact stepN (j := 19) (d := 26) (b := false) rfl rfl rfl (fun v w h => h) fun w => rfl
      · exact stepN (j := 19) (d := 26) (b := false) rfl rfl rfl (fun v w h => h) fun w => rfl
      · exact stepN (j := 19) (d := 26) (b := false) rfl rfl rfl (fun v w h => h) fun w => rfl
      · exact stepN (j := 19) (d := 26) (b := false) rfl rfl rfl (fun v w h => h) fun w => rfl
      · exact stepN (j := 19) (d := 26) (b := false) rfl rfl rfl (fun v w h => h) fun w => rfl
      · exact stepN (j := 19) (d := 26) (b := false) rfl rfl rfl (fun v w h => h) fun w => rfl
      · exact stepN (j := 19) (d := 26) (b := false) rfl rfl rfl (fun v w h => h) fun w => rfl
      · exact stepN (j := 19) (d := 26) (b := false) rfl rfl rfl (fun v w h => h) fun w => rfl
      · exact stepN (j := 19) (d := 26) (b := false) rfl rfl rfl (fun v w h => h) fun w => rfl
      · exact stepN (j := 19) (d := 26) (b := false) rfl rfl rfl (fun v w h => h) fun w => rfl
      · refine stepE rfl fun sdn sa sw sE sd sk => ?_
        have h26 : sa.eval (.tmp 26) = .bool (false) := sk.fact 19 26 rfl (sd 19 rfl)
        exact Runs.pick rfl h26 ⟨Ext.refl _, rfl⟩
      intro vals W1 hE1 hv1
      have e0 : vals 0 = .agg #[.slice (G) (ng) (cg), .slice (A) (n) (c), .int .i64 (q)] := hv1 0 (by omega) 7 rfl
      have e1 : vals 1 = .bool (true) := hv1 1 (by omega) 8 rfl
      have e2 : vals 2 = .bool (true) := hv1 2 (by omega) 9 rfl
      have e3 : vals 3 = .agg #[.int .i64 (x), .slice (B) (nb) (d)] := hv1 3 (by omega) 10 rfl
      have e4 : vals 4 = .bool (false) := hv1 4 (by omega) 11 rfl
      have e5 : vals 5 = .bool (false) := hv1 5 (by omega) 12 rfl
      have e6 : vals 6 = .bool (false) := hv1 6 (by omega) 13 rfl
      have e10 : vals 10 = .bool (false) := hv1 10 (by omega) 17 rfl
      have e11 : vals 11 = .bool (false) := hv1 11 (by omega) 18 rfl
      have e18 : vals 18 = .bool (false) := hv1 18 (by omega) 25 rfl
      have e19 : vals 19 = .bool (false) := hv1 19 (by omega) 26 rfl
      have e31 : vals 31 = .bool (false) := hv1 31 (by omega) 38 rfl
      simp only [putAll, Act.put, List.take_succ_cons, List.take_zero, List.drop_succ_cons, List.drop_zero, List.drop_nil, List.take_nil, Nat.reduceAdd, List.setIfInBounds_toArray, List.set_cons_succ, List.set_cons_zero, e0, e1, e2, e3, e4, e5, e6, e10, e11, e18, e19, e31]
      clear hv1 e0 e1 e2 e3 e4 e5 e6 e10 e11 e18 e19 e31
      clear hpol hc
      go_wp2_with fail
      go_ret
      exact ⟨by rw [Hv.out]; rfl, hEa.trans hE1⟩
    | true =>
      by_cases hw : 0 ≤ wn
      · by_cases hn : wn < (n : Int)
        · obtain ⟨j, rfl⟩ : ∃ j : Nat, wn = (j : Int) := ⟨wn.toNat, by omega⟩
          have hjn : j < n := by omega
          have hv : cosB LG Ws q x R (j : Int) k PS QS = verB (lb Ws j) (bodyC cosignL x R) k PS QS := by
            rw [Hcb.out, hpol, hc]
            have h9 : (0 : Int) ≤ (j : Int) ∧ (j : Int) < (n : Int) := ⟨by omega, by omega⟩
            simp only [h9, and_self, decide_true, Bool.true_and]
            rfl
          have Hv := Lib.hid hv
          obtain ⟨ad, rfl, hcl⟩ := rW.cells (by omega)
          obtain ⟨E, z, y, hcell, rE⟩ := hcl j hjn
          have hw0 : decide ((0 : Int) ≤ (j : Int)) = true := decide_eq_true hw
          have hwn : decide ((j : Int) < ((n : Nat) : Int)) = true := decide_eq_true hn
          clear hv hcl
          refine par_ext (n := 32) (by kernel_rfl) [.is (.agg #[.slice (G) (ng) (cg), .slice ((some ad)) (n) (c), .int .i64 (q)]), .is (.bool (true)), .is (.bool (true)), .is (.agg #[.int .i64 (x), .slice (B) (nb) (d)]), .is (.bool (true)), .is (.bool (true)), .is (.bool (true)), .is (.pointer (some ⟨g3 + 1 + 1, 0, none⟩)), .is (.int .i64 ((j : Int))), .is (.bool (true)), .is (.bool (true)), .is (.bool (true)), .is (.pointer (some ⟨g3 + 1 + 1, 0, none⟩)), .is (.int .i64 ((j : Int))), .is (.pointer (some ⟨g3, 1, none⟩)), .is (.slice ((some ad)) (n) (c)), .is (.int .i64 ((n : Nat))), .is (.bool (true)), .is (.bool (true)), .is (.bool (true)), .is (.pointer (some ⟨g3, 1, none⟩)), .is (.slice ((some ad)) (n) (c)), .is (.pointer (some ⟨g3 + 1 + 1, 0, none⟩)), .is (.int .i64 ((j : Int))), .is (.pointer (some (ad.add (j)))), .is (.slice (E) (z) (y)), .is (.agg #[.int .i64 (x), .slice (B) (nb) (d)]), .rb (bodyC cosignL x R), .is (.pointer (some ⟨g3 + 1 + 1, 1, none⟩)), .is (.agg #[.int .i64 (k), .slice (P) (np) (cp), .slice (Q) (nq) (cq)]), .is (.bool (verB (lb Ws j) (bodyC cosignL x R) k PS QS)), .is (.bool (verB (lb Ws j) (bodyC cosignL x R) k PS QS))] rfl ⟨?_, ?_, ?_, ?_, ?_, ?_, ?_, ?_, ?_, ?_, ?_, ?_, ?_, ?_, ?_, ?_, ?_, ?_, ?_, ?_, ?_, ?_, ?_, ?_, ?_, ?_, ?_, ?_, ?_, ?_, ?_, ?_, trivial⟩ ?_
          · refine stepE rfl fun sdn sa sw sE sd sk => ?_
            have h3 : sa.eval (.tmp 3) = .pointer (some ⟨g3, 0, none⟩) := sk.old 3 rfl
            exact Runs.load rfl h3 (load_part (hB3.ext sE) 0 (vs := [.slice (G) (ng) (cg), .slice ((some ad)) (n) (c), .int .i64 (q)]) rfl Try.underlying52 rfl (by kernel_rfl)) ⟨Ext.refl _, rfl⟩
          · refine stepE rfl fun sdn sa sw sE sd sk => ?_
            have h7 : sa.eval (.tmp 7) = .agg #[.slice (G) (ng) (cg), .slice ((some ad)) (n) (c), .int .i64 (q)] := sk.fact 0 7 rfl (sd 0 rfl)
            refine Runs.call (f := 93) (vs := [.agg #[.slice (G) (ng) (cg), .slice ((some ad)) (n) (c), .int .i64 (q)]]) rfl rfl rfl (by simp only [List.map_toArray, List.map_cons, List.map_nil, h7] <;> rfl) (ent93 _ _) ((rpolicy_any _ _ _ _ _ _ _ _ _ sw (rG.ext sE) (rW.ext sE)).mono ?_); rintro e w' ⟨rfl, hx⟩; exact ⟨_, rfl, hx, congrArg Value.bool (hpol)⟩
          · refine stepE rfl fun sdn sa sw sE sd sk => ?_
            have h8 : sa.eval (.tmp 8) = .bool (true) := sk.fact 1 8 rfl (sd 1 rfl)
            exact Runs.move rfl h8 ⟨Ext.refl _, rfl⟩
          · refine stepY (j := 2) (d := 9) (b := true) rfl rfl rfl (fun v w h => h) fun sdn sa sw sE sd sk => ?_
            have h4 : sa.eval (.tmp 4) = .pointer (some ⟨g3 + 1, 0, none⟩) := sk.old 4 rfl
            exact Runs.load rfl h4 (load_part (hB4.ext sE) 0 (vs := [.int .i64 (x), .slice (B) (nb) (d)]) rfl Try.underlying54 rfl (by kernel_rfl)) ⟨Ext.refl _, rfl⟩
          · refine stepY (j := 2) (d := 9) (b := true) rfl rfl rfl (fun v w h => h) fun sdn sa sw sE sd sk => ?_
            have h10 : sa.eval (.tmp 10) = .agg #[.int .i64 (x), .slice (B) (nb) (d)] := sk.fact 3 10 rfl (sd 3 rfl)
            refine Runs.call (f := 94) (vs := [.agg #[.int .i64 (x), .slice (B) (nb) (d)]]) rfl rfl rfl (by simp only [List.map_toArray, List.map_cons, List.map_nil, h10] <;> rfl) (ent94 _ _) ((rcright_any _ _ _ _ _ sw (rR.ext sE)).mono ?_); rintro e w' ⟨rfl, hx⟩; exact ⟨_, rfl, hx, congrArg Value.bool (hc)⟩
          · refine stepE rfl fun sdn sa sw sE sd sk => ?_
            have h9 : sa.eval (.tmp 9) = .bool (true) := sk.fact 2 9 rfl (sd 2 rfl)
            have h11 : sa.eval (.tmp 11) = .bool (true) := sk.fact 4 11 rfl (sd 4 rfl)
            exact Runs.pick rfl h9 ⟨Ext.refl _, by first | exact h11 | simpa using h11⟩
          · refine stepE rfl fun sdn sa sw sE sd sk => ?_
            have h12 : sa.eval (.tmp 12) = .bool (true) := sk.fact 5 12 rfl (sd 5 rfl)
            exact Runs.move rfl h12 ⟨Ext.refl _, rfl⟩
          · refine stepY (j := 6) (d := 13) (b := true) rfl rfl rfl (fun v w h => h) fun sdn sa sw sE sd sk => ?_
            have h5 : sa.eval (.tmp 5) = .pointer (some ⟨g3 + 1 + 1, 0, none⟩) := sk.old 5 rfl
            refine Runs.of_run (r := .pointer (some ⟨g3 + 1 + 1, 0, none⟩)) (w' := sw) ?_ ⟨Ext.refl _, rfl⟩
            unfold execOp
            simp only [h5]
            go_simp
          · refine stepY (j := 6) (d := 13) (b := true) rfl rfl rfl (fun v w h => h) fun sdn sa sw sE sd sk => ?_
            have h14 : sa.eval (.tmp 14) = .pointer (some ⟨g3 + 1 + 1, 0, none⟩) := sk.fact 7 14 rfl (sd 7 rfl)
            exact Runs.load rfl h14 (run_load1 Try.underlying3 rfl ((hB5.ext sE).cell (i := 0) rfl)) ⟨Ext.refl _, rfl⟩
          · refine stepY (j := 6) (d := 13) (b := true) rfl rfl rfl (fun v w h => h) fun sdn sa sw sE sd sk => ?_
            have h15 : sa.eval (.tmp 15) = .int .i64 ((j : Int)) := sk.fact 8 15 rfl (sd 8 rfl)
            exact Runs.bin rfl h15 rfl (by rfl) (bin_geq _ _ _ _) ⟨Ext.refl _, congrArg Value.bool (hw0)⟩
          · refine stepE rfl fun sdn sa sw sE sd sk => ?_
            have h13 : sa.eval (.tmp 13) = .bool (true) := sk.fact 6 13 rfl (sd 6 rfl)
            have h16 : sa.eval (.tmp 16) = .bool (true) := sk.fact 9 16 rfl (sd 9 rfl)
            exact Runs.pick rfl h13 ⟨Ext.refl _, by first | exact h16 | simpa using h16⟩
          · refine stepE rfl fun sdn sa sw sE sd sk => ?_
            have h17 : sa.eval (.tmp 17) = .bool (true) := sk.fact 10 17 rfl (sd 10 rfl)
            exact Runs.move rfl h17 ⟨Ext.refl _, rfl⟩
          · refine stepY (j := 11) (d := 18) (b := true) rfl rfl rfl (fun v w h => h) fun sdn sa sw sE sd sk => ?_
            have h5 : sa.eval (.tmp 5) = .pointer (some ⟨g3 + 1 + 1, 0, none⟩) := sk.old 5 rfl
            refine Runs.of_run (r := .pointer (some ⟨g3 + 1 + 1, 0, none⟩)) (w' := sw) ?_ ⟨Ext.refl _, rfl⟩
            unfold execOp
            simp only [h5]
            go_simp
          · refine stepY (j := 11) (d := 18) (b := true) rfl rfl rfl (fun v w h => h) fun sdn sa sw sE sd sk => ?_
            have h19 : sa.eval (.tmp 19) = .pointer (some ⟨g3 + 1 + 1, 0, none⟩) := sk.fact 12 19 rfl (sd 12 rfl)
            exact Runs.load rfl h19 (run_load1 Try.underlying3 rfl ((hB5.ext sE).cell (i := 0) rfl)) ⟨Ext.refl _, rfl⟩
          · refine stepY (j := 11) (d := 18) (b := true) rfl rfl rfl (fun v w h => h) fun sdn sa sw sE sd sk => ?_
            have h3 : sa.eval (.tmp 3) = .pointer (some ⟨g3, 0, none⟩) := sk.old 3 rfl
            refine Runs.of_run (r := .pointer (some ⟨g3, 1, none⟩)) (w' := sw) ?_ ⟨Ext.refl _, rfl⟩
            unfold execOp
            simp only [h3]
            go_simp
          · refine stepY (j := 11) (d := 18) (b := true) rfl rfl rfl (fun v w h => h) fun sdn sa sw sE sd sk => ?_
            have h21 : sa.eval (.tmp 21) = .pointer (some ⟨g3, 1, none⟩) := sk.fact 14 21 rfl (sd 14 rfl)
            exact Runs.load rfl h21 (run_load1 Try.underlying23 rfl ((hB3.ext sE).cell (i := 1) rfl)) ⟨Ext.refl _, rfl⟩
          · refine stepY (j := 11) (d := 18) (b := true) rfl rfl rfl (fun v w h => h) fun sdn sa sw sE sd sk => ?_
            have h22 : sa.eval (.tmp 22) = .slice ((some ad)) (n) (c) := sk.fact 15 22 rfl (sd 15 rfl)
            exact Runs.len Try.underlying23 rfl h22 ⟨Ext.refl _, rfl⟩
          · refine stepY (j := 11) (d := 18) (b := true) rfl rfl rfl (fun v w h => h) fun sdn sa sw sE sd sk => ?_
            have h20 : sa.eval (.tmp 20) = .int .i64 ((j : Int)) := sk.fact 13 20 rfl (sd 13 rfl)
            have h23 : sa.eval (.tmp 23) = .int .i64 ((n : Nat)) := sk.fact 16 23 rfl (sd 16 rfl)
            exact Runs.bin rfl h20 h23 (by rfl) (bin_lss _ _ _ _) ⟨Ext.refl _, congrArg Value.bool (hwn)⟩
          · refine stepE rfl fun sdn sa sw sE sd sk => ?_
            have h18 : sa.eval (.tmp 18) = .bool (true) := sk.fact 11 18 rfl (sd 11 rfl)
            have h24 : sa.eval (.tmp 24) = .bool (true) := sk.fact 17 24 rfl (sd 17 rfl)
            exact Runs.pick rfl h18 ⟨Ext.refl _, by first | exact h24 | simpa using h24⟩
          · refine stepE rfl fun sdn sa sw sE sd sk => ?_
            have h25 : sa.eval (.tmp 25) = .bool (true) := sk.fact 18 25 rfl (sd 18 rfl)
            exact Runs.move rfl h25 ⟨Ext.refl _, rfl⟩
          · refine stepY (j := 19) (d := 26) (b := true) rfl rfl rfl (fun v w h => h) fun sdn sa sw sE sd sk => ?_
            have h3 : sa.eval (.tmp 3) = .pointer (some ⟨g3, 0, none⟩) := sk.old 3 rfl
            refine Runs.of_run (r := .pointer (some ⟨g3, 1, none⟩)) (w' := sw) ?_ ⟨Ext.refl _, rfl⟩
            unfold execOp
            simp only [h3]
            go_simp
          · refine stepY (j := 19) (d := 26) (b := true) rfl rfl rfl (fun v w h => h) fun sdn sa sw sE sd sk => ?_
            have h27 : sa.eval (.tmp 27) = .pointer (some ⟨g3, 1, none⟩) := sk.fact 20 27 rfl (sd 20 rfl)
            exact Runs.load rfl h27 (run_load1 Try.underlying23 rfl ((hB3.ext sE).cell (i := 1) rfl)) ⟨Ext.refl _, rfl⟩
          · refine stepY (j := 19) (d := 26) (b := true) rfl rfl rfl (fun v w h => h) fun sdn sa sw sE sd sk => ?_
            have h5 : sa.eval (.tmp 5) = .pointer (some ⟨g3 + 1 + 1, 0, none⟩) := sk.old 5 rfl
            refine Runs.of_run (r := .pointer (some ⟨g3 + 1 + 1, 0, none⟩)) (w' := sw) ?_ ⟨Ext.refl _, rfl⟩
            unfold execOp
            simp only [h5]
            go_simp
          · refine stepY (j := 19) (d := 26) (b := true) rfl rfl rfl (fun v w h => h) fun sdn sa sw sE sd sk => ?_
            have h29 : sa.eval (.tmp 29) = .pointer (some ⟨g3 + 1 + 1, 0, none⟩) := sk.fact 22 29 rfl (sd 22 rfl)
            exact Runs.load rfl h29 (run_load1 Try.underlying3 rfl ((hB5.ext sE).cell (i := 0) rfl)) ⟨Ext.refl _, rfl⟩
          · refine stepY (j := 19) (d := 26) (b := true) rfl rfl rfl (fun v w h => h) fun sdn sa sw sE sd sk => ?_
            have h28 : sa.eval (.tmp 28) = .slice ((some ad)) (n) (c) := sk.fact 21 28 rfl (sd 21 rfl)
            have h30 : sa.eval (.tmp 30) = .int .i64 ((j : Int)) := sk.fact 23 30 rfl (sd 23 rfl)
            exact Runs.idx rfl h28 h30 (run_idx_sl1 Try.underlying23 infYB_eq infYB_size (j) (by omega) (by omega)) ⟨Ext.refl _, rfl⟩
          · refine stepY (j := 19) (d := 26) (b := true) rfl rfl rfl (fun v w h => h) fun sdn sa sw sE sd sk => ?_
            have h31 : sa.eval (.tmp 31) = .pointer (some (ad.add (j))) := sk.fact 24 31 rfl (sd 24 rfl)
            exact Runs.load rfl h31 (run_load1 Try.underlying22 rfl (sE.cell hcell)) ⟨Ext.refl _, rfl⟩
          · refine stepY (j := 19) (d := 26) (b := true) rfl rfl rfl (fun v w h => h) fun sdn sa sw sE sd sk => ?_
            have h4 : sa.eval (.tmp 4) = .pointer (some ⟨g3 + 1, 0, none⟩) := sk.old 4 rfl
            exact Runs.load rfl h4 (load_part (hB4.ext sE) 0 (vs := [.int .i64 (x), .slice (B) (nb) (d)]) rfl Try.underlying54 rfl (by kernel_rfl)) ⟨Ext.refl _, rfl⟩
          · refine stepY (j := 19) (d := 26) (b := true) rfl rfl rfl (fun v w h => h) fun sdn sa sw sE sd sk => ?_
            have h33 : sa.eval (.tmp 33) = .agg #[.int .i64 (x), .slice (B) (nb) (d)] := sk.fact 26 33 rfl (sd 26 rfl)
            refine Runs.call (f := 67) (vs := [.agg #[.int .i64 (x), .slice (B) (nb) (d)]]) rfl rfl rfl (by simp only [List.map_toArray, List.map_cons, List.map_nil, h33] <;> rfl) (ent67 _ _) ((rcos_any _ _ _ _ _ sw (rR.ext sE)).mono ?_); rintro e w' ⟨A', n', c', rfl, own, hx⟩; exact ⟨_, rfl, hx, A', n', c', rfl, own⟩
          · refine stepY (j := 19) (d := 26) (b := true) rfl rfl rfl (fun v w h => h) fun sdn sa sw sE sd sk => ?_
            have h5 : sa.eval (.tmp 5) = .pointer (some ⟨g3 + 1 + 1, 0, none⟩) := sk.old 5 rfl
            refine Runs.of_run (r := .pointer (some ⟨g3 + 1 + 1, 1, none⟩)) (w' := sw) ?_ ⟨Ext.refl _, rfl⟩
            unfold execOp
            simp only [h5]
            go_simp
          · refine stepY (j := 19) (d := 26) (b := true) rfl rfl rfl (fun v w h => h) fun sdn sa sw sE sd sk => ?_
            have h35 : sa.eval (.tmp 35) = .pointer (some ⟨g3 + 1 + 1, 1, none⟩) := sk.fact 28 35 rfl (sd 28 rfl)
            exact Runs.load rfl h35 (load_part (hB5.ext sE) 1 (vs := [.int .i64 (k), .slice (P) (np) (cp), .slice (Q) (nq) (cq)]) rfl Try.underlying42 rfl (by kernel_rfl)) ⟨Ext.refl _, rfl⟩
          · refine stepY (j := 19) (d := 26) (b := true) rfl rfl rfl (fun v w h => h) fun sdn sa sw sE sd sk => ?_
            have h32 : sa.eval (.tmp 32) = .slice (E) (z) (y) := sk.fact 25 32 rfl (sd 25 rfl)
            obtain ⟨A34, n34, c34, h34, r34⟩ := sk.fact 27 34 rfl (sd 27 rfl)
            have h36 : sa.eval (.tmp 36) = .agg #[.int .i64 (k), .slice (P) (np) (cp), .slice (Q) (nq) (cq)] := sk.fact 29 36 rfl (sd 29 rfl)
            refine Runs.call (f := 28) (vs := [.slice (E) (z) (y), .slice (A34) (n34) (c34), .agg #[.int .i64 (k), .slice (P) (np) (cp), .slice (Q) (nq) (cq)]]) rfl rfl rfl (by simp only [List.map_toArray, List.map_cons, List.map_nil, h32, h34, h36] <;> rfl) (ent28 _ _) ((rverify_len _ _ _ _ _ _ _ _ _ _ _ _ _ _ _ _ _ sw (rE.ext sE) r34 lenV (rP.ext sE) (rQ.ext sE)).mono ?_); rintro e w' ⟨rfl, hx⟩; exact ⟨_, rfl, hx, rfl⟩
          · refine stepE rfl fun sdn sa sw sE sd sk => ?_
            have h26 : sa.eval (.tmp 26) = .bool (true) := sk.fact 19 26 rfl (sd 19 rfl)
            have h37 : sa.eval (.tmp 37) = .bool (verB (lb Ws j) (bodyC cosignL x R) k PS QS) := sk.fact 30 37 rfl (sd 30 rfl)
            exact Runs.pick rfl h26 ⟨Ext.refl _, by first | exact h37 | simpa using h37⟩
          intro vals W1 hE1 hv1
          have e0 : vals 0 = .agg #[.slice (G) (ng) (cg), .slice ((some ad)) (n) (c), .int .i64 (q)] := hv1 0 (by omega) 7 rfl
          have e1 : vals 1 = .bool (true) := hv1 1 (by omega) 8 rfl
          have e2 : vals 2 = .bool (true) := hv1 2 (by omega) 9 rfl
          have e3 : vals 3 = .agg #[.int .i64 (x), .slice (B) (nb) (d)] := hv1 3 (by omega) 10 rfl
          have e4 : vals 4 = .bool (true) := hv1 4 (by omega) 11 rfl
          have e5 : vals 5 = .bool (true) := hv1 5 (by omega) 12 rfl
          have e6 : vals 6 = .bool (true) := hv1 6 (by omega) 13 rfl
          have e7 : vals 7 = .pointer (some ⟨g3 + 1 + 1, 0, none⟩) := hv1 7 (by omega) 14 rfl
          have e8 : vals 8 = .int .i64 ((j : Int)) := hv1 8 (by omega) 15 rfl
          have e9 : vals 9 = .bool (true) := hv1 9 (by omega) 16 rfl
          have e10 : vals 10 = .bool (true) := hv1 10 (by omega) 17 rfl
          have e11 : vals 11 = .bool (true) := hv1 11 (by omega) 18 rfl
          have e12 : vals 12 = .pointer (some ⟨g3 + 1 + 1, 0, none⟩) := hv1 12 (by omega) 19 rfl
          have e13 : vals 13 = .int .i64 ((j : Int)) := hv1 13 (by omega) 20 rfl
          have e14 : vals 14 = .pointer (some ⟨g3, 1, none⟩) := hv1 14 (by omega) 21 rfl
          have e15 : vals 15 = .slice ((some ad)) (n) (c) := hv1 15 (by omega) 22 rfl
          have e16 : vals 16 = .int .i64 ((n : Nat)) := hv1 16 (by omega) 23 rfl
          have e17 : vals 17 = .bool (true) := hv1 17 (by omega) 24 rfl
          have e18 : vals 18 = .bool (true) := hv1 18 (by omega) 25 rfl
          have e19 : vals 19 = .bool (true) := hv1 19 (by omega) 26 rfl
          have e20 : vals 20 = .pointer (some ⟨g3, 1, none⟩) := hv1 20 (by omega) 27 rfl
          have e21 : vals 21 = .slice ((some ad)) (n) (c) := hv1 21 (by omega) 28 rfl
          have e22 : vals 22 = .pointer (some ⟨g3 + 1 + 1, 0, none⟩) := hv1 22 (by omega) 29 rfl
          have e23 : vals 23 = .int .i64 ((j : Int)) := hv1 23 (by omega) 30 rfl
          have e24 : vals 24 = .pointer (some (ad.add (j))) := hv1 24 (by omega) 31 rfl
          have e25 : vals 25 = .slice (E) (z) (y) := hv1 25 (by omega) 32 rfl
          have e26 : vals 26 = .agg #[.int .i64 (x), .slice (B) (nb) (d)] := hv1 26 (by omega) 33 rfl
          obtain ⟨A34, n34, c34, e27, r34⟩ := hv1 27 (by omega) 34 rfl
          have e28 : vals 28 = .pointer (some ⟨g3 + 1 + 1, 1, none⟩) := hv1 28 (by omega) 35 rfl
          have e29 : vals 29 = .agg #[.int .i64 (k), .slice (P) (np) (cp), .slice (Q) (nq) (cq)] := hv1 29 (by omega) 36 rfl
          have e30 : vals 30 = .bool (verB (lb Ws j) (bodyC cosignL x R) k PS QS) := hv1 30 (by omega) 37 rfl
          have e31 : vals 31 = .bool (verB (lb Ws j) (bodyC cosignL x R) k PS QS) := hv1 31 (by omega) 38 rfl
          simp only [putAll, Act.put, List.take_succ_cons, List.take_zero, List.drop_succ_cons, List.drop_zero, List.drop_nil, List.take_nil, Nat.reduceAdd, List.setIfInBounds_toArray, List.set_cons_succ, List.set_cons_zero, e0, e1, e2, e3, e4, e5, e6, e7, e8, e9, e10, e11, e12, e13, e14, e15, e16, e17, e18, e19, e20, e21, e22, e23, e24, e25, e26, e27, e28, e29, e30, e31]
          clear hv1 e0 e1 e2 e3 e4 e5 e6 e7 e8 e9 e10 e11 e12 e13 e14 e15 e16 e17 e18 e19 e20 e21 e22 e23 e24 e25 e26 e27 e28 e29 e30 e31
          clear hpol hc hw0 hwn
          go_wp2_with fail
          go_ret
          exact ⟨by rw [Hv.out]; rfl, hEa.trans hE1⟩
        · have hv : cosB LG Ws q x R wn k PS QS = false := by rw [Hcb.out]; simp; intros; omega
          have Hv := Lib.hid hv
          have hw0 : decide ((0 : Int) ≤ wn) = true := decide_eq_true hw
          have hwn : decide (wn < ((n : Nat) : Int)) = false := decide_eq_false hn
          clear hv
          refine par_ext (n := 32) (by kernel_rfl) [.is (.agg #[.slice (G) (ng) (cg), .slice (A) (n) (c), .int .i64 (q)]), .is (.bool (true)), .is (.bool (true)), .is (.agg #[.int .i64 (x), .slice (B) (nb) (d)]), .is (.bool (true)), .is (.bool (true)), .is (.bool (true)), .is (.pointer (some ⟨g3 + 1 + 1, 0, none⟩)), .is (.int .i64 (wn)), .is (.bool (true)), .is (.bool (true)), .is (.bool (true)), .is (.pointer (some ⟨g3 + 1 + 1, 0, none⟩)), .is (.int .i64 (wn)), .is (.pointer (some ⟨g3, 1, none⟩)), .is (.slice (A) (n) (c)), .is (.int .i64 ((n : Nat))), .is (.bool (false)), .is (.bool (false)), .is (.bool (false)), .is undef, .is undef, .is undef, .is undef, .is undef, .is undef, .is undef, .is undef, .is undef, .is undef, .is undef, .is (.bool (false))] rfl ⟨?_, ?_, ?_, ?_, ?_, ?_, ?_, ?_, ?_, ?_, ?_, ?_, ?_, ?_, ?_, ?_, ?_, ?_, ?_, ?_, ?_, ?_, ?_, ?_, ?_, ?_, ?_, ?_, ?_, ?_, ?_, ?_, trivial⟩ ?_
          · refine stepE rfl fun sdn sa sw sE sd sk => ?_
            have h3 : sa.eval (.tmp 3) = .pointer (some ⟨g3, 0, none⟩) := sk.old 3 rfl
            exact Runs.load rfl h3 (load_part (hB3.ext sE) 0 (vs := [.slice (G) (ng) (cg), .slice (A) (n) (c), .int .i64 (q)]) rfl Try.underlying52 rfl (by kernel_rfl)) ⟨Ext.refl _, rfl⟩
          · refine stepE rfl fun sdn sa sw sE sd sk => ?_
            have h7 : sa.eval (.tmp 7) = .agg #[.slice (G) (ng) (cg), .slice (A) (n) (c), .int .i64 (q)] := sk.fact 0 7 rfl (sd 0 rfl)
            refine Runs.call (f := 93) (vs := [.agg #[.slice (G) (ng) (cg), .slice (A) (n) (c), .int .i64 (q)]]) rfl rfl rfl (by simp only [List.map_toArray, List.map_cons, List.map_nil, h7] <;> rfl) (ent93 _ _) ((rpolicy_any _ _ _ _ _ _ _ _ _ sw (rG.ext sE) (rW.ext sE)).mono ?_); rintro e w' ⟨rfl, hx⟩; exact ⟨_, rfl, hx, congrArg Value.bool (hpol)⟩
          · refine stepE rfl fun sdn sa sw sE sd sk => ?_
            have h8 : sa.eval (.tmp 8) = .bool (true) := sk.fact 1 8 rfl (sd 1 rfl)
            exact Runs.move rfl h8 ⟨Ext.refl _, rfl⟩
          · refine stepY (j := 2) (d := 9) (b := true) rfl rfl rfl (fun v w h => h) fun sdn sa sw sE sd sk => ?_
            have h4 : sa.eval (.tmp 4) = .pointer (some ⟨g3 + 1, 0, none⟩) := sk.old 4 rfl
            exact Runs.load rfl h4 (load_part (hB4.ext sE) 0 (vs := [.int .i64 (x), .slice (B) (nb) (d)]) rfl Try.underlying54 rfl (by kernel_rfl)) ⟨Ext.refl _, rfl⟩
          · refine stepY (j := 2) (d := 9) (b := true) rfl rfl rfl (fun v w h => h) fun sdn sa sw sE sd sk => ?_
            have h10 : sa.eval (.tmp 10) = .agg #[.int .i64 (x), .slice (B) (nb) (d)] := sk.fact 3 10 rfl (sd 3 rfl)
            refine Runs.call (f := 94) (vs := [.agg #[.int .i64 (x), .slice (B) (nb) (d)]]) rfl rfl rfl (by simp only [List.map_toArray, List.map_cons, List.map_nil, h10] <;> rfl) (ent94 _ _) ((rcright_any _ _ _ _ _ sw (rR.ext sE)).mono ?_); rintro e w' ⟨rfl, hx⟩; exact ⟨_, rfl, hx, congrArg Value.bool (hc)⟩
          · refine stepE rfl fun sdn sa sw sE sd sk => ?_
            have h9 : sa.eval (.tmp 9) = .bool (true) := sk.fact 2 9 rfl (sd 2 rfl)
            have h11 : sa.eval (.tmp 11) = .bool (true) := sk.fact 4 11 rfl (sd 4 rfl)
            exact Runs.pick rfl h9 ⟨Ext.refl _, by first | exact h11 | simpa using h11⟩
          · refine stepE rfl fun sdn sa sw sE sd sk => ?_
            have h12 : sa.eval (.tmp 12) = .bool (true) := sk.fact 5 12 rfl (sd 5 rfl)
            exact Runs.move rfl h12 ⟨Ext.refl _, rfl⟩
          · refine stepY (j := 6) (d := 13) (b := true) rfl rfl rfl (fun v w h => h) fun sdn sa sw sE sd sk => ?_
            have h5 : sa.eval (.tmp 5) = .pointer (some ⟨g3 + 1 + 1, 0, none⟩) := sk.old 5 rfl
            refine Runs.of_run (r := .pointer (some ⟨g3 + 1 + 1, 0, none⟩)) (w' := sw) ?_ ⟨Ext.refl _, rfl⟩
            unfold execOp
            simp only [h5]
            go_simp
          · refine stepY (j := 6) (d := 13) (b := true) rfl rfl rfl (fun v w h => h) fun sdn sa sw sE sd sk => ?_
            have h14 : sa.eval (.tmp 14) = .pointer (some ⟨g3 + 1 + 1, 0, none⟩) := sk.fact 7 14 rfl (sd 7 rfl)
            exact Runs.load rfl h14 (run_load1 Try.underlying3 rfl ((hB5.ext sE).cell (i := 0) rfl)) ⟨Ext.refl _, rfl⟩
          · refine stepY (j := 6) (d := 13) (b := true) rfl rfl rfl (fun v w h => h) fun sdn sa sw sE sd sk => ?_
            have h15 : sa.eval (.tmp 15) = .int .i64 (wn) := sk.fact 8 15 rfl (sd 8 rfl)
            exact Runs.bin rfl h15 rfl (by rfl) (bin_geq _ _ _ _) ⟨Ext.refl _, congrArg Value.bool (hw0)⟩
          · refine stepE rfl fun sdn sa sw sE sd sk => ?_
            have h13 : sa.eval (.tmp 13) = .bool (true) := sk.fact 6 13 rfl (sd 6 rfl)
            have h16 : sa.eval (.tmp 16) = .bool (true) := sk.fact 9 16 rfl (sd 9 rfl)
            exact Runs.pick rfl h13 ⟨Ext.refl _, by first | exact h16 | simpa using h16⟩
          · refine stepE rfl fun sdn sa sw sE sd sk => ?_
            have h17 : sa.eval (.tmp 17) = .bool (true) := sk.fact 10 17 rfl (sd 10 rfl)
            exact Runs.move rfl h17 ⟨Ext.refl _, rfl⟩
          · refine stepY (j := 11) (d := 18) (b := true) rfl rfl rfl (fun v w h => h) fun sdn sa sw sE sd sk => ?_
            have h5 : sa.eval (.tmp 5) = .pointer (some ⟨g3 + 1 + 1, 0, none⟩) := sk.old 5 rfl
            refine Runs.of_run (r := .pointer (some ⟨g3 + 1 + 1, 0, none⟩)) (w' := sw) ?_ ⟨Ext.refl _, rfl⟩
            unfold execOp
            simp only [h5]
            go_simp
          · refine stepY (j := 11) (d := 18) (b := true) rfl rfl rfl (fun v w h => h) fun sdn sa sw sE sd sk => ?_
            have h19 : sa.eval (.tmp 19) = .pointer (some ⟨g3 + 1 + 1, 0, none⟩) := sk.fact 12 19 rfl (sd 12 rfl)
            exact Runs.load rfl h19 (run_load1 Try.underlying3 rfl ((hB5.ext sE).cell (i := 0) rfl)) ⟨Ext.refl _, rfl⟩
          · refine stepY (j := 11) (d := 18) (b := true) rfl rfl rfl (fun v w h => h) fun sdn sa sw sE sd sk => ?_
            have h3 : sa.eval (.tmp 3) = .pointer (some ⟨g3, 0, none⟩) := sk.old 3 rfl
            refine Runs.of_run (r := .pointer (some ⟨g3, 1, none⟩)) (w' := sw) ?_ ⟨Ext.refl _, rfl⟩
            unfold execOp
            simp only [h3]
            go_simp
          · refine stepY (j := 11) (d := 18) (b := true) rfl rfl rfl (fun v w h => h) fun sdn sa sw sE sd sk => ?_
            have h21 : sa.eval (.tmp 21) = .pointer (some ⟨g3, 1, none⟩) := sk.fact 14 21 rfl (sd 14 rfl)
            exact Runs.load rfl h21 (run_load1 Try.underlying23 rfl ((hB3.ext sE).cell (i := 1) rfl)) ⟨Ext.refl _, rfl⟩
          · refine stepY (j := 11) (d := 18) (b := true) rfl rfl rfl (fun v w h => h) fun sdn sa sw sE sd sk => ?_
            have h22 : sa.eval (.tmp 22) = .slice (A) (n) (c) := sk.fact 15 22 rfl (sd 15 rfl)
            exact Runs.len Try.underlying23 rfl h22 ⟨Ext.refl _, rfl⟩
          · refine stepY (j := 11) (d := 18) (b := true) rfl rfl rfl (fun v w h => h) fun sdn sa sw sE sd sk => ?_
            have h20 : sa.eval (.tmp 20) = .int .i64 (wn) := sk.fact 13 20 rfl (sd 13 rfl)
            have h23 : sa.eval (.tmp 23) = .int .i64 ((n : Nat)) := sk.fact 16 23 rfl (sd 16 rfl)
            exact Runs.bin rfl h20 h23 (by rfl) (bin_lss _ _ _ _) ⟨Ext.refl _, congrArg Value.bool (hwn)⟩
          · refine stepE rfl fun sdn sa sw sE sd sk => ?_
            have h18 : sa.eval (.tmp 18) = .bool (true) := sk.fact 11 18 rfl (sd 11 rfl)
            have h24 : sa.eval (.tmp 24) = .bool (false) := sk.fact 17 24 rfl (sd 17 rfl)
            exact Runs.pick rfl h18 ⟨Ext.refl _, by first | exact h24 | simpa using h24⟩
          · refine stepE rfl fun sdn sa sw sE sd sk => ?_
            have h25 : sa.eval (.tmp 25) = .bool (false) := sk.fact 18 25 rfl (sd 18 rfl)
            exact Runs.move rfl h25 ⟨Ext.refl _, rfl⟩
          · exact stepN (j := 19) (d := 26) (b := false) rfl rfl rfl (fun v w h => h) fun w => rfl
          · exact stepN (j := 19) (d := 26) (b := false) rfl rfl rfl (fun v w h => h) fun w => rfl
          · exact stepN (j := 19) (d := 26) (b := false) rfl rfl rfl (fun v w h => h) fun w => rfl
          · exact stepN (j := 19) (d := 26) (b := false) rfl rfl rfl (fun v w h => h) fun w => rfl
          · exact stepN (j := 19) (d := 26) (b := false) rfl rfl rfl (fun v w h => h) fun w => rfl
          · exact stepN (j := 19) (d := 26) (b := false) rfl rfl rfl (fun v w h => h) fun w => rfl
          · exact stepN (j := 19) (d := 26) (b := false) rfl rfl rfl (fun v w h => h) fun w => rfl
          · exact stepN (j := 19) (d := 26) (b := false) rfl rfl rfl (fun v w h => h) fun w => rfl
          · exact stepN (j := 19) (d := 26) (b := false) rfl rfl rfl (fun v w h => h) fun w => rfl
          · exact stepN (j := 19) (d := 26) (b := false) rfl rfl rfl (fun v w h => h) fun w => rfl
          · exact stepN (j := 19) (d := 26) (b := false) rfl rfl rfl (fun v w h => h) fun w => rfl
          · refine stepE rfl fun sdn sa sw sE sd sk => ?_
            have h26 : sa.eval (.tmp 26) = .bool (false) := sk.fact 19 26 rfl (sd 19 rfl)
            exact Runs.pick rfl h26 ⟨Ext.refl _, rfl⟩
          intro vals W1 hE1 hv1
          have e0 : vals 0 = .agg #[.slice (G) (ng) (cg), .slice (A) (n) (c), .int .i64 (q)] := hv1 0 (by omega) 7 rfl
          have e1 : vals 1 = .bool (true) := hv1 1 (by omega) 8 rfl
          have e2 : vals 2 = .bool (true) := hv1 2 (by omega) 9 rfl
          have e3 : vals 3 = .agg #[.int .i64 (x), .slice (B) (nb) (d)] := hv1 3 (by omega) 10 rfl
          have e4 : vals 4 = .bool (true) := hv1 4 (by omega) 11 rfl
          have e5 : vals 5 = .bool (true) := hv1 5 (by omega) 12 rfl
          have e6 : vals 6 = .bool (true) := hv1 6 (by omega) 13 rfl
          have e7 : vals 7 = .pointer (some ⟨g3 + 1 + 1, 0, none⟩) := hv1 7 (by omega) 14 rfl
          have e8 : vals 8 = .int .i64 (wn) := hv1 8 (by omega) 15 rfl
          have e9 : vals 9 = .bool (true) := hv1 9 (by omega) 16 rfl
          have e10 : vals 10 = .bool (true) := hv1 10 (by omega) 17 rfl
          have e11 : vals 11 = .bool (true) := hv1 11 (by omega) 18 rfl
          have e12 : vals 12 = .pointer (some ⟨g3 + 1 + 1, 0, none⟩) := hv1 12 (by omega) 19 rfl
          have e13 : vals 13 = .int .i64 (wn) := hv1 13 (by omega) 20 rfl
          have e14 : vals 14 = .pointer (some ⟨g3, 1, none⟩) := hv1 14 (by omega) 21 rfl
          have e15 : vals 15 = .slice (A) (n) (c) := hv1 15 (by omega) 22 rfl
          have e16 : vals 16 = .int .i64 ((n : Nat)) := hv1 16 (by omega) 23 rfl
          have e17 : vals 17 = .bool (false) := hv1 17 (by omega) 24 rfl
          have e18 : vals 18 = .bool (false) := hv1 18 (by omega) 25 rfl
          have e19 : vals 19 = .bool (false) := hv1 19 (by omega) 26 rfl
          have e31 : vals 31 = .bool (false) := hv1 31 (by omega) 38 rfl
          simp only [putAll, Act.put, List.take_succ_cons, List.take_zero, List.drop_succ_cons, List.drop_zero, List.drop_nil, List.take_nil, Nat.reduceAdd, List.setIfInBounds_toArray, List.set_cons_succ, List.set_cons_zero, e0, e1, e2, e3, e4, e5, e6, e7, e8, e9, e10, e11, e12, e13, e14, e15, e16, e17, e18, e19, e31]
          clear hv1 e0 e1 e2 e3 e4 e5 e6 e7 e8 e9 e10 e11 e12 e13 e14 e15 e16 e17 e18 e19 e31
          clear hpol hc hw0 hwn
          go_wp2_with fail
          go_ret
          exact ⟨by rw [Hv.out]; rfl, hEa.trans hE1⟩
      · have hv : cosB LG Ws q x R wn k PS QS = false := by rw [Hcb.out]; simp; intros; omega
        have Hv := Lib.hid hv
        have hw0 : decide ((0 : Int) ≤ wn) = false := decide_eq_false hw
        clear hv
        refine par_ext (n := 32) (by kernel_rfl) [.is (.agg #[.slice (G) (ng) (cg), .slice (A) (n) (c), .int .i64 (q)]), .is (.bool (true)), .is (.bool (true)), .is (.agg #[.int .i64 (x), .slice (B) (nb) (d)]), .is (.bool (true)), .is (.bool (true)), .is (.bool (true)), .is (.pointer (some ⟨g3 + 1 + 1, 0, none⟩)), .is (.int .i64 (wn)), .is (.bool (false)), .is (.bool (false)), .is (.bool (false)), .is undef, .is undef, .is undef, .is undef, .is undef, .is undef, .is (.bool (false)), .is (.bool (false)), .is undef, .is undef, .is undef, .is undef, .is undef, .is undef, .is undef, .is undef, .is undef, .is undef, .is undef, .is (.bool (false))] rfl ⟨?_, ?_, ?_, ?_, ?_, ?_, ?_, ?_, ?_, ?_, ?_, ?_, ?_, ?_, ?_, ?_, ?_, ?_, ?_, ?_, ?_, ?_, ?_, ?_, ?_, ?_, ?_, ?_, ?_, ?_, ?_, ?_, trivial⟩ ?_
        · refine stepE rfl fun sdn sa sw sE sd sk => ?_
          have h3 : sa.eval (.tmp 3) = .pointer (some ⟨g3, 0, none⟩) := sk.old 3 rfl
          exact Runs.load rfl h3 (load_part (hB3.ext sE) 0 (vs := [.slice (G) (ng) (cg), .slice (A) (n) (c), .int .i64 (q)]) rfl Try.underlying52 rfl (by kernel_rfl)) ⟨Ext.refl _, rfl⟩
        · refine stepE rfl fun sdn sa sw sE sd sk => ?_
          have h7 : sa.eval (.tmp 7) = .agg #[.slice (G) (ng) (cg), .slice (A) (n) (c), .int .i64 (q)] := sk.fact 0 7 rfl (sd 0 rfl)
          refine Runs.call (f := 93) (vs := [.agg #[.slice (G) (ng) (cg), .slice (A) (n) (c), .int .i64 (q)]]) rfl rfl rfl (by simp only [List.map_toArray, List.map_cons, List.map_nil, h7] <;> rfl) (ent93 _ _) ((rpolicy_any _ _ _ _ _ _ _ _ _ sw (rG.ext sE) (rW.ext sE)).mono ?_); rintro e w' ⟨rfl, hx⟩; exact ⟨_, rfl, hx, congrArg Value.bool (hpol)⟩
        · refine stepE rfl fun sdn sa sw sE sd sk => ?_
          have h8 : sa.eval (.tmp 8) = .bool (true) := sk.fact 1 8 rfl (sd 1 rfl)
          exact Runs.move rfl h8 ⟨Ext.refl _, rfl⟩
        · refine stepY (j := 2) (d := 9) (b := true) rfl rfl rfl (fun v w h => h) fun sdn sa sw sE sd sk => ?_
          have h4 : sa.eval (.tmp 4) = .pointer (some ⟨g3 + 1, 0, none⟩) := sk.old 4 rfl
          exact Runs.load rfl h4 (load_part (hB4.ext sE) 0 (vs := [.int .i64 (x), .slice (B) (nb) (d)]) rfl Try.underlying54 rfl (by kernel_rfl)) ⟨Ext.refl _, rfl⟩
        · refine stepY (j := 2) (d := 9) (b := true) rfl rfl rfl (fun v w h => h) fun sdn sa sw sE sd sk => ?_
          have h10 : sa.eval (.tmp 10) = .agg #[.int .i64 (x), .slice (B) (nb) (d)] := sk.fact 3 10 rfl (sd 3 rfl)
          refine Runs.call (f := 94) (vs := [.agg #[.int .i64 (x), .slice (B) (nb) (d)]]) rfl rfl rfl (by simp only [List.map_toArray, List.map_cons, List.map_nil, h10] <;> rfl) (ent94 _ _) ((rcright_any _ _ _ _ _ sw (rR.ext sE)).mono ?_); rintro e w' ⟨rfl, hx⟩; exact ⟨_, rfl, hx, congrArg Value.bool (hc)⟩
        · refine stepE rfl fun sdn sa sw sE sd sk => ?_
          have h9 : sa.eval (.tmp 9) = .bool (true) := sk.fact 2 9 rfl (sd 2 rfl)
          have h11 : sa.eval (.tmp 11) = .bool (true) := sk.fact 4 11 rfl (sd 4 rfl)
          exact Runs.pick rfl h9 ⟨Ext.refl _, by first | exact h11 | simpa using h11⟩
        · refine stepE rfl fun sdn sa sw sE sd sk => ?_
          have h12 : sa.eval (.tmp 12) = .bool (true) := sk.fact 5 12 rfl (sd 5 rfl)
          exact Runs.move rfl h12 ⟨Ext.refl _, rfl⟩
        · refine stepY (j := 6) (d := 13) (b := true) rfl rfl rfl (fun v w h => h) fun sdn sa sw sE sd sk => ?_
          have h5 : sa.eval (.tmp 5) = .pointer (some ⟨g3 + 1 + 1, 0, none⟩) := sk.old 5 rfl
          refine Runs.of_run (r := .pointer (some ⟨g3 + 1 + 1, 0, none⟩)) (w' := sw) ?_ ⟨Ext.refl _, rfl⟩
          unfold execOp
          simp only [h5]
          go_simp
        · refine stepY (j := 6) (d := 13) (b := true) rfl rfl rfl (fun v w h => h) fun sdn sa sw sE sd sk => ?_
          have h14 : sa.eval (.tmp 14) = .pointer (some ⟨g3 + 1 + 1, 0, none⟩) := sk.fact 7 14 rfl (sd 7 rfl)
          exact Runs.load rfl h14 (run_load1 Try.underlying3 rfl ((hB5.ext sE).cell (i := 0) rfl)) ⟨Ext.refl _, rfl⟩
        · refine stepY (j := 6) (d := 13) (b := true) rfl rfl rfl (fun v w h => h) fun sdn sa sw sE sd sk => ?_
          have h15 : sa.eval (.tmp 15) = .int .i64 (wn) := sk.fact 8 15 rfl (sd 8 rfl)
          exact Runs.bin rfl h15 rfl (by rfl) (bin_geq _ _ _ _) ⟨Ext.refl _, congrArg Value.bool (hw0)⟩
        · refine stepE rfl fun sdn sa sw sE sd sk => ?_
          have h13 : sa.eval (.tmp 13) = .bool (true) := sk.fact 6 13 rfl (sd 6 rfl)
          have h16 : sa.eval (.tmp 16) = .bool (false) := sk.fact 9 16 rfl (sd 9 rfl)
          exact Runs.pick rfl h13 ⟨Ext.refl _, by first | exact h16 | simpa using h16⟩
        · refine stepE rfl fun sdn sa sw sE sd sk => ?_
          have h17 : sa.eval (.tmp 17) = .bool (false) := sk.fact 10 17 rfl (sd 10 rfl)
          exact Runs.move rfl h17 ⟨Ext.refl _, rfl⟩
        · exact stepN (j := 11) (d := 18) (b := false) rfl rfl rfl (fun v w h => h) fun w => rfl
        · exact stepN (j := 11) (d := 18) (b := false) rfl rfl rfl (fun v w h => h) fun w => rfl
        · exact stepN (j := 11) (d := 18) (b := false) rfl rfl rfl (fun v w h => h) fun w => rfl
        · exact stepN (j := 11) (d := 18) (b := false) rfl rfl rfl (fun v w h => h) fun w => rfl
        · exact stepN (j := 11) (d := 18) (b := false) rfl rfl rfl (fun v w h => h) fun w => rfl
        · exact stepN (j := 11) (d := 18) (b := false) rfl rfl rfl (fun v w h => h) fun w => rfl
        · refine stepE rfl fun sdn sa sw sE sd sk => ?_
          have h18 : sa.eval (.tmp 18) = .bool (false) := sk.fact 11 18 rfl (sd 11 rfl)
          exact Runs.pick rfl h18 ⟨Ext.refl _, rfl⟩
        · refine stepE rfl fun sdn sa sw sE sd sk => ?_
          have h25 : sa.eval (.tmp 25) = .bool (false) := sk.fact 18 25 rfl (sd 18 rfl)
          exact Runs.move rfl h25 ⟨Ext.refl _, rfl⟩
        · exact stepN (j := 19) (d := 26) (b := false) rfl rfl rfl (fun v w h => h) fun w => rfl
        · exact stepN (j := 19) (d := 26) (b := false) rfl rfl rfl (fun v w h => h) fun w => rfl
        · exact stepN (j := 19) (d := 26) (b := false) rfl rfl rfl (fun v w h => h) fun w => rfl
        · exact stepN (j := 19) (d := 26) (b := false) rfl rfl rfl (fun v w h => h) fun w => rfl
        · exact stepN (j := 19) (d := 26) (b := false) rfl rfl rfl (fun v w h => h) fun w => rfl
        · exact stepN (j := 19) (d := 26) (b := false) rfl rfl rfl (fun v w h => h) fun w => rfl
        · exact stepN (j := 19) (d := 26) (b := false) rfl rfl rfl (fun v w h => h) fun w => rfl
        · exact stepN (j := 19) (d := 26) (b := false) rfl rfl rfl (fun v w h => h) fun w => rfl
        · exact stepN (j := 19) (d := 26) (b := false) rfl rfl rfl (fun v w h => h) fun w => rfl
        · exact stepN (j := 19) (d := 26) (b := false) rfl rfl rfl (fun v w h => h) fun w => rfl
        · exact stepN (j := 19) (d := 26) (b := false) rfl rfl rfl (fun v w h => h) fun w => rfl
        · refine stepE rfl fun sdn sa sw sE sd sk => ?_
          have h26 : sa.eval (.tmp 26) = .bool (false) := sk.fact 19 26 rfl (sd 19 rfl)
          exact Runs.pick rfl h26 ⟨Ext.refl _, rfl⟩
        intro vals W1 hE1 hv1
        have e0 : vals 0 = .agg #[.slice (G) (ng) (cg), .slice (A) (n) (c), .int .i64 (q)] := hv1 0 (by omega) 7 rfl
        have e1 : vals 1 = .bool (true) := hv1 1 (by omega) 8 rfl
        have e2 : vals 2 = .bool (true) := hv1 2 (by omega) 9 rfl
        have e3 : vals 3 = .agg #[.int .i64 (x), .slice (B) (nb) (d)] := hv1 3 (by omega) 10 rfl
        have e4 : vals 4 = .bool (true) := hv1 4 (by omega) 11 rfl
        have e5 : vals 5 = .bool (true) := hv1 5 (by omega) 12 rfl
        have e6 : vals 6 = .bool (true) := hv1 6 (by omega) 13 rfl
        have e7 : vals 7 = .pointer (some ⟨g3 + 1 + 1, 0, none⟩) := hv1 7 (by omega) 14 rfl
        have e8 : vals 8 = .int .i64 (wn) := hv1 8 (by omega) 15 rfl
        have e9 : vals 9 = .bool (false) := hv1 9 (by omega) 16 rfl
        have e10 : vals 10 = .bool (false) := hv1 10 (by omega) 17 rfl
        have e11 : vals 11 = .bool (false) := hv1 11 (by omega) 18 rfl
        have e18 : vals 18 = .bool (false) := hv1 18 (by omega) 25 rfl
        have e19 : vals 19 = .bool (false) := hv1 19 (by omega) 26 rfl
        have e31 : vals 31 = .bool (false) := hv1 31 (by omega) 38 rfl
        simp only [putAll, Act.put, List.take_succ_cons, List.take_zero, List.drop_succ_cons, List.drop_zero, List.drop_nil, List.take_nil, Nat.reduceAdd, List.setIfInBounds_toArray, List.set_cons_succ, List.set_cons_zero, e0, e1, e2, e3, e4, e5, e6, e7, e8, e9, e10, e11, e18, e19, e31]
        clear hv1 e0 e1 e2 e3 e4 e5 e6 e7 e8 e9 e10 e11 e18 e19 e31
        clear hpol hc hw0
        go_wp2_with fail
        go_ret
        exact ⟨by rw [Hv.out]; rfl, hEa.trans hE1⟩
end Go.Proofs.Ytkndgpjamijbbaa
