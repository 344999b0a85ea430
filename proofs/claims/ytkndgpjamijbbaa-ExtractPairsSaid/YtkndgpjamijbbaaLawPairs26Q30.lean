/-
  ExtractPairs, walked.
-/
import Derived.Test.YtkndgpjamijbbaaLawPairs26Q29
namespace Go.Proofs.Ytkndgpjamijbbaa
set_option maxRecDepth 100000
open Go Go.RowKit
def P26N (w1 : World) (LL : List (List UInt8)) (a b s : Value) (wr : World) : Prop := s = .bool false ∧ a = .slice none 0 0 ∧ b = .slice none 0 0
def P26Y (w1 : World) (LL : List (List UInt8)) (a b s : Value) (wr : World) : Prop := s = .bool true ∧ (pairL LL).isSome = true ∧ ∃ A n c B m d, a = .slice A n c ∧ RB w1 A n c (pairA LL) ∧ b = .slice B m d ∧ RB w1 B m d (pairB LL)
def P26I (w1 : World) (LL : List (List UInt8)) (a b s i : Value) (wr : World) : Prop :=
  ∃ p : Nat, p ≤ LL.length ∧ i = .int .i64 p ∧ Ext w1 wr ∧ ((P26N w1 LL a b s wr ∧ noneTo LL p 0) ∨ P26Y w1 LL a b s wr)
def P26J (w1 : World) (LL : List (List UInt8)) (p : Nat) (a b s i : Value) (wr : World) : Prop :=
  ∃ k : Nat, k ≤ p ∧ i = .int .i64 k ∧ Ext w1 wr ∧ ((P26N w1 LL a b s wr ∧ noneTo LL p k) ∨ P26Y w1 LL a b s wr)
set_option maxHeartbeats 16000000 in
theorem pairs26_any (A : Option Addr) (n c : Nat) (Ls : List (List UInt8)) (w : World) (hr : RBB w A n c Ls) :
    Calls Try.prog 4 #[.slice A n c] w fun e w' => e = .returned (.bool true) ∧ Ext w w' := by
  have hf := few_any A n c 20 60 Ls w hr (by omega) (by omega)
  have e20 : ((20 : Nat) : Int) = 20 := rfl
  have e60 : ((60 : Nat) : Int) = 60 := rfl
  rw [e20, e60] at hf
  have Hf := Lib.hid hf
  have hq : (fewL 60 (Ls.take 20)).length = min n 20 := by rw [fewL_len, List.length_take, hr.len]; omega
  have hle := fewL_le 60 (Ls.take 20)
  have Hle := Lib.hid hle
  have hq20 : min n 20 ≤ 20 := by omega
  go_enter Try.func4, Try.ntmps4
  clear hf hle e20 e60
  go_wp2_with fail
  refine Hf.out.mono ?_
  rintro e w0 ⟨P, d, rfl, oL, hE0⟩
  clear Hf
  generalize fewL 60 (Ls.take 20) = LL at *
  generalize min n 20 = q at *
  have rL := oL.rbb
  have Hq := Lib.hid hq
  clear hr oL hq
  have hpr := pair_any P q d LL w0 rL (by omega) (fun a ha => Nat.le_trans (Hle.out a ha) (by omega))
  have Hpr := Lib.hid hpr
  clear hpr
  go_wp2_with fail
  refine Hpr.out.mono ?_
  rintro e w1 ⟨P1, np, cp, Q1, nq, cq, rfl, rP, rQ, hE1⟩
  replace rL := rL.ext hE1
  replace hE1 := hE0.trans hE1
  have hroom := rL.room
  have hcap := rL.cap
  unfold maxLen at hcap
  clear Hpr hE0
  go_wp2_with fail
  go_loopw [6, 7, 8, 9] (fun a b s i wr => P26I w1 LL a b s i wr) (fun _ _ s i _ => (match s with | .bool true => 0 | _ => 1) + (q - (intOf i).toNat))
  case atStart => exact ⟨0, by omega, rfl, Ext.refl _, .inl ⟨⟨rfl, rfl, rfl⟩, noneTo_zero _⟩⟩
  case round =>
    obtain ⟨p, hp, rfl, hEr, hcase⟩ := hrel
    rw [Hq.out] at hp
    rcases hcase with ⟨⟨rfl, rfl, rfl⟩, hno⟩ | ⟨rfl, hsome, A6, n6, c6, B6, m6, d6, rfl, rA, rfl, rB⟩
    · have Hno := Lib.hid hno
      clear hno
      by_cases hlt : p < q
      · have hpn : (p : Int) < (q : Int) := by omega
        go_wp2_with fail
        obtain ⟨wo, rfl⟩ : ∃ wo, wo = wr := ⟨_, rfl⟩
        go_loopw [6, 7, 8, 10] (fun a b s i wr => P26J w1 LL p a b s i wr) (fun _ _ s i _ => (match s with | .bool true => 0 | _ => 1) + (p - (intOf i).toNat))
        case atStart => exact ⟨0, by omega, rfl, hEr, .inl ⟨⟨rfl, rfl, rfl⟩, Hno.out⟩⟩
        case round =>
          clear hEr
          obtain ⟨k, hk, rfl, hEr, hcase⟩ := hrel
          rcases hcase with ⟨⟨rfl, rfl, rfl⟩, hno⟩ | ⟨rfl, hsome, A6, n6, c6, B6, m6, d6, rfl, rA, rfl, rB⟩
          · have Hno2 := Lib.hid hno
            clear hno
            by_cases hlk : k < p
            · have hki : (k : Int) < (p : Int) := by omega
              obtain ⟨ad, rfl, hc⟩ := rL.cells (by omega)
              obtain ⟨E, z, y, hcE1, rE1⟩ := hc p (by omega)
              obtain ⟨F, zf, yf, hcF1, rF1⟩ := hc k (by omega)
              have hcE := hEr.cell hcE1
              have hcF := hEr.cell hcF1
              have rE := rE1.ext hEr
              have rF := rF1.ext hEr
              have hz1 : z ≤ 60 := by rw [← rE.len]; exact Hle.out _ (lb_mem (by rw [Hq.out]; exact hlt))
              have hz2 : zf ≤ 60 := by rw [← rF.len]; exact Hle.out _ (lb_mem (by rw [Hq.out]; omega))
              have hcl : clashB LL (p, k) = (decide (sha (lb LL k) = sha (lb LL p)) && decide (lb LL k ≠ lb LL p)) := rfl
              have Hcl := Lib.hid hcl
              have RL := Lib.hid rL
              clear hc hcl rL
              have rL := RL.out.ext hEr
              go_upto_region 11 with (fail)
              by_cases heq : lb LL p = lb LL k
              · have hcf : clashB LL (p, k) = false := by rw [Hcl.out]; simp [heq]
                have Hcf := Lib.hid hcf
                clear hcf
                refine par_ext (n := 26) (by kernel_rfl) [.is (.slice ((some ad)) (q) (d)), .is (.int .i64 (((p : Nat) : Int))), .is (.pointer (some (ad.add p))), .is (.slice (E) (z) (y)), .is (.string (str (lb LL p))), .is (.slice ((some ad)) (q) (d)), .is (.int .i64 (((k : Nat) : Int))), .is (.pointer (some (ad.add k))), .is (.slice (F) (zf) (yf)), .is (.string (str (lb LL k))), .is (.bool (false)), .is (.bool (false)), .is undef, .is undef, .is undef, .is undef, .is undef, .is undef, .is undef, .is undef, .is undef, .is undef, .is undef, .is undef, .is undef, .is (.bool (false))] rfl ⟨?_, ?_, ?_, ?_, ?_, ?_, ?_, ?_, ?_, ?_, ?_, ?_, ?_, ?_, ?_, ?_, ?_, ?_, ?_, ?_, ?_, ?_, ?_, ?_, ?_, ?_, trivial⟩ ?_
                · refine stepE rfl fun sdn sa sw sE sd sk => ?_
                  have h0 : sa.eval (.tmp 0) = .slice ((some ad)) (q) (d) := sk.old 0 rfl
                  exact Runs.move rfl h0 ⟨Ext.refl _, rfl⟩
                · refine stepE rfl fun sdn sa sw sE sd sk => ?_
                  have h9 : sa.eval (.tmp 9) = .int .i64 (((p : Nat) : Int)) := sk.old 9 rfl
                  exact Runs.move rfl h9 ⟨Ext.refl _, rfl⟩
                · refine stepE rfl fun sdn sa sw sE sd sk => ?_
                  have h38 : sa.eval (.tmp 38) = .slice ((some ad)) (q) (d) := sk.fact 0 38 rfl (sd 0 rfl)
                  have h39 : sa.eval (.tmp 39) = .int .i64 (((p : Nat) : Int)) := sk.fact 1 39 rfl (sd 1 rfl)
                  exact Runs.idx rfl h38 h39 (run_idx_sl1 Try.underlying23 infZZ_eq infZZ_size p (by first | rfl | omega) (by omega)) ⟨Ext.refl _, rfl⟩
                · refine stepE rfl fun sdn sa sw sE sd sk => ?_
                  have h40 : sa.eval (.tmp 40) = .pointer (some (ad.add p)) := sk.fact 2 40 rfl (sd 2 rfl)
                  exact Runs.load rfl h40 (run_load1 Try.underlying22 rfl (sE.cell hcE)) ⟨Ext.refl _, rfl⟩
                · refine stepE rfl fun sdn sa sw sE sd sk => ?_
                  have h41 : sa.eval (.tmp 41) = .slice (E) (z) (y) := sk.fact 3 41 rfl (sd 3 rfl)
                  exact Runs.conv rfl h41 (run_str (rE.ext sE)) ⟨Ext.refl _, rfl⟩
                · refine stepE rfl fun sdn sa sw sE sd sk => ?_
                  have h0 : sa.eval (.tmp 0) = .slice ((some ad)) (q) (d) := sk.old 0 rfl
                  exact Runs.move rfl h0 ⟨Ext.refl _, rfl⟩
                · refine stepE rfl fun sdn sa sw sE sd sk => ?_
                  have h10 : sa.eval (.tmp 10) = .int .i64 (((k : Nat) : Int)) := sk.old 10 rfl
                  exact Runs.move rfl h10 ⟨Ext.refl _, rfl⟩
                · refine stepE rfl fun sdn sa sw sE sd sk => ?_
                  have h43 : sa.eval (.tmp 43) = .slice ((some ad)) (q) (d) := sk.fact 5 43 rfl (sd 5 rfl)
                  have h44 : sa.eval (.tmp 44) = .int .i64 (((k : Nat) : Int)) := sk.fact 6 44 rfl (sd 6 rfl)
                  exact Runs.idx rfl h43 h44 (run_idx_sl1 Try.underlying23 infZZ_eq infZZ_size k (by first | rfl | omega) (by omega)) ⟨Ext.refl _, rfl⟩
                · refine stepE rfl fun sdn sa sw sE sd sk => ?_
                  have h45 : sa.eval (.tmp 45) = .pointer (some (ad.add k)) := sk.fact 7 45 rfl (sd 7 rfl)
                  exact Runs.load rfl h45 (run_load1 Try.underlying22 rfl (sE.cell hcF)) ⟨Ext.refl _, rfl⟩
                · refine stepE rfl fun sdn sa sw sE sd sk => ?_
                  have h46 : sa.eval (.tmp 46) = .slice (F) (zf) (yf) := sk.fact 8 46 rfl (sd 8 rfl)
                  exact Runs.conv rfl h46 (run_str (rF.ext sE)) ⟨Ext.refl _, rfl⟩
                · refine stepE rfl fun sdn sa sw sE sd sk => ?_
                  have h42 : sa.eval (.tmp 42) = .string (str (lb LL p)) := sk.fact 4 42 rfl (sd 4 rfl)
                  have h47 : sa.eval (.tmp 47) = .string (str (lb LL k)) := sk.fact 9 47 rfl (sd 9 rfl)
                  exact Runs.bin rfl h42 h47 (by rfl) (bin_nes _ _ _) ⟨Ext.refl _, congrArg Value.bool (by simp [heq])⟩
                · refine stepE rfl fun sdn sa sw sE sd sk => ?_
                  have h48 : sa.eval (.tmp 48) = .bool (false) := sk.fact 10 48 rfl (sd 10 rfl)
                  exact Runs.move rfl h48 ⟨Ext.refl _, rfl⟩
                · exact stepN (j := 11) (d := 49) (b := false) rfl rfl rfl (fun v w h => h) fun w => rfl
                · exact stepN (j := 11) (d := 49) (b := false) rfl rfl rfl (fun v w h => h) fun w => rfl
                · exact stepN (j := 11) (d := 49) (b := false) rfl rfl rfl (fun v w h => h) fun w => rfl
                · exact stepN (j := 11) (d := 49) (b := false) rfl rfl rfl (fun v w h => h) fun w => rfl
                · exact stepN (j := 11) (d := 49) (b := false) rfl rfl rfl (fun v w h => h) fun w => rfl
                · exact stepN (j := 11) (d := 49) (b := false) rfl rfl rfl (fun v w h => h) fun w => rfl
                · exact stepN (j := 11) (d := 49) (b := false) rfl rfl rfl (fun v w h => h) fun w => rfl
                · exact stepN (j := 11) (d := 49) (b := false) rfl rfl rfl (fun v w h => h) fun w => rfl
                · exact stepN (j := 11) (d := 49) (b := false) rfl rfl rfl (fun v w h => h) fun w => rfl
                · exact stepN (j := 11) (d := 49) (b := false) rfl rfl rfl (fun v w h => h) fun w => rfl
                · exact stepN (j := 11) (d := 49) (b := false) rfl rfl rfl (fun v w h => h) fun w => rfl
                · exact stepN (j := 11) (d := 49) (b := false) rfl rfl rfl (fun v w h => h) fun w => rfl
                · exact stepN (j := 11) (d := 49) (b := false) rfl rfl rfl (fun v w h => h) fun w => rfl
                · refine stepE rfl fun sdn sa sw sE sd sk => ?_
                  have h49 : sa.eval (.tmp 49) = .bool (false) := sk.fact 11 49 rfl (sd 11 rfl)
                  exact Runs.pick rfl h49 ⟨Ext.refl _, rfl⟩
                intro vals W11 hE11 hv11
                have e0 : vals 0 = .slice ((some ad)) (q) (d) := hv11 0 (by omega) 38 rfl
                have e1 : vals 1 = .int .i64 (((p : Nat) : Int)) := hv11 1 (by omega) 39 rfl
                have e2 : vals 2 = .pointer (some (ad.add p)) := hv11 2 (by omega) 40 rfl
                have e3 : vals 3 = .slice (E) (z) (y) := hv11 3 (by omega) 41 rfl
                have e4 : vals 4 = .string (str (lb LL p)) := hv11 4 (by omega) 42 rfl
                have e5 : vals 5 = .slice ((some ad)) (q) (d) := hv11 5 (by omega) 43 rfl
                have e6 : vals 6 = .int .i64 (((k : Nat) : Int)) := hv11 6 (by omega) 44 rfl
                have e7 : vals 7 = .pointer (some (ad.add k)) := hv11 7 (by omega) 45 rfl
                have e8 : vals 8 = .slice (F) (zf) (yf) := hv11 8 (by omega) 46 rfl
                have e9 : vals 9 = .string (str (lb LL k)) := hv11 9 (by omega) 47 rfl
                have e10 : vals 10 = .bool (false) := hv11 10 (by omega) 48 rfl
                have e11 : vals 11 = .bool (false) := hv11 11 (by omega) 49 rfl
                have e25 : vals 25 = .bool (false) := hv11 25 (by omega) 63 rfl
                simp only [putAll, Act.put, List.take_succ_cons, List.take_zero, List.drop_succ_cons, List.drop_zero, List.drop_nil, List.take_nil, Nat.reduceAdd, List.setIfInBounds_toArray, List.set_cons_succ, List.set_cons_zero, e0, e1, e2, e3, e4, e5, e6, e7, e8, e9, e10, e11, e25]
                clear hv11 e0 e1 e2 e3 e4 e5 e6 e7 e8 e9 e10 e11 e25
                clear heq rL
                have rL := RL.out
                go_wp2_with fail
                go_roundw
                case rel => exact ⟨k + 1, by omega, by go_num, hEr.trans hE11, .inl ⟨⟨rfl, rfl, rfl⟩, noneTo_step Hno2.out Hcf.out⟩⟩
                case measure => simp [intOf]; omega
              · by_cases hse : sha (lb LL p) = sha (lb LL k)
                · have hct : clashB LL (p, k) = true := by rw [Hcl.out, decide_eq_true hse.symm, decide_eq_true (show lb LL k ≠ lb LL p from fun e => heq e.symm)]; rfl
                  have Hct := Lib.hid (found_at Hq.out hlt hlk Hno2.out hct)
                  clear hct
                  refine par_ext (n := 26) (by kernel_rfl) [.is (.slice ((some ad)) (q) (d)), .is (.int .i64 (((p : Nat) : Int))), .is (.pointer (some (ad.add p))), .is (.slice (E) (z) (y)), .is (.string (str (lb LL p))), .is (.slice ((some ad)) (q) (d)), .is (.int .i64 (((k : Nat) : Int))), .is (.pointer (some (ad.add k))), .is (.slice (F) (zf) (yf)), .is (.string (str (lb LL k))), .is (.bool (true)), .is (.bool (true)), .is (.slice ((some ad)) (q) (d)), .is (.int .i64 (((p : Nat) : Int))), .is (.pointer (some (ad.add p))), .is (.slice (E) (z) (y)), .rk (32) (sha (lb LL p)), .is (.string (str (sha (lb LL p)))), .is (.slice ((some ad)) (q) (d)), .is (.int .i64 (((k : Nat) : Int))), .is (.pointer (some (ad.add k))), .is (.slice (F) (zf) (yf)), .rk (32) (sha (lb LL k)), .is (.string (str (sha (lb LL k)))), .is (.bool (true)), .is (.bool (true))] rfl ⟨?_, ?_, ?_, ?_, ?_, ?_, ?_, ?_, ?_, ?_, ?_, ?_, ?_, ?_, ?_, ?_, ?_, ?_, ?_, ?_, ?_, ?_, ?_, ?_, ?_, ?_, trivial⟩ ?_
                  · refine stepE rfl fun sdn sa sw sE sd sk => ?_
                    have h0 : sa.eval (.tmp 0) = .slice ((some ad)) (q) (d) := sk.old 0 rfl
                    exact Runs.move rfl h0 ⟨Ext.refl _, rfl⟩
                  · refine stepE rfl fun sdn sa sw sE sd sk => ?_
                    have h9 : sa.eval (.tmp 9) = .int .i64 (((p : Nat) : Int)) := sk.old 9 rfl
                    exact Runs.move rfl h9 ⟨Ext.refl _, rfl⟩
                  · refine stepE rfl fun sdn sa sw sE sd sk => ?_
                    have h38 : sa.eval (.tmp 38) = .slice ((some ad)) (q) (d) := sk.fact 0 38 rfl (sd 0 rfl)
                    have h39 : sa.eval (.tmp 39) = .int .i64 (((p : Nat) : Int)) := sk.fact 1 39 rfl (sd 1 rfl)
                    exact Runs.idx rfl h38 h39 (run_idx_sl1 Try.underlying23 infZZ_eq infZZ_size p (by first | rfl | omega) (by omega)) ⟨Ext.refl _, rfl⟩
                  · refine stepE rfl fun sdn sa sw sE sd sk => ?_
                    have h40 : sa.eval (.tmp 40) = .pointer (some (ad.add p)) := sk.fact 2 40 rfl (sd 2 rfl)
                    exact Runs.load rfl h40 (run_load1 Try.underlying22 rfl (sE.cell hcE)) ⟨Ext.refl _, rfl⟩
                  · refine stepE rfl fun sdn sa sw sE sd sk => ?_
                    have h41 : sa.eval (.tmp 41) = .slice (E) (z) (y) := sk.fact 3 41 rfl (sd 3 rfl)
                    exact Runs.conv rfl h41 (run_str (rE.ext sE)) ⟨Ext.refl _, rfl⟩
                  · refine stepE rfl fun sdn sa sw sE sd sk => ?_
                    have h0 : sa.eval (.tmp 0) = .slice ((some ad)) (q) (d) := sk.old 0 rfl
                    exact Runs.move rfl h0 ⟨Ext.refl _, rfl⟩
                  · refine stepE rfl fun sdn sa sw sE sd sk => ?_
                    have h10 : sa.eval (.tmp 10) = .int .i64 (((k : Nat) : Int)) := sk.old 10 rfl
                    exact Runs.move rfl h10 ⟨Ext.refl _, rfl⟩
                  · refine stepE rfl fun sdn sa sw sE sd sk => ?_
                    have h43 : sa.eval (.tmp 43) = .slice ((some ad)) (q) (d) := sk.fact 5 43 rfl (sd 5 rfl)
                    have h44 : sa.eval (.tmp 44) = .int .i64 (((k : Nat) : Int)) := sk.fact 6 44 rfl (sd 6 rfl)
                    exact Runs.idx rfl h43 h44 (run_idx_sl1 Try.underlying23 infZZ_eq infZZ_size k (by first | rfl | omega) (by omega)) ⟨Ext.refl _, rfl⟩
                  · refine stepE rfl fun sdn sa sw sE sd sk => ?_
                    have h45 : sa.eval (.tmp 45) = .pointer (some (ad.add k)) := sk.fact 7 45 rfl (sd 7 rfl)
                    exact Runs.load rfl h45 (run_load1 Try.underlying22 rfl (sE.cell hcF)) ⟨Ext.refl _, rfl⟩
                  · refine stepE rfl fun sdn sa sw sE sd sk => ?_
                    have h46 : sa.eval (.tmp 46) = .slice (F) (zf) (yf) := sk.fact 8 46 rfl (sd 8 rfl)
                    exact Runs.conv rfl h46 (run_str (rF.ext sE)) ⟨Ext.refl _, rfl⟩
                  · refine stepE rfl fun sdn sa sw sE sd sk => ?_
                    have h42 : sa.eval (.tmp 42) = .string (str (lb LL p)) := sk.fact 4 42 rfl (sd 4 rfl)
                    have h47 : sa.eval (.tmp 47) = .string (str (lb LL k)) := sk.fact 9 47 rfl (sd 9 rfl)
                    exact Runs.bin rfl h42 h47 (by rfl) (bin_nes _ _ _) ⟨Ext.refl _, congrArg Value.bool (by simp [heq])⟩
                  · refine stepE rfl fun sdn sa sw sE sd sk => ?_
                    have h48 : sa.eval (.tmp 48) = .bool (true) := sk.fact 10 48 rfl (sd 10 rfl)
                    exact Runs.move rfl h48 ⟨Ext.refl _, rfl⟩
                  · refine stepY (j := 11) (d := 49) (b := true) rfl rfl rfl (fun v w h => h) fun sdn sa sw sE sd sk => ?_
                    have h0 : sa.eval (.tmp 0) = .slice ((some ad)) (q) (d) := sk.old 0 rfl
                    exact Runs.move rfl h0 ⟨Ext.refl _, rfl⟩
                  · refine stepY (j := 11) (d := 49) (b := true) rfl rfl rfl (fun v w h => h) fun sdn sa sw sE sd sk => ?_
                    have h9 : sa.eval (.tmp 9) = .int .i64 (((p : Nat) : Int)) := sk.old 9 rfl
                    exact Runs.move rfl h9 ⟨Ext.refl _, rfl⟩
                  · refine stepY (j := 11) (d := 49) (b := true) rfl rfl rfl (fun v w h => h) fun sdn sa sw sE sd sk => ?_
                    have h50 : sa.eval (.tmp 50) = .slice ((some ad)) (q) (d) := sk.fact 12 50 rfl (sd 12 rfl)
                    have h51 : sa.eval (.tmp 51) = .int .i64 (((p : Nat) : Int)) := sk.fact 13 51 rfl (sd 13 rfl)
                    exact Runs.idx rfl h50 h51 (run_idx_sl1 Try.underlying23 infZZ_eq infZZ_size p (by first | rfl | omega) (by omega)) ⟨Ext.refl _, rfl⟩
                  · refine stepY (j := 11) (d := 49) (b := true) rfl rfl rfl (fun v w h => h) fun sdn sa sw sE sd sk => ?_
                    have h52 : sa.eval (.tmp 52) = .pointer (some (ad.add p)) := sk.fact 14 52 rfl (sd 14 rfl)
                    exact Runs.load rfl h52 (run_load1 Try.underlying22 rfl (sE.cell hcE)) ⟨Ext.refl _, rfl⟩
                  · refine stepY (j := 11) (d := 49) (b := true) rfl rfl rfl (fun v w h => h) fun sdn sa sw sE sd sk => ?_
                    have h53 : sa.eval (.tmp 53) = .slice (E) (z) (y) := sk.fact 15 53 rfl (sd 15 rfl)
                    refine Runs.call (f := 17) (vs := [.slice (E) (z) (y)]) rfl rfl rfl (by simp only [List.map_toArray, List.map_cons, List.map_nil, h53] <;> rfl) (ent17 _ _) ((sum_any _ _ _ _ sw (rE.ext sE) (by omega)).mono ?_); rintro e w' ⟨A', c', rfl, own, hx⟩; exact ⟨_, rfl, hx, A', c', rfl, own.rb⟩
                  · refine stepY (j := 11) (d := 49) (b := true) rfl rfl rfl (fun v w h => h) fun sdn sa sw sE sd sk => ?_
                    obtain ⟨A54, c54, h54, r54⟩ := sk.fact 16 54 rfl (sd 16 rfl)
                    exact Runs.conv rfl h54 (run_str r54) ⟨Ext.refl _, rfl⟩
                  · refine stepY (j := 11) (d := 49) (b := true) rfl rfl rfl (fun v w h => h) fun sdn sa sw sE sd sk => ?_
                    have h0 : sa.eval (.tmp 0) = .slice ((some ad)) (q) (d) := sk.old 0 rfl
                    exact Runs.move rfl h0 ⟨Ext.refl _, rfl⟩
                  · refine stepY (j := 11) (d := 49) (b := true) rfl rfl rfl (fun v w h => h) fun sdn sa sw sE sd sk => ?_
                    have h10 : sa.eval (.tmp 10) = .int .i64 (((k : Nat) : Int)) := sk.old 10 rfl
                    exact Runs.move rfl h10 ⟨Ext.refl _, rfl⟩
                  · refine stepY (j := 11) (d := 49) (b := true) rfl rfl rfl (fun v w h => h) fun sdn sa sw sE sd sk => ?_
                    have h56 : sa.eval (.tmp 56) = .slice ((some ad)) (q) (d) := sk.fact 18 56 rfl (sd 18 rfl)
                    have h57 : sa.eval (.tmp 57) = .int .i64 (((k : Nat) : Int)) := sk.fact 19 57 rfl (sd 19 rfl)
                    exact Runs.idx rfl h56 h57 (run_idx_sl1 Try.underlying23 infZZ_eq infZZ_size k (by first | rfl | omega) (by omega)) ⟨Ext.refl _, rfl⟩
                  · refine stepY (j := 11) (d := 49) (b := true) rfl rfl rfl (fun v w h => h) fun sdn sa sw sE sd sk => ?_
                    have h58 : sa.eval (.tmp 58) = .pointer (some (ad.add k)) := sk.fact 20 58 rfl (sd 20 rfl)
                    exact Runs.load rfl h58 (run_load1 Try.underlying22 rfl (sE.cell hcF)) ⟨Ext.refl _, rfl⟩
                  · refine stepY (j := 11) (d := 49) (b := true) rfl rfl rfl (fun v w h => h) fun sdn sa sw sE sd sk => ?_
                    have h59 : sa.eval (.tmp 59) = .slice (F) (zf) (yf) := sk.fact 21 59 rfl (sd 21 rfl)
                    refine Runs.call (f := 17) (vs := [.slice (F) (zf) (yf)]) rfl rfl rfl (by simp only [List.map_toArray, List.map_cons, List.map_nil, h59] <;> rfl) (ent17 _ _) ((sum_any _ _ _ _ sw (rF.ext sE) (by omega)).mono ?_); rintro e w' ⟨A', c', rfl, own, hx⟩; exact ⟨_, rfl, hx, A', c', rfl, own.rb⟩
                  · refine stepY (j := 11) (d := 49) (b := true) rfl rfl rfl (fun v w h => h) fun sdn sa sw sE sd sk => ?_
                    obtain ⟨A60, c60, h60, r60⟩ := sk.fact 22 60 rfl (sd 22 rfl)
                    exact Runs.conv rfl h60 (run_str r60) ⟨Ext.refl _, rfl⟩
                  · refine stepY (j := 11) (d := 49) (b := true) rfl rfl rfl (fun v w h => h) fun sdn sa sw sE sd sk => ?_
                    have h55 : sa.eval (.tmp 55) = .string (str (sha (lb LL p))) := sk.fact 17 55 rfl (sd 17 rfl)
                    have h61 : sa.eval (.tmp 61) = .string (str (sha (lb LL k))) := sk.fact 23 61 rfl (sd 23 rfl)
                    exact Runs.bin rfl h55 h61 (by rfl) (bin_eqs _ _ _) ⟨Ext.refl _, congrArg Value.bool (by simp [hse])⟩
                  · refine stepE rfl fun sdn sa sw sE sd sk => ?_
                    have h49 : sa.eval (.tmp 49) = .bool (true) := sk.fact 11 49 rfl (sd 11 rfl)
                    have h62 : sa.eval (.tmp 62) = .bool (true) := sk.fact 24 62 rfl (sd 24 rfl)
                    exact Runs.pick rfl h49 ⟨Ext.refl _, by first | exact h62 | simpa using h62⟩
                  intro vals W11 hE11 hv11
                  have e0 : vals 0 = .slice ((some ad)) (q) (d) := hv11 0 (by omega) 38 rfl
                  have e1 : vals 1 = .int .i64 (((p : Nat) : Int)) := hv11 1 (by omega) 39 rfl
                  have e2 : vals 2 = .pointer (some (ad.add p)) := hv11 2 (by omega) 40 rfl
                  have e3 : vals 3 = .slice (E) (z) (y) := hv11 3 (by omega) 41 rfl
                  have e4 : vals 4 = .string (str (lb LL p)) := hv11 4 (by omega) 42 rfl
                  have e5 : vals 5 = .slice ((some ad)) (q) (d) := hv11 5 (by omega) 43 rfl
                  have e6 : vals 6 = .int .i64 (((k : Nat) : Int)) := hv11 6 (by omega) 44 rfl
                  have e7 : vals 7 = .pointer (some (ad.add k)) := hv11 7 (by omega) 45 rfl
                  have e8 : vals 8 = .slice (F) (zf) (yf) := hv11 8 (by omega) 46 rfl
                  have e9 : vals 9 = .string (str (lb LL k)) := hv11 9 (by omega) 47 rfl
                  have e10 : vals 10 = .bool (true) := hv11 10 (by omega) 48 rfl
                  have e11 : vals 11 = .bool (true) := hv11 11 (by omega) 49 rfl
                  have e12 : vals 12 = .slice ((some ad)) (q) (d) := hv11 12 (by omega) 50 rfl
                  have e13 : vals 13 = .int .i64 (((p : Nat) : Int)) := hv11 13 (by omega) 51 rfl
                  have e14 : vals 14 = .pointer (some (ad.add p)) := hv11 14 (by omega) 52 rfl
                  have e15 : vals 15 = .slice (E) (z) (y) := hv11 15 (by omega) 53 rfl
                  obtain ⟨A54, c54, e16, r54⟩ := hv11 16 (by omega) 54 rfl
                  have e17 : vals 17 = .string (str (sha (lb LL p))) := hv11 17 (by omega) 55 rfl
                  have e18 : vals 18 = .slice ((some ad)) (q) (d) := hv11 18 (by omega) 56 rfl
                  have e19 : vals 19 = .int .i64 (((k : Nat) : Int)) := hv11 19 (by omega) 57 rfl
                  have e20 : vals 20 = .pointer (some (ad.add k)) := hv11 20 (by omega) 58 rfl
                  have e21 : vals 21 = .slice (F) (zf) (yf) := hv11 21 (by omega) 59 rfl
                  obtain ⟨A60, c60, e22, r60⟩ := hv11 22 (by omega) 60 rfl
                  have e23 : vals 23 = .string (str (sha (lb LL k))) := hv11 23 (by omega) 61 rfl
                  have e24 : vals 24 = .bool (true) := hv11 24 (by omega) 62 rfl
                  have e25 : vals 25 = .bool (true) := hv11 25 (by omega) 63 rfl
                  simp only [putAll, Act.put, List.take_succ_cons, List.take_zero, List.drop_succ_cons, List.drop_zero, List.drop_nil, List.take_nil, Nat.reduceAdd, List.setIfInBounds_toArray, List.set_cons_succ, List.set_cons_zero, e0, e1, e2, e3, e4, e5, e6, e7, e8, e9, e10, e11, e12, e13, e14, e15, e16, e17, e18, e19, e20, e21, e22, e23, e24, e25]
                  clear hv11 e0 e1 e2 e3 e4 e5 e6 e7 e8 e9 e10 e11 e12 e13 e14 e15 e16 e17 e18 e19 e20 e21 e22 e23 e24 e25
                  clear heq hse
                  replace hcE := hE11.cell hcE
                  replace hcF := hE11.cell hcF
                  replace rE := rE.ext hE11
                  replace rF := rF.ext hE11
                  replace rL := rL.ext hE11
                  go_upto_region 12 with (fail)
                  refine par_ext (n := 11) (by kernel_rfl) [.is (.slice ((some ad)) (q) (d)), .is (.int .i64 (((k : Nat) : Int))), .is (.pointer (some (ad.add k))), .is (.slice (F) (zf) (yf)), .is (.slice ((some ad)) (q) (d)), .is (.int .i64 (((p : Nat) : Int))), .is (.pointer (some (ad.add p))), .is (.slice (E) (z) (y)), .is (.slice (F) (zf) (yf)), .is (.slice (E) (z) (y)), .is (.bool (true))] rfl ⟨?_, ?_, ?_, ?_, ?_, ?_, ?_, ?_, ?_, ?_, ?_, trivial⟩ ?_
                  · refine stepE rfl fun sdn sa sw sE sd sk => ?_
                    have h0 : sa.eval (.tmp 0) = .slice ((some ad)) (q) (d) := sk.old 0 rfl
                    exact Runs.move rfl h0 ⟨Ext.refl _, rfl⟩
                  · refine stepE rfl fun sdn sa sw sE sd sk => ?_
                    have h10 : sa.eval (.tmp 10) = .int .i64 (((k : Nat) : Int)) := sk.old 10 rfl
                    exact Runs.move rfl h10 ⟨Ext.refl _, rfl⟩
                  · refine stepE rfl fun sdn sa sw sE sd sk => ?_
                    have h64 : sa.eval (.tmp 64) = .slice ((some ad)) (q) (d) := sk.fact 0 64 rfl (sd 0 rfl)
                    have h65 : sa.eval (.tmp 65) = .int .i64 (((k : Nat) : Int)) := sk.fact 1 65 rfl (sd 1 rfl)
                    exact Runs.idx rfl h64 h65 (run_idx_sl1 Try.underlying23 infZZ_eq infZZ_size k (by first | rfl | omega) (by omega)) ⟨Ext.refl _, rfl⟩
                  · refine stepE rfl fun sdn sa sw sE sd sk => ?_
                    have h66 : sa.eval (.tmp 66) = .pointer (some (ad.add k)) := sk.fact 2 66 rfl (sd 2 rfl)
                    exact Runs.load rfl h66 (run_load1 Try.underlying22 rfl (sE.cell hcF)) ⟨Ext.refl _, rfl⟩
                  · refine stepE rfl fun sdn sa sw sE sd sk => ?_
                    have h0 : sa.eval (.tmp 0) = .slice ((some ad)) (q) (d) := sk.old 0 rfl
                    exact Runs.move rfl h0 ⟨Ext.refl _, rfl⟩
                  · refine stepE rfl fun sdn sa sw sE sd sk => ?_
                    have h9 : sa.eval (.tmp 9) = .int .i64 (((p : Nat) : Int)) := sk.old 9 rfl
                    exact Runs.move rfl h9 ⟨Ext.refl _, rfl⟩
                  · refine stepE rfl fun sdn sa sw sE sd sk => ?_
                    have h68 : sa.eval (.tmp 68) = .slice ((some ad)) (q) (d) := sk.fact 4 68 rfl (sd 4 rfl)
                    have h69 : sa.eval (.tmp 69) = .int .i64 (((p : Nat) : Int)) := sk.fact 5 69 rfl (sd 5 rfl)
                    exact Runs.idx rfl h68 h69 (run_idx_sl1 Try.underlying23 infZZ_eq infZZ_size p (by first | rfl | omega) (by omega)) ⟨Ext.refl _, rfl⟩
                  · refine stepE rfl fun sdn sa sw sE sd sk => ?_
                    have h70 : sa.eval (.tmp 70) = .pointer (some (ad.add p)) := sk.fact 6 70 rfl (sd 6 rfl)
                    exact Runs.load rfl h70 (run_load1 Try.underlying22 rfl (sE.cell hcE)) ⟨Ext.refl _, rfl⟩
                  · refine stepE rfl fun sdn sa sw sE sd sk => ?_
                    have h67 : sa.eval (.tmp 67) = .slice (F) (zf) (yf) := sk.fact 3 67 rfl (sd 3 rfl)
                    exact Runs.assign rfl h67 ⟨Ext.refl _, rfl⟩
                  · refine stepE rfl fun sdn sa sw sE sd sk => ?_
                    have h71 : sa.eval (.tmp 71) = .slice (E) (z) (y) := sk.fact 7 71 rfl (sd 7 rfl)
                    exact Runs.assign rfl h71 ⟨Ext.refl _, rfl⟩
                  · refine stepE rfl fun sdn sa sw sE sd sk => ?_
                    exact Runs.assign rfl rfl ⟨Ext.refl _, rfl⟩
                  intro vals W12 hE12 hv12
                  have e0 : vals 0 = .slice ((some ad)) (q) (d) := hv12 0 (by omega) 64 rfl
                  have e1 : vals 1 = .int .i64 (((k : Nat) : Int)) := hv12 1 (by omega) 65 rfl
                  have e2 : vals 2 = .pointer (some (ad.add k)) := hv12 2 (by omega) 66 rfl
                  have e3 : vals 3 = .slice (F) (zf) (yf) := hv12 3 (by omega) 67 rfl
                  have e4 : vals 4 = .slice ((some ad)) (q) (d) := hv12 4 (by omega) 68 rfl
                  have e5 : vals 5 = .int .i64 (((p : Nat) : Int)) := hv12 5 (by omega) 69 rfl
                  have e6 : vals 6 = .pointer (some (ad.add p)) := hv12 6 (by omega) 70 rfl
                  have e7 : vals 7 = .slice (E) (z) (y) := hv12 7 (by omega) 71 rfl
                  have e8 : vals 8 = .slice (F) (zf) (yf) := hv12 8 (by omega) 6 rfl
                  have e9 : vals 9 = .slice (E) (z) (y) := hv12 9 (by omega) 7 rfl
                  have e10 : vals 10 = .bool (true) := hv12 10 (by omega) 8 rfl
                  simp only [putAll, Act.put, List.take_succ_cons, List.take_zero, List.drop_succ_cons, List.drop_zero, List.drop_nil, List.take_nil, Nat.reduceAdd, List.setIfInBounds_toArray, List.set_cons_succ, List.set_cons_zero, e0, e1, e2, e3, e4, e5, e6, e7, e8, e9, e10]
                  clear hv12 e0 e1 e2 e3 e4 e5 e6 e7 e8 e9 e10
                  go_wp2_with fail
                  go_roundw
                  case rel =>
                    have e1 : pairA LL = lb LL k := by unfold pairA; rw [Hct.out]
                    have e2 : pairB LL = lb LL p := by unfold pairB; rw [Hct.out]
                    exact ⟨k + 1, by omega, by go_num, (hEr.trans hE11).trans hE12, .inr ⟨rfl, by rw [Hct.out]; rfl, _, _, _, _, _, _, rfl, by rw [e1]; exact rF1, rfl, by rw [e2]; exact rE1⟩⟩
                  case measure => simp [intOf]; omega
                · have hcf : clashB LL (p, k) = false := by rw [Hcl.out, decide_eq_false (fun e => hse e.symm)]; rfl
                  have Hcf := Lib.hid hcf
                  clear hcf
                  refine par_ext (n := 26) (by kernel_rfl) [.is (.slice ((some ad)) (q) (d)), .is (.int .i64 (((p : Nat) : Int))), .is (.pointer (some (ad.add p))), .is (.slice (E) (z) (y)), .is (.string (str (lb LL p))), .is (.slice ((some ad)) (q) (d)), .is (.int .i64 (((k : Nat) : Int))), .is (.pointer (some (ad.add k))), .is (.slice (F) (zf) (yf)), .is (.string (str (lb LL k))), .is (.bool (true)), .is (.bool (true)), .is (.slice ((some ad)) (q) (d)), .is (.int .i64 (((p : Nat) : Int))), .is (.pointer (some (ad.add p))), .is (.slice (E) (z) (y)), .rk (32) (sha (lb LL p)), .is (.string (str (sha (lb LL p)))), .is (.slice ((some ad)) (q) (d)), .is (.int .i64 (((k : Nat) : Int))), .is (.pointer (some (ad.add k))), .is (.slice (F) (zf) (yf)), .rk (32) (sha (lb LL k)), .is (.string (str (sha (lb LL k)))), .is (.bool (false)), .is (.bool (false))] rfl ⟨?_, ?_, ?_, ?_, ?_, ?_, ?_, ?_, ?_, ?_, ?_, ?_, ?_, ?_, ?_, ?_, ?_, ?_, ?_, ?_, ?_, ?_, ?_, ?_, ?_, ?_, trivial⟩ ?_
                  · refine stepE rfl fun sdn sa sw sE sd sk => ?_
                    have h0 : sa.eval (.tmp 0) = .slice ((some ad)) (q) (d) := sk.old 0 rfl
                    exact Runs.move rfl h0 ⟨Ext.refl _, rfl⟩
                  · refine stepE rfl fun sdn sa sw sE sd sk => ?_
                    have h9 : sa.eval (.tmp 9) = .int .i64 (((p : Nat) : Int)) := sk.old 9 rfl
                    exact Runs.move rfl h9 ⟨Ext.refl _, rfl⟩
                  · refine stepE rfl fun sdn sa sw sE sd sk => ?_
                    have h38 : sa.eval (.tmp 38) = .slice ((some ad)) (q) (d) := sk.fact 0 38 rfl (sd 0 rfl)
                    have h39 : sa.eval (.tmp 39) = .int .i64 (((p : Nat) : Int)) := sk.fact 1 39 rfl (sd 1 rfl)
                    exact Runs.idx rfl h38 h39 (run_idx_sl1 Try.underlying23 infZZ_eq infZZ_size p (by first | rfl | omega) (by omega)) ⟨Ext.refl _, rfl⟩
                  · refine stepE rfl fun sdn sa sw sE sd sk => ?_
                    have h40 : sa.eval (.tmp 40) = .pointer (some (ad.add p)) := sk.fact 2 40 rfl (sd 2 rfl)
                    exact Runs.load rfl h40 (run_load1 Try.underlying22 rfl (sE.cell hcE)) ⟨Ext.refl _, rfl⟩
                  · refine stepE rfl fun sdn sa sw sE sd sk => ?_
                    have h41 : sa.eval (.tmp 41) = .slice (E) (z) (y) := sk.fact 3 41 rfl (sd 3 rfl)
                    exact Runs.conv rfl h41 (run_str (rE.ext sE)) ⟨Ext.refl _, rfl⟩
                  · refine stepE rfl fun sdn sa sw sE sd sk => ?_
                    have h0 : sa.eval (.tmp 0) = .slice ((some ad)) (q) (d) := sk.old 0 rfl
                    exact Runs.move rfl h0 ⟨Ext.refl _, rfl⟩
                  · refine stepE rfl fun sdn sa sw sE sd sk => ?_
                    have h10 : sa.eval (.tmp 10) = .int .i64 (((k : Nat) : Int)) := sk.old 10 rfl
                    exact Runs.move rfl h10 ⟨Ext.refl _, rfl⟩
                  · refine stepE rfl fun sdn sa sw sE sd sk => ?_
                    have h43 : sa.eval (.tmp 43) = .slice ((some ad)) (q) (d) := sk.fact 5 43 rfl (sd 5 rfl)
                    have h44 : sa.eval (.tmp 44) = .int .i64 (((k : Nat) : Int)) := sk.fact 6 44 rfl (sd 6 rfl)
                    exact Runs.idx rfl h43 h44 (run_idx_sl1 Try.underlying23 infZZ_eq infZZ_size k (by first | rfl | omega) (by omega)) ⟨Ext.refl _, rfl⟩
                  · refine stepE rfl fun sdn sa sw sE sd sk => ?_
                    have h45 : sa.eval (.tmp 45) = .pointer (some (ad.add k)) := sk.fact 7 45 rfl (sd 7 rfl)
                    exact Runs.load rfl h45 (run_load1 Try.underlying22 rfl (sE.cell hcF)) ⟨Ext.refl _, rfl⟩
                  · refine stepE rfl fun sdn sa sw sE sd sk => ?_
                    have h46 : sa.eval (.tmp 46) = .slice (F) (zf) (yf) := sk.fact 8 46 rfl (sd 8 rfl)
                    exact Runs.conv rfl h46 (run_str (rF.ext sE)) ⟨Ext.refl _, rfl⟩
                  · refine stepE rfl fun sdn sa sw sE sd sk => ?_
                    have h42 : sa.eval (.tmp 42) = .string (str (lb LL p)) := sk.fact 4 42 rfl (sd 4 rfl)
                    have h47 : sa.eval (.tmp 47) = .string (str (lb LL k)) := sk.fact 9 47 rfl (sd 9 rfl)
                    exact Runs.bin rfl h42 h47 (by rfl) (bin_nes _ _ _) ⟨Ext.refl _, congrArg Value.bool (by simp [heq])⟩
                  · refine stepE rfl fun sdn sa sw sE sd sk => ?_
                    have h48 : sa.eval (.tmp 48) = .bool (true) := sk.fact 10 48 rfl (sd 10 rfl)
                    exact Runs.move rfl h48 ⟨Ext.refl _, rfl⟩
                  · refine stepY (j := 11) (d := 49) (b := true) rfl rfl rfl (fun v w h => h) fun sdn sa sw sE sd sk => ?_
                    have h0 : sa.eval (.tmp 0) = .slice ((some ad)) (q) (d) := sk.old 0 rfl
                    exact Runs.move rfl h0 ⟨Ext.refl _, rfl⟩
                  · refine stepY (j := 11) (d := 49) (b := true) rfl rfl rfl (fun v w h => h) fun sdn sa sw sE sd sk => ?_
                    have h9 : sa.eval (.tmp 9) = .int .i64 (((p : Nat) : Int)) := sk.old 9 rfl
                    exact Runs.move rfl h9 ⟨Ext.refl _, rfl⟩
                  · refine stepY (j := 11) (d := 49) (b := true) rfl rfl rfl (fun v w h => h) fun sdn sa sw sE sd sk => ?_
                    have h50 : sa.eval (.tmp 50) = .slice ((some ad)) (q) (d) := sk.fact 12 50 rfl (sd 12 rfl)
                    have h51 : sa.eval (.tmp 51) = .int .i64 (((p : Nat) : Int)) := sk.fact 13 51 rfl (sd 13 rfl)
                    exact Runs.idx rfl h50 h51 (run_idx_sl1 Try.underlying23 infZZ_eq infZZ_size p (by first | rfl | omega) (by omega)) ⟨Ext.refl _, rfl⟩
                  · refine stepY (j := 11) (d := 49) (b := true) rfl rfl rfl (fun v w h => h) fun sdn sa sw sE sd sk => ?_
                    have h52 : sa.eval (.tmp 52) = .pointer (some (ad.add p)) := sk.fact 14 52 rfl (sd 14 rfl)
                    exact Runs.load rfl h52 (run_load1 Try.underlying22 rfl (sE.cell hcE)) ⟨Ext.refl _, rfl⟩
                  · refine stepY (j := 11) (d := 49) (b := true) rfl rfl rfl (fun v w h => h) fun sdn sa sw sE sd sk => ?_
                    have h53 : sa.eval (.tmp 53) = .slice (E) (z) (y) := sk.fact 15 53 rfl (sd 15 rfl)
                    refine Runs.call (f := 17) (vs := [.slice (E) (z) (y)]) rfl rfl rfl (by simp only [List.map_toArray, List.map_cons, List.map_nil, h53] <;> rfl) (ent17 _ _) ((sum_any _ _ _ _ sw (rE.ext sE) (by omega)).mono ?_); rintro e w' ⟨A', c', rfl, own, hx⟩; exact ⟨_, rfl, hx, A', c', rfl, own.rb⟩
                  · refine stepY (j := 11) (d := 49) (b := true) rfl rfl rfl (fun v w h => h) fun sdn sa sw sE sd sk => ?_
                    obtain ⟨A54, c54, h54, r54⟩ := sk.fact 16 54 rfl (sd 16 rfl)
                    exact Runs.conv rfl h54 (run_str r54) ⟨Ext.refl _, rfl⟩
                  · refine stepY (j := 11) (d := 49) (b := true) rfl rfl rfl (fun v w h => h) fun sdn sa sw sE sd sk => ?_
                    have h0 : sa.eval (.tmp 0) = .slice ((some ad)) (q) (d) := sk.old 0 rfl
                    exact Runs.move rfl h0 ⟨Ext.refl _, rfl⟩
                  · refine stepY (j := 11) (d := 49) (b := true) rfl rfl rfl (fun v w h => h) fun sdn sa sw sE sd sk => ?_
                    have h10 : sa.eval (.tmp 10) = .int .i64 (((k : Nat) : Int)) := sk.old 10 rfl
                    exact Runs.move rfl h10 ⟨Ext.refl _, rfl⟩
                  · refine stepY (j := 11) (d := 49) (b := true) rfl rfl rfl (fun v w h => h) fun sdn sa sw sE sd sk => ?_
                    have h56 : sa.eval (.tmp 56) = .slice ((some ad)) (q) (d) := sk.fact 18 56 rfl (sd 18 rfl)
                    have h57 : sa.eval (.tmp 57) = .int .i64 (((k : Nat) : Int)) := sk.fact 19 57 rfl (sd 19 rfl)
                    exact Runs.idx rfl h56 h57 (run_idx_sl1 Try.underlying23 infZZ_eq infZZ_size k (by first | rfl | omega) (by omega)) ⟨Ext.refl _, rfl⟩
                  · refine stepY (j := 11) (d := 49) (b := true) rfl rfl rfl (fun v w h => h) fun sdn sa sw sE sd sk => ?_
                    have h58 : sa.eval (.tmp 58) = .pointer (some (ad.add k)) := sk.fact 20 58 rfl (sd 20 rfl)
                    exact Runs.load rfl h58 (run_load1 Try.underlying22 rfl (sE.cell hcF)) ⟨Ext.refl _, rfl⟩
                  · refine stepY (j := 11) (d := 49) (b := true) rfl rfl rfl (fun v w h => h) fun sdn sa sw sE sd sk => ?_
                    have h59 : sa.eval (.tmp 59) = .slice (F) (zf) (yf) := sk.fact 21 59 rfl (sd 21 rfl)
                    refine Runs.call (f := 17) (vs := [.slice (F) (zf) (yf)]) rfl rfl rfl (by simp only [List.map_toArray, List.map_cons, List.map_nil, h59] <;> rfl) (ent17 _ _) ((sum_any _ _ _ _ sw (rF.ext sE) (by omega)).mono ?_); rintro e w' ⟨A', c', rfl, own, hx⟩; exact ⟨_, rfl, hx, A', c', rfl, own.rb⟩
                  · refine stepY (j := 11) (d := 49) (b := true) rfl rfl rfl (fun v w h => h) fun sdn sa sw sE sd sk => ?_
                    obtain ⟨A60, c60, h60, r60⟩ := sk.fact 22 60 rfl (sd 22 rfl)
                    exact Runs.conv rfl h60 (run_str r60) ⟨Ext.refl _, rfl⟩
                  · refine stepY (j := 11) (d := 49) (b := true) rfl rfl rfl (fun v w h => h) fun sdn sa sw sE sd sk => ?_
                    have h55 : sa.eval (.tmp 55) = .string (str (sha (lb LL p))) := sk.fact 17 55 rfl (sd 17 rfl)
                    have h61 : sa.eval (.tmp 61) = .string (str (sha (lb LL k))) := sk.fact 23 61 rfl (sd 23 rfl)
                    exact Runs.bin rfl h55 h61 (by rfl) (bin_eqs _ _ _) ⟨Ext.refl _, congrArg Value.bool (by simp [hse])⟩
                  · refine stepE rfl fun sdn sa sw sE sd sk => ?_
                    have h49 : sa.eval (.tmp 49) = .bool (true) := sk.fact 11 49 rfl (sd 11 rfl)
                    have h62 : sa.eval (.tmp 62) = .bool (false) := sk.fact 24 62 rfl (sd 24 rfl)
                    exact Runs.pick rfl h49 ⟨Ext.refl _, by first | exact h62 | simpa using h62⟩
                  intro vals W11 hE11 hv11
                  have e0 : vals 0 = .slice ((some ad)) (q) (d) := hv11 0 (by omega) 38 rfl
                  have e1 : vals 1 = .int .i64 (((p : Nat) : Int)) := hv11 1 (by omega) 39 rfl
                  have e2 : vals 2 = .pointer (some (ad.add p)) := hv11 2 (by omega) 40 rfl
                  have e3 : vals 3 = .slice (E) (z) (y) := hv11 3 (by omega) 41 rfl
                  have e4 : vals 4 = .string (str (lb LL p)) := hv11 4 (by omega) 42 rfl
                  have e5 : vals 5 = .slice ((some ad)) (q) (d) := hv11 5 (by omega) 43 rfl
                  have e6 : vals 6 = .int .i64 (((k : Nat) : Int)) := hv11 6 (by omega) 44 rfl
                  have e7 : vals 7 = .pointer (some (ad.add k)) := hv11 7 (by omega) 45 rfl
                  have e8 : vals 8 = .slice (F) (zf) (yf) := hv11 8 (by omega) 46 rfl
                  have e9 : vals 9 = .string (str (lb LL k)) := hv11 9 (by omega) 47 rfl
                  have e10 : vals 10 = .bool (true) := hv11 10 (by omega) 48 rfl
                  have e11 : vals 11 = .bool (true) := hv11 11 (by omega) 49 rfl
                  have e12 : vals 12 = .slice ((some ad)) (q) (d) := hv11 12 (by omega) 50 rfl
                  have e13 : vals 13 = .int .i64 (((p : Nat) : Int)) := hv11 13 (by omega) 51 rfl
                  have e14 : vals 14 = .pointer (some (ad.add p)) := hv11 14 (by omega) 52 rfl
                  have e15 : vals 15 = .slice (E) (z) (y) := hv11 15 (by omega) 53 rfl
                  obtain ⟨A54, c54, e16, r54⟩ := hv11 16 (by omega) 54 rfl
                  have e17 : vals 17 = .string (str (sha (lb LL p))) := hv11 17 (by omega) 55 rfl
                  have e18 : vals 18 = .slice ((some ad)) (q) (d) := hv11 18 (by omega) 56 rfl
                  have e19 : vals 19 = .int .i64 (((k : Nat) : Int)) := hv11 19 (by omega) 57 rfl
                  have e20 : vals 20 = .pointer (some (ad.add k)) := hv11 20 (by omega) 58 rfl
                  have e21 : vals 21 = .slice (F) (zf) (yf) := hv11 21 (by omega) 59 rfl
                  obtain ⟨A60, c60, e22, r60⟩ := hv11 22 (by omega) 60 rfl
                  have e23 : vals 23 = .string (str (sha (lb LL k))) := hv11 23 (by omega) 61 rfl
                  have e24 : vals 24 = .bool (false) := hv11 24 (by omega) 62 rfl
                  have e25 : vals 25 = .bool (false) := hv11 25 (by omega) 63 rfl
                  simp only [putAll, Act.put, List.take_succ_cons, List.take_zero, List.drop_succ_cons, List.drop_zero, List.drop_nil, List.take_nil, Nat.reduceAdd, List.setIfInBounds_toArray, List.set_cons_succ, List.set_cons_zero, e0, e1, e2, e3, e4, e5, e6, e7, e8, e9, e10, e11, e12, e13, e14, e15, e16, e17, e18, e19, e20, e21, e22, e23, e24, e25]
                  clear hv11 e0 e1 e2 e3 e4 e5 e6 e7 e8 e9 e10 e11 e12 e13 e14 e15 e16 e17 e18 e19 e20 e21 e22 e23 e24 e25
                  clear heq hse rL
                  have rL := RL.out
                  go_wp2_with fail
                  go_roundw
                  case rel => exact ⟨k + 1, by omega, by go_num, hEr.trans hE11, .inl ⟨⟨rfl, rfl, rfl⟩, noneTo_step Hno2.out Hcf.out⟩⟩
                  case measure => simp [intOf]; omega
            · obtain rfl : k = p := by omega
              have hki : ¬ (k : Int) < (k : Int) := by omega
              go_wp2_with fail
              go_roundw
              case rel => exact ⟨k + 1, by rw [Hq.out]; omega, by go_num, hEr, .inl ⟨⟨rfl, rfl, rfl⟩, noneTo_next Hno2.out⟩⟩
              case measure => simp [intOf]; omega
          · have Hs := Lib.hid hsome
            clear hsome
            by_cases hlk : (k : Int) < (p : Int)
            · go_wp2_with fail
              go_roundw
              case rel => exact ⟨p + 1, by rw [Hq.out]; omega, by go_num, hEr, .inr ⟨rfl, Hs.out, _, _, _, _, _, _, rfl, rA, rfl, rB⟩⟩
              case measure => simp [intOf]; omega
            · go_wp2_with fail
              go_roundw
              case rel => exact ⟨p + 1, by rw [Hq.out]; omega, by go_num, hEr, .inr ⟨rfl, Hs.out, _, _, _, _, _, _, rfl, rA, rfl, rB⟩⟩
              case measure => simp [intOf]; omega
      · obtain rfl : p = q := by omega
        have hpn : ¬ (p : Int) < (p : Int) := by omega
        have hnone := noneTo_all Hq.out Hno.out
        have e1 : pairA LL = [] := by unfold pairA; rw [hnone]
        have e2 : pairB LL = [] := by unfold pairB; rw [hnone]
        rw [e1] at rP
        rw [e2] at rQ
        rw [show (pairL LL).isSome = false from by rw [hnone]; rfl]
        clear hnone e1 e2
        replace rP := rP.ext hEr
        replace rQ := rQ.ext hEr
        go_upto_region 13 with (fail)
        refine seq_ext (n := 20) (by kernel_rfl) [.is (.bool (false)), .is (.bool (false)), .is (.bool (true)), .is (.bool (true)), .is (.slice (P1) (np) (cp)), .is (.string (str ([]))), .is (.slice (none) (0) (0)), .is (.string (str ([]))), .is (.bool (true)), .is (.bool (true)), .is (.bool (true)), .is (.slice (Q1) (nq) (cq)), .is (.string (str ([]))), .is (.slice (none) (0) (0)), .is (.string (str ([]))), .is (.bool (true)), .is (.bool (true)), .is (.bool (true)), .is (.bool (true)), .is (.bool (true))] rfl ⟨?_, ?_, ?_, ?_, ?_, ?_, ?_, ?_, ?_, ?_, ?_, ?_, ?_, ?_, ?_, ?_, ?_, ?_, ?_, ?_, trivial⟩ ?_
        · refine stepE rfl fun sdn sa sw sE sd sk => ?_
          have h5 : sa.eval (.tmp 5) = .bool (false) := sk.old 5 rfl
          exact Runs.move rfl h5 ⟨Ext.refl _, rfl⟩
        · refine stepE rfl fun sdn sa sw sE sd sk => ?_
          have h8 : sa.eval (.tmp 8) = .bool (false) := sk.old 8 rfl
          exact Runs.move rfl h8 ⟨Ext.refl _, rfl⟩
        · refine stepE rfl fun sdn sa sw sE sd sk => ?_
          have h72 : sa.eval (.tmp 72) = .bool (false) := sk.fact 0 72 rfl (sd 0 rfl)
          have h73 : sa.eval (.tmp 73) = .bool (false) := sk.fact 1 73 rfl (sd 1 rfl)
          exact Runs.bin rfl h72 h73 (by rfl) (bin_eqb _ _) ⟨Ext.refl _, congrArg Value.bool (by decide)⟩
        · refine stepE rfl fun sdn sa sw sE sd sk => ?_
          have h74 : sa.eval (.tmp 74) = .bool (true) := sk.fact 2 74 rfl (sd 2 rfl)
          exact Runs.move rfl h74 ⟨Ext.refl _, rfl⟩
        · refine stepY (j := 3) (d := 75) (b := true) rfl rfl rfl (fun v w h => h) fun sdn sa sw sE sd sk => ?_
          have h3 : sa.eval (.tmp 3) = .slice (P1) (np) (cp) := sk.old 3 rfl
          exact Runs.move rfl h3 ⟨Ext.refl _, rfl⟩
        · refine stepY (j := 3) (d := 75) (b := true) rfl rfl rfl (fun v w h => h) fun sdn sa sw sE sd sk => ?_
          have h76 : sa.eval (.tmp 76) = .slice (P1) (np) (cp) := sk.fact 4 76 rfl (sd 4 rfl)
          exact Runs.conv rfl h76 (run_str (rP.ext sE)) ⟨Ext.refl _, rfl⟩
        · refine stepY (j := 3) (d := 75) (b := true) rfl rfl rfl (fun v w h => h) fun sdn sa sw sE sd sk => ?_
          have h6 : sa.eval (.tmp 6) = .slice (none) (0) (0) := sk.old 6 rfl
          exact Runs.move rfl h6 ⟨Ext.refl _, rfl⟩
        · refine stepY (j := 3) (d := 75) (b := true) rfl rfl rfl (fun v w h => h) fun sdn sa sw sE sd sk => ?_
          have h78 : sa.eval (.tmp 78) = .slice (none) (0) (0) := sk.fact 6 78 rfl (sd 6 rfl)
          exact Runs.conv rfl h78 (run_str (RB.nil_ _)) ⟨Ext.refl _, rfl⟩
        · refine stepY (j := 3) (d := 75) (b := true) rfl rfl rfl (fun v w h => h) fun sdn sa sw sE sd sk => ?_
          have h77 : sa.eval (.tmp 77) = .string (str ([])) := sk.fact 5 77 rfl (sd 5 rfl)
          have h79 : sa.eval (.tmp 79) = .string (str ([])) := sk.fact 7 79 rfl (sd 7 rfl)
          exact Runs.bin rfl h77 h79 (by rfl) (bin_eqs _ _ _) ⟨Ext.refl _, congrArg Value.bool (by simp)⟩
        · refine stepE rfl fun sdn sa sw sE sd sk => ?_
          have h75 : sa.eval (.tmp 75) = .bool (true) := sk.fact 3 75 rfl (sd 3 rfl)
          have h80 : sa.eval (.tmp 80) = .bool (true) := sk.fact 8 80 rfl (sd 8 rfl)
          exact Runs.pick rfl h75 ⟨Ext.refl _, by first | exact h80 | simpa using h80⟩
        · refine stepE rfl fun sdn sa sw sE sd sk => ?_
          have h81 : sa.eval (.tmp 81) = .bool (true) := sk.fact 9 81 rfl (sd 9 rfl)
          exact Runs.move rfl h81 ⟨Ext.refl _, rfl⟩
        · refine stepY (j := 10) (d := 82) (b := true) rfl rfl rfl (fun v w h => h) fun sdn sa sw sE sd sk => ?_
          have h4 : sa.eval (.tmp 4) = .slice (Q1) (nq) (cq) := sk.old 4 rfl
          exact Runs.move rfl h4 ⟨Ext.refl _, rfl⟩
        · refine stepY (j := 10) (d := 82) (b := true) rfl rfl rfl (fun v w h => h) fun sdn sa sw sE sd sk => ?_
          have h83 : sa.eval (.tmp 83) = .slice (Q1) (nq) (cq) := sk.fact 11 83 rfl (sd 11 rfl)
          exact Runs.conv rfl h83 (run_str (rQ.ext sE)) ⟨Ext.refl _, rfl⟩
        · refine stepY (j := 10) (d := 82) (b := true) rfl rfl rfl (fun v w h => h) fun sdn sa sw sE sd sk => ?_
          have h7 : sa.eval (.tmp 7) = .slice (none) (0) (0) := sk.old 7 rfl
          exact Runs.move rfl h7 ⟨Ext.refl _, rfl⟩
        · refine stepY (j := 10) (d := 82) (b := true) rfl rfl rfl (fun v w h => h) fun sdn sa sw sE sd sk => ?_
          have h85 : sa.eval (.tmp 85) = .slice (none) (0) (0) := sk.fact 13 85 rfl (sd 13 rfl)
          exact Runs.conv rfl h85 (run_str (RB.nil_ _)) ⟨Ext.refl _, rfl⟩
        · refine stepY (j := 10) (d := 82) (b := true) rfl rfl rfl (fun v w h => h) fun sdn sa sw sE sd sk => ?_
          have h84 : sa.eval (.tmp 84) = .string (str ([])) := sk.fact 12 84 rfl (sd 12 rfl)
          have h86 : sa.eval (.tmp 86) = .string (str ([])) := sk.fact 14 86 rfl (sd 14 rfl)
          exact Runs.bin rfl h84 h86 (by rfl) (bin_eqs _ _ _) ⟨Ext.refl _, congrArg Value.bool (by simp)⟩
        · refine stepE rfl fun sdn sa sw sE sd sk => ?_
          have h82 : sa.eval (.tmp 82) = .bool (true) := sk.fact 10 82 rfl (sd 10 rfl)
          have h87 : sa.eval (.tmp 87) = .bool (true) := sk.fact 15 87 rfl (sd 15 rfl)
          exact Runs.pick rfl h82 ⟨Ext.refl _, by first | exact h87 | simpa using h87⟩
        · refine stepE rfl fun sdn sa sw sE sd sk => ?_
          have h88 : sa.eval (.tmp 88) = .bool (true) := sk.fact 16 88 rfl (sd 16 rfl)
          exact Runs.move rfl h88 ⟨Ext.refl _, rfl⟩
        · refine stepY (j := 17) (d := 89) (b := true) rfl rfl rfl (fun v w h => h) fun sdn sa sw sE sd sk => ?_
          refine Runs.call (f := 15) (vs := []) rfl rfl rfl (by simp only [List.map_toArray, List.map_cons, List.map_nil] <;> rfl) (ent15 _ _) ((known26_any sw).mono ?_); rintro e w' ⟨rfl, hx⟩; exact ⟨_, rfl, hx, rfl⟩
        · refine stepE rfl fun sdn sa sw sE sd sk => ?_
          have h89 : sa.eval (.tmp 89) = .bool (true) := sk.fact 17 89 rfl (sd 17 rfl)
          have h90 : sa.eval (.tmp 90) = .bool (true) := sk.fact 18 90 rfl (sd 18 rfl)
          exact Runs.pick rfl h89 ⟨Ext.refl _, by first | exact h90 | simpa using h90⟩
        intro vals W13 hE13 hv13
        have e0 : vals 0 = .bool (false) := hv13 0 (by omega) 72 rfl
        have e1 : vals 1 = .bool (false) := hv13 1 (by omega) 73 rfl
        have e2 : vals 2 = .bool (true) := hv13 2 (by omega) 74 rfl
        have e3 : vals 3 = .bool (true) := hv13 3 (by omega) 75 rfl
        have e4 : vals 4 = .slice (P1) (np) (cp) := hv13 4 (by omega) 76 rfl
        have e5 : vals 5 = .string (str ([])) := hv13 5 (by omega) 77 rfl
        have e6 : vals 6 = .slice (none) (0) (0) := hv13 6 (by omega) 78 rfl
        have e7 : vals 7 = .string (str ([])) := hv13 7 (by omega) 79 rfl
        have e8 : vals 8 = .bool (true) := hv13 8 (by omega) 80 rfl
        have e9 : vals 9 = .bool (true) := hv13 9 (by omega) 81 rfl
        have e10 : vals 10 = .bool (true) := hv13 10 (by omega) 82 rfl
        have e11 : vals 11 = .slice (Q1) (nq) (cq) := hv13 11 (by omega) 83 rfl
        have e12 : vals 12 = .string (str ([])) := hv13 12 (by omega) 84 rfl
        have e13 : vals 13 = .slice (none) (0) (0) := hv13 13 (by omega) 85 rfl
        have e14 : vals 14 = .string (str ([])) := hv13 14 (by omega) 86 rfl
        have e15 : vals 15 = .bool (true) := hv13 15 (by omega) 87 rfl
        have e16 : vals 16 = .bool (true) := hv13 16 (by omega) 88 rfl
        have e17 : vals 17 = .bool (true) := hv13 17 (by omega) 89 rfl
        have e18 : vals 18 = .bool (true) := hv13 18 (by omega) 90 rfl
        have e19 : vals 19 = .bool (true) := hv13 19 (by omega) 91 rfl
        simp only [putAll, Act.put, List.take_succ_cons, List.take_zero, List.drop_succ_cons, List.drop_zero, List.drop_nil, List.take_nil, Nat.reduceAdd, List.setIfInBounds_toArray, List.set_cons_succ, List.set_cons_zero, e0, e1, e2, e3, e4, e5, e6, e7, e8, e9, e10, e11, e12, e13, e14, e15, e16, e17, e18, e19]
        clear hv13 e0 e1 e2 e3 e4 e5 e6 e7 e8 e9 e10 e11 e12 e13 e14 e15 e16 e17 e18 e19
        go_wp2_with fail
        go_ret
        exact ⟨rfl, (hE1.trans hEr).trans hE13⟩
    · rw [hsome]
      replace rA := rA.ext hEr
      replace rB := rB.ext hEr
      replace rP := rP.ext hEr
      replace rQ := rQ.ext hEr
      clear hsome
      by_cases hlk : (p : Int) < (q : Int)
      · go_upto_region 13 with (fail)
        refine seq_ext (n := 20) (by kernel_rfl) [.is (.bool (true)), .is (.bool (true)), .is (.bool (true)), .is (.bool (true)), .is (.slice (P1) (np) (cp)), .is (.string (str (pairA LL))), .is (.slice (A6) (n6) (c6)), .is (.string (str (pairA LL))), .is (.bool (true)), .is (.bool (true)), .is (.bool (true)), .is (.slice (Q1) (nq) (cq)), .is (.string (str (pairB LL))), .is (.slice (B6) (m6) (d6)), .is (.string (str (pairB LL))), .is (.bool (true)), .is (.bool (true)), .is (.bool (true)), .is (.bool (true)), .is (.bool (true))] rfl ⟨?_, ?_, ?_, ?_, ?_, ?_, ?_, ?_, ?_, ?_, ?_, ?_, ?_, ?_, ?_, ?_, ?_, ?_, ?_, ?_, trivial⟩ ?_
        · refine stepE rfl fun sdn sa sw sE sd sk => ?_
          have h5 : sa.eval (.tmp 5) = .bool (true) := sk.old 5 rfl
          exact Runs.move rfl h5 ⟨Ext.refl _, rfl⟩
        · refine stepE rfl fun sdn sa sw sE sd sk => ?_
          have h8 : sa.eval (.tmp 8) = .bool (true) := sk.old 8 rfl
          exact Runs.move rfl h8 ⟨Ext.refl _, rfl⟩
        · refine stepE rfl fun sdn sa sw sE sd sk => ?_
          have h72 : sa.eval (.tmp 72) = .bool (true) := sk.fact 0 72 rfl (sd 0 rfl)
          have h73 : sa.eval (.tmp 73) = .bool (true) := sk.fact 1 73 rfl (sd 1 rfl)
          exact Runs.bin rfl h72 h73 (by rfl) (bin_eqb _ _) ⟨Ext.refl _, congrArg Value.bool (by decide)⟩
        · refine stepE rfl fun sdn sa sw sE sd sk => ?_
          have h74 : sa.eval (.tmp 74) = .bool (true) := sk.fact 2 74 rfl (sd 2 rfl)
          exact Runs.move rfl h74 ⟨Ext.refl _, rfl⟩
        · refine stepY (j := 3) (d := 75) (b := true) rfl rfl rfl (fun v w h => h) fun sdn sa sw sE sd sk => ?_
          have h3 : sa.eval (.tmp 3) = .slice (P1) (np) (cp) := sk.old 3 rfl
          exact Runs.move rfl h3 ⟨Ext.refl _, rfl⟩
        · refine stepY (j := 3) (d := 75) (b := true) rfl rfl rfl (fun v w h => h) fun sdn sa sw sE sd sk => ?_
          have h76 : sa.eval (.tmp 76) = .slice (P1) (np) (cp) := sk.fact 4 76 rfl (sd 4 rfl)
          exact Runs.conv rfl h76 (run_str (rP.ext sE)) ⟨Ext.refl _, rfl⟩
        · refine stepY (j := 3) (d := 75) (b := true) rfl rfl rfl (fun v w h => h) fun sdn sa sw sE sd sk => ?_
          have h6 : sa.eval (.tmp 6) = .slice (A6) (n6) (c6) := sk.old 6 rfl
          exact Runs.move rfl h6 ⟨Ext.refl _, rfl⟩
        · refine stepY (j := 3) (d := 75) (b := true) rfl rfl rfl (fun v w h => h) fun sdn sa sw sE sd sk => ?_
          have h78 : sa.eval (.tmp 78) = .slice (A6) (n6) (c6) := sk.fact 6 78 rfl (sd 6 rfl)
          exact Runs.conv rfl h78 (run_str (rA.ext sE)) ⟨Ext.refl _, rfl⟩
        · refine stepY (j := 3) (d := 75) (b := true) rfl rfl rfl (fun v w h => h) fun sdn sa sw sE sd sk => ?_
          have h77 : sa.eval (.tmp 77) = .string (str (pairA LL)) := sk.fact 5 77 rfl (sd 5 rfl)
          have h79 : sa.eval (.tmp 79) = .string (str (pairA LL)) := sk.fact 7 79 rfl (sd 7 rfl)
          exact Runs.bin rfl h77 h79 (by rfl) (bin_eqs _ _ _) ⟨Ext.refl _, congrArg Value.bool (by simp)⟩
        · refine stepE rfl fun sdn sa sw sE sd sk => ?_
          have h75 : sa.eval (.tmp 75) = .bool (true) := sk.fact 3 75 rfl (sd 3 rfl)
          have h80 : sa.eval (.tmp 80) = .bool (true) := sk.fact 8 80 rfl (sd 8 rfl)
          exact Runs.pick rfl h75 ⟨Ext.refl _, by first | exact h80 | simpa using h80⟩
        · refine stepE rfl fun sdn sa sw sE sd sk => ?_
          have h81 : sa.eval (.tmp 81) = .bool (true) := sk.fact 9 81 rfl (sd 9 rfl)
          exact Runs.move rfl h81 ⟨Ext.refl _, rfl⟩
        · refine stepY (j := 10) (d := 82) (b := true) rfl rfl rfl (fun v w h => h) fun sdn sa sw sE sd sk => ?_
          have h4 : sa.eval (.tmp 4) = .slice (Q1) (nq) (cq) := sk.old 4 rfl
          exact Runs.move rfl h4 ⟨Ext.refl _, rfl⟩
        · refine stepY (j := 10) (d := 82) (b := true) rfl rfl rfl (fun v w h => h) fun sdn sa sw sE sd sk => ?_
          have h83 : sa.eval (.tmp 83) = .slice (Q1) (nq) (cq) := sk.fact 11 83 rfl (sd 11 rfl)
          exact Runs.conv rfl h83 (run_str (rQ.ext sE)) ⟨Ext.refl _, rfl⟩
        · refine stepY (j := 10) (d := 82) (b := true) rfl rfl rfl (fun v w h => h) fun sdn sa sw sE sd sk => ?_
          have h7 : sa.eval (.tmp 7) = .slice (B6) (m6) (d6) := sk.old 7 rfl
          exact Runs.move rfl h7 ⟨Ext.refl _, rfl⟩
        · refine stepY (j := 10) (d := 82) (b := true) rfl rfl rfl (fun v w h => h) fun sdn sa sw sE sd sk => ?_
          have h85 : sa.eval (.tmp 85) = .slice (B6) (m6) (d6) := sk.fact 13 85 rfl (sd 13 rfl)
          exact Runs.conv rfl h85 (run_str (rB.ext sE)) ⟨Ext.refl _, rfl⟩
        · refine stepY (j := 10) (d := 82) (b := true) rfl rfl rfl (fun v w h => h) fun sdn sa sw sE sd sk => ?_
          have h84 : sa.eval (.tmp 84) = .string (str (pairB LL)) := sk.fact 12 84 rfl (sd 12 rfl)
          have h86 : sa.eval (.tmp 86) = .string (str (pairB LL)) := sk.fact 14 86 rfl (sd 14 rfl)
          exact Runs.bin rfl h84 h86 (by rfl) (bin_eqs _ _ _) ⟨Ext.refl _, congrArg Value.bool (by simp)⟩
        · refine stepE rfl fun sdn sa sw sE sd sk => ?_
          have h82 : sa.eval (.tmp 82) = .bool (true) := sk.fact 10 82 rfl (sd 10 rfl)
          have h87 : sa.eval (.tmp 87) = .bool (true) := sk.fact 15 87 rfl (sd 15 rfl)
          exact Runs.pick rfl h82 ⟨Ext.refl _, by first | exact h87 | simpa using h87⟩
        · refine stepE rfl fun sdn sa sw sE sd sk => ?_
          have h88 : sa.eval (.tmp 88) = .bool (true) := sk.fact 16 88 rfl (sd 16 rfl)
          exact Runs.move rfl h88 ⟨Ext.refl _, rfl⟩
        · refine stepY (j := 17) (d := 89) (b := true) rfl rfl rfl (fun v w h => h) fun sdn sa sw sE sd sk => ?_
          refine Runs.call (f := 15) (vs := []) rfl rfl rfl (by simp only [List.map_toArray, List.map_cons, List.map_nil] <;> rfl) (ent15 _ _) ((known26_any sw).mono ?_); rintro e w' ⟨rfl, hx⟩; exact ⟨_, rfl, hx, rfl⟩
        · refine stepE rfl fun sdn sa sw sE sd sk => ?_
          have h89 : sa.eval (.tmp 89) = .bool (true) := sk.fact 17 89 rfl (sd 17 rfl)
          have h90 : sa.eval (.tmp 90) = .bool (true) := sk.fact 18 90 rfl (sd 18 rfl)
          exact Runs.pick rfl h89 ⟨Ext.refl _, by first | exact h90 | simpa using h90⟩
        intro vals W13 hE13 hv13
        have e0 : vals 0 = .bool (true) := hv13 0 (by omega) 72 rfl
        have e1 : vals 1 = .bool (true) := hv13 1 (by omega) 73 rfl
        have e2 : vals 2 = .bool (true) := hv13 2 (by omega) 74 rfl
        have e3 : vals 3 = .bool (true) := hv13 3 (by omega) 75 rfl
        have e4 : vals 4 = .slice (P1) (np) (cp) := hv13 4 (by omega) 76 rfl
        have e5 : vals 5 = .string (str (pairA LL)) := hv13 5 (by omega) 77 rfl
        have e6 : vals 6 = .slice (A6) (n6) (c6) := hv13 6 (by omega) 78 rfl
        have e7 : vals 7 = .string (str (pairA LL)) := hv13 7 (by omega) 79 rfl
        have e8 : vals 8 = .bool (true) := hv13 8 (by omega) 80 rfl
        have e9 : vals 9 = .bool (true) := hv13 9 (by omega) 81 rfl
        have e10 : vals 10 = .bool (true) := hv13 10 (by omega) 82 rfl
        have e11 : vals 11 = .slice (Q1) (nq) (cq) := hv13 11 (by omega) 83 rfl
        have e12 : vals 12 = .string (str (pairB LL)) := hv13 12 (by omega) 84 rfl
        have e13 : vals 13 = .slice (B6) (m6) (d6) := hv13 13 (by omega) 85 rfl
        have e14 : vals 14 = .string (str (pairB LL)) := hv13 14 (by omega) 86 rfl
        have e15 : vals 15 = .bool (true) := hv13 15 (by omega) 87 rfl
        have e16 : vals 16 = .bool (true) := hv13 16 (by omega) 88 rfl
        have e17 : vals 17 = .bool (true) := hv13 17 (by omega) 89 rfl
        have e18 : vals 18 = .bool (true) := hv13 18 (by omega) 90 rfl
        have e19 : vals 19 = .bool (true) := hv13 19 (by omega) 91 rfl
        simp only [putAll, Act.put, List.take_succ_cons, List.take_zero, List.drop_succ_cons, List.drop_zero, List.drop_nil, List.take_nil, Nat.reduceAdd, List.setIfInBounds_toArray, List.set_cons_succ, List.set_cons_zero, e0, e1, e2, e3, e4, e5, e6, e7, e8, e9, e10, e11, e12, e13, e14, e15, e16, e17, e18, e19]
        clear hv13 e0 e1 e2 e3 e4 e5 e6 e7 e8 e9 e10 e11 e12 e13 e14 e15 e16 e17 e18 e19
        go_wp2_with fail
        go_ret
        exact ⟨rfl, (hE1.trans hEr).trans hE13⟩
      · go_upto_region 13 with (fail)
        refine seq_ext (n := 20) (by kernel_rfl) [.is (.bool (true)), .is (.bool (true)), .is (.bool (true)), .is (.bool (true)), .is (.slice (P1) (np) (cp)), .is (.string (str (pairA LL))), .is (.slice (A6) (n6) (c6)), .is (.string (str (pairA LL))), .is (.bool (true)), .is (.bool (true)), .is (.bool (true)), .is (.slice (Q1) (nq) (cq)), .is (.string (str (pairB LL))), .is (.slice (B6) (m6) (d6)), .is (.string (str (pairB LL))), .is (.bool (true)), .is (.bool (true)), .is (.bool (true)), .is (.bool (true)), .is (.bool (true))] rfl ⟨?_, ?_, ?_, ?_, ?_, ?_, ?_, ?_, ?_, ?_, ?_, ?_, ?_, ?_, ?_, ?_, ?_, ?_, ?_, ?_, trivial⟩ ?_
        · refine stepE rfl fun sdn sa sw sE sd sk => ?_
          have h5 : sa.eval (.tmp 5) = .bool (true) := sk.old 5 rfl
          exact Runs.move rfl h5 ⟨Ext.refl _, rfl⟩
        · refine stepE rfl fun sdn sa sw sE sd sk => ?_
          have h8 : sa.eval (.tmp 8) = .bool (true) := sk.old 8 rfl
          exact Runs.move rfl h8 ⟨Ext.refl _, rfl⟩
        · refine stepE rfl fun sdn sa sw sE sd sk => ?_
          have h72 : sa.eval (.tmp 72) = .bool (true) := sk.fact 0 72 rfl (sd 0 rfl)
          have h73 : sa.eval (.tmp 73) = .bool (true) := sk.fact 1 73 rfl (sd 1 rfl)
          exact Runs.bin rfl h72 h73 (by rfl) (bin_eqb _ _) ⟨Ext.refl _, congrArg Value.bool (by decide)⟩
        · refine stepE rfl fun sdn sa sw sE sd sk => ?_
          have h74 : sa.eval (.tmp 74) = .bool (true) := sk.fact 2 74 rfl (sd 2 rfl)
          exact Runs.move rfl h74 ⟨Ext.refl _, rfl⟩
        · refine stepY (j := 3) (d := 75) (b := true) rfl rfl rfl (fun v w h => h) fun sdn sa sw sE sd sk => ?_
          have h3 : sa.eval (.tmp 3) = .slice (P1) (np) (cp) := sk.old 3 rfl
          exact Runs.move rfl h3 ⟨Ext.refl _, rfl⟩
        · refine stepY (j := 3) (d := 75) (b := true) rfl rfl rfl (fun v w h => h) fun sdn sa sw sE sd sk => ?_
          have h76 : sa.eval (.tmp 76) = .slice (P1) (np) (cp) := sk.fact 4 76 rfl (sd 4 rfl)
          exact Runs.conv rfl h76 (run_str (rP.ext sE)) ⟨Ext.refl _, rfl⟩
        · refine stepY (j := 3) (d := 75) (b := true) rfl rfl rfl (fun v w h => h) fun sdn sa sw sE sd sk => ?_
          have h6 : sa.eval (.tmp 6) = .slice (A6) (n6) (c6) := sk.old 6 rfl
          exact Runs.move rfl h6 ⟨Ext.refl _, rfl⟩
        · refine stepY (j := 3) (d := 75) (b := true) rfl rfl rfl (fun v w h => h) fun sdn sa sw sE sd sk => ?_
          have h78 : sa.eval (.tmp 78) = .slice (A6) (n6) (c6) := sk.fact 6 78 rfl (sd 6 rfl)
          exact Runs.conv rfl h78 (run_str (rA.ext sE)) ⟨Ext.refl _, rfl⟩
        · refine stepY (j := 3) (d := 75) (b := true) rfl rfl rfl (fun v w h => h) fun sdn sa sw sE sd sk => ?_
          have h77 : sa.eval (.tmp 77) = .string (str (pairA LL)) := sk.fact 5 77 rfl (sd 5 rfl)
          have h79 : sa.eval (.tmp 79) = .string (str (pairA LL)) := sk.fact 7 79 rfl (sd 7 rfl)
          exact Runs.bin rfl h77 h79 (by rfl) (bin_eqs _ _ _) ⟨Ext.refl _, congrArg Value.bool (by simp)⟩
        · refine stepE rfl fun sdn sa sw sE sd sk => ?_
          have h75 : sa.eval (.tmp 75) = .bool (true) := sk.fact 3 75 rfl (sd 3 rfl)
          have h80 : sa.eval (.tmp 80) = .bool (true) := sk.fact 8 80 rfl (sd 8 rfl)
          exact Runs.pick rfl h75 ⟨Ext.refl _, by first | exact h80 | simpa using h80⟩
        · refine stepE rfl fun sdn sa sw sE sd sk => ?_
          have h81 : sa.eval (.tmp 81) = .bool (true) := sk.fact 9 81 rfl (sd 9 rfl)
          exact Runs.move rfl h81 ⟨Ext.refl _, rfl⟩
        · refine stepY (j := 10) (d := 82) (b := true) rfl rfl rfl (fun v w h => h) fun sdn sa sw sE sd sk => ?_
          have h4 : sa.eval (.tmp 4) = .slice (Q1) (nq) (cq) := sk.old 4 rfl
          exact Runs.move rfl h4 ⟨Ext.refl _, rfl⟩
        · refine stepY (j := 10) (d := 82) (b := true) rfl rfl rfl (fun v w h => h) fun sdn sa sw sE sd sk => ?_
          have h83 : sa.eval (.tmp 83) = .slice (Q1) (nq) (cq) := sk.fact 11 83 rfl (sd 11 rfl)
          exact Runs.conv rfl h83 (run_str (rQ.ext sE)) ⟨Ext.refl _, rfl⟩
        · refine stepY (j := 10) (d := 82) (b := true) rfl rfl rfl (fun v w h => h) fun sdn sa sw sE sd sk => ?_
          have h7 : sa.eval (.tmp 7) = .slice (B6) (m6) (d6) := sk.old 7 rfl
          exact Runs.move rfl h7 ⟨Ext.refl _, rfl⟩
        · refine stepY (j := 10) (d := 82) (b := true) rfl rfl rfl (fun v w h => h) fun sdn sa sw sE sd sk => ?_
          have h85 : sa.eval (.tmp 85) = .slice (B6) (m6) (d6) := sk.fact 13 85 rfl (sd 13 rfl)
          exact Runs.conv rfl h85 (run_str (rB.ext sE)) ⟨Ext.refl _, rfl⟩
        · refine stepY (j := 10) (d := 82) (b := true) rfl rfl rfl (fun v w h => h) fun sdn sa sw sE sd sk => ?_
          have h84 : sa.eval (.tmp 84) = .string (str (pairB LL)) := sk.fact 12 84 rfl (sd 12 rfl)
          have h86 : sa.eval (.tmp 86) = .string (str (pairB LL)) := sk.fact 14 86 rfl (sd 14 rfl)
          exact Runs.bin rfl h84 h86 (by rfl) (bin_eqs _ _ _) ⟨Ext.refl _, congrArg Value.bool (by simp)⟩
        · refine stepE rfl fun sdn sa sw sE sd sk => ?_
          have h82 : sa.eval (.tmp 82) = .bool (true) := sk.fact 10 82 rfl (sd 10 rfl)
          have h87 : sa.eval (.tmp 87) = .bool (true) := sk.fact 15 87 rfl (sd 15 rfl)
          exact Runs.pick rfl h82 ⟨Ext.refl _, by first | exact h87 | simpa using h87⟩
        · refine stepE rfl fun sdn sa sw sE sd sk => ?_
          have h88 : sa.eval (.tmp 88) = .bool (true) := sk.fact 16 88 rfl (sd 16 rfl)
          exact Runs.move rfl h88 ⟨Ext.refl _, rfl⟩
        · refine stepY (j := 17) (d := 89) (b := true) rfl rfl rfl (fun v w h => h) fun sdn sa sw sE sd sk => ?_
          refine Runs.call (f := 15) (vs := []) rfl rfl rfl (by simp only [List.map_toArray, List.map_cons, List.map_nil] <;> rfl) (ent15 _ _) ((known26_any sw).mono ?_); rintro e w' ⟨rfl, hx⟩; exact ⟨_, rfl, hx, rfl⟩
        · refine stepE rfl fun sdn sa sw sE sd sk => ?_
          have h89 : sa.eval (.tmp 89) = .bool (true) := sk.fact 17 89 rfl (sd 17 rfl)
          have h90 : sa.eval (.tmp 90) = .bool (true) := sk.fact 18 90 rfl (sd 18 rfl)
          exact Runs.pick rfl h89 ⟨Ext.refl _, by first | exact h90 | simpa using h90⟩
        intro vals W13 hE13 hv13
        have e0 : vals 0 = .bool (true) := hv13 0 (by omega) 72 rfl
        have e1 : vals 1 = .bool (true) := hv13 1 (by omega) 73 rfl
        have e2 : vals 2 = .bool (true) := hv13 2 (by omega) 74 rfl
        have e3 : vals 3 = .bool (true) := hv13 3 (by omega) 75 rfl
        have e4 : vals 4 = .slice (P1) (np) (cp) := hv13 4 (by omega) 76 rfl
        have e5 : vals 5 = .string (str (pairA LL)) := hv13 5 (by omega) 77 rfl
        have e6 : vals 6 = .slice (A6) (n6) (c6) := hv13 6 (by omega) 78 rfl
        have e7 : vals 7 = .string (str (pairA LL)) := hv13 7 (by omega) 79 rfl
        have e8 : vals 8 = .bool (true) := hv13 8 (by omega) 80 rfl
        have e9 : vals 9 = .bool (true) := hv13 9 (by omega) 81 rfl
        have e10 : vals 10 = .bool (true) := hv13 10 (by omega) 82 rfl
        have e11 : vals 11 = .slice (Q1) (nq) (cq) := hv13 11 (by omega) 83 rfl
        have e12 : vals 12 = .string (str (pairB LL)) := hv13 12 (by omega) 84 rfl
        have e13 : vals 13 = .slice (B6) (m6) (d6) := hv13 13 (by omega) 85 rfl
        have e14 : vals 14 = .string (str (pairB LL)) := hv13 14 (by omega) 86 rfl
        have e15 : vals 15 = .bool (true) := hv13 15 (by omega) 87 rfl
        have e16 : vals 16 = .bool (true) := hv13 16 (by omega) 88 rfl
        have e17 : vals 17 = .bool (true) := hv13 17 (by omega) 89 rfl
        have e18 : vals 18 = .bool (true) := hv13 18 (by omega) 90 rfl
        have e19 : vals 19 = .bool (true) := hv13 19 (by omega) 91 rfl
        simp only [putAll, Act.put, List.take_succ_cons, List.take_zero, List.drop_succ_cons, List.drop_zero, List.drop_nil, List.take_nil, Nat.reduceAdd, List.setIfInBounds_toArray, List.set_cons_succ, List.set_cons_zero, e0, e1, e2, e3, e4, e5, e6, e7, e8, e9, e10, e11, e12, e13, e14, e15, e16, e17, e18, e19]
        clear hv13 e0 e1 e2 e3 e4 e5 e6 e7 e8 e9 e10 e11 e12 e13 e14 e15 e16 e17 e18 e19
        go_wp2_with fail
        go_ret
        exact ⟨rfl, (hE1.trans hEr).trans hE13⟩
end Go.Proofs.Ytkndgpjamijbbaa
