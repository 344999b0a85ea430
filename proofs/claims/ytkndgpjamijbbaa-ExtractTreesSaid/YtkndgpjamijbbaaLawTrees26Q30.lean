/-
  keep's Lists, walked for any two rows.
-/
import Derived.Test.YtkndgpjamijbbaaLawTrees26Q20
namespace Go.Proofs.Ytkndgpjamijbbaa
set_option maxRecDepth 100000
open Go Go.RowKit
def LisI (w : World) (La Lb : List (List UInt8)) (i : Value) (wr : World) : Prop := ∃ k : Nat, k ≤ La.length ∧ i = .int .i64 k ∧ La.take k = Lb.take k ∧ Ext w wr
theorem takes_lb (Ls : List (List UInt8)) {k : Nat} (h : k < Ls.length) : Ls.take (k + 1) = Ls.take k ++ [lb Ls k] := by
  rw [List.take_succ_eq_append_getElem h]
  simp [lb, h]
set_option maxHeartbeats 4000000 in
theorem lists_any (A B : Option Addr) (n c m d : Nat) (La Lb : List (List UInt8)) (w : World) (rA0 : RBB w A n c La) (rB0 : RBB w B m d Lb) :
    Calls Try.prog 21 #[.slice A n c, .slice B m d] w fun e w' => e = .returned (.bool (decide (La = Lb))) ∧ Ext w w' := by
  have hcap := rA0.cap
  have hroom := rA0.room
  have hcapB := rB0.cap
  have hroomB := rB0.room
  unfold maxLen at hcap hcapB
  have hl := rA0.len
  have hlB := rB0.len
  have Hl := Lib.hid hl
  have HlB := Lib.hid hlB
  clear hl hlB
  go_enter Try.func21, Try.ntmps21
  by_cases hnm : n = m
  · subst hnm
    go_wp2_with fail
    go_loopw [5] (fun i wr => LisI w La Lb i wr) (fun i _ => n - (intOf i).toNat)
    case atStart => exact ⟨0, by omega, rfl, rfl, Ext.refl _⟩
    case round =>
      obtain ⟨k, hk, rfl, hall, hEr⟩ := hrel
      rw [Hl.out] at hk
      have Hall := Lib.hid hall
      clear hall
      by_cases hlt : k < n
      · have hki : (k : Int) < (n : Int) := by omega
        obtain ⟨ad, rfl, hc⟩ := rA0.cells (by omega)
        obtain ⟨E, z, y, hcell0, hrE0⟩ := hc k hlt
        obtain ⟨bd, rfl, hc2⟩ := rB0.cells (by omega)
        obtain ⟨F, zf, yf, hcell20, hrF0⟩ := hc2 k hlt
        have hcell := hEr.cell hcell0
        have hcell2 := hEr.cell hcell20
        have hrE := hrE0.ext hEr
        have hrF := hrF0.ext hEr
        have rA := rA0.ext hEr
        have rB := rB0.ext hEr
        clear hc hc2 hrE0 hrF0 hcell0 hcell20
        go_upto_region 6 with (fail)
        by_cases h32 : lb La k = lb Lb k
        · have H32 := Lib.hid h32
          refine par_ext (n := 11) (by kernel_rfl) [.is (.slice ((some ad)) (n) (c)), .is (.int .i64 (((k : Nat) : Int))), .is (.pointer (some (ad.add k))), .is (.slice (E) (z) (y)), .is (.string (str (lb La k))), .is (.slice ((some bd)) (n) (d)), .is (.int .i64 (((k : Nat) : Int))), .is (.pointer (some (bd.add k))), .is (.slice (F) (zf) (yf)), .is (.string (str (lb Lb k))), .is (.bool (false))] rfl ⟨?_, ?_, ?_, ?_, ?_, ?_, ?_, ?_, ?_, ?_, ?_, trivial⟩ ?_
          · refine stepE rfl fun sdn sa sw sE sd sk => ?_
            have h0 : sa.eval (.tmp 0) = .slice ((some ad)) (n) (c) := sk.old 0 rfl
            exact Runs.move rfl h0 ⟨Ext.refl _, rfl⟩
          · refine stepE rfl fun sdn sa sw sE sd sk => ?_
            have h5 : sa.eval (.tmp 5) = .int .i64 (((k : Nat) : Int)) := sk.old 5 rfl
            exact Runs.move rfl h5 ⟨Ext.refl _, rfl⟩
          · refine stepE rfl fun sdn sa sw sE sd sk => ?_
            have h17 : sa.eval (.tmp 17) = .slice ((some ad)) (n) (c) := sk.fact 0 17 rfl (sd 0 rfl)
            have h18 : sa.eval (.tmp 18) = .int .i64 (((k : Nat) : Int)) := sk.fact 1 18 rfl (sd 1 rfl)
            exact Runs.idx rfl h17 h18 (run_idx_sl1 Try.underlying23 infZZ_eq infZZ_size k (by first | rfl | omega) (by omega)) ⟨Ext.refl _, rfl⟩
          · refine stepE rfl fun sdn sa sw sE sd sk => ?_
            have h19 : sa.eval (.tmp 19) = .pointer (some (ad.add k)) := sk.fact 2 19 rfl (sd 2 rfl)
            exact Runs.load rfl h19 (run_load1 Try.underlying22 rfl (sE.cell hcell)) ⟨Ext.refl _, rfl⟩
          · refine stepE rfl fun sdn sa sw sE sd sk => ?_
            have h20 : sa.eval (.tmp 20) = .slice (E) (z) (y) := sk.fact 3 20 rfl (sd 3 rfl)
            exact Runs.conv rfl h20 (run_str (hrE.ext sE)) ⟨Ext.refl _, rfl⟩
          · refine stepE rfl fun sdn sa sw sE sd sk => ?_
            have h1 : sa.eval (.tmp 1) = .slice ((some bd)) (n) (d) := sk.old 1 rfl
            exact Runs.move rfl h1 ⟨Ext.refl _, rfl⟩
          · refine stepE rfl fun sdn sa sw sE sd sk => ?_
            have h5 : sa.eval (.tmp 5) = .int .i64 (((k : Nat) : Int)) := sk.old 5 rfl
            exact Runs.move rfl h5 ⟨Ext.refl _, rfl⟩
          · refine stepE rfl fun sdn sa sw sE sd sk => ?_
            have h22 : sa.eval (.tmp 22) = .slice ((some bd)) (n) (d) := sk.fact 5 22 rfl (sd 5 rfl)
            have h23 : sa.eval (.tmp 23) = .int .i64 (((k : Nat) : Int)) := sk.fact 6 23 rfl (sd 6 rfl)
            exact Runs.idx rfl h22 h23 (run_idx_sl1 Try.underlying23 infZZ_eq infZZ_size k (by first | rfl | omega) (by omega)) ⟨Ext.refl _, rfl⟩
          · refine stepE rfl fun sdn sa sw sE sd sk => ?_
            have h24 : sa.eval (.tmp 24) = .pointer (some (bd.add k)) := sk.fact 7 24 rfl (sd 7 rfl)
            exact Runs.load rfl h24 (run_load1 Try.underlying22 rfl (sE.cell hcell2)) ⟨Ext.refl _, rfl⟩
          · refine stepE rfl fun sdn sa sw sE sd sk => ?_
            have h25 : sa.eval (.tmp 25) = .slice (F) (zf) (yf) := sk.fact 8 25 rfl (sd 8 rfl)
            exact Runs.conv rfl h25 (run_str (hrF.ext sE)) ⟨Ext.refl _, rfl⟩
          · refine stepE rfl fun sdn sa sw sE sd sk => ?_
            have h21 : sa.eval (.tmp 21) = .string (str (lb La k)) := sk.fact 4 21 rfl (sd 4 rfl)
            have h26 : sa.eval (.tmp 26) = .string (str (lb Lb k)) := sk.fact 9 26 rfl (sd 9 rfl)
            exact Runs.bin rfl h21 h26 (by rfl) (bin_nes _ _ _) ⟨Ext.refl _, congrArg Value.bool (by simp [h32])⟩
          intro vals W6 hE6 hv6
          have e0 : vals 0 = .slice ((some ad)) (n) (c) := hv6 0 (by omega) 17 rfl
          have e1 : vals 1 = .int .i64 (((k : Nat) : Int)) := hv6 1 (by omega) 18 rfl
          have e2 : vals 2 = .pointer (some (ad.add k)) := hv6 2 (by omega) 19 rfl
          have e3 : vals 3 = .slice (E) (z) (y) := hv6 3 (by omega) 20 rfl
          have e4 : vals 4 = .string (str (lb La k)) := hv6 4 (by omega) 21 rfl
          have e5 : vals 5 = .slice ((some bd)) (n) (d) := hv6 5 (by omega) 22 rfl
          have e6 : vals 6 = .int .i64 (((k : Nat) : Int)) := hv6 6 (by omega) 23 rfl
          have e7 : vals 7 = .pointer (some (bd.add k)) := hv6 7 (by omega) 24 rfl
          have e8 : vals 8 = .slice (F) (zf) (yf) := hv6 8 (by omega) 25 rfl
          have e9 : vals 9 = .string (str (lb Lb k)) := hv6 9 (by omega) 26 rfl
          have e10 : vals 10 = .bool (false) := hv6 10 (by omega) 27 rfl
          simp only [putAll, Act.put, List.take_succ_cons, List.take_zero, List.drop_succ_cons, List.drop_zero, List.drop_nil, List.take_nil, Nat.reduceAdd, List.setIfInBounds_toArray, List.set_cons_succ, List.set_cons_zero, e0, e1, e2, e3, e4, e5, e6, e7, e8, e9, e10]
          clear hv6 e0 e1 e2 e3 e4 e5 e6 e7 e8 e9 e10
          clear h32 rA rB
          go_wp2_with fail
          go_roundw
          case rel =>
            refine ⟨k + 1, by rw [Hl.out]; omega, by go_num, ?_, hEr.trans hE6⟩
            rw [takes_lb La (by rw [Hl.out]; omega), takes_lb Lb (by rw [HlB.out]; omega), Hall.out, H32.out]
          case measure => simp [intOf]; omega
        · have hno : ¬ La = Lb := fun e => h32 (by rw [e])
          have Hno := Lib.hid hno
          clear hno
          refine par_ext (n := 11) (by kernel_rfl) [.is (.slice ((some ad)) (n) (c)), .is (.int .i64 (((k : Nat) : Int))), .is (.pointer (some (ad.add k))), .is (.slice (E) (z) (y)), .is (.string (str (lb La k))), .is (.slice ((some bd)) (n) (d)), .is (.int .i64 (((k : Nat) : Int))), .is (.pointer (some (bd.add k))), .is (.slice (F) (zf) (yf)), .is (.string (str (lb Lb k))), .is (.bool (true))] rfl ⟨?_, ?_, ?_, ?_, ?_, ?_, ?_, ?_, ?_, ?_, ?_, trivial⟩ ?_
          · refine stepE rfl fun sdn sa sw sE sd sk => ?_
            have h0 : sa.eval (.tmp 0) = .slice ((some ad)) (n) (c) := sk.old 0 rfl
            exact Runs.move rfl h0 ⟨Ext.refl _, rfl⟩
          · refine stepE rfl fun sdn sa sw sE sd sk => ?_
            have h5 : sa.eval (.tmp 5) = .int .i64 (((k : Nat) : Int)) := sk.old 5 rfl
            exact Runs.move rfl h5 ⟨Ext.refl _, rfl⟩
          · refine stepE rfl fun sdn sa sw sE sd sk => ?_
            have h17 : sa.eval (.tmp 17) = .slice ((some ad)) (n) (c) := sk.fact 0 17 rfl (sd 0 rfl)
            have h18 : sa.eval (.tmp 18) = .int .i64 (((k : Nat) : Int)) := sk.fact 1 18 rfl (sd 1 rfl)
            exact Runs.idx rfl h17 h18 (run_idx_sl1 Try.underlying23 infZZ_eq infZZ_size k (by first | rfl | omega) (by omega)) ⟨Ext.refl _, rfl⟩
          · refine stepE rfl fun sdn sa sw sE sd sk => ?_
            have h19 : sa.eval (.tmp 19) = .pointer (some (ad.add k)) := sk.fact 2 19 rfl (sd 2 rfl)
            exact Runs.load rfl h19 (run_load1 Try.underlying22 rfl (sE.cell hcell)) ⟨Ext.refl _, rfl⟩
          · refine stepE rfl fun sdn sa sw sE sd sk => ?_
            have h20 : sa.eval (.tmp 20) = .slice (E) (z) (y) := sk.fact 3 20 rfl (sd 3 rfl)
            exact Runs.conv rfl h20 (run_str (hrE.ext sE)) ⟨Ext.refl _, rfl⟩
          · refine stepE rfl fun sdn sa sw sE sd sk => ?_
            have h1 : sa.eval (.tmp 1) = .slice ((some bd)) (n) (d) := sk.old 1 rfl
            exact Runs.move rfl h1 ⟨Ext.refl _, rfl⟩
          · refine stepE rfl fun sdn sa sw sE sd sk => ?_
            have h5 : sa.eval (.tmp 5) = .int .i64 (((k : Nat) : Int)) := sk.old 5 rfl
            exact Runs.move rfl h5 ⟨Ext.refl _, rfl⟩
          · refine stepE rfl fun sdn sa sw sE sd sk => ?_
            have h22 : sa.eval (.tmp 22) = .slice ((some bd)) (n) (d) := sk.fact 5 22 rfl (sd 5 rfl)
            have h23 : sa.eval (.tmp 23) = .int .i64 (((k : Nat) : Int)) := sk.fact 6 23 rfl (sd 6 rfl)
            exact Runs.idx rfl h22 h23 (run_idx_sl1 Try.underlying23 infZZ_eq infZZ_size k (by first | rfl | omega) (by omega)) ⟨Ext.refl _, rfl⟩
          · refine stepE rfl fun sdn sa sw sE sd sk => ?_
            have h24 : sa.eval (.tmp 24) = .pointer (some (bd.add k)) := sk.fact 7 24 rfl (sd 7 rfl)
            exact Runs.load rfl h24 (run_load1 Try.underlying22 rfl (sE.cell hcell2)) ⟨Ext.refl _, rfl⟩
          · refine stepE rfl fun sdn sa sw sE sd sk => ?_
            have h25 : sa.eval (.tmp 25) = .slice (F) (zf) (yf) := sk.fact 8 25 rfl (sd 8 rfl)
            exact Runs.conv rfl h25 (run_str (hrF.ext sE)) ⟨Ext.refl _, rfl⟩
          · refine stepE rfl fun sdn sa sw sE sd sk => ?_
            have h21 : sa.eval (.tmp 21) = .string (str (lb La k)) := sk.fact 4 21 rfl (sd 4 rfl)
            have h26 : sa.eval (.tmp 26) = .string (str (lb Lb k)) := sk.fact 9 26 rfl (sd 9 rfl)
            exact Runs.bin rfl h21 h26 (by rfl) (bin_nes _ _ _) ⟨Ext.refl _, congrArg Value.bool (by simp [h32])⟩
          intro vals W6 hE6 hv6
          have e0 : vals 0 = .slice ((some ad)) (n) (c) := hv6 0 (by omega) 17 rfl
          have e1 : vals 1 = .int .i64 (((k : Nat) : Int)) := hv6 1 (by omega) 18 rfl
          have e2 : vals 2 = .pointer (some (ad.add k)) := hv6 2 (by omega) 19 rfl
          have e3 : vals 3 = .slice (E) (z) (y) := hv6 3 (by omega) 20 rfl
          have e4 : vals 4 = .string (str (lb La k)) := hv6 4 (by omega) 21 rfl
          have e5 : vals 5 = .slice ((some bd)) (n) (d) := hv6 5 (by omega) 22 rfl
          have e6 : vals 6 = .int .i64 (((k : Nat) : Int)) := hv6 6 (by omega) 23 rfl
          have e7 : vals 7 = .pointer (some (bd.add k)) := hv6 7 (by omega) 24 rfl
          have e8 : vals 8 = .slice (F) (zf) (yf) := hv6 8 (by omega) 25 rfl
          have e9 : vals 9 = .string (str (lb Lb k)) := hv6 9 (by omega) 26 rfl
          have e10 : vals 10 = .bool (true) := hv6 10 (by omega) 27 rfl
          simp only [putAll, Act.put, List.take_succ_cons, List.take_zero, List.drop_succ_cons, List.drop_zero, List.drop_nil, List.take_nil, Nat.reduceAdd, List.setIfInBounds_toArray, List.set_cons_succ, List.set_cons_zero, e0, e1, e2, e3, e4, e5, e6, e7, e8, e9, e10]
          clear hv6 e0 e1 e2 e3 e4 e5 e6 e7 e8 e9 e10
          clear h32 rA rB
          go_wp2_with fail
          go_ret
          rw [decide_eq_false Hno.out]
          exact ⟨rfl, hEr.trans hE6⟩
      · obtain rfl : k = n := by omega
        have hyes : La = Lb := by
          have h := Hall.out
          rwa [List.take_of_length_le (by rw [Hl.out]; omega), List.take_of_length_le (by rw [HlB.out]; omega)] at h
        have Hy := Lib.hid hyes
        clear hyes
        go_wp2_with fail
        go_ret
        rw [decide_eq_true Hy.out]
        exact ⟨rfl, hEr⟩
  · have hnm2 : ¬ (n : Int) = (m : Int) := by omega
    have hno : ¬ La = Lb := fun e => hnm (by rw [← Hl.out, ← HlB.out, e])
    have Hno := Lib.hid hno
    clear hno
    go_wp2_with fail
    go_ret
    rw [decide_eq_false Hno.out]
    exact ⟨rfl, Ext.refl _⟩
end Go.Proofs.Ytkndgpjamijbbaa
