/-
  slices.EqualFunc with hash.Same, extract's Prefix, walked.
-/
import Derived.Test.YtkndgpjamijbbaaLawCom26Q33
namespace Go.Proofs.Ytkndgpjamijbbaa
set_option maxRecDepth 100000
open Go Go.RowKit
def EqfI (w : World) (La Lb : List (List UInt8)) (i : Value) (wr : World) : Prop := ∃ k : Nat, k ≤ La.length ∧ i = .int .i64 k ∧ La.take k = Lb.take k ∧ wr = w
theorem take_snoc_lb (Ls : List (List UInt8)) {k : Nat} (h : k < Ls.length) : Ls.take (k + 1) = Ls.take k ++ [lb Ls k] := by
  rw [List.take_succ_eq_append_getElem h]
  simp [lb, h]
set_option maxHeartbeats 2000000 in
theorem equalpf_any (A B : Option Addr) (n c m d : Nat) (La Lb : List (List UInt8)) (w : World) (rA : RBB w A n c La) (rB : RBB w B m d Lb) :
    Calls Try.prog 46 #[.slice A n c, .slice B m d, .func (.func 47) #[] #[]] w fun e w' => e = .returned (.bool (decide (La = Lb))) ∧ w' = w := by
  have hcap := rA.cap
  have hroom := rA.room
  unfold maxLen at hcap
  have hl := rA.len
  have hlB := rB.len
  have Hl := Lib.hid hl
  have HlB := Lib.hid hlB
  clear hl hlB
  go_enter Try.func46, Try.ntmps46
  by_cases hnm : n = m
  · subst hnm
    go_wp2_with fail
    go_loopw [17] (fun i wr => EqfI w La Lb i wr) (fun i _ => n - (intOf i).toNat)
    case atStart => exact ⟨0, by omega, rfl, rfl, rfl⟩
    case round =>
      obtain ⟨k, hk, rfl, hall, rfl⟩ := hrel
      rw [Hl.out] at hk
      have Hall := Lib.hid hall
      clear hall
      by_cases hlt : k < n
      · have hki : (k : Int) < (n : Int) := by omega
        obtain ⟨ad, rfl, hc⟩ := rA.cells (by omega)
        obtain ⟨E, z, y, hcell, hrE⟩ := hc k hlt
        obtain ⟨bd, rfl, hc2⟩ := rB.cells (by omega)
        obtain ⟨F, zf, yf, hcell2, hrF⟩ := hc2 k hlt
        have hcq := hsame_any E F z y zf yf _ _ wr hrE hrF
        have Hcq := Lib.hid hcq
        clear hc hc2 hrE hrF hcq
        go_wp2_with fail
        refine Hcq.out.mono ?_
        rintro e w2 ⟨rfl, rfl⟩
        by_cases h32 : lb La k = lb Lb k
        · rw [decide_eq_true h32]
          have H32 := Lib.hid h32
          clear h32
          go_wp2_with fail
          go_roundw
          case rel =>
            refine ⟨k + 1, by rw [Hl.out]; omega, by go_num, ?_, rfl⟩
            rw [take_snoc_lb La (by rw [Hl.out]; omega), take_snoc_lb Lb (by rw [HlB.out]; omega), Hall.out, H32.out]
          case measure => simp [intOf]; omega
        · rw [decide_eq_false h32]
          have hno : ¬ La = Lb := fun e => h32 (by rw [e])
          have Hno := Lib.hid hno
          clear h32 hno
          go_wp2_with fail
          go_ret
          rw [decide_eq_false Hno.out]
          exact ⟨rfl, rfl⟩
      · obtain rfl : k = n := by omega
        have hyes : La = Lb := by
          have h := Hall.out
          rwa [List.take_of_length_le (by rw [Hl.out]; omega), List.take_of_length_le (by rw [HlB.out]; omega)] at h
        have Hy := Lib.hid hyes
        clear hyes
        go_wp2_with fail
        go_ret
        rw [decide_eq_true Hy.out]
        exact ⟨rfl, rfl⟩
  · have hnm2 : ¬ (n : Int) = (m : Int) := by omega
    have hno : ¬ La = Lb := fun e => hnm (by rw [← Hl.out, ← HlB.out, e])
    have Hno := Lib.hid hno
    clear hno
    go_wp2_with fail
    go_ret
    rw [decide_eq_false Hno.out]
    exact ⟨rfl, rfl⟩
set_option maxHeartbeats 8000000 in
theorem prefix_any (A B : Option Addr) (n c m d : Nat) (La Lb : List (List UInt8)) (z : Int) (w : World) (rA : RBB w A n c La) (rB : RBB w B m d Lb) :
    Calls Try.prog 12 #[.slice A n c, .slice B m d, .int .i64 z] w fun e w' => e = .returned (.bool (prefB La Lb z)) ∧ Ext w w' := by
  have hl := rA.len
  have hlB := rB.len
  have ca := rA.cap
  have cb := rB.cap
  have ra := rA.room
  have rb := rB.room
  unfold maxLen at ca cb
  have hp : prefB La Lb z = decide (0 ≤ z ∧ z ≤ (n : Int) ∧ z ≤ (m : Int) ∧ La.take z.toNat = Lb.take z.toNat) := by unfold prefB; rw [hl, hlB]
  rw [hp]
  clear hp
  go_enter Try.func12, Try.ntmps12
  go_upto_region 1 with (fail)
  by_cases h0 : 0 ≤ z ∧ z ≤ (n : Int) ∧ z ≤ (m : Int)
  · obtain ⟨h0, h1, h2⟩ := h0
    obtain ⟨k, rfl⟩ : ∃ k : Nat, z = k := ⟨z.toNat, by omega⟩
    have q0 : decide ((0 : Int) ≤ ((k : Nat) : Int)) = true := decide_eq_true h0
    have q1 : decide (((k : Nat) : Int) ≤ ((n : Nat) : Int)) = true := decide_eq_true h1
    have q2 : decide (((k : Nat) : Int) ≤ ((m : Nat) : Int)) = true := decide_eq_true h2
    have rA1 := rA.fst (k := k) (by omega)
    have rB1 := rB.fst (k := k) (by omega)
    refine par_ext (n := 23) (by kernel_rfl) [.is (.int .i64 (((k : Nat) : Int))), .is (.bool (true)), .is (.bool (true)), .is (.int .i64 (((k : Nat) : Int))), .is (.slice (A) (n) (c)), .is (.int .i64 ((n : Nat))), .is (.bool (true)), .is (.bool (true)), .is (.bool (true)), .is (.int .i64 (((k : Nat) : Int))), .is (.slice (B) (m) (d)), .is (.int .i64 ((m : Nat))), .is (.bool (true)), .is (.bool (true)), .is (.bool (true)), .is (.slice (A) (n) (c)), .is (.int .i64 (((k : Nat) : Int))), .is (.slice (A) (k) (c)), .is (.slice (B) (m) (d)), .is (.int .i64 (((k : Nat) : Int))), .is (.slice (B) (k) (d)), .is (.bool (decide (La.take k = Lb.take k))), .is (.bool (decide (La.take k = Lb.take k)))] rfl ⟨?_, ?_, ?_, ?_, ?_, ?_, ?_, ?_, ?_, ?_, ?_, ?_, ?_, ?_, ?_, ?_, ?_, ?_, ?_, ?_, ?_, ?_, ?_, trivial⟩ ?_
    · refine stepE rfl fun sdn sa sw sE sd sk => ?_
      have h2 : sa.eval (.tmp 2) = .int .i64 (((k : Nat) : Int)) := sk.old 2 rfl
      exact Runs.move rfl h2 ⟨Ext.refl _, rfl⟩
    · refine stepE rfl fun sdn sa sw sE sd sk => ?_
      have h7 : sa.eval (.tmp 7) = .int .i64 (((k : Nat) : Int)) := sk.fact 0 7 rfl (sd 0 rfl)
      exact Runs.bin rfl h7 rfl (by rfl) (bin_geq _ _ _ _) ⟨Ext.refl _, congrArg Value.bool (q0)⟩
    · refine stepE rfl fun sdn sa sw sE sd sk => ?_
      have h8 : sa.eval (.tmp 8) = .bool (true) := sk.fact 1 8 rfl (sd 1 rfl)
      exact Runs.move rfl h8 ⟨Ext.refl _, rfl⟩
    · refine stepY (j := 2) (d := 9) (b := true) rfl rfl rfl (fun v w h => h) fun sdn sa sw sE sd sk => ?_
      have h2 : sa.eval (.tmp 2) = .int .i64 (((k : Nat) : Int)) := sk.old 2 rfl
      exact Runs.move rfl h2 ⟨Ext.refl _, rfl⟩
    · refine stepY (j := 2) (d := 9) (b := true) rfl rfl rfl (fun v w h => h) fun sdn sa sw sE sd sk => ?_
      have h0 : sa.eval (.tmp 0) = .slice (A) (n) (c) := sk.old 0 rfl
      exact Runs.move rfl h0 ⟨Ext.refl _, rfl⟩
    · refine stepY (j := 2) (d := 9) (b := true) rfl rfl rfl (fun v w h => h) fun sdn sa sw sE sd sk => ?_
      have h11 : sa.eval (.tmp 11) = .slice (A) (n) (c) := sk.fact 4 11 rfl (sd 4 rfl)
      exact Runs.len Try.underlying23 rfl h11 ⟨Ext.refl _, rfl⟩
    · refine stepY (j := 2) (d := 9) (b := true) rfl rfl rfl (fun v w h => h) fun sdn sa sw sE sd sk => ?_
      have h10 : sa.eval (.tmp 10) = .int .i64 (((k : Nat) : Int)) := sk.fact 3 10 rfl (sd 3 rfl)
      have h12 : sa.eval (.tmp 12) = .int .i64 ((n : Nat)) := sk.fact 5 12 rfl (sd 5 rfl)
      exact Runs.bin rfl h10 h12 (by rfl) (bin_leq _ _ _ _) ⟨Ext.refl _, congrArg Value.bool (q1)⟩
    · refine stepE rfl fun sdn sa sw sE sd sk => ?_
      have h9 : sa.eval (.tmp 9) = .bool (true) := sk.fact 2 9 rfl (sd 2 rfl)
      have h13 : sa.eval (.tmp 13) = .bool (true) := sk.fact 6 13 rfl (sd 6 rfl)
      exact Runs.pick rfl h9 ⟨Ext.refl _, by first | exact h13 | simpa using h13⟩
    · refine stepE rfl fun sdn sa sw sE sd sk => ?_
      have h14 : sa.eval (.tmp 14) = .bool (true) := sk.fact 7 14 rfl (sd 7 rfl)
      exact Runs.move rfl h14 ⟨Ext.refl _, rfl⟩
    · refine stepY (j := 8) (d := 15) (b := true) rfl rfl rfl (fun v w h => h) fun sdn sa sw sE sd sk => ?_
      have h2 : sa.eval (.tmp 2) = .int .i64 (((k : Nat) : Int)) := sk.old 2 rfl
      exact Runs.move rfl h2 ⟨Ext.refl _, rfl⟩
    · refine stepY (j := 8) (d := 15) (b := true) rfl rfl rfl (fun v w h => h) fun sdn sa sw sE sd sk => ?_
      have h1 : sa.eval (.tmp 1) = .slice (B) (m) (d) := sk.old 1 rfl
      exact Runs.move rfl h1 ⟨Ext.refl _, rfl⟩
    · refine stepY (j := 8) (d := 15) (b := true) rfl rfl rfl (fun v w h => h) fun sdn sa sw sE sd sk => ?_
      have h17 : sa.eval (.tmp 17) = .slice (B) (m) (d) := sk.fact 10 17 rfl (sd 10 rfl)
      exact Runs.len Try.underlying23 rfl h17 ⟨Ext.refl _, rfl⟩
    · refine stepY (j := 8) (d := 15) (b := true) rfl rfl rfl (fun v w h => h) fun sdn sa sw sE sd sk => ?_
      have h16 : sa.eval (.tmp 16) = .int .i64 (((k : Nat) : Int)) := sk.fact 9 16 rfl (sd 9 rfl)
      have h18 : sa.eval (.tmp 18) = .int .i64 ((m : Nat)) := sk.fact 11 18 rfl (sd 11 rfl)
      exact Runs.bin rfl h16 h18 (by rfl) (bin_leq _ _ _ _) ⟨Ext.refl _, congrArg Value.bool (q2)⟩
    · refine stepE rfl fun sdn sa sw sE sd sk => ?_
      have h15 : sa.eval (.tmp 15) = .bool (true) := sk.fact 8 15 rfl (sd 8 rfl)
      have h19 : sa.eval (.tmp 19) = .bool (true) := sk.fact 12 19 rfl (sd 12 rfl)
      exact Runs.pick rfl h15 ⟨Ext.refl _, by first | exact h19 | simpa using h19⟩
    · refine stepE rfl fun sdn sa sw sE sd sk => ?_
      have h20 : sa.eval (.tmp 20) = .bool (true) := sk.fact 13 20 rfl (sd 13 rfl)
      exact Runs.move rfl h20 ⟨Ext.refl _, rfl⟩
    · refine stepY (j := 14) (d := 21) (b := true) rfl rfl rfl (fun v w h => h) fun sdn sa sw sE sd sk => ?_
      have h0 : sa.eval (.tmp 0) = .slice (A) (n) (c) := sk.old 0 rfl
      exact Runs.move rfl h0 ⟨Ext.refl _, rfl⟩
    · refine stepY (j := 14) (d := 21) (b := true) rfl rfl rfl (fun v w h => h) fun sdn sa sw sE sd sk => ?_
      have h2 : sa.eval (.tmp 2) = .int .i64 (((k : Nat) : Int)) := sk.old 2 rfl
      exact Runs.move rfl h2 ⟨Ext.refl _, rfl⟩
    · refine stepY (j := 14) (d := 21) (b := true) rfl rfl rfl (fun v w h => h) fun sdn sa sw sE sd sk => ?_
      have h22 : sa.eval (.tmp 22) = .slice (A) (n) (c) := sk.fact 15 22 rfl (sd 15 rfl)
      have h23 : sa.eval (.tmp 23) = .int .i64 (((k : Nat) : Int)) := sk.fact 16 23 rfl (sd 16 rfl)
      exact Runs.slice rfl h22 (by simp only [Option.map_some, Option.map_none, h23]; exact run_cut_h Try.underlying23 infZZ_eq k (by first | rfl | omega) (by omega)) ⟨Ext.refl _, rfl⟩
    · refine stepY (j := 14) (d := 21) (b := true) rfl rfl rfl (fun v w h => h) fun sdn sa sw sE sd sk => ?_
      have h1 : sa.eval (.tmp 1) = .slice (B) (m) (d) := sk.old 1 rfl
      exact Runs.move rfl h1 ⟨Ext.refl _, rfl⟩
    · refine stepY (j := 14) (d := 21) (b := true) rfl rfl rfl (fun v w h => h) fun sdn sa sw sE sd sk => ?_
      have h2 : sa.eval (.tmp 2) = .int .i64 (((k : Nat) : Int)) := sk.old 2 rfl
      exact Runs.move rfl h2 ⟨Ext.refl _, rfl⟩
    · refine stepY (j := 14) (d := 21) (b := true) rfl rfl rfl (fun v w h => h) fun sdn sa sw sE sd sk => ?_
      have h25 : sa.eval (.tmp 25) = .slice (B) (m) (d) := sk.fact 18 25 rfl (sd 18 rfl)
      have h26 : sa.eval (.tmp 26) = .int .i64 (((k : Nat) : Int)) := sk.fact 19 26 rfl (sd 19 rfl)
      exact Runs.slice rfl h25 (by simp only [Option.map_some, Option.map_none, h26]; exact run_cut_h Try.underlying23 infZZ_eq k (by first | rfl | omega) (by omega)) ⟨Ext.refl _, rfl⟩
    · refine stepY (j := 14) (d := 21) (b := true) rfl rfl rfl (fun v w h => h) fun sdn sa sw sE sd sk => ?_
      have h24 : sa.eval (.tmp 24) = .slice (A) (k) (c) := sk.fact 17 24 rfl (sd 17 rfl)
      have h27 : sa.eval (.tmp 27) = .slice (B) (k) (d) := sk.fact 20 27 rfl (sd 20 rfl)
      refine Runs.call (f := 46) (vs := [.slice (A) (k) (c), .slice (B) (k) (d), .func (.func 47) #[] #[]]) rfl rfl rfl (by simp only [List.map_toArray, List.map_cons, List.map_nil, h24, h27] <;> rfl) (ent46 _ _) ((equalpf_any _ _ _ _ _ _ _ _ sw (rA1.ext sE) (rB1.ext sE)).mono ?_); rintro e w' ⟨rfl, rfl⟩; exact ⟨_, rfl, Ext.refl _, rfl⟩
    · refine stepE rfl fun sdn sa sw sE sd sk => ?_
      have h21 : sa.eval (.tmp 21) = .bool (true) := sk.fact 14 21 rfl (sd 14 rfl)
      have h28 : sa.eval (.tmp 28) = .bool (decide (La.take k = Lb.take k)) := sk.fact 21 28 rfl (sd 21 rfl)
      exact Runs.pick rfl h21 ⟨Ext.refl _, by first | exact h28 | simpa using h28⟩
    intro vals W1 hE1 hv1
    have e0 : vals 0 = .int .i64 (((k : Nat) : Int)) := hv1 0 (by omega) 7 rfl
    have e1 : vals 1 = .bool (true) := hv1 1 (by omega) 8 rfl
    have e2 : vals 2 = .bool (true) := hv1 2 (by omega) 9 rfl
    have e3 : vals 3 = .int .i64 (((k : Nat) : Int)) := hv1 3 (by omega) 10 rfl
    have e4 : vals 4 = .slice (A) (n) (c) := hv1 4 (by omega) 11 rfl
    have e5 : vals 5 = .int .i64 ((n : Nat)) := hv1 5 (by omega) 12 rfl
    have e6 : vals 6 = .bool (true) := hv1 6 (by omega) 13 rfl
    have e7 : vals 7 = .bool (true) := hv1 7 (by omega) 14 rfl
    have e8 : vals 8 = .bool (true) := hv1 8 (by omega) 15 rfl
    have e9 : vals 9 = .int .i64 (((k : Nat) : Int)) := hv1 9 (by omega) 16 rfl
    have e10 : vals 10 = .slice (B) (m) (d) := hv1 10 (by omega) 17 rfl
    have e11 : vals 11 = .int .i64 ((m : Nat)) := hv1 11 (by omega) 18 rfl
    have e12 : vals 12 = .bool (true) := hv1 12 (by omega) 19 rfl
    have e13 : vals 13 = .bool (true) := hv1 13 (by omega) 20 rfl
    have e14 : vals 14 = .bool (true) := hv1 14 (by omega) 21 rfl
    have e15 : vals 15 = .slice (A) (n) (c) := hv1 15 (by omega) 22 rfl
    have e16 : vals 16 = .int .i64 (((k : Nat) : Int)) := hv1 16 (by omega) 23 rfl
    have e17 : vals 17 = .slice (A) (k) (c) := hv1 17 (by omega) 24 rfl
    have e18 : vals 18 = .slice (B) (m) (d) := hv1 18 (by omega) 25 rfl
    have e19 : vals 19 = .int .i64 (((k : Nat) : Int)) := hv1 19 (by omega) 26 rfl
    have e20 : vals 20 = .slice (B) (k) (d) := hv1 20 (by omega) 27 rfl
    have e21 : vals 21 = .bool (decide (La.take k = Lb.take k)) := hv1 21 (by omega) 28 rfl
    have e22 : vals 22 = .bool (decide (La.take k = Lb.take k)) := hv1 22 (by omega) 29 rfl
    simp only [putAll, Act.put, List.take_succ_cons, List.take_zero, List.drop_succ_cons, List.drop_zero, List.drop_nil, List.take_nil, Nat.reduceAdd, List.setIfInBounds_toArray, List.set_cons_succ, List.set_cons_zero, e0, e1, e2, e3, e4, e5, e6, e7, e8, e9, e10, e11, e12, e13, e14, e15, e16, e17, e18, e19, e20, e21, e22]
    clear hv1 e0 e1 e2 e3 e4 e5 e6 e7 e8 e9 e10 e11 e12 e13 e14 e15 e16 e17 e18 e19 e20 e21 e22
    go_wp2_with fail
    go_ret
    refine ⟨?_, hE1⟩
    congr 2
    have e : ((k : Nat) : Int).toNat = k := by omega
    simp [h0, h1, h2, e]
  · by_cases g0 : 0 ≤ z
    · by_cases g1 : z ≤ (n : Int)
      · have g2 : ¬ z ≤ (m : Int) := fun g2 => h0 ⟨g0, g1, g2⟩
        have q0 : decide ((0 : Int) ≤ z) = true := decide_eq_true g0
        have q1 : decide (z ≤ ((n : Nat) : Int)) = true := decide_eq_true g1
        have q2 : decide (z ≤ ((m : Nat) : Int)) = false := decide_eq_false g2
        have Hn := Lib.hid (fun h : 0 ≤ z ∧ z ≤ (n : Int) ∧ z ≤ (m : Int) ∧ La.take z.toNat = Lb.take z.toNat => h0 ⟨h.1, h.2.1, h.2.2.1⟩)
        clear g0 g1 g2 h0
        refine par_ext (n := 23) (by kernel_rfl) [.is (.int .i64 (z)), .is (.bool (true)), .is (.bool (true)), .is (.int .i64 (z)), .is (.slice (A) (n) (c)), .is (.int .i64 ((n : Nat))), .is (.bool (true)), .is (.bool (true)), .is (.bool (true)), .is (.int .i64 (z)), .is (.slice (B) (m) (d)), .is (.int .i64 ((m : Nat))), .is (.bool (false)), .is (.bool (false)), .is (.bool (false)), .is undef, .is undef, .is undef, .is undef, .is undef, .is undef, .is undef, .is (.bool (false))] rfl ⟨?_, ?_, ?_, ?_, ?_, ?_, ?_, ?_, ?_, ?_, ?_, ?_, ?_, ?_, ?_, ?_, ?_, ?_, ?_, ?_, ?_, ?_, ?_, trivial⟩ ?_
        · refine stepE rfl fun sdn sa sw sE sd sk => ?_
          have h2 : sa.eval (.tmp 2) = .int .i64 (z) := sk.old 2 rfl
          exact Runs.move rfl h2 ⟨Ext.refl _, rfl⟩
        · refine stepE rfl fun sdn sa sw sE sd sk => ?_
          have h7 : sa.eval (.tmp 7) = .int .i64 (z) := sk.fact 0 7 rfl (sd 0 rfl)
          exact Runs.bin rfl h7 rfl (by rfl) (bin_geq _ _ _ _) ⟨Ext.refl _, congrArg Value.bool (q0)⟩
        · refine stepE rfl fun sdn sa sw sE sd sk => ?_
          have h8 : sa.eval (.tmp 8) = .bool (true) := sk.fact 1 8 rfl (sd 1 rfl)
          exact Runs.move rfl h8 ⟨Ext.refl _, rfl⟩
        · refine stepY (j := 2) (d := 9) (b := true) rfl rfl rfl (fun v w h => h) fun sdn sa sw sE sd sk => ?_
          have h2 : sa.eval (.tmp 2) = .int .i64 (z) := sk.old 2 rfl
          exact Runs.move rfl h2 ⟨Ext.refl _, rfl⟩
        · refine stepY (j := 2) (d := 9) (b := true) rfl rfl rfl (fun v w h => h) fun sdn sa sw sE sd sk => ?_
          have h0 : sa.eval (.tmp 0) = .slice (A) (n) (c) := sk.old 0 rfl
          exact Runs.move rfl h0 ⟨Ext.refl _, rfl⟩
        · refine stepY (j := 2) (d := 9) (b := true) rfl rfl rfl (fun v w h => h) fun sdn sa sw sE sd sk => ?_
          have h11 : sa.eval (.tmp 11) = .slice (A) (n) (c) := sk.fact 4 11 rfl (sd 4 rfl)
          exact Runs.len Try.underlying23 rfl h11 ⟨Ext.refl _, rfl⟩
        · refine stepY (j := 2) (d := 9) (b := true) rfl rfl rfl (fun v w h => h) fun sdn sa sw sE sd sk => ?_
          have h10 : sa.eval (.tmp 10) = .int .i64 (z) := sk.fact 3 10 rfl (sd 3 rfl)
          have h12 : sa.eval (.tmp 12) = .int .i64 ((n : Nat)) := sk.fact 5 12 rfl (sd 5 rfl)
          exact Runs.bin rfl h10 h12 (by rfl) (bin_leq _ _ _ _) ⟨Ext.refl _, congrArg Value.bool (q1)⟩
        · refine stepE rfl fun sdn sa sw sE sd sk => ?_
          have h9 : sa.eval (.tmp 9) = .bool (true) := sk.fact 2 9 rfl (sd 2 rfl)
          have h13 : sa.eval (.tmp 13) = .bool (true) := sk.fact 6 13 rfl (sd 6 rfl)
          exact Runs.pick rfl h9 ⟨Ext.refl _, by first | exact h13 | simpa using h13⟩
        · refine stepE rfl fun sdn sa sw sE sd sk => ?_
          have h14 : sa.eval (.tmp 14) = .bool (true) := sk.fact 7 14 rfl (sd 7 rfl)
          exact Runs.move rfl h14 ⟨Ext.refl _, rfl⟩
        · refine stepY (j := 8) (d := 15) (b := true) rfl rfl rfl (fun v w h => h) fun sdn sa sw sE sd sk => ?_
          have h2 : sa.eval (.tmp 2) = .int .i64 (z) := sk.old 2 rfl
          exact Runs.move rfl h2 ⟨Ext.refl _, rfl⟩
        · refine stepY (j := 8) (d := 15) (b := true) rfl rfl rfl (fun v w h => h) fun sdn sa sw sE sd sk => ?_
          have h1 : sa.eval (.tmp 1) = .slice (B) (m) (d) := sk.old 1 rfl
          exact Runs.move rfl h1 ⟨Ext.refl _, rfl⟩
        · refine stepY (j := 8) (d := 15) (b := true) rfl rfl rfl (fun v w h => h) fun sdn sa sw sE sd sk => ?_
          have h17 : sa.eval (.tmp 17) = .slice (B) (m) (d) := sk.fact 10 17 rfl (sd 10 rfl)
          exact Runs.len Try.underlying23 rfl h17 ⟨Ext.refl _, rfl⟩
        · refine stepY (j := 8) (d := 15) (b := true) rfl rfl rfl (fun v w h => h) fun sdn sa sw sE sd sk => ?_
          have h16 : sa.eval (.tmp 16) = .int .i64 (z) := sk.fact 9 16 rfl (sd 9 rfl)
          have h18 : sa.eval (.tmp 18) = .int .i64 ((m : Nat)) := sk.fact 11 18 rfl (sd 11 rfl)
          exact Runs.bin rfl h16 h18 (by rfl) (bin_leq _ _ _ _) ⟨Ext.refl _, congrArg Value.bool (q2)⟩
        · refine stepE rfl fun sdn sa sw sE sd sk => ?_
          have h15 : sa.eval (.tmp 15) = .bool (true) := sk.fact 8 15 rfl (sd 8 rfl)
          have h19 : sa.eval (.tmp 19) = .bool (false) := sk.fact 12 19 rfl (sd 12 rfl)
          exact Runs.pick rfl h15 ⟨Ext.refl _, by first | exact h19 | simpa using h19⟩
        · refine stepE rfl fun sdn sa sw sE sd sk => ?_
          have h20 : sa.eval (.tmp 20) = .bool (false) := sk.fact 13 20 rfl (sd 13 rfl)
          exact Runs.move rfl h20 ⟨Ext.refl _, rfl⟩
        · exact stepN (j := 14) (d := 21) (b := false) rfl rfl rfl (fun v w h => h) fun w => rfl
        · exact stepN (j := 14) (d := 21) (b := false) rfl rfl rfl (fun v w h => h) fun w => rfl
        · exact stepN (j := 14) (d := 21) (b := false) rfl rfl rfl (fun v w h => h) fun w => rfl
        · exact stepN (j := 14) (d := 21) (b := false) rfl rfl rfl (fun v w h => h) fun w => rfl
        · exact stepN (j := 14) (d := 21) (b := false) rfl rfl rfl (fun v w h => h) fun w => rfl
        · exact stepN (j := 14) (d := 21) (b := false) rfl rfl rfl (fun v w h => h) fun w => rfl
        · exact stepN (j := 14) (d := 21) (b := false) rfl rfl rfl (fun v w h => h) fun w => rfl
        · refine stepE rfl fun sdn sa sw sE sd sk => ?_
          have h21 : sa.eval (.tmp 21) = .bool (false) := sk.fact 14 21 rfl (sd 14 rfl)
          exact Runs.pick rfl h21 ⟨Ext.refl _, rfl⟩
        intro vals W1 hE1 hv1
        have e0 : vals 0 = .int .i64 (z) := hv1 0 (by omega) 7 rfl
        have e1 : vals 1 = .bool (true) := hv1 1 (by omega) 8 rfl
        have e2 : vals 2 = .bool (true) := hv1 2 (by omega) 9 rfl
        have e3 : vals 3 = .int .i64 (z) := hv1 3 (by omega) 10 rfl
        have e4 : vals 4 = .slice (A) (n) (c) := hv1 4 (by omega) 11 rfl
        have e5 : vals 5 = .int .i64 ((n : Nat)) := hv1 5 (by omega) 12 rfl
        have e6 : vals 6 = .bool (true) := hv1 6 (by omega) 13 rfl
        have e7 : vals 7 = .bool (true) := hv1 7 (by omega) 14 rfl
        have e8 : vals 8 = .bool (true) := hv1 8 (by omega) 15 rfl
        have e9 : vals 9 = .int .i64 (z) := hv1 9 (by omega) 16 rfl
        have e10 : vals 10 = .slice (B) (m) (d) := hv1 10 (by omega) 17 rfl
        have e11 : vals 11 = .int .i64 ((m : Nat)) := hv1 11 (by omega) 18 rfl
        have e12 : vals 12 = .bool (false) := hv1 12 (by omega) 19 rfl
        have e13 : vals 13 = .bool (false) := hv1 13 (by omega) 20 rfl
        have e14 : vals 14 = .bool (false) := hv1 14 (by omega) 21 rfl
        have e22 : vals 22 = .bool (false) := hv1 22 (by omega) 29 rfl
        simp only [putAll, Act.put, List.take_succ_cons, List.take_zero, List.drop_succ_cons, List.drop_zero, List.drop_nil, List.take_nil, Nat.reduceAdd, List.setIfInBounds_toArray, List.set_cons_succ, List.set_cons_zero, e0, e1, e2, e3, e4, e5, e6, e7, e8, e9, e10, e11, e12, e13, e14, e22]
        clear hv1 e0 e1 e2 e3 e4 e5 e6 e7 e8 e9 e10 e11 e12 e13 e14 e22
        go_wp2_with fail
        go_ret
        rw [decide_eq_false Hn.out]
        exact ⟨rfl, hE1⟩
      · have q0 : decide ((0 : Int) ≤ z) = true := decide_eq_true g0
        have q1 : decide (z ≤ ((n : Nat) : Int)) = false := decide_eq_false g1
        have Hn := Lib.hid (fun h : 0 ≤ z ∧ z ≤ (n : Int) ∧ z ≤ (m : Int) ∧ La.take z.toNat = Lb.take z.toNat => h0 ⟨h.1, h.2.1, h.2.2.1⟩)
        clear g0 g1 h0
        refine par_ext (n := 23) (by kernel_rfl) [.is (.int .i64 (z)), .is (.bool (true)), .is (.bool (true)), .is (.int .i64 (z)), .is (.slice (A) (n) (c)), .is (.int .i64 ((n : Nat))), .is (.bool (false)), .is (.bool (false)), .is (.bool (false)), .is undef, .is undef, .is undef, .is undef, .is (.bool (false)), .is (.bool (false)), .is undef, .is undef, .is undef, .is undef, .is undef, .is undef, .is undef, .is (.bool (false))] rfl ⟨?_, ?_, ?_, ?_, ?_, ?_, ?_, ?_, ?_, ?_, ?_, ?_, ?_, ?_, ?_, ?_, ?_, ?_, ?_, ?_, ?_, ?_, ?_, trivial⟩ ?_
        · refine stepE rfl fun sdn sa sw sE sd sk => ?_
          have h2 : sa.eval (.tmp 2) = .int .i64 (z) := sk.old 2 rfl
          exact Runs.move rfl h2 ⟨Ext.refl _, rfl⟩
        · refine stepE rfl fun sdn sa sw sE sd sk => ?_
          have h7 : sa.eval (.tmp 7) = .int .i64 (z) := sk.fact 0 7 rfl (sd 0 rfl)
          exact Runs.bin rfl h7 rfl (by rfl) (bin_geq _ _ _ _) ⟨Ext.refl _, congrArg Value.bool (q0)⟩
        · refine stepE rfl fun sdn sa sw sE sd sk => ?_
          have h8 : sa.eval (.tmp 8) = .bool (true) := sk.fact 1 8 rfl (sd 1 rfl)
          exact Runs.move rfl h8 ⟨Ext.refl _, rfl⟩
        · refine stepY (j := 2) (d := 9) (b := true) rfl rfl rfl (fun v w h => h) fun sdn sa sw sE sd sk => ?_
          have h2 : sa.eval (.tmp 2) = .int .i64 (z) := sk.old 2 rfl
          exact Runs.move rfl h2 ⟨Ext.refl _, rfl⟩
        · refine stepY (j := 2) (d := 9) (b := true) rfl rfl rfl (fun v w h => h) fun sdn sa sw sE sd sk => ?_
          have h0 : sa.eval (.tmp 0) = .slice (A) (n) (c) := sk.old 0 rfl
          exact Runs.move rfl h0 ⟨Ext.refl _, rfl⟩
        · refine stepY (j := 2) (d := 9) (b := true) rfl rfl rfl (fun v w h => h) fun sdn sa sw sE sd sk => ?_
          have h11 : sa.eval (.tmp 11) = .slice (A) (n) (c) := sk.fact 4 11 rfl (sd 4 rfl)
          exact Runs.len Try.underlying23 rfl h11 ⟨Ext.refl _, rfl⟩
        · refine stepY (j := 2) (d := 9) (b := true) rfl rfl rfl (fun v w h => h) fun sdn sa sw sE sd sk => ?_
          have h10 : sa.eval (.tmp 10) = .int .i64 (z) := sk.fact 3 10 rfl (sd 3 rfl)
          have h12 : sa.eval (.tmp 12) = .int .i64 ((n : Nat)) := sk.fact 5 12 rfl (sd 5 rfl)
          exact Runs.bin rfl h10 h12 (by rfl) (bin_leq _ _ _ _) ⟨Ext.refl _, congrArg Value.bool (q1)⟩
        · refine stepE rfl fun sdn sa sw sE sd sk => ?_
          have h9 : sa.eval (.tmp 9) = .bool (true) := sk.fact 2 9 rfl (sd 2 rfl)
          have h13 : sa.eval (.tmp 13) = .bool (false) := sk.fact 6 13 rfl (sd 6 rfl)
          exact Runs.pick rfl h9 ⟨Ext.refl _, by first | exact h13 | simpa using h13⟩
        · refine stepE rfl fun sdn sa sw sE sd sk => ?_
          have h14 : sa.eval (.tmp 14) = .bool (false) := sk.fact 7 14 rfl (sd 7 rfl)
          exact Runs.move rfl h14 ⟨Ext.refl _, rfl⟩
        · exact stepN (j := 8) (d := 15) (b := false) rfl rfl rfl (fun v w h => h) fun w => rfl
        · exact stepN (j := 8) (d := 15) (b := false) rfl rfl rfl (fun v w h => h) fun w => rfl
        · exact stepN (j := 8) (d := 15) (b := false) rfl rfl rfl (fun v w h => h) fun w => rfl
        · exact stepN (j := 8) (d := 15) (b := false) rfl rfl rfl (fun v w h => h) fun w => rfl
        · refine stepE rfl fun sdn sa sw sE sd sk => ?_
          have h15 : sa.eval (.tmp 15) = .bool (false) := sk.fact 8 15 rfl (sd 8 rfl)
          exact Runs.pick rfl h15 ⟨Ext.refl _, rfl⟩
        · refine stepE rfl fun sdn sa sw sE sd sk => ?_
          have h20 : sa.eval (.tmp 20) = .bool (false) := sk.fact 13 20 rfl (sd 13 rfl)
          exact Runs.move rfl h20 ⟨Ext.refl _, rfl⟩
        · exact stepN (j := 14) (d := 21) (b := false) rfl rfl rfl (fun v w h => h) fun w => rfl
        · exact stepN (j := 14) (d := 21) (b := false) rfl rfl rfl (fun v w h => h) fun w => rfl
        · exact stepN (j := 14) (d := 21) (b := false) rfl rfl rfl (fun v w h => h) fun w => rfl
        · exact stepN (j := 14) (d := 21) (b := false) rfl rfl rfl (fun v w h => h) fun w => rfl
        · exact stepN (j := 14) (d := 21) (b := false) rfl rfl rfl (fun v w h => h) fun w => rfl
        · exact stepN (j := 14) (d := 21) (b := false) rfl rfl rfl (fun v w h => h) fun w => rfl
        · exact stepN (j := 14) (d := 21) (b := false) rfl rfl rfl (fun v w h => h) fun w => rfl
        · refine stepE rfl fun sdn sa sw sE sd sk => ?_
          have h21 : sa.eval (.tmp 21) = .bool (false) := sk.fact 14 21 rfl (sd 14 rfl)
          exact Runs.pick rfl h21 ⟨Ext.refl _, rfl⟩
        intro vals W1 hE1 hv1
        have e0 : vals 0 = .int .i64 (z) := hv1 0 (by omega) 7 rfl
        have e1 : vals 1 = .bool (true) := hv1 1 (by omega) 8 rfl
        have e2 : vals 2 = .bool (true) := hv1 2 (by omega) 9 rfl
        have e3 : vals 3 = .int .i64 (z) := hv1 3 (by omega) 10 rfl
        have e4 : vals 4 = .slice (A) (n) (c) := hv1 4 (by omega) 11 rfl
        have e5 : vals 5 = .int .i64 ((n : Nat)) := hv1 5 (by omega) 12 rfl
        have e6 : vals 6 = .bool (false) := hv1 6 (by omega) 13 rfl
        have e7 : vals 7 = .bool (false) := hv1 7 (by omega) 14 rfl
        have e8 : vals 8 = .bool (false) := hv1 8 (by omega) 15 rfl
        have e13 : vals 13 = .bool (false) := hv1 13 (by omega) 20 rfl
        have e14 : vals 14 = .bool (false) := hv1 14 (by omega) 21 rfl
        have e22 : vals 22 = .bool (false) := hv1 22 (by omega) 29 rfl
        simp only [putAll, Act.put, List.take_succ_cons, List.take_zero, List.drop_succ_cons, List.drop_zero, List.drop_nil, List.take_nil, Nat.reduceAdd, List.setIfInBounds_toArray, List.set_cons_succ, List.set_cons_zero, e0, e1, e2, e3, e4, e5, e6, e7, e8, e13, e14, e22]
        clear hv1 e0 e1 e2 e3 e4 e5 e6 e7 e8 e13 e14 e22
        go_wp2_with fail
        go_ret
        rw [decide_eq_false Hn.out]
        exact ⟨rfl, hE1⟩
    · have q0 : decide ((0 : Int) ≤ z) = false := decide_eq_false g0
      have Hn := Lib.hid (fun h : 0 ≤ z ∧ z ≤ (n : Int) ∧ z ≤ (m : Int) ∧ La.take z.toNat = Lb.take z.toNat => h0 ⟨h.1, h.2.1, h.2.2.1⟩)
      clear g0 h0
      refine par_ext (n := 23) (by kernel_rfl) [.is (.int .i64 (z)), .is (.bool (false)), .is (.bool (false)), .is undef, .is undef, .is undef, .is undef, .is (.bool (false)), .is (.bool (false)), .is undef, .is undef, .is undef, .is undef, .is (.bool (false)), .is (.bool (false)), .is undef, .is undef, .is undef, .is undef, .is undef, .is undef, .is undef, .is (.bool (false))] rfl ⟨?_, ?_, ?_, ?_, ?_, ?_, ?_, ?_, ?_, ?_, ?_, ?_, ?_, ?_, ?_, ?_, ?_, ?_, ?_, ?_, ?_, ?_, ?_, trivial⟩ ?_
      · refine stepE rfl fun sdn sa sw sE sd sk => ?_
        have h2 : sa.eval (.tmp 2) = .int .i64 (z) := sk.old 2 rfl
        exact Runs.move rfl h2 ⟨Ext.refl _, rfl⟩
      · refine stepE rfl fun sdn sa sw sE sd sk => ?_
        have h7 : sa.eval (.tmp 7) = .int .i64 (z) := sk.fact 0 7 rfl (sd 0 rfl)
        exact Runs.bin rfl h7 rfl (by rfl) (bin_geq _ _ _ _) ⟨Ext.refl _, congrArg Value.bool (q0)⟩
      · refine stepE rfl fun sdn sa sw sE sd sk => ?_
        have h8 : sa.eval (.tmp 8) = .bool (false) := sk.fact 1 8 rfl (sd 1 rfl)
        exact Runs.move rfl h8 ⟨Ext.refl _, rfl⟩
      · exact stepN (j := 2) (d := 9) (b := false) rfl rfl rfl (fun v w h => h) fun w => rfl
      · exact stepN (j := 2) (d := 9) (b := false) rfl rfl rfl (fun v w h => h) fun w => rfl
      · exact stepN (j := 2) (d := 9) (b := false) rfl rfl rfl (fun v w h => h) fun w => rfl
      · exact stepN (j := 2) (d := 9) (b := false) rfl rfl rfl (fun v w h => h) fun w => rfl
      · refine stepE rfl fun sdn sa sw sE sd sk => ?_
        have h9 : sa.eval (.tmp 9) = .bool (false) := sk.fact 2 9 rfl (sd 2 rfl)
        exact Runs.pick rfl h9 ⟨Ext.refl _, rfl⟩
      · refine stepE rfl fun sdn sa sw sE sd sk => ?_
        have h14 : sa.eval (.tmp 14) = .bool (false) := sk.fact 7 14 rfl (sd 7 rfl)
        exact Runs.move rfl h14 ⟨Ext.refl _, rfl⟩
      · exact stepN (j := 8) (d := 15) (b := false) rfl rfl rfl (fun v w h => h) fun w => rfl
      · exact stepN (j := 8) (d := 15) (b := false) rfl rfl rfl (fun v w h => h) fun w => rfl
      · exact stepN (j := 8) (d := 15) (b := false) rfl rfl rfl (fun v w h => h) fun w => rfl
      · exact stepN (j := 8) (d := 15) (b := false) rfl rfl rfl (fun v w h => h) fun w => rfl
      · refine stepE rfl fun sdn sa sw sE sd sk => ?_
        have h15 : sa.eval (.tmp 15) = .bool (false) := sk.fact 8 15 rfl (sd 8 rfl)
        exact Runs.pick rfl h15 ⟨Ext.refl _, rfl⟩
      · refine stepE rfl fun sdn sa sw sE sd sk => ?_
        have h20 : sa.eval (.tmp 20) = .bool (false) := sk.fact 13 20 rfl (sd 13 rfl)
        exact Runs.move rfl h20 ⟨Ext.refl _, rfl⟩
      · exact stepN (j := 14) (d := 21) (b := false) rfl rfl rfl (fun v w h => h) fun w => rfl
      · exact stepN (j := 14) (d := 21) (b := false) rfl rfl rfl (fun v w h => h) fun w => rfl
      · exact stepN (j := 14) (d := 21) (b := false) rfl rfl rfl (fun v w h => h) fun w => rfl
      · exact stepN (j := 14) (d := 21) (b := false) rfl rfl rfl (fun v w h => h) fun w => rfl
      · exact stepN (j := 14) (d := 21) (b := false) rfl rfl rfl (fun v w h => h) fun w => rfl
      · exact stepN (j := 14) (d := 21) (b := false) rfl rfl rfl (fun v w h => h) fun w => rfl
      · exact stepN (j := 14) (d := 21) (b := false) rfl rfl rfl (fun v w h => h) fun w => rfl
      · refine stepE rfl fun sdn sa sw sE sd sk => ?_
        have h21 : sa.eval (.tmp 21) = .bool (false) := sk.fact 14 21 rfl (sd 14 rfl)
        exact Runs.pick rfl h21 ⟨Ext.refl _, rfl⟩
      intro vals W1 hE1 hv1
      have e0 : vals 0 = .int .i64 (z) := hv1 0 (by omega) 7 rfl
      have e1 : vals 1 = .bool (false) := hv1 1 (by omega) 8 rfl
      have e2 : vals 2 = .bool (false) := hv1 2 (by omega) 9 rfl
      have e7 : vals 7 = .bool (false) := hv1 7 (by omega) 14 rfl
      have e8 : vals 8 = .bool (false) := hv1 8 (by omega) 15 rfl
      have e13 : vals 13 = .bool (false) := hv1 13 (by omega) 20 rfl
      have e14 : vals 14 = .bool (false) := hv1 14 (by omega) 21 rfl
      have e22 : vals 22 = .bool (false) := hv1 22 (by omega) 29 rfl
      simp only [putAll, Act.put, List.take_succ_cons, List.take_zero, List.drop_succ_cons, List.drop_zero, List.drop_nil, List.take_nil, Nat.reduceAdd, List.setIfInBounds_toArray, List.set_cons_succ, List.set_cons_zero, e0, e1, e2, e7, e8, e13, e14, e22]
      clear hv1 e0 e1 e2 e7 e8 e13 e14 e22
      go_wp2_with fail
      go_ret
      rw [decide_eq_false Hn.out]
      exact ⟨rfl, hE1⟩
end Go.Proofs.Ytkndgpjamijbbaa
