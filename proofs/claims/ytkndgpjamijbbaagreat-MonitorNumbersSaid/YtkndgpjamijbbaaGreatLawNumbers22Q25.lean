/-
  The reference's Reader, walked.
-/
import Derived.Test.YtkndgpjamijbbaaGreatLawNumbers22Q24
import Derived.Test.YtkndgpjamijbbaaGreatLawNumbers22Q4
namespace Go.Proofs.YtkndgpjamijbbaaGreat
set_option maxRecDepth 100000
open Go Go.RowKit
/-- The reference's Reader at block q: what is left of it reads as L. -/
def RR (w : World) (base q : Nat) (L : List UInt8) (bad : Bool) : Prop :=
  ∃ (A : Option Addr) (n c At : Nat) (B : List UInt8), Blk w q 85 #[.slice A n c, .int .i64 (At : Int), .bool bad] ∧ RB w A n c B ∧ At ≤ n ∧ n ≤ 140737488355328 ∧ base ≤ q ∧ (bad = false → L = B.drop At) ∧ (bad = true → L = []) ∧ (0 < n → ∀ k, blk A = some k → k < base)
theorem rd_no (A : Option Addr) (n c : Nat) (x : Int) (b : Bool) (i : Nat) (y : Int) : (#[.slice A n c, .int .i64 x, .bool b] : Array Value)[i]? ≠ some (.int .u8 y) := by
  rcases i with _ | _ | _ | i <;> simp
theorem RR.later {w w' : World} {base q : Nat} {L : List UInt8} {bad : Bool} (h : RR w base q L bad) (e : Ext w w') : RR w' base q L bad := by
  obtain ⟨A, n, c, At, B, h1, h2, h3⟩ := h
  exact ⟨A, n, c, At, B, h1.ext e, h2.ext e, h3⟩
theorem RR.ge {w : World} {base q : Nat} {L : List UInt8} {bad : Bool} (h : RR w base q L bad) : base ≤ q := by
  obtain ⟨A, n, c, At, B, h1, h2, h3, h4, h5, h6⟩ := h
  exact h5
theorem RR.lt {w : World} {base q : Nat} {L : List UInt8} {bad : Bool} (h : RR w base q L bad) : q < w.heap.size := by
  obtain ⟨A, n, c, At, B, h1, h2⟩ := h
  exact h1.lt
set_option maxHeartbeats 2000000 in
theorem r1raw_no (w : World) (base q : Nat) (L : List UInt8) (bad : Bool) (z : Int) (hR : RR w base q L bad) (hno : bad = true ∨ z < 0 ∨ (L.length : Int) < z) :
    Calls Tryz.prog 47 #[.pointer (some ⟨q, 0, none⟩), .int .i64 z] w fun e w' => e = .returned (.slice none 0 0) ∧ RR w' base q [] true ∧ w.grownBy w' (some q) := by
  obtain ⟨A, n, c, At, B, hB, hr, hAt, hn, hbq, hL, hL2, hbl⟩ := hR
  have hl := hr.len
  have fin : ∀ W1 w', Ext w W1 → w' = W1.setCell ⟨q, 2, none⟩ (.bool true) → RR w' base q [] true ∧ w.grownBy w' (some q) := by
    rintro W1 w' hE rfl
    have g := grownBy_setCell W1 ⟨q, 2, none⟩ (.bool true)
    have hB1 := hB.ext hE
    exact ⟨⟨A, n, c, At, B, hB1.set 2 (.bool true), (hr.ext hE).grown g ((hr.ext hE).apart hB1 (rd_no _ _ _ _ _)), hAt, hn, hbq, (fun h => by cases h), fun _ => rfl, hbl⟩, (hE.grownBy _).trans g⟩
  have Fin := Lib.hid fin
  clear fin
  have HL := Lib.hid hL
  clear hL hL2
  by_cases hb : bad = true
  · subst hb
    go_enter Tryz.func47, Tryz.ntmps47
    go_upto_region 1 with (fail)
    refine par_ext (n := 22) (by kernel_rfl) [.is (.pointer (some ⟨q, 0, none⟩)), .is (.pointer (some ⟨q, 0, none⟩)), .is (.pointer (some ⟨q, 2, none⟩)), .is (.bool (true)), .is (.bool (true)), .is undef, .is undef, .is (.bool (true)), .is (.bool (true)), .is undef, .is undef, .is undef, .is undef, .is undef, .is undef, .is undef, .is undef, .is undef, .is undef, .is undef, .is undef, .is (.bool (true))] rfl ⟨?_, ?_, ?_, ?_, ?_, ?_, ?_, ?_, ?_, ?_, ?_, ?_, ?_, ?_, ?_, ?_, ?_, ?_, ?_, ?_, ?_, ?_, trivial⟩ ?_
    · refine stepE rfl fun sdn sa sw sE sd sk => ?_
      have h0 : sa.eval (.tmp 0) = .pointer (some ⟨q, 0, none⟩) := sk.old 0 rfl
      exact Runs.move rfl h0 ⟨Ext.refl _, rfl⟩
    · refine stepE rfl fun sdn sa sw sE sd sk => ?_
      have h5 : sa.eval (.tmp 5) = .pointer (some ⟨q, 0, none⟩) := sk.fact 0 5 rfl (sd 0 rfl)
      exact Runs.nil_ rfl h5 ⟨Ext.refl _, rfl⟩
    · refine stepE rfl fun sdn sa sw sE sd sk => ?_
      have h6 : sa.eval (.tmp 6) = .pointer (some ⟨q, 0, none⟩) := sk.fact 1 6 rfl (sd 1 rfl)
      refine Runs.of_run (r := .pointer (some ⟨q, 2, none⟩)) (w' := sw) ?_ ⟨Ext.refl _, rfl⟩
      unfold execOp
      simp only [h6]
      go_simp
    · refine stepE rfl fun sdn sa sw sE sd sk => ?_
      have h7 : sa.eval (.tmp 7) = .pointer (some ⟨q, 2, none⟩) := sk.fact 2 7 rfl (sd 2 rfl)
      exact Runs.load rfl h7 (run_load1 Tryz.underlying4 rfl ((hB.ext sE).cell (i := 2) rfl)) ⟨Ext.refl _, rfl⟩
    · refine stepE rfl fun sdn sa sw sE sd sk => ?_
      have h8 : sa.eval (.tmp 8) = .bool (true) := sk.fact 3 8 rfl (sd 3 rfl)
      exact Runs.move rfl h8 ⟨Ext.refl _, rfl⟩
    · exact stepN (j := 4) (d := 9) (b := true) rfl rfl rfl (fun v w h => h) fun w => rfl
    · exact stepN (j := 4) (d := 9) (b := true) rfl rfl rfl (fun v w h => h) fun w => rfl
    · refine stepE rfl fun sdn sa sw sE sd sk => ?_
      have h9 : sa.eval (.tmp 9) = .bool (true) := sk.fact 4 9 rfl (sd 4 rfl)
      exact Runs.pick rfl h9 ⟨Ext.refl _, rfl⟩
    · refine stepE rfl fun sdn sa sw sE sd sk => ?_
      have h12 : sa.eval (.tmp 12) = .bool (true) := sk.fact 7 12 rfl (sd 7 rfl)
      exact Runs.move rfl h12 ⟨Ext.refl _, rfl⟩
    · exact stepN (j := 8) (d := 13) (b := true) rfl rfl rfl (fun v w h => h) fun w => rfl
    · exact stepN (j := 8) (d := 13) (b := true) rfl rfl rfl (fun v w h => h) fun w => rfl
    · exact stepN (j := 8) (d := 13) (b := true) rfl rfl rfl (fun v w h => h) fun w => rfl
    · exact stepN (j := 8) (d := 13) (b := true) rfl rfl rfl (fun v w h => h) fun w => rfl
    · exact stepN (j := 8) (d := 13) (b := true) rfl rfl rfl (fun v w h => h) fun w => rfl
    · exact stepN (j := 8) (d := 13) (b := true) rfl rfl rfl (fun v w h => h) fun w => rfl
    · exact stepN (j := 8) (d := 13) (b := true) rfl rfl rfl (fun v w h => h) fun w => rfl
    · exact stepN (j := 8) (d := 13) (b := true) rfl rfl rfl (fun v w h => h) fun w => rfl
    · exact stepN (j := 8) (d := 13) (b := true) rfl rfl rfl (fun v w h => h) fun w => rfl
    · exact stepN (j := 8) (d := 13) (b := true) rfl rfl rfl (fun v w h => h) fun w => rfl
    · exact stepN (j := 8) (d := 13) (b := true) rfl rfl rfl (fun v w h => h) fun w => rfl
    · exact stepN (j := 8) (d := 13) (b := true) rfl rfl rfl (fun v w h => h) fun w => rfl
    · refine stepE rfl fun sdn sa sw sE sd sk => ?_
      have h13 : sa.eval (.tmp 13) = .bool (true) := sk.fact 8 13 rfl (sd 8 rfl)
      exact Runs.pick rfl h13 ⟨Ext.refl _, rfl⟩
    intro vals W1 hE hv
    have e0 : vals 0 = .pointer (some ⟨q, 0, none⟩) := hv 0 (by omega) 5 rfl
    have e1 : vals 1 = .pointer (some ⟨q, 0, none⟩) := hv 1 (by omega) 6 rfl
    have e2 : vals 2 = .pointer (some ⟨q, 2, none⟩) := hv 2 (by omega) 7 rfl
    have e3 : vals 3 = .bool (true) := hv 3 (by omega) 8 rfl
    have e4 : vals 4 = .bool (true) := hv 4 (by omega) 9 rfl
    have e7 : vals 7 = .bool (true) := hv 7 (by omega) 12 rfl
    have e8 : vals 8 = .bool (true) := hv 8 (by omega) 13 rfl
    have e21 : vals 21 = .bool (true) := hv 21 (by omega) 26 rfl
    simp only [putAll, Act.put, List.take_succ_cons, List.take_zero, List.drop_succ_cons, List.drop_zero, List.drop_nil, List.take_nil, Nat.reduceAdd, List.setIfInBounds_toArray, List.set_cons_succ, List.set_cons_zero, e0, e1, e2, e3, e4, e7, e8, e21]
    clear hv e0 e1 e2 e3 e4 e7 e8 e21
    have y2 := (hB.ext hE).cell (i := 2) rfl
    have z2 := (hB.ext hE).frozen 2
    go_wp2_with fail
    go_ret
    exact ⟨rfl, Fin.out W1 _ hE rfl⟩
  · obtain rfl : bad = false := by simpa using hb
    by_cases hz : z < 0
    · go_enter Tryz.func47, Tryz.ntmps47
      go_upto_region 1 with (fail)
      refine par_ext (n := 22) (by kernel_rfl) [.is (.pointer (some ⟨q, 0, none⟩)), .is (.pointer (some ⟨q, 0, none⟩)), .is (.pointer (some ⟨q, 2, none⟩)), .is (.bool (false)), .is (.bool (false)), .is (.int .i64 (z)), .is (.bool (true)), .is (.bool (true)), .is (.bool (true)), .is undef, .is undef, .is undef, .is undef, .is undef, .is undef, .is undef, .is undef, .is undef, .is undef, .is undef, .is undef, .is (.bool (true))] rfl ⟨?_, ?_, ?_, ?_, ?_, ?_, ?_, ?_, ?_, ?_, ?_, ?_, ?_, ?_, ?_, ?_, ?_, ?_, ?_, ?_, ?_, ?_, trivial⟩ ?_
      · refine stepE rfl fun sdn sa sw sE sd sk => ?_
        have h0 : sa.eval (.tmp 0) = .pointer (some ⟨q, 0, none⟩) := sk.old 0 rfl
        exact Runs.move rfl h0 ⟨Ext.refl _, rfl⟩
      · refine stepE rfl fun sdn sa sw sE sd sk => ?_
        have h5 : sa.eval (.tmp 5) = .pointer (some ⟨q, 0, none⟩) := sk.fact 0 5 rfl (sd 0 rfl)
        exact Runs.nil_ rfl h5 ⟨Ext.refl _, rfl⟩
      · refine stepE rfl fun sdn sa sw sE sd sk => ?_
        have h6 : sa.eval (.tmp 6) = .pointer (some ⟨q, 0, none⟩) := sk.fact 1 6 rfl (sd 1 rfl)
        refine Runs.of_run (r := .pointer (some ⟨q, 2, none⟩)) (w' := sw) ?_ ⟨Ext.refl _, rfl⟩
        unfold execOp
        simp only [h6]
        go_simp
      · refine stepE rfl fun sdn sa sw sE sd sk => ?_
        have h7 : sa.eval (.tmp 7) = .pointer (some ⟨q, 2, none⟩) := sk.fact 2 7 rfl (sd 2 rfl)
        exact Runs.load rfl h7 (run_load1 Tryz.underlying4 rfl ((hB.ext sE).cell (i := 2) rfl)) ⟨Ext.refl _, rfl⟩
      · refine stepE rfl fun sdn sa sw sE sd sk => ?_
        have h8 : sa.eval (.tmp 8) = .bool (false) := sk.fact 3 8 rfl (sd 3 rfl)
        exact Runs.move rfl h8 ⟨Ext.refl _, rfl⟩
      · refine stepY (j := 4) (d := 9) (b := false) rfl rfl rfl (fun v w h => h) fun sdn sa sw sE sd sk => ?_
        have h1 : sa.eval (.tmp 1) = .int .i64 (z) := sk.old 1 rfl
        exact Runs.move rfl h1 ⟨Ext.refl _, rfl⟩
      · refine stepY (j := 4) (d := 9) (b := false) rfl rfl rfl (fun v w h => h) fun sdn sa sw sE sd sk => ?_
        have h10 : sa.eval (.tmp 10) = .int .i64 (z) := sk.fact 5 10 rfl (sd 5 rfl)
        exact Runs.bin rfl h10 rfl (by rfl) (bin_lss _ _ _ _) ⟨Ext.refl _, congrArg Value.bool (decide_eq_true hz)⟩
      · refine stepE rfl fun sdn sa sw sE sd sk => ?_
        have h9 : sa.eval (.tmp 9) = .bool (false) := sk.fact 4 9 rfl (sd 4 rfl)
        have h11 : sa.eval (.tmp 11) = .bool (true) := sk.fact 6 11 rfl (sd 6 rfl)
        exact Runs.pick rfl h9 ⟨Ext.refl _, by first | exact h11 | simpa using h11⟩
      · refine stepE rfl fun sdn sa sw sE sd sk => ?_
        have h12 : sa.eval (.tmp 12) = .bool (true) := sk.fact 7 12 rfl (sd 7 rfl)
        exact Runs.move rfl h12 ⟨Ext.refl _, rfl⟩
      · exact stepN (j := 8) (d := 13) (b := true) rfl rfl rfl (fun v w h => h) fun w => rfl
      · exact stepN (j := 8) (d := 13) (b := true) rfl rfl rfl (fun v w h => h) fun w => rfl
      · exact stepN (j := 8) (d := 13) (b := true) rfl rfl rfl (fun v w h => h) fun w => rfl
      · exact stepN (j := 8) (d := 13) (b := true) rfl rfl rfl (fun v w h => h) fun w => rfl
      · exact stepN (j := 8) (d := 13) (b := true) rfl rfl rfl (fun v w h => h) fun w => rfl
      · exact stepN (j := 8) (d := 13) (b := true) rfl rfl rfl (fun v w h => h) fun w => rfl
      · exact stepN (j := 8) (d := 13) (b := true) rfl rfl rfl (fun v w h => h) fun w => rfl
      · exact stepN (j := 8) (d := 13) (b := true) rfl rfl rfl (fun v w h => h) fun w => rfl
      · exact stepN (j := 8) (d := 13) (b := true) rfl rfl rfl (fun v w h => h) fun w => rfl
      · exact stepN (j := 8) (d := 13) (b := true) rfl rfl rfl (fun v w h => h) fun w => rfl
      · exact stepN (j := 8) (d := 13) (b := true) rfl rfl rfl (fun v w h => h) fun w => rfl
      · exact stepN (j := 8) (d := 13) (b := true) rfl rfl rfl (fun v w h => h) fun w => rfl
      · refine stepE rfl fun sdn sa sw sE sd sk => ?_
        have h13 : sa.eval (.tmp 13) = .bool (true) := sk.fact 8 13 rfl (sd 8 rfl)
        exact Runs.pick rfl h13 ⟨Ext.refl _, rfl⟩
      intro vals W1 hE hv
      have e0 : vals 0 = .pointer (some ⟨q, 0, none⟩) := hv 0 (by omega) 5 rfl
      have e1 : vals 1 = .pointer (some ⟨q, 0, none⟩) := hv 1 (by omega) 6 rfl
      have e2 : vals 2 = .pointer (some ⟨q, 2, none⟩) := hv 2 (by omega) 7 rfl
      have e3 : vals 3 = .bool (false) := hv 3 (by omega) 8 rfl
      have e4 : vals 4 = .bool (false) := hv 4 (by omega) 9 rfl
      have e5 : vals 5 = .int .i64 (z) := hv 5 (by omega) 10 rfl
      have e6 : vals 6 = .bool (true) := hv 6 (by omega) 11 rfl
      have e7 : vals 7 = .bool (true) := hv 7 (by omega) 12 rfl
      have e8 : vals 8 = .bool (true) := hv 8 (by omega) 13 rfl
      have e21 : vals 21 = .bool (true) := hv 21 (by omega) 26 rfl
      simp only [putAll, Act.put, List.take_succ_cons, List.take_zero, List.drop_succ_cons, List.drop_zero, List.drop_nil, List.take_nil, Nat.reduceAdd, List.setIfInBounds_toArray, List.set_cons_succ, List.set_cons_zero, e0, e1, e2, e3, e4, e5, e6, e7, e8, e21]
      clear hv e0 e1 e2 e3 e4 e5 e6 e7 e8 e21
      have y2 := (hB.ext hE).cell (i := 2) rfl
      have z2 := (hB.ext hE).frozen 2
      go_wp2_with fail
      go_ret
      exact ⟨rfl, Fin.out W1 _ hE rfl⟩
    · obtain ⟨k, rfl⟩ : ∃ k : Nat, z = k := ⟨z.toNat, (Int.toNat_of_nonneg (by omega)).symm⟩
      have hlk : (n : Int) - (At : Int) < (k : Int) := by
        have h1 := HL.out rfl
        rw [h1, List.length_drop, hl] at hno
        rcases hno with h | h | h
        · exact absurd h (by simp)
        · omega
        · omega
      clear hno hb
      · go_enter Tryz.func47, Tryz.ntmps47
        go_upto_region 1 with (fail)
        refine par_ext (n := 22) (by kernel_rfl) [.is (.pointer (some ⟨q, 0, none⟩)), .is (.pointer (some ⟨q, 0, none⟩)), .is (.pointer (some ⟨q, 2, none⟩)), .is (.bool (false)), .is (.bool (false)), .is (.int .i64 (((k : Nat) : Int))), .is (.bool (false)), .is (.bool (false)), .is (.bool (false)), .is (.pointer (some ⟨q, 0, none⟩)), .is (.pointer (some ⟨q, 0, none⟩)), .is (.pointer (some ⟨q, 0, none⟩)), .is (.slice (A) (n) (c)), .is (.int .i64 ((n : Nat))), .is (.pointer (some ⟨q, 0, none⟩)), .is (.pointer (some ⟨q, 0, none⟩)), .is (.pointer (some ⟨q, 1, none⟩)), .is (.int .i64 (((At : Nat) : Int))), .is (.int .i64 ((n : Nat) - ((At : Nat) : Int))), .is (.int .i64 (((k : Nat) : Int))), .is (.bool (true)), .is (.bool (true))] rfl ⟨?_, ?_, ?_, ?_, ?_, ?_, ?_, ?_, ?_, ?_, ?_, ?_, ?_, ?_, ?_, ?_, ?_, ?_, ?_, ?_, ?_, ?_, trivial⟩ ?_
        · refine stepE rfl fun sdn sa sw sE sd sk => ?_
          have h0 : sa.eval (.tmp 0) = .pointer (some ⟨q, 0, none⟩) := sk.old 0 rfl
          exact Runs.move rfl h0 ⟨Ext.refl _, rfl⟩
        · refine stepE rfl fun sdn sa sw sE sd sk => ?_
          have h5 : sa.eval (.tmp 5) = .pointer (some ⟨q, 0, none⟩) := sk.fact 0 5 rfl (sd 0 rfl)
          exact Runs.nil_ rfl h5 ⟨Ext.refl _, rfl⟩
        · refine stepE rfl fun sdn sa sw sE sd sk => ?_
          have h6 : sa.eval (.tmp 6) = .pointer (some ⟨q, 0, none⟩) := sk.fact 1 6 rfl (sd 1 rfl)
          refine Runs.of_run (r := .pointer (some ⟨q, 2, none⟩)) (w' := sw) ?_ ⟨Ext.refl _, rfl⟩
          unfold execOp
          simp only [h6]
          go_simp
        · refine stepE rfl fun sdn sa sw sE sd sk => ?_
          have h7 : sa.eval (.tmp 7) = .pointer (some ⟨q, 2, none⟩) := sk.fact 2 7 rfl (sd 2 rfl)
          exact Runs.load rfl h7 (run_load1 Tryz.underlying4 rfl ((hB.ext sE).cell (i := 2) rfl)) ⟨Ext.refl _, rfl⟩
        · refine stepE rfl fun sdn sa sw sE sd sk => ?_
          have h8 : sa.eval (.tmp 8) = .bool (false) := sk.fact 3 8 rfl (sd 3 rfl)
          exact Runs.move rfl h8 ⟨Ext.refl _, rfl⟩
        · refine stepY (j := 4) (d := 9) (b := false) rfl rfl rfl (fun v w h => h) fun sdn sa sw sE sd sk => ?_
          have h1 : sa.eval (.tmp 1) = .int .i64 (((k : Nat) : Int)) := sk.old 1 rfl
          exact Runs.move rfl h1 ⟨Ext.refl _, rfl⟩
        · refine stepY (j := 4) (d := 9) (b := false) rfl rfl rfl (fun v w h => h) fun sdn sa sw sE sd sk => ?_
          have h10 : sa.eval (.tmp 10) = .int .i64 (((k : Nat) : Int)) := sk.fact 5 10 rfl (sd 5 rfl)
          exact Runs.bin rfl h10 rfl (by rfl) (bin_lss _ _ _ _) ⟨Ext.refl _, congrArg Value.bool (decide_eq_false (by omega))⟩
        · refine stepE rfl fun sdn sa sw sE sd sk => ?_
          have h9 : sa.eval (.tmp 9) = .bool (false) := sk.fact 4 9 rfl (sd 4 rfl)
          have h11 : sa.eval (.tmp 11) = .bool (false) := sk.fact 6 11 rfl (sd 6 rfl)
          exact Runs.pick rfl h9 ⟨Ext.refl _, by first | exact h11 | simpa using h11⟩
        · refine stepE rfl fun sdn sa sw sE sd sk => ?_
          have h12 : sa.eval (.tmp 12) = .bool (false) := sk.fact 7 12 rfl (sd 7 rfl)
          exact Runs.move rfl h12 ⟨Ext.refl _, rfl⟩
        · refine stepY (j := 8) (d := 13) (b := false) rfl rfl rfl (fun v w h => h) fun sdn sa sw sE sd sk => ?_
          have h0 : sa.eval (.tmp 0) = .pointer (some ⟨q, 0, none⟩) := sk.old 0 rfl
          exact Runs.move rfl h0 ⟨Ext.refl _, rfl⟩
        · refine stepY (j := 8) (d := 13) (b := false) rfl rfl rfl (fun v w h => h) fun sdn sa sw sE sd sk => ?_
          have h14 : sa.eval (.tmp 14) = .pointer (some ⟨q, 0, none⟩) := sk.fact 9 14 rfl (sd 9 rfl)
          exact Runs.nil_ rfl h14 ⟨Ext.refl _, rfl⟩
        · refine stepY (j := 8) (d := 13) (b := false) rfl rfl rfl (fun v w h => h) fun sdn sa sw sE sd sk => ?_
          have h15 : sa.eval (.tmp 15) = .pointer (some ⟨q, 0, none⟩) := sk.fact 10 15 rfl (sd 10 rfl)
          refine Runs.of_run (r := .pointer (some ⟨q, 0, none⟩)) (w' := sw) ?_ ⟨Ext.refl _, rfl⟩
          unfold execOp
          simp only [h15]
          go_simp
        · refine stepY (j := 8) (d := 13) (b := false) rfl rfl rfl (fun v w h => h) fun sdn sa sw sE sd sk => ?_
          have h16 : sa.eval (.tmp 16) = .pointer (some ⟨q, 0, none⟩) := sk.fact 11 16 rfl (sd 11 rfl)
          exact Runs.load rfl h16 (run_load1 Tryz.underlying26 rfl ((hB.ext sE).cell (i := 0) rfl)) ⟨Ext.refl _, rfl⟩
        · refine stepY (j := 8) (d := 13) (b := false) rfl rfl rfl (fun v w h => h) fun sdn sa sw sE sd sk => ?_
          have h17 : sa.eval (.tmp 17) = .slice (A) (n) (c) := sk.fact 12 17 rfl (sd 12 rfl)
          exact Runs.len Tryz.underlying26 rfl h17 ⟨Ext.refl _, rfl⟩
        · refine stepY (j := 8) (d := 13) (b := false) rfl rfl rfl (fun v w h => h) fun sdn sa sw sE sd sk => ?_
          have h0 : sa.eval (.tmp 0) = .pointer (some ⟨q, 0, none⟩) := sk.old 0 rfl
          exact Runs.move rfl h0 ⟨Ext.refl _, rfl⟩
        · refine stepY (j := 8) (d := 13) (b := false) rfl rfl rfl (fun v w h => h) fun sdn sa sw sE sd sk => ?_
          have h19 : sa.eval (.tmp 19) = .pointer (some ⟨q, 0, none⟩) := sk.fact 14 19 rfl (sd 14 rfl)
          exact Runs.nil_ rfl h19 ⟨Ext.refl _, rfl⟩
        · refine stepY (j := 8) (d := 13) (b := false) rfl rfl rfl (fun v w h => h) fun sdn sa sw sE sd sk => ?_
          have h20 : sa.eval (.tmp 20) = .pointer (some ⟨q, 0, none⟩) := sk.fact 15 20 rfl (sd 15 rfl)
          refine Runs.of_run (r := .pointer (some ⟨q, 1, none⟩)) (w' := sw) ?_ ⟨Ext.refl _, rfl⟩
          unfold execOp
          simp only [h20]
          go_simp
        · refine stepY (j := 8) (d := 13) (b := false) rfl rfl rfl (fun v w h => h) fun sdn sa sw sE sd sk => ?_
          have h21 : sa.eval (.tmp 21) = .pointer (some ⟨q, 1, none⟩) := sk.fact 16 21 rfl (sd 16 rfl)
          exact Runs.load rfl h21 (run_load1 Tryz.underlying3 rfl ((hB.ext sE).cell (i := 1) rfl)) ⟨Ext.refl _, rfl⟩
        · refine stepY (j := 8) (d := 13) (b := false) rfl rfl rfl (fun v w h => h) fun sdn sa sw sE sd sk => ?_
          have h18 : sa.eval (.tmp 18) = .int .i64 ((n : Nat)) := sk.fact 13 18 rfl (sd 13 rfl)
          have h22 : sa.eval (.tmp 22) = .int .i64 (((At : Nat) : Int)) := sk.fact 17 22 rfl (sd 17 rfl)
          exact Runs.bin rfl h18 h22 (eqGuard_bin rfl) (bin_sub64 _ _ _ (by omega) (by omega)) ⟨Ext.refl _, rfl⟩
        · refine stepY (j := 8) (d := 13) (b := false) rfl rfl rfl (fun v w h => h) fun sdn sa sw sE sd sk => ?_
          have h1 : sa.eval (.tmp 1) = .int .i64 (((k : Nat) : Int)) := sk.old 1 rfl
          exact Runs.move rfl h1 ⟨Ext.refl _, rfl⟩
        · refine stepY (j := 8) (d := 13) (b := false) rfl rfl rfl (fun v w h => h) fun sdn sa sw sE sd sk => ?_
          have h23 : sa.eval (.tmp 23) = .int .i64 ((n : Nat) - ((At : Nat) : Int)) := sk.fact 18 23 rfl (sd 18 rfl)
          have h24 : sa.eval (.tmp 24) = .int .i64 (((k : Nat) : Int)) := sk.fact 19 24 rfl (sd 19 rfl)
          exact Runs.bin rfl h23 h24 (by rfl) (bin_lss _ _ _ _) ⟨Ext.refl _, congrArg Value.bool (decide_eq_true (by omega))⟩
        · refine stepE rfl fun sdn sa sw sE sd sk => ?_
          have h13 : sa.eval (.tmp 13) = .bool (false) := sk.fact 8 13 rfl (sd 8 rfl)
          have h25 : sa.eval (.tmp 25) = .bool (true) := sk.fact 20 25 rfl (sd 20 rfl)
          exact Runs.pick rfl h13 ⟨Ext.refl _, by first | exact h25 | simpa using h25⟩
        intro vals W1 hE hv
        have e0 : vals 0 = .pointer (some ⟨q, 0, none⟩) := hv 0 (by omega) 5 rfl
        have e1 : vals 1 = .pointer (some ⟨q, 0, none⟩) := hv 1 (by omega) 6 rfl
        have e2 : vals 2 = .pointer (some ⟨q, 2, none⟩) := hv 2 (by omega) 7 rfl
        have e3 : vals 3 = .bool (false) := hv 3 (by omega) 8 rfl
        have e4 : vals 4 = .bool (false) := hv 4 (by omega) 9 rfl
        have e5 : vals 5 = .int .i64 (((k : Nat) : Int)) := hv 5 (by omega) 10 rfl
        have e6 : vals 6 = .bool (false) := hv 6 (by omega) 11 rfl
        have e7 : vals 7 = .bool (false) := hv 7 (by omega) 12 rfl
        have e8 : vals 8 = .bool (false) := hv 8 (by omega) 13 rfl
        have e9 : vals 9 = .pointer (some ⟨q, 0, none⟩) := hv 9 (by omega) 14 rfl
        have e10 : vals 10 = .pointer (some ⟨q, 0, none⟩) := hv 10 (by omega) 15 rfl
        have e11 : vals 11 = .pointer (some ⟨q, 0, none⟩) := hv 11 (by omega) 16 rfl
        have e12 : vals 12 = .slice (A) (n) (c) := hv 12 (by omega) 17 rfl
        have e13 : vals 13 = .int .i64 ((n : Nat)) := hv 13 (by omega) 18 rfl
        have e14 : vals 14 = .pointer (some ⟨q, 0, none⟩) := hv 14 (by omega) 19 rfl
        have e15 : vals 15 = .pointer (some ⟨q, 0, none⟩) := hv 15 (by omega) 20 rfl
        have e16 : vals 16 = .pointer (some ⟨q, 1, none⟩) := hv 16 (by omega) 21 rfl
        have e17 : vals 17 = .int .i64 (((At : Nat) : Int)) := hv 17 (by omega) 22 rfl
        have e18 : vals 18 = .int .i64 ((n : Nat) - ((At : Nat) : Int)) := hv 18 (by omega) 23 rfl
        have e19 : vals 19 = .int .i64 (((k : Nat) : Int)) := hv 19 (by omega) 24 rfl
        have e20 : vals 20 = .bool (true) := hv 20 (by omega) 25 rfl
        have e21 : vals 21 = .bool (true) := hv 21 (by omega) 26 rfl
        simp only [putAll, Act.put, List.take_succ_cons, List.take_zero, List.drop_succ_cons, List.drop_zero, List.drop_nil, List.take_nil, Nat.reduceAdd, List.setIfInBounds_toArray, List.set_cons_succ, List.set_cons_zero, e0, e1, e2, e3, e4, e5, e6, e7, e8, e9, e10, e11, e12, e13, e14, e15, e16, e17, e18, e19, e20, e21]
        clear hv e0 e1 e2 e3 e4 e5 e6 e7 e8 e9 e10 e11 e12 e13 e14 e15 e16 e17 e18 e19 e20 e21
        have y2 := (hB.ext hE).cell (i := 2) rfl
        have z2 := (hB.ext hE).frozen 2
        go_wp2_with fail
        go_ret
        exact ⟨rfl, Fin.out W1 _ hE rfl⟩
set_option maxHeartbeats 2000000 in
theorem r1raw_yes (w : World) (base q : Nat) (L : List UInt8) (k : Nat) (hR : RR w base q L false) (hk : k ≤ L.length) :
    Calls Tryz.prog 47 #[.pointer (some ⟨q, 0, none⟩), .int .i64 (k : Int)] w fun e w' => (∃ B m d, e = .returned (.slice B m d) ∧ OB w' w.heap.size B m d (L.take k)) ∧ RR w' base q (L.drop k) false ∧ w.grownBy w' (some q) := by
  obtain ⟨A, n, c, At, B, hB, hr, hAt, hn, hbq, hL, _, hbl⟩ := hR
  have hl := hr.len
  have hL' := hL rfl
  subst hL'
  clear hL
  rw [List.length_drop, hl] at hk
  have Hl := Lib.hid hl
  clear hl
  go_enter Tryz.func47, Tryz.ntmps47
  go_upto_region 1 with (fail)
  · skip
    · skip
      · skip
        refine par_ext (n := 22) (by kernel_rfl) [.is (.pointer (some ⟨q, 0, none⟩)), .is (.pointer (some ⟨q, 0, none⟩)), .is (.pointer (some ⟨q, 2, none⟩)), .is (.bool (false)), .is (.bool (false)), .is (.int .i64 (((k : Nat) : Int))), .is (.bool (false)), .is (.bool (false)), .is (.bool (false)), .is (.pointer (some ⟨q, 0, none⟩)), .is (.pointer (some ⟨q, 0, none⟩)), .is (.pointer (some ⟨q, 0, none⟩)), .is (.slice (A) (n) (c)), .is (.int .i64 ((n : Nat))), .is (.pointer (some ⟨q, 0, none⟩)), .is (.pointer (some ⟨q, 0, none⟩)), .is (.pointer (some ⟨q, 1, none⟩)), .is (.int .i64 (((At : Nat) : Int))), .is (.int .i64 ((n : Nat) - ((At : Nat) : Int))), .is (.int .i64 (((k : Nat) : Int))), .is (.bool (false)), .is (.bool (false))] rfl ⟨?_, ?_, ?_, ?_, ?_, ?_, ?_, ?_, ?_, ?_, ?_, ?_, ?_, ?_, ?_, ?_, ?_, ?_, ?_, ?_, ?_, ?_, trivial⟩ ?_
        · refine stepE rfl fun sdn sa sw sE sd sk => ?_
          have h0 : sa.eval (.tmp 0) = .pointer (some ⟨q, 0, none⟩) := sk.old 0 rfl
          exact Runs.move rfl h0 ⟨Ext.refl _, rfl⟩
        · refine stepE rfl fun sdn sa sw sE sd sk => ?_
          have h5 : sa.eval (.tmp 5) = .pointer (some ⟨q, 0, none⟩) := sk.fact 0 5 rfl (sd 0 rfl)
          exact Runs.nil_ rfl h5 ⟨Ext.refl _, rfl⟩
        · refine stepE rfl fun sdn sa sw sE sd sk => ?_
          have h6 : sa.eval (.tmp 6) = .pointer (some ⟨q, 0, none⟩) := sk.fact 1 6 rfl (sd 1 rfl)
          refine Runs.of_run (r := .pointer (some ⟨q, 2, none⟩)) (w' := sw) ?_ ⟨Ext.refl _, rfl⟩
          unfold execOp
          simp only [h6]
          go_simp
        · refine stepE rfl fun sdn sa sw sE sd sk => ?_
          have h7 : sa.eval (.tmp 7) = .pointer (some ⟨q, 2, none⟩) := sk.fact 2 7 rfl (sd 2 rfl)
          exact Runs.load rfl h7 (run_load1 Tryz.underlying4 rfl ((hB.ext sE).cell (i := 2) rfl)) ⟨Ext.refl _, rfl⟩
        · refine stepE rfl fun sdn sa sw sE sd sk => ?_
          have h8 : sa.eval (.tmp 8) = .bool (false) := sk.fact 3 8 rfl (sd 3 rfl)
          exact Runs.move rfl h8 ⟨Ext.refl _, rfl⟩
        · refine stepY (j := 4) (d := 9) (b := false) rfl rfl rfl (fun v w h => h) fun sdn sa sw sE sd sk => ?_
          have h1 : sa.eval (.tmp 1) = .int .i64 (((k : Nat) : Int)) := sk.old 1 rfl
          exact Runs.move rfl h1 ⟨Ext.refl _, rfl⟩
        · refine stepY (j := 4) (d := 9) (b := false) rfl rfl rfl (fun v w h => h) fun sdn sa sw sE sd sk => ?_
          have h10 : sa.eval (.tmp 10) = .int .i64 (((k : Nat) : Int)) := sk.fact 5 10 rfl (sd 5 rfl)
          exact Runs.bin rfl h10 rfl (by rfl) (bin_lss _ _ _ _) ⟨Ext.refl _, congrArg Value.bool (decide_eq_false (by omega))⟩
        · refine stepE rfl fun sdn sa sw sE sd sk => ?_
          have h9 : sa.eval (.tmp 9) = .bool (false) := sk.fact 4 9 rfl (sd 4 rfl)
          have h11 : sa.eval (.tmp 11) = .bool (false) := sk.fact 6 11 rfl (sd 6 rfl)
          exact Runs.pick rfl h9 ⟨Ext.refl _, by first | exact h11 | simpa using h11⟩
        · refine stepE rfl fun sdn sa sw sE sd sk => ?_
          have h12 : sa.eval (.tmp 12) = .bool (false) := sk.fact 7 12 rfl (sd 7 rfl)
          exact Runs.move rfl h12 ⟨Ext.refl _, rfl⟩
        · refine stepY (j := 8) (d := 13) (b := false) rfl rfl rfl (fun v w h => h) fun sdn sa sw sE sd sk => ?_
          have h0 : sa.eval (.tmp 0) = .pointer (some ⟨q, 0, none⟩) := sk.old 0 rfl
          exact Runs.move rfl h0 ⟨Ext.refl _, rfl⟩
        · refine stepY (j := 8) (d := 13) (b := false) rfl rfl rfl (fun v w h => h) fun sdn sa sw sE sd sk => ?_
          have h14 : sa.eval (.tmp 14) = .pointer (some ⟨q, 0, none⟩) := sk.fact 9 14 rfl (sd 9 rfl)
          exact Runs.nil_ rfl h14 ⟨Ext.refl _, rfl⟩
        · refine stepY (j := 8) (d := 13) (b := false) rfl rfl rfl (fun v w h => h) fun sdn sa sw sE sd sk => ?_
          have h15 : sa.eval (.tmp 15) = .pointer (some ⟨q, 0, none⟩) := sk.fact 10 15 rfl (sd 10 rfl)
          refine Runs.of_run (r := .pointer (some ⟨q, 0, none⟩)) (w' := sw) ?_ ⟨Ext.refl _, rfl⟩
          unfold execOp
          simp only [h15]
          go_simp
        · refine stepY (j := 8) (d := 13) (b := false) rfl rfl rfl (fun v w h => h) fun sdn sa sw sE sd sk => ?_
          have h16 : sa.eval (.tmp 16) = .pointer (some ⟨q, 0, none⟩) := sk.fact 11 16 rfl (sd 11 rfl)
          exact Runs.load rfl h16 (run_load1 Tryz.underlying26 rfl ((hB.ext sE).cell (i := 0) rfl)) ⟨Ext.refl _, rfl⟩
        · refine stepY (j := 8) (d := 13) (b := false) rfl rfl rfl (fun v w h => h) fun sdn sa sw sE sd sk => ?_
          have h17 : sa.eval (.tmp 17) = .slice (A) (n) (c) := sk.fact 12 17 rfl (sd 12 rfl)
          exact Runs.len Tryz.underlying26 rfl h17 ⟨Ext.refl _, rfl⟩
        · refine stepY (j := 8) (d := 13) (b := false) rfl rfl rfl (fun v w h => h) fun sdn sa sw sE sd sk => ?_
          have h0 : sa.eval (.tmp 0) = .pointer (some ⟨q, 0, none⟩) := sk.old 0 rfl
          exact Runs.move rfl h0 ⟨Ext.refl _, rfl⟩
        · refine stepY (j := 8) (d := 13) (b := false) rfl rfl rfl (fun v w h => h) fun sdn sa sw sE sd sk => ?_
          have h19 : sa.eval (.tmp 19) = .pointer (some ⟨q, 0, none⟩) := sk.fact 14 19 rfl (sd 14 rfl)
          exact Runs.nil_ rfl h19 ⟨Ext.refl _, rfl⟩
        · refine stepY (j := 8) (d := 13) (b := false) rfl rfl rfl (fun v w h => h) fun sdn sa sw sE sd sk => ?_
          have h20 : sa.eval (.tmp 20) = .pointer (some ⟨q, 0, none⟩) := sk.fact 15 20 rfl (sd 15 rfl)
          refine Runs.of_run (r := .pointer (some ⟨q, 1, none⟩)) (w' := sw) ?_ ⟨Ext.refl _, rfl⟩
          unfold execOp
          simp only [h20]
          go_simp
        · refine stepY (j := 8) (d := 13) (b := false) rfl rfl rfl (fun v w h => h) fun sdn sa sw sE sd sk => ?_
          have h21 : sa.eval (.tmp 21) = .pointer (some ⟨q, 1, none⟩) := sk.fact 16 21 rfl (sd 16 rfl)
          exact Runs.load rfl h21 (run_load1 Tryz.underlying3 rfl ((hB.ext sE).cell (i := 1) rfl)) ⟨Ext.refl _, rfl⟩
        · refine stepY (j := 8) (d := 13) (b := false) rfl rfl rfl (fun v w h => h) fun sdn sa sw sE sd sk => ?_
          have h18 : sa.eval (.tmp 18) = .int .i64 ((n : Nat)) := sk.fact 13 18 rfl (sd 13 rfl)
          have h22 : sa.eval (.tmp 22) = .int .i64 (((At : Nat) : Int)) := sk.fact 17 22 rfl (sd 17 rfl)
          exact Runs.bin rfl h18 h22 (eqGuard_bin rfl) (bin_sub64 _ _ _ (by omega) (by omega)) ⟨Ext.refl _, rfl⟩
        · refine stepY (j := 8) (d := 13) (b := false) rfl rfl rfl (fun v w h => h) fun sdn sa sw sE sd sk => ?_
          have h1 : sa.eval (.tmp 1) = .int .i64 (((k : Nat) : Int)) := sk.old 1 rfl
          exact Runs.move rfl h1 ⟨Ext.refl _, rfl⟩
        · refine stepY (j := 8) (d := 13) (b := false) rfl rfl rfl (fun v w h => h) fun sdn sa sw sE sd sk => ?_
          have h23 : sa.eval (.tmp 23) = .int .i64 ((n : Nat) - ((At : Nat) : Int)) := sk.fact 18 23 rfl (sd 18 rfl)
          have h24 : sa.eval (.tmp 24) = .int .i64 (((k : Nat) : Int)) := sk.fact 19 24 rfl (sd 19 rfl)
          exact Runs.bin rfl h23 h24 (by rfl) (bin_lss _ _ _ _) ⟨Ext.refl _, congrArg Value.bool (decide_eq_false (by omega))⟩
        · refine stepE rfl fun sdn sa sw sE sd sk => ?_
          have h13 : sa.eval (.tmp 13) = .bool (false) := sk.fact 8 13 rfl (sd 8 rfl)
          have h25 : sa.eval (.tmp 25) = .bool (false) := sk.fact 20 25 rfl (sd 20 rfl)
          exact Runs.pick rfl h13 ⟨Ext.refl _, by first | exact h25 | simpa using h25⟩
        intro vals W1 hE hv
        have e0 : vals 0 = .pointer (some ⟨q, 0, none⟩) := hv 0 (by omega) 5 rfl
        have e1 : vals 1 = .pointer (some ⟨q, 0, none⟩) := hv 1 (by omega) 6 rfl
        have e2 : vals 2 = .pointer (some ⟨q, 2, none⟩) := hv 2 (by omega) 7 rfl
        have e3 : vals 3 = .bool (false) := hv 3 (by omega) 8 rfl
        have e4 : vals 4 = .bool (false) := hv 4 (by omega) 9 rfl
        have e5 : vals 5 = .int .i64 (((k : Nat) : Int)) := hv 5 (by omega) 10 rfl
        have e6 : vals 6 = .bool (false) := hv 6 (by omega) 11 rfl
        have e7 : vals 7 = .bool (false) := hv 7 (by omega) 12 rfl
        have e8 : vals 8 = .bool (false) := hv 8 (by omega) 13 rfl
        have e9 : vals 9 = .pointer (some ⟨q, 0, none⟩) := hv 9 (by omega) 14 rfl
        have e10 : vals 10 = .pointer (some ⟨q, 0, none⟩) := hv 10 (by omega) 15 rfl
        have e11 : vals 11 = .pointer (some ⟨q, 0, none⟩) := hv 11 (by omega) 16 rfl
        have e12 : vals 12 = .slice (A) (n) (c) := hv 12 (by omega) 17 rfl
        have e13 : vals 13 = .int .i64 ((n : Nat)) := hv 13 (by omega) 18 rfl
        have e14 : vals 14 = .pointer (some ⟨q, 0, none⟩) := hv 14 (by omega) 19 rfl
        have e15 : vals 15 = .pointer (some ⟨q, 0, none⟩) := hv 15 (by omega) 20 rfl
        have e16 : vals 16 = .pointer (some ⟨q, 1, none⟩) := hv 16 (by omega) 21 rfl
        have e17 : vals 17 = .int .i64 (((At : Nat) : Int)) := hv 17 (by omega) 22 rfl
        have e18 : vals 18 = .int .i64 ((n : Nat) - ((At : Nat) : Int)) := hv 18 (by omega) 23 rfl
        have e19 : vals 19 = .int .i64 (((k : Nat) : Int)) := hv 19 (by omega) 24 rfl
        have e20 : vals 20 = .bool (false) := hv 20 (by omega) 25 rfl
        have e21 : vals 21 = .bool (false) := hv 21 (by omega) 26 rfl
        simp only [putAll, Act.put, List.take_succ_cons, List.take_zero, List.drop_succ_cons, List.drop_zero, List.drop_nil, List.take_nil, Nat.reduceAdd, List.setIfInBounds_toArray, List.set_cons_succ, List.set_cons_zero, e0, e1, e2, e3, e4, e5, e6, e7, e8, e9, e10, e11, e12, e13, e14, e15, e16, e17, e18, e19, e20, e21]
        clear hv e0 e1 e2 e3 e4 e5 e6 e7 e8 e9 e10 e11 e12 e13 e14 e15 e16 e17 e18 e19 e20 e21
        have hB1 := hB.ext hE
        have y1 := hB1.cell (i := 1) rfl
        have z1 := hB1.frozen 1
        go_upto_region 5 with (fail)
        obtain ⟨w2, hw2⟩ : ∃ w2, w2 = W1.setCell ⟨q, 1, none⟩ (.int .i64 ((At + k : Nat) : Int)) := ⟨_, rfl⟩
        have g2 : W1.grownBy w2 (some q) := by rw [hw2]; exact grownBy_setCell W1 ⟨q, 1, none⟩ _
        have hB2 : Blk w2 q 85 #[.slice A n c, .int .i64 ((At + k : Nat) : Int), .bool false] := by rw [hw2]; exact hB1.set 1 _
        have hr2 : RB w2 A n c B := (hr.ext hE).grown g2 ((hr.ext hE).apart hB1 (rd_no _ _ _ _ _))
        have ek : ((At : Int) + (k : Int)) = ((At + k : Nat) : Int) := by omega
        rw [ek, ← hw2]
        have g02 : w.grownBy w2 (some q) := (hE.grownBy _).trans g2
        have hroom := hr2.room
        clear hw2 ek hB1 y1 z1 g2 hr hB
        refine par_ext (n := 16) (by kernel_rfl) [.ob (w2.heap.size) ([]), .is (.pointer (some ⟨q, 0, none⟩)), .is (.pointer (some ⟨q, 0, none⟩)), .is (.pointer (some ⟨q, 0, none⟩)), .is (.slice (A) (n) (c)), .is (.pointer (some ⟨q, 0, none⟩)), .is (.pointer (some ⟨q, 0, none⟩)), .is (.pointer (some ⟨q, 1, none⟩)), .is (.int .i64 ((((At + k) : Nat) : Int))), .is (.int .i64 (((k : Nat) : Int))), .is (.int .i64 ((((At + k) : Nat) : Int) - ((k : Nat) : Int))), .is (.pointer (some ⟨q, 0, none⟩)), .is (.pointer (some ⟨q, 0, none⟩)), .is (.pointer (some ⟨q, 1, none⟩)), .is (.int .i64 ((((At + k) : Nat) : Int))), .is (.slice (if c = ((At + k) - k) then A else (A).map (·.add (((At + k) - k) * 1))) ((At + k) - ((At + k) - k)) (c - ((At + k) - k)))] rfl ⟨?_, ?_, ?_, ?_, ?_, ?_, ?_, ?_, ?_, ?_, ?_, ?_, ?_, ?_, ?_, ?_, trivial⟩ ?_
        · refine stepE rfl fun sdn sa sw sE sd sk => ?_
          exact Runs.lit0 rfl (fun w1 e1 o1 => ⟨e1, _, _, _, rfl, o1.base sE.size⟩)
        · refine stepE rfl fun sdn sa sw sE sd sk => ?_
          have h0 : sa.eval (.tmp 0) = .pointer (some ⟨q, 0, none⟩) := sk.old 0 rfl
          exact Runs.move rfl h0 ⟨Ext.refl _, rfl⟩
        · refine stepE rfl fun sdn sa sw sE sd sk => ?_
          have h40 : sa.eval (.tmp 40) = .pointer (some ⟨q, 0, none⟩) := sk.fact 1 40 rfl (sd 1 rfl)
          exact Runs.nil_ rfl h40 ⟨Ext.refl _, rfl⟩
        · refine stepE rfl fun sdn sa sw sE sd sk => ?_
          have h41 : sa.eval (.tmp 41) = .pointer (some ⟨q, 0, none⟩) := sk.fact 2 41 rfl (sd 2 rfl)
          refine Runs.of_run (r := .pointer (some ⟨q, 0, none⟩)) (w' := sw) ?_ ⟨Ext.refl _, rfl⟩
          unfold execOp
          simp only [h41]
          go_simp
        · refine stepE rfl fun sdn sa sw sE sd sk => ?_
          have h42 : sa.eval (.tmp 42) = .pointer (some ⟨q, 0, none⟩) := sk.fact 3 42 rfl (sd 3 rfl)
          exact Runs.load rfl h42 (run_load1 Tryz.underlying26 rfl ((hB2.ext sE).cell (i := 0) rfl)) ⟨Ext.refl _, rfl⟩
        · refine stepE rfl fun sdn sa sw sE sd sk => ?_
          have h0 : sa.eval (.tmp 0) = .pointer (some ⟨q, 0, none⟩) := sk.old 0 rfl
          exact Runs.move rfl h0 ⟨Ext.refl _, rfl⟩
        · refine stepE rfl fun sdn sa sw sE sd sk => ?_
          have h44 : sa.eval (.tmp 44) = .pointer (some ⟨q, 0, none⟩) := sk.fact 5 44 rfl (sd 5 rfl)
          exact Runs.nil_ rfl h44 ⟨Ext.refl _, rfl⟩
        · refine stepE rfl fun sdn sa sw sE sd sk => ?_
          have h45 : sa.eval (.tmp 45) = .pointer (some ⟨q, 0, none⟩) := sk.fact 6 45 rfl (sd 6 rfl)
          refine Runs.of_run (r := .pointer (some ⟨q, 1, none⟩)) (w' := sw) ?_ ⟨Ext.refl _, rfl⟩
          unfold execOp
          simp only [h45]
          go_simp
        · refine stepE rfl fun sdn sa sw sE sd sk => ?_
          have h46 : sa.eval (.tmp 46) = .pointer (some ⟨q, 1, none⟩) := sk.fact 7 46 rfl (sd 7 rfl)
          exact Runs.load rfl h46 (run_load1 Tryz.underlying3 rfl ((hB2.ext sE).cell (i := 1) rfl)) ⟨Ext.refl _, rfl⟩
        · refine stepE rfl fun sdn sa sw sE sd sk => ?_
          have h1 : sa.eval (.tmp 1) = .int .i64 (((k : Nat) : Int)) := sk.old 1 rfl
          exact Runs.move rfl h1 ⟨Ext.refl _, rfl⟩
        · refine stepE rfl fun sdn sa sw sE sd sk => ?_
          have h47 : sa.eval (.tmp 47) = .int .i64 ((((At + k) : Nat) : Int)) := sk.fact 8 47 rfl (sd 8 rfl)
          have h48 : sa.eval (.tmp 48) = .int .i64 (((k : Nat) : Int)) := sk.fact 9 48 rfl (sd 9 rfl)
          exact Runs.bin rfl h47 h48 (eqGuard_bin rfl) (bin_sub64 _ _ _ (by omega) (by omega)) ⟨Ext.refl _, rfl⟩
        · refine stepE rfl fun sdn sa sw sE sd sk => ?_
          have h0 : sa.eval (.tmp 0) = .pointer (some ⟨q, 0, none⟩) := sk.old 0 rfl
          exact Runs.move rfl h0 ⟨Ext.refl _, rfl⟩
        · refine stepE rfl fun sdn sa sw sE sd sk => ?_
          have h50 : sa.eval (.tmp 50) = .pointer (some ⟨q, 0, none⟩) := sk.fact 11 50 rfl (sd 11 rfl)
          exact Runs.nil_ rfl h50 ⟨Ext.refl _, rfl⟩
        · refine stepE rfl fun sdn sa sw sE sd sk => ?_
          have h51 : sa.eval (.tmp 51) = .pointer (some ⟨q, 0, none⟩) := sk.fact 12 51 rfl (sd 12 rfl)
          refine Runs.of_run (r := .pointer (some ⟨q, 1, none⟩)) (w' := sw) ?_ ⟨Ext.refl _, rfl⟩
          unfold execOp
          simp only [h51]
          go_simp
        · refine stepE rfl fun sdn sa sw sE sd sk => ?_
          have h52 : sa.eval (.tmp 52) = .pointer (some ⟨q, 1, none⟩) := sk.fact 13 52 rfl (sd 13 rfl)
          exact Runs.load rfl h52 (run_load1 Tryz.underlying3 rfl ((hB2.ext sE).cell (i := 1) rfl)) ⟨Ext.refl _, rfl⟩
        · refine stepE rfl fun sdn sa sw sE sd sk => ?_
          have h43 : sa.eval (.tmp 43) = .slice (A) (n) (c) := sk.fact 4 43 rfl (sd 4 rfl)
          have h49 : sa.eval (.tmp 49) = .int .i64 ((((At + k) : Nat) : Int) - ((k : Nat) : Int)) := sk.fact 10 49 rfl (sd 10 rfl)
          have h53 : sa.eval (.tmp 53) = .int .i64 ((((At + k) : Nat) : Int)) := sk.fact 14 53 rfl (sd 14 rfl)
          exact Runs.slice rfl h43 (by simp only [Option.map_some, Option.map_none, h49, h53]; exact run_cut_lh Tryz.underlying26 inf26_eq inf26_size (((At + k) - k)) ((At + k)) (by first | rfl | omega) (by first | rfl | omega) (by omega) (by omega)) ⟨Ext.refl _, rfl⟩
        intro vals W3 hE1 hv1
        obtain ⟨A39, n39, c39, e0, r39⟩ := hv1 0 (by omega) 39 rfl
        have e1 : vals 1 = .pointer (some ⟨q, 0, none⟩) := hv1 1 (by omega) 40 rfl
        have e2 : vals 2 = .pointer (some ⟨q, 0, none⟩) := hv1 2 (by omega) 41 rfl
        have e3 : vals 3 = .pointer (some ⟨q, 0, none⟩) := hv1 3 (by omega) 42 rfl
        have e4 : vals 4 = .slice (A) (n) (c) := hv1 4 (by omega) 43 rfl
        have e5 : vals 5 = .pointer (some ⟨q, 0, none⟩) := hv1 5 (by omega) 44 rfl
        have e6 : vals 6 = .pointer (some ⟨q, 0, none⟩) := hv1 6 (by omega) 45 rfl
        have e7 : vals 7 = .pointer (some ⟨q, 1, none⟩) := hv1 7 (by omega) 46 rfl
        have e8 : vals 8 = .int .i64 ((((At + k) : Nat) : Int)) := hv1 8 (by omega) 47 rfl
        have e9 : vals 9 = .int .i64 (((k : Nat) : Int)) := hv1 9 (by omega) 48 rfl
        have e10 : vals 10 = .int .i64 ((((At + k) : Nat) : Int) - ((k : Nat) : Int)) := hv1 10 (by omega) 49 rfl
        have e11 : vals 11 = .pointer (some ⟨q, 0, none⟩) := hv1 11 (by omega) 50 rfl
        have e12 : vals 12 = .pointer (some ⟨q, 0, none⟩) := hv1 12 (by omega) 51 rfl
        have e13 : vals 13 = .pointer (some ⟨q, 1, none⟩) := hv1 13 (by omega) 52 rfl
        have e14 : vals 14 = .int .i64 ((((At + k) : Nat) : Int)) := hv1 14 (by omega) 53 rfl
        have e15 : vals 15 = .slice (if c = ((At + k) - k) then A else (A).map (·.add (((At + k) - k) * 1))) ((At + k) - ((At + k) - k)) (c - ((At + k) - k)) := hv1 15 (by omega) 54 rfl
        simp only [putAll, Act.put, List.take_succ_cons, List.take_zero, List.drop_succ_cons, List.drop_zero, List.drop_nil, List.take_nil, Nat.reduceAdd, List.setIfInBounds_toArray, List.set_cons_succ, List.set_cons_zero, e0, e1, e2, e3, e4, e5, e6, e7, e8, e9, e10, e11, e12, e13, e14, e15]
        clear hv1 e0 e1 e2 e3 e4 e5 e6 e7 e8 e9 e10 e11 e12 e13 e14 e15
        rw [show At + k - k = At by omega]
        have hc := (hr2.cut (i := At) (j := At + k) (c' := c - At) (A' := if c = At then A else A.map (·.add (At * 1))) (by omega) (by omega) rfl (fun h => by rw [if_neg (by omega), Nat.mul_one])).ext hE1
        rw [show At + k - At = k by omega] at hc ⊢
        have e5 : (B.take (At + k)).drop At = (B.drop At).take k := by rw [List.drop_take, Nat.add_sub_cancel_left]
        rw [e5] at hc
        obtain rfl : n39 = 0 := by have h1 := r39.len; simpa using h1.symm
        go_wp2_with (refine app_own (w0 := w2) (N := k) (LM := (B.drop At).take k) rfl rfl rfl rfl hE1 r39 hc (by omega) rfl (by omega) ?_; intro A3 c3 w4 own4 hE4)
        all_goals go_ret
        all_goals refine ⟨⟨A3, k, c3, rfl, own4.base g02.size⟩, ⟨A, n, c, At + k, B, hB2.ext hE4, hr2.ext hE4, by omega, hn, hbq, (fun _ => by simp), (fun h => by cases h), hbl⟩, g02.trans (hE4.grownBy _)⟩
theorem r1raw_any (w : World) (base q : Nat) (L : List UInt8) (bad : Bool) (z : Int) (hR : RR w base q L bad) :
    Calls Tryz.prog 47 #[.pointer (some ⟨q, 0, none⟩), .int .i64 z] w fun e w' => (∃ B m d, e = .returned (.slice B m d) ∧ OB w' w.heap.size B m d (rtake L bad z).1) ∧ RR w' base q (rtake L bad z).2.1 (rtake L bad z).2.2 ∧ w.grownBy w' (some q) := by
  unfold rtake
  by_cases h : bad = true ∨ z < 0 ∨ (L.length : Int) < z
  · rw [if_pos h]
    refine (r1raw_no w base q L bad z hR h).mono ?_
    rintro e w' ⟨rfl, h1, h2⟩
    exact ⟨⟨none, 0, 0, rfl, OB.none_ _ _⟩, h1, h2⟩
  · rw [if_neg h]
    have hb : bad = false := by
      cases bad
      · rfl
      · exact absurd (.inl rfl) h
    obtain ⟨k, rfl⟩ : ∃ k : Nat, z = k := ⟨z.toNat, (Int.toNat_of_nonneg (by omega)).symm⟩
    subst hb
    exact r1raw_yes w base q L k hR (by omega)
set_option maxHeartbeats 1000000 in
theorem r1number_any (w : World) (base q : Nat) (L : List UInt8) (bad : Bool) (z : Int) (hR : RR w base q L bad) :
    Calls Tryz.prog 45 #[.pointer (some ⟨q, 0, none⟩), .int .i64 z] w fun e w' => e = .returned (.int .u32 (u32i (beNum (rtake L bad z).1))) ∧ RR w' base q (rtake L bad z).2.1 (rtake L bad z).2.2 ∧ w.grownBy w' (some q) := by
  go_enter Tryz.func45, Tryz.ntmps45
  go_wp2_with fail
  refine (r1raw_any w base q L bad z hR).mono ?_
  rintro e w1 ⟨⟨B, m, d, rfl, own⟩, h4, h5⟩
  have h1 := own.rb
  obtain ⟨M, hM⟩ : ∃ M, M = (rtake L bad z).1 := ⟨_, rfl⟩
  rw [← hM] at h1
  have HM := Lib.hid hM
  clear hM own
  go_wp2_with fail
  go_loop [5, 12] (fun v i => ∃ k : Nat, k ≤ m ∧ i = .int .i64 k ∧ v = .int .u32 (u32i (beNum (M.take k)))) (fun _ i => m - (intOf i).toNat)
  case atStart => exact ⟨0, Nat.zero_le _, rfl, rfl⟩
  case round =>
    obtain ⟨k, hk, rfl, rfl⟩ := hrel
    have hroom := h1.room
    have hcap := h1.cap
    unfold maxLen at hcap
    by_cases hlt : k < m
    · obtain ⟨ad, rfl, hc⟩ := h1.cells (by omega)
      have y1 := hc k hlt
      clear hc
      have e2 := fun w' : World => conv_u8_u32' (P := Tryz.prog) (w := w') Tryz.underlying5 Tryz.underlying56 (ub M k)
      go_wp2_with fail
      go_round
      case rel => exact ⟨k + 1, by omega, by go_num, by rw [u32_shl8, bits_or32, take_snoc_ub M k (by rw [h1.len]; exact hlt), beNum_snoc]⟩
      case measure => simp [intOf]; omega
    · obtain rfl : k = m := by omega
      rw [List.take_of_length_le (by rw [h1.len]; exact Nat.le_refl _)]
      go_wp2_with fail
      go_ret
      refine ⟨?_, h4, h5⟩
      rw [← HM.out]
      rfl
set_option maxHeartbeats 1000000 in
theorem r1end_any (w : World) (base q : Nat) (L : List UInt8) (bad : Bool) (hR : RR w base q L bad) :
    Calls Tryz.prog 48 #[.pointer (some ⟨q, 0, none⟩)] w fun e w' => e = .returned (.bool (!bad && L.isEmpty)) ∧ Ext w w' := by
  obtain ⟨A, n, c, At, B, hB, hr, hAt, hn, hbq, hL, hL2, hbl⟩ := hR
  have hl := hr.len
  cases bad
  · have h1 := hL rfl
    subst h1
    clear hL hL2
    by_cases he : At = n
    · have e1 : (B.drop At).isEmpty = true := by rw [List.isEmpty_iff, List.drop_eq_nil_iff]; omega
      rw [e1]
      clear e1 hl
      go_enter Tryz.func48, Tryz.ntmps48
      go_upto_region 1 with (fail)
      refine par_ext (n := 18) (by kernel_rfl) [.is (.pointer (some ⟨q, 0, none⟩)), .is (.pointer (some ⟨q, 0, none⟩)), .is (.pointer (some ⟨q, 2, none⟩)), .is (.bool (false)), .is (.bool (true)), .is (.bool (true)), .is (.pointer (some ⟨q, 0, none⟩)), .is (.pointer (some ⟨q, 0, none⟩)), .is (.pointer (some ⟨q, 1, none⟩)), .is (.int .i64 (((At : Nat) : Int))), .is (.pointer (some ⟨q, 0, none⟩)), .is (.pointer (some ⟨q, 0, none⟩)), .is (.pointer (some ⟨q, 0, none⟩)), .is (.slice (A) (n) (c)), .is (.int .i64 ((n : Nat))), .is (.bool (true)), .is (.bool (true)), .is (.bool (true))] rfl ⟨?_, ?_, ?_, ?_, ?_, ?_, ?_, ?_, ?_, ?_, ?_, ?_, ?_, ?_, ?_, ?_, ?_, ?_, trivial⟩ ?_
      · refine stepE rfl fun sdn sa sw sE sd sk => ?_
        have h0 : sa.eval (.tmp 0) = .pointer (some ⟨q, 0, none⟩) := sk.old 0 rfl
        exact Runs.move rfl h0 ⟨Ext.refl _, rfl⟩
      · refine stepE rfl fun sdn sa sw sE sd sk => ?_
        have h3 : sa.eval (.tmp 3) = .pointer (some ⟨q, 0, none⟩) := sk.fact 0 3 rfl (sd 0 rfl)
        exact Runs.nil_ rfl h3 ⟨Ext.refl _, rfl⟩
      · refine stepE rfl fun sdn sa sw sE sd sk => ?_
        have h4 : sa.eval (.tmp 4) = .pointer (some ⟨q, 0, none⟩) := sk.fact 1 4 rfl (sd 1 rfl)
        refine Runs.of_run (r := .pointer (some ⟨q, 2, none⟩)) (w' := sw) ?_ ⟨Ext.refl _, rfl⟩
        unfold execOp
        simp only [h4]
        go_simp
      · refine stepE rfl fun sdn sa sw sE sd sk => ?_
        have h5 : sa.eval (.tmp 5) = .pointer (some ⟨q, 2, none⟩) := sk.fact 2 5 rfl (sd 2 rfl)
        exact Runs.load rfl h5 (run_load1 Tryz.underlying4 rfl ((hB.ext sE).cell (i := 2) rfl)) ⟨Ext.refl _, rfl⟩
      · refine stepE rfl fun sdn sa sw sE sd sk => ?_
        have h6 : sa.eval (.tmp 6) = .bool (false) := sk.fact 3 6 rfl (sd 3 rfl)
        exact Runs.un rfl h6 (by rfl) ⟨Ext.refl _, rfl⟩
      · refine stepE rfl fun sdn sa sw sE sd sk => ?_
        have h7 : sa.eval (.tmp 7) = .bool (true) := sk.fact 4 7 rfl (sd 4 rfl)
        exact Runs.move rfl h7 ⟨Ext.refl _, rfl⟩
      · refine stepY (j := 5) (d := 8) (b := true) rfl rfl rfl (fun v w h => h) fun sdn sa sw sE sd sk => ?_
        have h0 : sa.eval (.tmp 0) = .pointer (some ⟨q, 0, none⟩) := sk.old 0 rfl
        exact Runs.move rfl h0 ⟨Ext.refl _, rfl⟩
      · refine stepY (j := 5) (d := 8) (b := true) rfl rfl rfl (fun v w h => h) fun sdn sa sw sE sd sk => ?_
        have h9 : sa.eval (.tmp 9) = .pointer (some ⟨q, 0, none⟩) := sk.fact 6 9 rfl (sd 6 rfl)
        exact Runs.nil_ rfl h9 ⟨Ext.refl _, rfl⟩
      · refine stepY (j := 5) (d := 8) (b := true) rfl rfl rfl (fun v w h => h) fun sdn sa sw sE sd sk => ?_
        have h10 : sa.eval (.tmp 10) = .pointer (some ⟨q, 0, none⟩) := sk.fact 7 10 rfl (sd 7 rfl)
        refine Runs.of_run (r := .pointer (some ⟨q, 1, none⟩)) (w' := sw) ?_ ⟨Ext.refl _, rfl⟩
        unfold execOp
        simp only [h10]
        go_simp
      · refine stepY (j := 5) (d := 8) (b := true) rfl rfl rfl (fun v w h => h) fun sdn sa sw sE sd sk => ?_
        have h11 : sa.eval (.tmp 11) = .pointer (some ⟨q, 1, none⟩) := sk.fact 8 11 rfl (sd 8 rfl)
        exact Runs.load rfl h11 (run_load1 Tryz.underlying3 rfl ((hB.ext sE).cell (i := 1) rfl)) ⟨Ext.refl _, rfl⟩
      · refine stepY (j := 5) (d := 8) (b := true) rfl rfl rfl (fun v w h => h) fun sdn sa sw sE sd sk => ?_
        have h0 : sa.eval (.tmp 0) = .pointer (some ⟨q, 0, none⟩) := sk.old 0 rfl
        exact Runs.move rfl h0 ⟨Ext.refl _, rfl⟩
      · refine stepY (j := 5) (d := 8) (b := true) rfl rfl rfl (fun v w h => h) fun sdn sa sw sE sd sk => ?_
        have h13 : sa.eval (.tmp 13) = .pointer (some ⟨q, 0, none⟩) := sk.fact 10 13 rfl (sd 10 rfl)
        exact Runs.nil_ rfl h13 ⟨Ext.refl _, rfl⟩
      · refine stepY (j := 5) (d := 8) (b := true) rfl rfl rfl (fun v w h => h) fun sdn sa sw sE sd sk => ?_
        have h14 : sa.eval (.tmp 14) = .pointer (some ⟨q, 0, none⟩) := sk.fact 11 14 rfl (sd 11 rfl)
        refine Runs.of_run (r := .pointer (some ⟨q, 0, none⟩)) (w' := sw) ?_ ⟨Ext.refl _, rfl⟩
        unfold execOp
        simp only [h14]
        go_simp
      · refine stepY (j := 5) (d := 8) (b := true) rfl rfl rfl (fun v w h => h) fun sdn sa sw sE sd sk => ?_
        have h15 : sa.eval (.tmp 15) = .pointer (some ⟨q, 0, none⟩) := sk.fact 12 15 rfl (sd 12 rfl)
        exact Runs.load rfl h15 (run_load1 Tryz.underlying26 rfl ((hB.ext sE).cell (i := 0) rfl)) ⟨Ext.refl _, rfl⟩
      · refine stepY (j := 5) (d := 8) (b := true) rfl rfl rfl (fun v w h => h) fun sdn sa sw sE sd sk => ?_
        have h16 : sa.eval (.tmp 16) = .slice (A) (n) (c) := sk.fact 13 16 rfl (sd 13 rfl)
        exact Runs.len Tryz.underlying26 rfl h16 ⟨Ext.refl _, rfl⟩
      · refine stepY (j := 5) (d := 8) (b := true) rfl rfl rfl (fun v w h => h) fun sdn sa sw sE sd sk => ?_
        have h12 : sa.eval (.tmp 12) = .int .i64 (((At : Nat) : Int)) := sk.fact 9 12 rfl (sd 9 rfl)
        have h17 : sa.eval (.tmp 17) = .int .i64 ((n : Nat)) := sk.fact 14 17 rfl (sd 14 rfl)
        exact Runs.bin rfl h12 h17 (by rfl) (bin_eql _ _ _ _) ⟨Ext.refl _, congrArg Value.bool (decide_eq_true (by omega))⟩
      · refine stepE rfl fun sdn sa sw sE sd sk => ?_
        have h8 : sa.eval (.tmp 8) = .bool (true) := sk.fact 5 8 rfl (sd 5 rfl)
        have h18 : sa.eval (.tmp 18) = .bool (true) := sk.fact 15 18 rfl (sd 15 rfl)
        exact Runs.pick rfl h8 ⟨Ext.refl _, by first | exact h18 | simpa using h18⟩
      · refine stepE rfl fun sdn sa sw sE sd sk => ?_
        have h19 : sa.eval (.tmp 19) = .bool (true) := sk.fact 16 19 rfl (sd 16 rfl)
        exact Runs.assign rfl h19 ⟨Ext.refl _, rfl⟩
      intro vals W1 hE hv
      have e0 : vals 0 = .pointer (some ⟨q, 0, none⟩) := hv 0 (by omega) 3 rfl
      have e1 : vals 1 = .pointer (some ⟨q, 0, none⟩) := hv 1 (by omega) 4 rfl
      have e2 : vals 2 = .pointer (some ⟨q, 2, none⟩) := hv 2 (by omega) 5 rfl
      have e3 : vals 3 = .bool (false) := hv 3 (by omega) 6 rfl
      have e4 : vals 4 = .bool (true) := hv 4 (by omega) 7 rfl
      have e5 : vals 5 = .bool (true) := hv 5 (by omega) 8 rfl
      have e6 : vals 6 = .pointer (some ⟨q, 0, none⟩) := hv 6 (by omega) 9 rfl
      have e7 : vals 7 = .pointer (some ⟨q, 0, none⟩) := hv 7 (by omega) 10 rfl
      have e8 : vals 8 = .pointer (some ⟨q, 1, none⟩) := hv 8 (by omega) 11 rfl
      have e9 : vals 9 = .int .i64 (((At : Nat) : Int)) := hv 9 (by omega) 12 rfl
      have e10 : vals 10 = .pointer (some ⟨q, 0, none⟩) := hv 10 (by omega) 13 rfl
      have e11 : vals 11 = .pointer (some ⟨q, 0, none⟩) := hv 11 (by omega) 14 rfl
      have e12 : vals 12 = .pointer (some ⟨q, 0, none⟩) := hv 12 (by omega) 15 rfl
      have e13 : vals 13 = .slice (A) (n) (c) := hv 13 (by omega) 16 rfl
      have e14 : vals 14 = .int .i64 ((n : Nat)) := hv 14 (by omega) 17 rfl
      have e15 : vals 15 = .bool (true) := hv 15 (by omega) 18 rfl
      have e16 : vals 16 = .bool (true) := hv 16 (by omega) 19 rfl
      have e17 : vals 17 = .bool (true) := hv 17 (by omega) 2 rfl
      simp only [putAll, Act.put, List.take_succ_cons, List.take_zero, List.drop_succ_cons, List.drop_zero, List.drop_nil, List.take_nil, Nat.reduceAdd, List.setIfInBounds_toArray, List.set_cons_succ, List.set_cons_zero, e0, e1, e2, e3, e4, e5, e6, e7, e8, e9, e10, e11, e12, e13, e14, e15, e16, e17]
      clear hv e0 e1 e2 e3 e4 e5 e6 e7 e8 e9 e10 e11 e12 e13 e14 e15 e16 e17
      go_wp2_with fail
      go_ret
      exact ⟨rfl, hE⟩
    · have e1 : (B.drop At).isEmpty = false := by
        rw [Bool.eq_false_iff]
        intro h
        rw [List.isEmpty_iff, List.drop_eq_nil_iff] at h
        omega
      rw [e1]
      clear e1 hl
      go_enter Tryz.func48, Tryz.ntmps48
      go_upto_region 1 with (fail)
      refine par_ext (n := 18) (by kernel_rfl) [.is (.pointer (some ⟨q, 0, none⟩)), .is (.pointer (some ⟨q, 0, none⟩)), .is (.pointer (some ⟨q, 2, none⟩)), .is (.bool (false)), .is (.bool (true)), .is (.bool (true)), .is (.pointer (some ⟨q, 0, none⟩)), .is (.pointer (some ⟨q, 0, none⟩)), .is (.pointer (some ⟨q, 1, none⟩)), .is (.int .i64 (((At : Nat) : Int))), .is (.pointer (some ⟨q, 0, none⟩)), .is (.pointer (some ⟨q, 0, none⟩)), .is (.pointer (some ⟨q, 0, none⟩)), .is (.slice (A) (n) (c)), .is (.int .i64 ((n : Nat))), .is (.bool (false)), .is (.bool (false)), .is (.bool (false))] rfl ⟨?_, ?_, ?_, ?_, ?_, ?_, ?_, ?_, ?_, ?_, ?_, ?_, ?_, ?_, ?_, ?_, ?_, ?_, trivial⟩ ?_
      · refine stepE rfl fun sdn sa sw sE sd sk => ?_
        have h0 : sa.eval (.tmp 0) = .pointer (some ⟨q, 0, none⟩) := sk.old 0 rfl
        exact Runs.move rfl h0 ⟨Ext.refl _, rfl⟩
      · refine stepE rfl fun sdn sa sw sE sd sk => ?_
        have h3 : sa.eval (.tmp 3) = .pointer (some ⟨q, 0, none⟩) := sk.fact 0 3 rfl (sd 0 rfl)
        exact Runs.nil_ rfl h3 ⟨Ext.refl _, rfl⟩
      · refine stepE rfl fun sdn sa sw sE sd sk => ?_
        have h4 : sa.eval (.tmp 4) = .pointer (some ⟨q, 0, none⟩) := sk.fact 1 4 rfl (sd 1 rfl)
        refine Runs.of_run (r := .pointer (some ⟨q, 2, none⟩)) (w' := sw) ?_ ⟨Ext.refl _, rfl⟩
        unfold execOp
        simp only [h4]
        go_simp
      · refine stepE rfl fun sdn sa sw sE sd sk => ?_
        have h5 : sa.eval (.tmp 5) = .pointer (some ⟨q, 2, none⟩) := sk.fact 2 5 rfl (sd 2 rfl)
        exact Runs.load rfl h5 (run_load1 Tryz.underlying4 rfl ((hB.ext sE).cell (i := 2) rfl)) ⟨Ext.refl _, rfl⟩
      · refine stepE rfl fun sdn sa sw sE sd sk => ?_
        have h6 : sa.eval (.tmp 6) = .bool (false) := sk.fact 3 6 rfl (sd 3 rfl)
        exact Runs.un rfl h6 (by rfl) ⟨Ext.refl _, rfl⟩
      · refine stepE rfl fun sdn sa sw sE sd sk => ?_
        have h7 : sa.eval (.tmp 7) = .bool (true) := sk.fact 4 7 rfl (sd 4 rfl)
        exact Runs.move rfl h7 ⟨Ext.refl _, rfl⟩
      · refine stepY (j := 5) (d := 8) (b := true) rfl rfl rfl (fun v w h => h) fun sdn sa sw sE sd sk => ?_
        have h0 : sa.eval (.tmp 0) = .pointer (some ⟨q, 0, none⟩) := sk.old 0 rfl
        exact Runs.move rfl h0 ⟨Ext.refl _, rfl⟩
      · refine stepY (j := 5) (d := 8) (b := true) rfl rfl rfl (fun v w h => h) fun sdn sa sw sE sd sk => ?_
        have h9 : sa.eval (.tmp 9) = .pointer (some ⟨q, 0, none⟩) := sk.fact 6 9 rfl (sd 6 rfl)
        exact Runs.nil_ rfl h9 ⟨Ext.refl _, rfl⟩
      · refine stepY (j := 5) (d := 8) (b := true) rfl rfl rfl (fun v w h => h) fun sdn sa sw sE sd sk => ?_
        have h10 : sa.eval (.tmp 10) = .pointer (some ⟨q, 0, none⟩) := sk.fact 7 10 rfl (sd 7 rfl)
        refine Runs.of_run (r := .pointer (some ⟨q, 1, none⟩)) (w' := sw) ?_ ⟨Ext.refl _, rfl⟩
        unfold execOp
        simp only [h10]
        go_simp
      · refine stepY (j := 5) (d := 8) (b := true) rfl rfl rfl (fun v w h => h) fun sdn sa sw sE sd sk => ?_
        have h11 : sa.eval (.tmp 11) = .pointer (some ⟨q, 1, none⟩) := sk.fact 8 11 rfl (sd 8 rfl)
        exact Runs.load rfl h11 (run_load1 Tryz.underlying3 rfl ((hB.ext sE).cell (i := 1) rfl)) ⟨Ext.refl _, rfl⟩
      · refine stepY (j := 5) (d := 8) (b := true) rfl rfl rfl (fun v w h => h) fun sdn sa sw sE sd sk => ?_
        have h0 : sa.eval (.tmp 0) = .pointer (some ⟨q, 0, none⟩) := sk.old 0 rfl
        exact Runs.move rfl h0 ⟨Ext.refl _, rfl⟩
      · refine stepY (j := 5) (d := 8) (b := true) rfl rfl rfl (fun v w h => h) fun sdn sa sw sE sd sk => ?_
        have h13 : sa.eval (.tmp 13) = .pointer (some ⟨q, 0, none⟩) := sk.fact 10 13 rfl (sd 10 rfl)
        exact Runs.nil_ rfl h13 ⟨Ext.refl _, rfl⟩
      · refine stepY (j := 5) (d := 8) (b := true) rfl rfl rfl (fun v w h => h) fun sdn sa sw sE sd sk => ?_
        have h14 : sa.eval (.tmp 14) = .pointer (some ⟨q, 0, none⟩) := sk.fact 11 14 rfl (sd 11 rfl)
        refine Runs.of_run (r := .pointer (some ⟨q, 0, none⟩)) (w' := sw) ?_ ⟨Ext.refl _, rfl⟩
        unfold execOp
        simp only [h14]
        go_simp
      · refine stepY (j := 5) (d := 8) (b := true) rfl rfl rfl (fun v w h => h) fun sdn sa sw sE sd sk => ?_
        have h15 : sa.eval (.tmp 15) = .pointer (some ⟨q, 0, none⟩) := sk.fact 12 15 rfl (sd 12 rfl)
        exact Runs.load rfl h15 (run_load1 Tryz.underlying26 rfl ((hB.ext sE).cell (i := 0) rfl)) ⟨Ext.refl _, rfl⟩
      · refine stepY (j := 5) (d := 8) (b := true) rfl rfl rfl (fun v w h => h) fun sdn sa sw sE sd sk => ?_
        have h16 : sa.eval (.tmp 16) = .slice (A) (n) (c) := sk.fact 13 16 rfl (sd 13 rfl)
        exact Runs.len Tryz.underlying26 rfl h16 ⟨Ext.refl _, rfl⟩
      · refine stepY (j := 5) (d := 8) (b := true) rfl rfl rfl (fun v w h => h) fun sdn sa sw sE sd sk => ?_
        have h12 : sa.eval (.tmp 12) = .int .i64 (((At : Nat) : Int)) := sk.fact 9 12 rfl (sd 9 rfl)
        have h17 : sa.eval (.tmp 17) = .int .i64 ((n : Nat)) := sk.fact 14 17 rfl (sd 14 rfl)
        exact Runs.bin rfl h12 h17 (by rfl) (bin_eql _ _ _ _) ⟨Ext.refl _, congrArg Value.bool (decide_eq_false (by omega))⟩
      · refine stepE rfl fun sdn sa sw sE sd sk => ?_
        have h8 : sa.eval (.tmp 8) = .bool (true) := sk.fact 5 8 rfl (sd 5 rfl)
        have h18 : sa.eval (.tmp 18) = .bool (false) := sk.fact 15 18 rfl (sd 15 rfl)
        exact Runs.pick rfl h8 ⟨Ext.refl _, by first | exact h18 | simpa using h18⟩
      · refine stepE rfl fun sdn sa sw sE sd sk => ?_
        have h19 : sa.eval (.tmp 19) = .bool (false) := sk.fact 16 19 rfl (sd 16 rfl)
        exact Runs.assign rfl h19 ⟨Ext.refl _, rfl⟩
      intro vals W1 hE hv
      have e0 : vals 0 = .pointer (some ⟨q, 0, none⟩) := hv 0 (by omega) 3 rfl
      have e1 : vals 1 = .pointer (some ⟨q, 0, none⟩) := hv 1 (by omega) 4 rfl
      have e2 : vals 2 = .pointer (some ⟨q, 2, none⟩) := hv 2 (by omega) 5 rfl
      have e3 : vals 3 = .bool (false) := hv 3 (by omega) 6 rfl
      have e4 : vals 4 = .bool (true) := hv 4 (by omega) 7 rfl
      have e5 : vals 5 = .bool (true) := hv 5 (by omega) 8 rfl
      have e6 : vals 6 = .pointer (some ⟨q, 0, none⟩) := hv 6 (by omega) 9 rfl
      have e7 : vals 7 = .pointer (some ⟨q, 0, none⟩) := hv 7 (by omega) 10 rfl
      have e8 : vals 8 = .pointer (some ⟨q, 1, none⟩) := hv 8 (by omega) 11 rfl
      have e9 : vals 9 = .int .i64 (((At : Nat) : Int)) := hv 9 (by omega) 12 rfl
      have e10 : vals 10 = .pointer (some ⟨q, 0, none⟩) := hv 10 (by omega) 13 rfl
      have e11 : vals 11 = .pointer (some ⟨q, 0, none⟩) := hv 11 (by omega) 14 rfl
      have e12 : vals 12 = .pointer (some ⟨q, 0, none⟩) := hv 12 (by omega) 15 rfl
      have e13 : vals 13 = .slice (A) (n) (c) := hv 13 (by omega) 16 rfl
      have e14 : vals 14 = .int .i64 ((n : Nat)) := hv 14 (by omega) 17 rfl
      have e15 : vals 15 = .bool (false) := hv 15 (by omega) 18 rfl
      have e16 : vals 16 = .bool (false) := hv 16 (by omega) 19 rfl
      have e17 : vals 17 = .bool (false) := hv 17 (by omega) 2 rfl
      simp only [putAll, Act.put, List.take_succ_cons, List.take_zero, List.drop_succ_cons, List.drop_zero, List.drop_nil, List.take_nil, Nat.reduceAdd, List.setIfInBounds_toArray, List.set_cons_succ, List.set_cons_zero, e0, e1, e2, e3, e4, e5, e6, e7, e8, e9, e10, e11, e12, e13, e14, e15, e16, e17]
      clear hv e0 e1 e2 e3 e4 e5 e6 e7 e8 e9 e10 e11 e12 e13 e14 e15 e16 e17
      go_wp2_with fail
      go_ret
      exact ⟨rfl, hE⟩
  · clear hL hL2 hl
    go_enter Tryz.func48, Tryz.ntmps48
    go_upto_region 1 with (fail)
    refine par_ext (n := 18) (by kernel_rfl) [.is (.pointer (some ⟨q, 0, none⟩)), .is (.pointer (some ⟨q, 0, none⟩)), .is (.pointer (some ⟨q, 2, none⟩)), .is (.bool (true)), .is (.bool (false)), .is (.bool (false)), .is undef, .is undef, .is undef, .is undef, .is undef, .is undef, .is undef, .is undef, .is undef, .is undef, .is (.bool (false)), .is (.bool (false))] rfl ⟨?_, ?_, ?_, ?_, ?_, ?_, ?_, ?_, ?_, ?_, ?_, ?_, ?_, ?_, ?_, ?_, ?_, ?_, trivial⟩ ?_
    · refine stepE rfl fun sdn sa sw sE sd sk => ?_
      have h0 : sa.eval (.tmp 0) = .pointer (some ⟨q, 0, none⟩) := sk.old 0 rfl
      exact Runs.move rfl h0 ⟨Ext.refl _, rfl⟩
    · refine stepE rfl fun sdn sa sw sE sd sk => ?_
      have h3 : sa.eval (.tmp 3) = .pointer (some ⟨q, 0, none⟩) := sk.fact 0 3 rfl (sd 0 rfl)
      exact Runs.nil_ rfl h3 ⟨Ext.refl _, rfl⟩
    · refine stepE rfl fun sdn sa sw sE sd sk => ?_
      have h4 : sa.eval (.tmp 4) = .pointer (some ⟨q, 0, none⟩) := sk.fact 1 4 rfl (sd 1 rfl)
      refine Runs.of_run (r := .pointer (some ⟨q, 2, none⟩)) (w' := sw) ?_ ⟨Ext.refl _, rfl⟩
      unfold execOp
      simp only [h4]
      go_simp
    · refine stepE rfl fun sdn sa sw sE sd sk => ?_
      have h5 : sa.eval (.tmp 5) = .pointer (some ⟨q, 2, none⟩) := sk.fact 2 5 rfl (sd 2 rfl)
      exact Runs.load rfl h5 (run_load1 Tryz.underlying4 rfl ((hB.ext sE).cell (i := 2) rfl)) ⟨Ext.refl _, rfl⟩
    · refine stepE rfl fun sdn sa sw sE sd sk => ?_
      have h6 : sa.eval (.tmp 6) = .bool (true) := sk.fact 3 6 rfl (sd 3 rfl)
      exact Runs.un rfl h6 (by rfl) ⟨Ext.refl _, rfl⟩
    · refine stepE rfl fun sdn sa sw sE sd sk => ?_
      have h7 : sa.eval (.tmp 7) = .bool (false) := sk.fact 4 7 rfl (sd 4 rfl)
      exact Runs.move rfl h7 ⟨Ext.refl _, rfl⟩
    · exact stepN (j := 5) (d := 8) (b := false) rfl rfl rfl (fun v w h => h) fun w => rfl
    · exact stepN (j := 5) (d := 8) (b := false) rfl rfl rfl (fun v w h => h) fun w => rfl
    · exact stepN (j := 5) (d := 8) (b := false) rfl rfl rfl (fun v w h => h) fun w => rfl
    · exact stepN (j := 5) (d := 8) (b := false) rfl rfl rfl (fun v w h => h) fun w => rfl
    · exact stepN (j := 5) (d := 8) (b := false) rfl rfl rfl (fun v w h => h) fun w => rfl
    · exact stepN (j := 5) (d := 8) (b := false) rfl rfl rfl (fun v w h => h) fun w => rfl
    · exact stepN (j := 5) (d := 8) (b := false) rfl rfl rfl (fun v w h => h) fun w => rfl
    · exact stepN (j := 5) (d := 8) (b := false) rfl rfl rfl (fun v w h => h) fun w => rfl
    · exact stepN (j := 5) (d := 8) (b := false) rfl rfl rfl (fun v w h => h) fun w => rfl
    · exact stepN (j := 5) (d := 8) (b := false) rfl rfl rfl (fun v w h => h) fun w => rfl
    · refine stepE rfl fun sdn sa sw sE sd sk => ?_
      have h8 : sa.eval (.tmp 8) = .bool (false) := sk.fact 5 8 rfl (sd 5 rfl)
      exact Runs.pick rfl h8 ⟨Ext.refl _, rfl⟩
    · refine stepE rfl fun sdn sa sw sE sd sk => ?_
      have h19 : sa.eval (.tmp 19) = .bool (false) := sk.fact 16 19 rfl (sd 16 rfl)
      exact Runs.assign rfl h19 ⟨Ext.refl _, rfl⟩
    intro vals W1 hE hv
    have e0 : vals 0 = .pointer (some ⟨q, 0, none⟩) := hv 0 (by omega) 3 rfl
    have e1 : vals 1 = .pointer (some ⟨q, 0, none⟩) := hv 1 (by omega) 4 rfl
    have e2 : vals 2 = .pointer (some ⟨q, 2, none⟩) := hv 2 (by omega) 5 rfl
    have e3 : vals 3 = .bool (true) := hv 3 (by omega) 6 rfl
    have e4 : vals 4 = .bool (false) := hv 4 (by omega) 7 rfl
    have e5 : vals 5 = .bool (false) := hv 5 (by omega) 8 rfl
    have e16 : vals 16 = .bool (false) := hv 16 (by omega) 19 rfl
    have e17 : vals 17 = .bool (false) := hv 17 (by omega) 2 rfl
    simp only [putAll, Act.put, List.take_succ_cons, List.take_zero, List.drop_succ_cons, List.drop_zero, List.drop_nil, List.take_nil, Nat.reduceAdd, List.setIfInBounds_toArray, List.set_cons_succ, List.set_cons_zero, e0, e1, e2, e3, e4, e5, e16, e17]
    clear hv e0 e1 e2 e3 e4 e5 e16 e17
    go_wp2_with fail
    go_ret
    exact ⟨rfl, hE⟩
set_option maxHeartbeats 1000000 in
theorem r1rbytes_any (w : World) (base q : Nat) (L : List UInt8) (bad : Bool) (most : Int) (hR : RR w base q L bad) (hm : 0 ≤ most) (hm2 : most ≤ 1000000) :
    Calls Tryz.prog 46 #[.pointer (some ⟨q, 0, none⟩), .int .i64 most] w fun e w' => (∃ B m d, e = .returned (.slice B m d) ∧ OB w' w.heap.size B m d (rbytes L bad most).1) ∧ RR w' base q (rbytes L bad most).2.1 (rbytes L bad most).2.2 ∧ w.grownBy w' (some q) := by
  have hc := fun w' : World => conv_u32_i64 (P := Tryz.prog) (w := w') Tryz.underlying56 Tryz.underlying3 (beNum (rtake L bad 2).1)
  obtain ⟨x, hx⟩ : ∃ x, x = beNum (rtake L bad 2).1 := ⟨_, rfl⟩
  have hx0 := u32i_lo x
  have hx1 := u32i_hi x
  rw [← hx] at hc
  have Hx := Lib.hid hx
  clear hx
  by_cases ho : most < u32i x
  · have hrb : rbytes L bad most = ([], [], true) := by
      have h1 : max most 0 < u32i x := by omega
      unfold rbytes
      rw [← Hx.out, if_pos h1]
      unfold rtake
      rw [if_pos (.inr (.inl (by decide)))]
    rw [hrb]
    have hpos : 0 < u32i x := by omega
    clear hrb
    go_enter Tryz.func46, Tryz.ntmps46
    go_wp2_with fail
    refine (r1number_any w base q L bad 2 hR).mono ?_
    rintro e w1 ⟨rfl, hR1, g1⟩
    rw [← Hx.out]
    obtain ⟨A, n, c, At, B, hB, hr, hAt, hn, hbq, hL, hL2, hbl⟩ := hR1
    have y2 := hB.cell (i := 2) rfl
    have z2 := hB.frozen 2
    have g2 := grownBy_setCell w1 ⟨q, 2, none⟩ (.bool true)
    have hR2 : RR (w1.setCell ⟨q, 2, none⟩ (.bool true)) base q [] true := ⟨A, n, c, At, B, hB.set 2 (.bool true), hr.grown g2 (hr.apart hB (rd_no _ _ _ _ _)), hAt, hn, hbq, (fun h => by cases h), fun _ => rfl, hbl⟩
    clear hB hr hL hL2
    go_wp2_with fail
    refine (r1raw_no _ base q [] true _ hR2 (.inl rfl)).mono ?_
    rintro e w2 ⟨rfl, hR3, g3⟩
    go_wp2_with fail
    go_ret
    exact ⟨⟨none, 0, 0, rfl, OB.none_ _ _⟩, hR3, (g1.trans g2).trans g3⟩
  · obtain ⟨T, hT⟩ : ∃ T, T = rtake L bad 2 := ⟨_, rfl⟩
    obtain ⟨V, hV⟩ : ∃ V, V = rtake T.2.1 T.2.2 (u32i x) := ⟨_, rfl⟩
    have hrb : rbytes L bad most = V := by
      have h1 : ¬ max most 0 < u32i x := by omega
      unfold rbytes
      rw [← Hx.out, if_neg h1, ← hT, hV]
    rw [hrb]
    have HT := Lib.hid hT
    have HV := Lib.hid hV
    clear hrb hT hV
    go_enter Tryz.func46, Tryz.ntmps46
    go_wp2_with fail
    refine (r1number_any w base q L bad 2 hR).mono ?_
    rintro e w1 ⟨rfl, hR1, g1⟩
    rw [← Hx.out]
    rw [← HT.out] at hR1
    have d1 : decide (most < u32i x) = false := by rw [decide_eq_false_iff_not]; omega
    clear ho hm hm2 hx0 hx1
    go_wp2_with fail
    refine (r1raw_any w1 base q _ _ (u32i x) hR1).mono ?_
    rintro e w2 ⟨⟨B, m, d, rfl, own⟩, hR3, g3⟩
    rw [← HV.out] at own hR3
    go_wp2_with fail
    go_ret
    exact ⟨⟨B, m, d, rfl, own.base g1.size⟩, hR3, g1.trans g3⟩
end Go.Proofs.YtkndgpjamijbbaaGreat
