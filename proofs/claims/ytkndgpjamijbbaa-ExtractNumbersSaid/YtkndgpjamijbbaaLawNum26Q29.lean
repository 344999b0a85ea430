/-
  ExtractNumbers, walked.
-/
import Derived.Test.YtkndgpjamijbbaaLawNum26Q28
namespace Go.Proofs.Ytkndgpjamijbbaa
set_option maxRecDepth 100000
open Go Go.RowKit
theorem RBB.of4 {w : World} {B0 B1 B2 B3 : Option Addr} {m0 d0 m1 d1 m2 d2 m3 d3 : Nat} {L0 L1 L2 L3 : List UInt8} (h0 : RB w B0 m0 d0 L0) (h1 : RB w B1 m1 d1 L1) (h2 : RB w B2 m2 d2 L2) (h3 : RB w B3 m3 d3 L3) (t : TypeId) : RBB (w.alloc (.cells #[.slice B0 m0 d0, .slice B1 m1 d1, .slice B2 m2 d2, .slice B3 m3 d3] t)) (some ⟨w.heap.size, 0, none⟩) 4 4 [L0, L1, L2, L3] :=
  ⟨rfl, Nat.le_refl _, small_maxLen (by decide), fun _ => ⟨_, rfl, fun j hj => by
    have hB := Blk.new w t #[.slice B0 m0 d0, .slice B1 m1 d1, .slice B2 m2 d2, .slice B3 m3 d3]
    have hE := Ext.new w (.cells #[.slice B0 m0 d0, .slice B1 m1 d1, .slice B2 m2 d2, .slice B3 m3 d3] t)
    rw [add_plain]
    have hc : j = 0 ∨ j = 1 ∨ j = 2 ∨ j = 3 := by omega
    rcases hc with rfl | rfl | rfl | rfl
    · exact ⟨_, _, _, hB.cell (i := 0) rfl, h0.ext hE⟩
    · exact ⟨_, _, _, hB.cell (i := 1) rfl, h1.ext hE⟩
    · exact ⟨_, _, _, hB.cell (i := 2) rfl, h2.ext hE⟩
    · exact ⟨_, _, _, hB.cell (i := 3) rfl, h3.ext hE⟩⟩⟩
theorem run_ss4 (w : World) (B0 : Option Addr) (m0 d0 : Nat) (B1 : Option Addr) (m1 d1 : Nat) (B2 : Option Addr) (m2 d2 : Nat) (B3 : Option Addr) (m3 d3 : Nat) : (Instr.buildSlice 23 4 #[(0, Value.slice B0 m0 d0), (1, Value.slice B1 m1 d1), (2, Value.slice B2 m2 d2), (3, Value.slice B3 m3 d3)]).run Try.prog w = .ok (.slice (some ⟨w.heap.size, 0, none⟩) 4 4) (w.alloc (.cells #[.slice B0 m0 d0, .slice B1 m1 d1, .slice B2 m2 d2, .slice B3 m3 d3] 22)) := by
  go_simp
theorem Runs.ss4 {o : Oper} {ρ : Operand → Value} {w : World} {G : Value → World → Prop} {y0 y1 y2 y3 : Operand} {B0 B1 B2 B3 : Option Addr} {m0 d0 m1 d1 m2 d2 m3 d3 : Nat} {L0 L1 L2 L3 : List UInt8} (ho : o.op = .buildSlice 23 4 #[(0, y0), (1, y1), (2, y2), (3, y3)]) (e0 : ρ y0 = .slice B0 m0 d0) (e1 : ρ y1 = .slice B1 m1 d1) (e2 : ρ y2 = .slice B2 m2 d2) (e3 : ρ y3 = .slice B3 m3 d3) (h0 : RB w B0 m0 d0 L0) (h1 : RB w B1 m1 d1 L1) (h2 : RB w B2 m2 d2 L2) (h3 : RB w B3 m3 d3 L3)
    (h : ∀ w', Ext w w' → RBB w' (some ⟨w.heap.size, 0, none⟩) 4 4 [L0, L1, L2, L3] → G (.slice (some ⟨w.heap.size, 0, none⟩) 4 4) w') : Runs Try.prog o ρ w G := by
  refine Runs.of_run (r := .slice (some ⟨w.heap.size, 0, none⟩) 4 4) ?_ (h _ (Ext.new w _) (RBB.of4 h0 h1 h2 h3 22))
  unfold execOp
  simp only [ho, e0, e1, e2, e3, List.map_toArray, List.map_cons, List.map_nil, Sem.run_bind, run_ss4, Result.andThen_ok, Sem.run_pure]

def LA26 : List (List UInt8) := [[1], [2], [3]]
def LB26 : List (List UInt8) := [[1], [2], [4], [5]]
theorem pref26 (z : Int) (h1 : -1 ≤ z) (h2 : z < 6) : prefB LA26 LB26 z = decide (0 ≤ z ∧ z ≤ 2) ∧ prefB LB26 LA26 z = decide (0 ≤ z ∧ z ≤ 2) ∧ prefB LA26 LA26 z = decide (0 ≤ z ∧ z ≤ 3) := by
  have h : z = -1 ∨ z = 0 ∨ z = 1 ∨ z = 2 ∨ z = 3 ∨ z = 4 ∨ z = 5 := by omega
  rcases h with rfl | rfl | rfl | rfl | rfl | rfl | rfl <;> decide
theorem pair26 : pairL [[97], [97]] = none := by
  have h : clashB [[97], [97]] (1, 0) = false := by
    unfold clashB
    rw [decide_eq_false (show ¬ lb [[97], [97]] (1, 0).2 ≠ lb [[97], [97]] (1, 0).1 from fun h => h rfl)]
    exact Bool.and_false _
  unfold pairL
  have e : pairsN [[(97 : UInt8)], [97]].length = [(1, 0)] := by decide
  rw [e]
  simp [h]
theorem trees26 : treesB LA26 LB26 = false := by
  unfold treesB
  rw [decide_eq_false (fun h => absurd h.1 (by decide))]
  rfl
def Nm26I (w : World) (i : Value) (wr : World) : Prop := ∃ z : Int, -1 ≤ z ∧ z ≤ 6 ∧ i = .int .i64 z ∧ Ext w wr
set_option maxHeartbeats 8000000 in
theorem num26_any (w : World) : Calls Try.prog 3 #[] w fun e w' => e = .returned (.bool true) ∧ Ext w w' := by
  have fAB := pref26
  have hLA : ∀ a ∈ LA26, a.length ≤ 1000 := by decide
  have hLB : ∀ a ∈ LB26, a.length ≤ 1000 := by decide
  have trees_ab := trees26
  go_enter Try.func3, Try.ntmps3
  go_upto_region 1 with (fail)
  refine seq_ext (n := 9) (by kernel_rfl) [.rk (1) ([(1 : UInt8)]), .rk (1) ([(2 : UInt8)]), .rk (1) ([(3 : UInt8)]), .rws (3) ([[(1 : UInt8)], [(2 : UInt8)], [(3 : UInt8)]]), .rk (1) ([(1 : UInt8)]), .rk (1) ([(2 : UInt8)]), .rk (1) ([(4 : UInt8)]), .rk (1) ([(5 : UInt8)]), .rws (4) ([[(1 : UInt8)], [(2 : UInt8)], [(4 : UInt8)], [(5 : UInt8)]])] rfl ⟨?_, ?_, ?_, ?_, ?_, ?_, ?_, ?_, ?_, trivial⟩ ?_
  · refine stepE rfl fun sdn sa sw sE sd sk => ?_
    have hl0 : (.int .u8 1 : Value) = .int .u8 (u8i (1 : UInt8)) := rfl
    exact Runs.lit1 (b0 := (1 : UInt8)) rfl hl0 (fun w1 e1 o1 => ⟨e1, _, _, rfl, o1.rb⟩)
  · refine stepE rfl fun sdn sa sw sE sd sk => ?_
    have hl0 : (.int .u8 2 : Value) = .int .u8 (u8i (2 : UInt8)) := rfl
    exact Runs.lit1 (b0 := (2 : UInt8)) rfl hl0 (fun w1 e1 o1 => ⟨e1, _, _, rfl, o1.rb⟩)
  · refine stepE rfl fun sdn sa sw sE sd sk => ?_
    have hl0 : (.int .u8 3 : Value) = .int .u8 (u8i (3 : UInt8)) := rfl
    exact Runs.lit1 (b0 := (3 : UInt8)) rfl hl0 (fun w1 e1 o1 => ⟨e1, _, _, rfl, o1.rb⟩)
  · refine stepE rfl fun sdn sa sw sE sd sk => ?_
    obtain ⟨A17, c17, h17, r17⟩ := sk.fact 0 17 rfl (sd 0 rfl)
    obtain ⟨A18, c18, h18, r18⟩ := sk.fact 1 18 rfl (sd 1 rfl)
    obtain ⟨A19, c19, h19, r19⟩ := sk.fact 2 19 rfl (sd 2 rfl)
    exact Runs.ss3 rfl h17 h18 h19 r17 r18 r19 (fun w1 e1 b1 => ⟨e1, _, _, rfl, b1⟩)
  · refine stepE rfl fun sdn sa sw sE sd sk => ?_
    have hl0 : (.int .u8 1 : Value) = .int .u8 (u8i (1 : UInt8)) := rfl
    exact Runs.lit1 (b0 := (1 : UInt8)) rfl hl0 (fun w1 e1 o1 => ⟨e1, _, _, rfl, o1.rb⟩)
  · refine stepE rfl fun sdn sa sw sE sd sk => ?_
    have hl0 : (.int .u8 2 : Value) = .int .u8 (u8i (2 : UInt8)) := rfl
    exact Runs.lit1 (b0 := (2 : UInt8)) rfl hl0 (fun w1 e1 o1 => ⟨e1, _, _, rfl, o1.rb⟩)
  · refine stepE rfl fun sdn sa sw sE sd sk => ?_
    have hl0 : (.int .u8 4 : Value) = .int .u8 (u8i (4 : UInt8)) := rfl
    exact Runs.lit1 (b0 := (4 : UInt8)) rfl hl0 (fun w1 e1 o1 => ⟨e1, _, _, rfl, o1.rb⟩)
  · refine stepE rfl fun sdn sa sw sE sd sk => ?_
    have hl0 : (.int .u8 5 : Value) = .int .u8 (u8i (5 : UInt8)) := rfl
    exact Runs.lit1 (b0 := (5 : UInt8)) rfl hl0 (fun w1 e1 o1 => ⟨e1, _, _, rfl, o1.rb⟩)
  · refine stepE rfl fun sdn sa sw sE sd sk => ?_
    obtain ⟨A21, c21, h21, r21⟩ := sk.fact 4 21 rfl (sd 4 rfl)
    obtain ⟨A22, c22, h22, r22⟩ := sk.fact 5 22 rfl (sd 5 rfl)
    obtain ⟨A23, c23, h23, r23⟩ := sk.fact 6 23 rfl (sd 6 rfl)
    obtain ⟨A24, c24, h24, r24⟩ := sk.fact 7 24 rfl (sd 7 rfl)
    exact Runs.ss4 rfl h21 h22 h23 h24 r21 r22 r23 r24 (fun w1 e1 b1 => ⟨e1, _, _, rfl, b1⟩)
  intro vals W1 hE1 hv1
  obtain ⟨A17, c17, e0, r17⟩ := hv1 0 (by omega) 17 rfl
  obtain ⟨A18, c18, e1, r18⟩ := hv1 1 (by omega) 18 rfl
  obtain ⟨A19, c19, e2, r19⟩ := hv1 2 (by omega) 19 rfl
  obtain ⟨A20, c20, e3, r20⟩ := hv1 3 (by omega) 20 rfl
  obtain ⟨A21, c21, e4, r21⟩ := hv1 4 (by omega) 21 rfl
  obtain ⟨A22, c22, e5, r22⟩ := hv1 5 (by omega) 22 rfl
  obtain ⟨A23, c23, e6, r23⟩ := hv1 6 (by omega) 23 rfl
  obtain ⟨A24, c24, e7, r24⟩ := hv1 7 (by omega) 24 rfl
  obtain ⟨A25, c25, e8, r25⟩ := hv1 8 (by omega) 25 rfl
  simp only [putAll, Act.put, List.take_succ_cons, List.take_zero, List.drop_succ_cons, List.drop_zero, List.drop_nil, List.take_nil, Nat.reduceAdd, List.setIfInBounds_toArray, List.set_cons_succ, List.set_cons_zero, e0, e1, e2, e3, e4, e5, e6, e7, e8]
  clear hv1 e0 e1 e2 e3 e4 e5 e6 e7 e8
  replace r20 : RBB W1 A20 3 c20 LA26 := r20
  replace r25 : RBB W1 A25 4 c25 LB26 := r25
  generalize LA26 = LA at *
  generalize LB26 = LB at *
  clear r17 r18 r19 r21 r22 r23 r24
  go_wp2_with fail
  go_loopw [3] (fun i wr => Nm26I W1 i wr) (fun i _ => (6 - intOf i).toNat)
  case atStart => exact ⟨-1, by omega, by omega, rfl, Ext.refl _⟩
  case round =>
    obtain ⟨z, hz1, hz3, rfl, hEr⟩ := hrel
    by_cases hz2 : z < 6
    · have rA1 := r20.ext hEr
      have rB1 := r25.ext hEr
      have hc : z < 0 ∨ (0 ≤ z ∧ z ≤ 2) ∨ z = 3 ∨ 3 < z := by omega
      clear hz3
      rcases hc with hc | hc | hc | hc
      · have q1 : ¬ (0 : Int) ≤ z := by omega
        have q2 : z ≤ 2 := by omega
        have q3 : z ≤ 3 := by omega
        have f1 := (fAB z hz1 hz2).1
        have f2 := (fAB z hz1 hz2).2.1
        have f3 := (fAB z hz1 hz2).2.2
        rw [decide_eq_false (by omega)] at f1 f2
        rw [decide_eq_false (by omega)] at f3
        have F1 := Lib.hid f1
        have F2 := Lib.hid f2
        have F3 := Lib.hid f3
        clear f1 f2 f3 hc
        go_wp2_with fail
        refine (prefix_any _ _ _ _ _ _ LA LB z wr rA1 rB1).mono ?_
        rintro e w2 ⟨rfl, hE2⟩
        rw [F1.out]
        go_wp2_with fail
        refine (prefix_any _ _ _ _ _ _ LB LA z w2 (rB1.ext hE2) (rA1.ext hE2)).mono ?_
        rintro e w3 ⟨rfl, hE3⟩
        rw [F2.out]
        replace hE2 := hE2.trans hE3
        clear hE3
        go_wp2_with fail
        refine (prefix_any _ _ _ _ _ _ LA LA z w3 (rA1.ext hE2) (rA1.ext hE2)).mono ?_
        rintro e w4 ⟨rfl, hE3⟩
        rw [F3.out]
        replace hE2 := hE2.trans hE3
        clear hE3
        go_wp2_with fail
        go_roundw
        case rel => exact ⟨z + 1, by omega, by omega, by go_num, hEr.trans hE2⟩
        case measure => simp [intOf]; omega
      · have q1 : (0 : Int) ≤ z := by omega
        have q2 : z ≤ 2 := by omega
        have q3 : z ≤ 3 := by omega
        have f1 := (fAB z hz1 hz2).1
        have f2 := (fAB z hz1 hz2).2.1
        have f3 := (fAB z hz1 hz2).2.2
        rw [decide_eq_true (by omega)] at f1 f2
        rw [decide_eq_true (by omega)] at f3
        have F1 := Lib.hid f1
        have F2 := Lib.hid f2
        have F3 := Lib.hid f3
        clear f1 f2 f3 hc
        go_wp2_with fail
        refine (prefix_any _ _ _ _ _ _ LA LB z wr rA1 rB1).mono ?_
        rintro e w2 ⟨rfl, hE2⟩
        rw [F1.out]
        go_wp2_with fail
        refine (prefix_any _ _ _ _ _ _ LB LA z w2 (rB1.ext hE2) (rA1.ext hE2)).mono ?_
        rintro e w3 ⟨rfl, hE3⟩
        rw [F2.out]
        replace hE2 := hE2.trans hE3
        clear hE3
        go_wp2_with fail
        refine (prefix_any _ _ _ _ _ _ LA LA z w3 (rA1.ext hE2) (rA1.ext hE2)).mono ?_
        rintro e w4 ⟨rfl, hE3⟩
        rw [F3.out]
        replace hE2 := hE2.trans hE3
        clear hE3
        go_wp2_with fail
        go_roundw
        case rel => exact ⟨z + 1, by omega, by omega, by go_num, hEr.trans hE2⟩
        case measure => simp [intOf]; omega
      · have q1 : (0 : Int) ≤ z := by omega
        have q2 : ¬ z ≤ 2 := by omega
        have q3 : z ≤ 3 := by omega
        have f1 := (fAB z hz1 hz2).1
        have f2 := (fAB z hz1 hz2).2.1
        have f3 := (fAB z hz1 hz2).2.2
        rw [decide_eq_false (by omega)] at f1 f2
        rw [decide_eq_true (by omega)] at f3
        have F1 := Lib.hid f1
        have F2 := Lib.hid f2
        have F3 := Lib.hid f3
        clear f1 f2 f3 hc
        go_wp2_with fail
        refine (prefix_any _ _ _ _ _ _ LA LB z wr rA1 rB1).mono ?_
        rintro e w2 ⟨rfl, hE2⟩
        rw [F1.out]
        go_wp2_with fail
        refine (prefix_any _ _ _ _ _ _ LB LA z w2 (rB1.ext hE2) (rA1.ext hE2)).mono ?_
        rintro e w3 ⟨rfl, hE3⟩
        rw [F2.out]
        replace hE2 := hE2.trans hE3
        clear hE3
        go_wp2_with fail
        refine (prefix_any _ _ _ _ _ _ LA LA z w3 (rA1.ext hE2) (rA1.ext hE2)).mono ?_
        rintro e w4 ⟨rfl, hE3⟩
        rw [F3.out]
        replace hE2 := hE2.trans hE3
        clear hE3
        go_wp2_with fail
        go_roundw
        case rel => exact ⟨z + 1, by omega, by omega, by go_num, hEr.trans hE2⟩
        case measure => simp [intOf]; omega
      · have q1 : (0 : Int) ≤ z := by omega
        have q2 : ¬ z ≤ 2 := by omega
        have q3 : ¬ z ≤ 3 := by omega
        have f1 := (fAB z hz1 hz2).1
        have f2 := (fAB z hz1 hz2).2.1
        have f3 := (fAB z hz1 hz2).2.2
        rw [decide_eq_false (by omega)] at f1 f2
        rw [decide_eq_false (by omega)] at f3
        have F1 := Lib.hid f1
        have F2 := Lib.hid f2
        have F3 := Lib.hid f3
        clear f1 f2 f3 hc
        go_wp2_with fail
        refine (prefix_any _ _ _ _ _ _ LA LB z wr rA1 rB1).mono ?_
        rintro e w2 ⟨rfl, hE2⟩
        rw [F1.out]
        go_wp2_with fail
        refine (prefix_any _ _ _ _ _ _ LB LA z w2 (rB1.ext hE2) (rA1.ext hE2)).mono ?_
        rintro e w3 ⟨rfl, hE3⟩
        rw [F2.out]
        replace hE2 := hE2.trans hE3
        clear hE3
        go_wp2_with fail
        refine (prefix_any _ _ _ _ _ _ LA LA z w3 (rA1.ext hE2) (rA1.ext hE2)).mono ?_
        rintro e w4 ⟨rfl, hE3⟩
        rw [F3.out]
        replace hE2 := hE2.trans hE3
        clear hE3
        go_wp2_with fail
        go_roundw
        case rel => exact ⟨z + 1, by omega, by omega, by go_num, hEr.trans hE2⟩
        case measure => simp [intOf]; omega
    · have hEa := hE1.trans hEr
      have rA := r20.ext hEr
      have rB := r25.ext hEr
      clear hE1 r20 r25 hz1 hz3 fAB
      go_wp2_with fail
      refine (pair_any none 0 0 [] wr (RBB.nil_ _) (by omega) (by decide)).mono ?_
      rintro e w5 ⟨P, np, cp, Q, nq, cq, rfl, _, _, hE⟩
      have ep : (pairL []).isSome = false := by decide
      rw [ep]
      clear ep
      replace hEa := hEa.trans hE
      replace rA := rA.ext hE
      replace rB := rB.ext hE
      clear hE
      have es : (#[.int .u8 97] : Array Value).size = 1 := rfl
      have s0 := Lib.run_convert_bytes_const (P := Try.prog) w5 22 5 #[.int .u8 97] 1 1 Try.underlying22 Try.underlying5
      rw [es] at s0
      obtain ⟨w6, hw1⟩ : ∃ w6, w6 = w5.alloc (.cells #[.int .u8 97] 5 (1, 1 + 1)) := ⟨_, rfl⟩
      have rA1 : RB w6 (some ⟨w5.heap.size, 0, none⟩) 1 1 [97] := by rw [hw1]; exact RB.litM w5 [97] (1, 1 + 1) (n := 1) rfl (small_maxLen (by decide))
      have hE1 : Ext w5 w6 := by rw [hw1]; exact Ext.new w5 _
      rw [← hw1] at s0
      clear hw1
      have s1 := Lib.run_convert_bytes_const (P := Try.prog) w6 22 5 #[.int .u8 97] 1 1 Try.underlying22 Try.underlying5
      rw [es] at s1
      obtain ⟨w7, hw2⟩ : ∃ w7, w7 = w6.alloc (.cells #[.int .u8 97] 5 (1, 1 + 1)) := ⟨_, rfl⟩
      have rB2 : RB w7 (some ⟨w6.heap.size, 0, none⟩) 1 1 [97] := by rw [hw2]; exact RB.litM w6 [97] (1, 1 + 1) (n := 1) rfl (small_maxLen (by decide))
      have hE2 : Ext w6 w7 := by rw [hw2]; exact Ext.new w6 _
      rw [← hw2] at s1
      clear hw2 es
      go_wp2_with fail
      have hE3 := Ext.new w7 (.cells #[.slice (some ⟨w5.heap.size, 0, none⟩) 1 1, .slice (some ⟨w6.heap.size, 0, none⟩) 1 1] 22)
      have rL := RBB.of2 (rA1.ext hE2) rB2 22
      have hE := (hE1.trans hE2).trans hE3
      replace hEa := hEa.trans hE
      replace rA := rA.ext hE
      replace rB := rB.ext hE
      clear s0 s1 hE1 hE2 hE3 rA1 rB2 hE
      refine (pair_any _ 2 2 _ _ rL (by omega) (by decide)).mono ?_
      rintro e w10 ⟨P2, np2, cp2, Q2, nq2, cq2, rfl, _, _, hE⟩
      replace hEa := hEa.trans hE
      replace rA := rA.ext hE
      replace rB := rB.ext hE
      clear hE rL
      rw [pair26]
      generalize A20 = A at *
      generalize A25 = B at *
      generalize c20 = cA at *
      generalize c25 = cB at *
      go_upto_region 10 with (fail)
      refine seq_ext (n := 5) (by kernel_rfl) [.ssb (treesP [] []) (treesQ [] []) (false), .ssb (treesP [] []) (treesQ [] []) (false), .rb (treesP [] []), .rb (treesQ [] []), .is (.bool (false))] rfl ⟨?_, ?_, ?_, ?_, ?_, trivial⟩ ?_
      · refine stepE rfl fun sdn sa sw sE sd sk => ?_
        refine Runs.call (f := 14) (vs := [.slice (none) (0) (0), .slice (none) (0) (0)]) rfl rfl rfl (by simp only [List.map_toArray, List.map_cons, List.map_nil] <;> rfl) (ent14 _ _) ((trees_any _ _ _ _ _ _ _ _ sw (RBB.nil_ _) (RBB.nil_ _) (by omega) (by omega) (by decide) (by decide)).mono ?_); rintro e w' ⟨P', n', p', Q', m', q', rfl, rP, rQ, hx⟩; exact ⟨_, rfl, hx, _, _, _, _, _, _, congrArg (fun b => Value.tuple #[.slice P' n' p', .slice Q' m' q', .bool b]) (by decide), rP, rQ⟩
      · refine stepE rfl fun sdn sa sw sE sd sk => ?_
        obtain ⟨A79, n79, c79, B79, m79, d79, h79, r79, s79⟩ := sk.fact 0 79 rfl (sd 0 rfl)
        exact Runs.move rfl h79 ⟨Ext.refl _, _, _, _, _, _, _, rfl, r79, s79⟩
      · refine stepE rfl fun sdn sa sw sE sd sk => ?_
        obtain ⟨A78, n78, c78, B78, m78, d78, h78, r78, s78⟩ := sk.fact 1 78 rfl (sd 1 rfl)
        refine Runs.of_run (r := .slice (A78) (n78) (c78)) (w' := sw) ?_ ⟨Ext.refl _, _, _, _, rfl, r78⟩
        unfold execOp
        simp only [h78]
        go_simp
      · refine stepE rfl fun sdn sa sw sE sd sk => ?_
        obtain ⟨A78, n78, c78, B78, m78, d78, h78, r78, s78⟩ := sk.fact 1 78 rfl (sd 1 rfl)
        refine Runs.of_run (r := .slice (B78) (m78) (d78)) (w' := sw) ?_ ⟨Ext.refl _, _, _, _, rfl, s78⟩
        unfold execOp
        simp only [h78]
        go_simp
      · refine stepE rfl fun sdn sa sw sE sd sk => ?_
        obtain ⟨A78, n78, c78, B78, m78, d78, h78, r78, s78⟩ := sk.fact 1 78 rfl (sd 1 rfl)
        refine Runs.of_run (r := .bool (false)) (w' := sw) ?_ ⟨Ext.refl _, rfl⟩
        unfold execOp
        simp only [h78]
        go_simp
      intro vals W10 hE10 hv10
      obtain ⟨A79, n79, c79, B79, m79, d79, e0, r79, s79⟩ := hv10 0 (by omega) 79 rfl
      obtain ⟨A78, n78, c78, B78, m78, d78, e1, r78, s78⟩ := hv10 1 (by omega) 78 rfl
      obtain ⟨A80, n80, c80, e2, r80⟩ := hv10 2 (by omega) 80 rfl
      obtain ⟨A81, n81, c81, e3, r81⟩ := hv10 3 (by omega) 81 rfl
      have e4 : vals 4 = .bool (false) := hv10 4 (by omega) 82 rfl
      simp only [putAll, Act.put, List.take_succ_cons, List.take_zero, List.drop_succ_cons, List.drop_zero, List.drop_nil, List.take_nil, Nat.reduceAdd, List.setIfInBounds_toArray, List.set_cons_succ, List.set_cons_zero, e0, e1, e2, e3, e4]
      clear hv10 e0 e1 e2 e3 e4
      replace rA := rA.ext hE10
      replace rB := rB.ext hE10
      replace hEa := hEa.trans hE10
      go_upto_region 11 with (fail)
      refine seq_ext (n := 7) (by kernel_rfl) [.is (.slice (A) (3) (cA)), .is (.slice (B) (4) (cB)), .ssb (treesP LA LB) (treesQ LA LB) (false), .ssb (treesP LA LB) (treesQ LA LB) (false), .rb (treesP LA LB), .rb (treesQ LA LB), .is (.bool (false))] rfl ⟨?_, ?_, ?_, ?_, ?_, ?_, ?_, trivial⟩ ?_
      · refine stepE rfl fun sdn sa sw sE sd sk => ?_
        have h1 : sa.eval (.tmp 1) = .slice (A) (3) (cA) := sk.old 1 rfl
        exact Runs.move rfl h1 ⟨Ext.refl _, rfl⟩
      · refine stepE rfl fun sdn sa sw sE sd sk => ?_
        have h2 : sa.eval (.tmp 2) = .slice (B) (4) (cB) := sk.old 2 rfl
        exact Runs.move rfl h2 ⟨Ext.refl _, rfl⟩
      · refine stepE rfl fun sdn sa sw sE sd sk => ?_
        have h84 : sa.eval (.tmp 84) = .slice (A) (3) (cA) := sk.fact 0 84 rfl (sd 0 rfl)
        have h85 : sa.eval (.tmp 85) = .slice (B) (4) (cB) := sk.fact 1 85 rfl (sd 1 rfl)
        refine Runs.call (f := 14) (vs := [.slice (A) (3) (cA), .slice (B) (4) (cB)]) rfl rfl rfl (by simp only [List.map_toArray, List.map_cons, List.map_nil, h84, h85] <;> rfl) (ent14 _ _) ((trees_any _ _ _ _ _ _ _ _ sw (rA.ext sE) (rB.ext sE) (by omega) (by omega) hLA hLB).mono ?_); rintro e w' ⟨P', n', p', Q', m', q', rfl, rP, rQ, hx⟩; exact ⟨_, rfl, hx, _, _, _, _, _, _, congrArg (fun b => Value.tuple #[.slice P' n' p', .slice Q' m' q', .bool b]) (trees_ab), rP, rQ⟩
      · refine stepE rfl fun sdn sa sw sE sd sk => ?_
        obtain ⟨A86, n86, c86, B86, m86, d86, h86, r86, s86⟩ := sk.fact 2 86 rfl (sd 2 rfl)
        exact Runs.move rfl h86 ⟨Ext.refl _, _, _, _, _, _, _, rfl, r86, s86⟩
      · refine stepE rfl fun sdn sa sw sE sd sk => ?_
        obtain ⟨A83, n83, c83, B83, m83, d83, h83, r83, s83⟩ := sk.fact 3 83 rfl (sd 3 rfl)
        refine Runs.of_run (r := .slice (A83) (n83) (c83)) (w' := sw) ?_ ⟨Ext.refl _, _, _, _, rfl, r83⟩
        unfold execOp
        simp only [h83]
        go_simp
      · refine stepE rfl fun sdn sa sw sE sd sk => ?_
        obtain ⟨A83, n83, c83, B83, m83, d83, h83, r83, s83⟩ := sk.fact 3 83 rfl (sd 3 rfl)
        refine Runs.of_run (r := .slice (B83) (m83) (d83)) (w' := sw) ?_ ⟨Ext.refl _, _, _, _, rfl, s83⟩
        unfold execOp
        simp only [h83]
        go_simp
      · refine stepE rfl fun sdn sa sw sE sd sk => ?_
        obtain ⟨A83, n83, c83, B83, m83, d83, h83, r83, s83⟩ := sk.fact 3 83 rfl (sd 3 rfl)
        refine Runs.of_run (r := .bool (false)) (w' := sw) ?_ ⟨Ext.refl _, rfl⟩
        unfold execOp
        simp only [h83]
        go_simp
      intro vals W11 hE11 hv11
      have e0 : vals 0 = .slice (A) (3) (cA) := hv11 0 (by omega) 84 rfl
      have e1 : vals 1 = .slice (B) (4) (cB) := hv11 1 (by omega) 85 rfl
      obtain ⟨A86, n86, c86, B86, m86, d86, e2, r86, s86⟩ := hv11 2 (by omega) 86 rfl
      obtain ⟨A83, n83, c83, B83, m83, d83, e3, r83, s83⟩ := hv11 3 (by omega) 83 rfl
      obtain ⟨A87, n87, c87, e4, r87⟩ := hv11 4 (by omega) 87 rfl
      obtain ⟨A88, n88, c88, e5, r88⟩ := hv11 5 (by omega) 88 rfl
      have e6 : vals 6 = .bool (false) := hv11 6 (by omega) 89 rfl
      simp only [putAll, Act.put, List.take_succ_cons, List.take_zero, List.drop_succ_cons, List.drop_zero, List.drop_nil, List.take_nil, Nat.reduceAdd, List.setIfInBounds_toArray, List.set_cons_succ, List.set_cons_zero, e0, e1, e2, e3, e4, e5, e6]
      clear hv11 e0 e1 e2 e3 e4 e5 e6
      replace hEa := hEa.trans hE11
      go_wp2_with fail
      refine (known26_any W11).mono ?_
      rintro e w12 ⟨rfl, hE⟩
      go_wp2_with fail
      go_ret
      exact ⟨rfl, hEa.trans hE⟩
end Go.Proofs.Ytkndgpjamijbbaa
