/-
  ref5.Right and ref5.Verify, walked. sign.Encode and ref5.Encode, walked. wire's Reader, walked: Read, take, number, Byte, Num, Bytes, Raw, End.
-/
import Derived.Test.YtkndgpjamijbbaaGreatLawNumbers22Q17
import Derived.Test.YtkndgpjamijbbaaGreatLawNumbers22Q15
import Derived.Lib.AppendZerosOnto
namespace Go.Proofs.YtkndgpjamijbbaaGreat
set_option maxRecDepth 100000
open Go Go.RowKit
theorem right_yes {x : Int} {Ps Qs : List (List UInt8)} (h0 : 0 ≤ x) (h1 : x < 16) (h2 : Ps.length = 64) (h3 : Qs.length = 4) (h4 : all32 Ps) (h5 : all32 Qs) : rightB x Ps Qs = true := by
  unfold rightB hashB
  simp [h0, h1, h2, h3, h4, h5]
theorem right_no {x : Int} {Ps Qs : List (List UInt8)} (h : ¬ (0 ≤ x ∧ x < 16 ∧ Ps.length = 64 ∧ Qs.length = 4 ∧ all32 Ps ∧ all32 Qs)) : rightB x Ps Qs = false := by
  cases hr : rightB x Ps Qs with
  | false => rfl
  | true =>
    exfalso
    apply h
    unfold rightB hashB at hr
    simp only [Bool.and_eq_true, decide_eq_true_eq] at hr
    exact ⟨hr.1.1.1, hr.1.1.2, hr.1.2.1, hr.2.1, hr.1.2.2, hr.2.2⟩
def TwoI (w : World) (Ps Qs : List (List UInt8)) (i : Value) (wr : World) : Prop :=
  ∃ j : Nat, j ≤ 2 ∧ i = .int .i64 j ∧ (0 < j → all32 Ps) ∧ (1 < j → all32 Qs) ∧ wr = w
set_option maxHeartbeats 4000000 in
theorem rright_any (x : Int) (P Q : Option Addr) (np cp nq cq : Nat) (Ps Qs : List (List UInt8)) (w : World) (hp : RBB w P np cp Ps) (hq : RBB w Q nq cq Qs) :
    Calls Tryz.prog 57 #[.agg #[.int .i64 x, .slice P np cp, .slice Q nq cq]] w fun e w' => e = .returned (.bool (rightB x Ps Qs)) ∧ Ext w w' := by
  have hE1 := Ext.new w (.cells #[.int .i64 x, .slice P np cp, .slice Q nq cq] 38)
  have Hpl := Lib.hid hp.len
  have Hql := Lib.hid hq.len
  go_enter Tryz.func57, Tryz.ntmps57
  by_cases h0 : x < 0
  · have Hv := Lib.hid (right_no (x := x) (Ps := Ps) (Qs := Qs) (fun h => by omega))
    go_wp2_with fail
    go_ret
    exact ⟨by rw [Hv.out]; rfl, hE1⟩
  by_cases h1 : 16 ≤ x
  · have Hv := Lib.hid (right_no (x := x) (Ps := Ps) (Qs := Qs) (fun h => by omega))
    go_wp2_with fail
    go_ret
    exact ⟨by rw [Hv.out]; rfl, hE1⟩
  by_cases h2 : np = 64
  rotate_left
  · have Hv := Lib.hid (right_no (x := x) (Ps := Ps) (Qs := Qs) (fun h => h2 (Hpl.out.symm.trans h.2.2.1)))
    have hn : ¬ ((np : Int) = 64) := by omega
    go_wp2_with fail
    go_ret
    exact ⟨by rw [Hv.out]; rfl, hE1⟩
  by_cases h3 : nq = 4
  rotate_left
  · have Hv := Lib.hid (right_no (x := x) (Ps := Ps) (Qs := Qs) (fun h => h3 (Hql.out.symm.trans h.2.2.2.1)))
    have hn : ¬ ((nq : Int) = 4) := by omega
    have hm : (np : Int) = 64 := by omega
    subst h2
    go_wp2_with fail
    go_ret
    exact ⟨by rw [Hv.out]; rfl, hE1⟩
  subst h2
  subst h3
  obtain ⟨w1, hw1⟩ : ∃ w1, w1 = w.alloc (.cells #[.int .i64 x, .slice P 64 cp, .slice Q 4 cq] 38) := ⟨_, rfl⟩
  rw [← hw1] at hE1
  have hE2 := Ext.new w1 (.cells #[.slice P 64 cp, .slice Q 4 cq] 33)
  have hB2 := Blk.new w1 33 #[.slice P 64 cp, .slice Q 4 cq]
  have hs1 : w1.heap.size = w.heap.size + 1 := by rw [hw1]; exact World.size_alloc _ _
  rw [hs1, hw1] at hB2
  rw [hw1] at hE2
  rw [hw1] at hE1
  clear hw1 hs1
  have hp2 := (hp.ext hE1).ext hE2
  have hq2 := (hq.ext hE1).ext hE2
  have hE12 := hE1.trans hE2
  clear hp hq hE1 hE2
  go_wp2_with fail
  generalize (w.alloc (.cells #[.int .i64 x, .slice P 64 cp, .slice Q 4 cq] 38)).alloc (.cells #[.slice P 64 cp, .slice Q 4 cq] 33) = w2 at *
  go_loopw [32] (fun i wr => TwoI w2 Ps Qs i wr) (fun i _ => 2 - (intOf i).toNat)
  case atStart => exact ⟨0, by omega, rfl, fun h => absurd h (by omega), fun h => absurd h (by omega), rfl⟩
  case round =>
    obtain ⟨j, hj, rfl, ha, hb, rfl⟩ := hrel
    by_cases hlt : j < 2
    · have hji : (j : Int) < 2 := by omega
      obtain ⟨A, n, c, Ls, hcell, hr, hyes, hno⟩ : ∃ (A : Option Addr) (n c : Nat) (Ls : List (List UInt8)), wr.cell? ⟨w.heap.size + 1, j, none⟩ = some (.slice A n c) ∧ RBB wr A n c Ls ∧ (all32 Ls → (0 < j + 1 → all32 Ps) ∧ (1 < j + 1 → all32 Qs)) ∧ (¬ all32 Ls → rightB x Ps Qs = false) := by
        have hc : j = 0 ∨ j = 1 := by omega
        rcases hc with rfl | rfl
        · exact ⟨P, 64, cp, Ps, hB2.cell (i := 0) rfl, hp2, fun h => ⟨fun _ => h, fun h => absurd h (by omega)⟩, fun h => right_no fun h' => h h'.2.2.2.2.1⟩
        · exact ⟨Q, 4, cq, Qs, hB2.cell (i := 1) rfl, hq2, fun h => ⟨fun _ => ha (by omega), fun _ => h⟩, fun h => right_no fun h' => h h'.2.2.2.2.2⟩
      have hcap := hr.cap
      have hroom := hr.room
      unfold maxLen at hcap
      have Hl := Lib.hid hr.len
      have Hyes := Lib.hid hyes
      have Hno := Lib.hid hno
      clear ha hb hyes hno
      have hc2 : wr.cell? ((⟨w.heap.size + 1, 0, none⟩ : Addr).add j) = some (.slice A n c) := by rw [add_plain]; exact hcell
      go_wp2_with fail
      obtain ⟨w4, rfl⟩ : ∃ w4, w4 = wr := ⟨_, rfl⟩
      go_loopw [5] (fun i wi => IdxI w4 Ls i wi) (fun i _ => n - (intOf i).toNat)
      case atStart => exact ⟨0, by omega, rfl, fun j hj => absurd hj (Nat.not_lt_zero _), rfl⟩
      case round =>
        obtain ⟨k, hk, rfl, hall, rfl⟩ := hrel
        rw [Hl.out] at hk
        have Hall := Lib.hid hall
        clear hall
        by_cases hlt2 : k < n
        · have hki : (k : Int) < (n : Int) := by omega
          obtain ⟨ad, rfl, hc⟩ := hr.cells (by omega)
          obtain ⟨E, z, y, hcell3, hrE⟩ := hc k hlt2
          have Hz := Lib.hid hrE.len
          clear hc hrE
          by_cases h32 : z = 32
          · have hz : (z : Int) = 32 := by omega
            go_wp2_with fail
            go_roundw
            case rel =>
              refine ⟨k + 1, by rw [Hl.out]; omega, by go_num, fun j hj => ?_, rfl⟩
              by_cases hjk : j = k
              · subst hjk; rw [Hz.out]; exact h32
              · exact Hall.out j (by omega)
            case measure => simp [intOf]; omega
          · have hz : ¬ ((z : Int) = 32) := by omega
            have Hv := Lib.hid (Hno.out fun h => h32 (by rw [← Hz.out]; exact h k (by rw [Hl.out]; omega)))
            go_wp2_with fail
            go_ret
            exact ⟨by rw [Hv.out]; rfl, hE12⟩
        · obtain rfl : k = n := by omega
          have hal : all32 Ls := fun j hj => Hall.out j (by rw [← Hl.out]; exact hj)
          go_wp2_with fail
          go_roundw
          case rel => exact ⟨j + 1, by omega, by go_num, (Hyes.out hal).1, (Hyes.out hal).2, rfl⟩
          case measure => simp [intOf]; omega
    · obtain rfl : j = 2 := by omega
      have Hv := Lib.hid (right_yes (x := x) (by omega) (by omega) Hpl.out Hql.out (ha (by omega)) (hb (by omega)))
      go_wp2_with fail
      go_ret
      exact ⟨by rw [Hv.out]; rfl, hE12⟩
def RVerI (w1 : World) (k : Nat) (T : List UInt8) (Qs : List (List UInt8)) (t i : Value) (wr : World) : Prop :=
  ∃ (h d : Nat) (A : Option Addr), h ≤ 4 ∧ i = .int .i64 h ∧ t = .slice A 32 d ∧ RB wr A 32 d (climb k T Qs h) ∧ Ext w1 wr
set_option maxHeartbeats 4000000 in
theorem rverify_any (B D P Q : Option Addr) (m e' nd cd np cp nq cq : Nat) (x : Int) (X M : List UInt8) (Ps Qs : List (List UInt8)) (w : World) (hX : RB w D nd cd X) (hM : RB w B m e' M) (hmn : m ≤ 140737488355000) (hp : RBB w P np cp Ps) (hq : RBB w Q nq cq Qs) :
    Calls Tryz.prog 34 #[.slice D nd cd, .slice B m e', .agg #[.int .i64 x, .slice P np cp, .slice Q nq cq]] w fun e w' => e = .returned (.bool (verB X M x Ps Qs)) ∧ Ext w w' := by
  go_enter Tryz.func34, Tryz.ntmps34
  have hE1 := Ext.new w (.cells #[.int .i64 x, .slice P np cp, .slice Q nq cq] 38)
  have hB1 := Blk.new w 38 #[.int .i64 x, .slice P np cp, .slice Q nq cq]
  go_wp2_with fail
  refine (rright_any x P Q np cp nq cq Ps Qs _ (hp.ext hE1) (hq.ext hE1)).mono ?_
  rintro e w2 ⟨rfl, hE2⟩
  have hE12 := hE1.trans hE2
  have hB2 := hB1.ext hE2
  clear hB1
  cases hr : rightB x Ps Qs with
  | false =>
    have hv : verB X M x Ps Qs = false := by unfold verB; rw [hr]; rfl
    have Hv := Lib.hid hv
    clear hv hr
    go_wp2_with fail
    go_ret
    exact ⟨by rw [Hv.out]; rfl, hE12⟩
  | true =>
    obtain ⟨⟨k, hk, rfl⟩, hok, hql, hq32⟩ := rightB_true hr
    have hv : verB X M (k : Int) Ps Qs = decide (climb k (rootV M Ps) Qs 4 = X) := by unfold verB; rw [hr]; simp
    have Hv := Lib.hid hv
    clear hv hr
    obtain rfl : nq = 4 := hq.len.symm.trans hql
    have y1 : w2.cell? ⟨w.heap.size, 1, none⟩ = some (.slice P np cp) := hB2.cell (i := 1) rfl
    go_wp2_with fail
    refine (r4root_any B P m e' np cp M Ps _ (hM.ext hE12) hmn (hp.ext hE12)).mono ?_
    rintro e w3 ⟨hroot, _, hE3⟩
    obtain ⟨A3, c3, rfl, own3⟩ := hroot hok
    obtain ⟨T, hT⟩ : ∃ T, T = rootV M Ps := ⟨_, rfl⟩
    rw [← hT] at own3 Hv
    clear hT hroot y1
    have hE13 := hE12.trans hE3
    have hB3 := hB2.ext hE3
    have own3 := own3.rb
    go_wp2_with fail
    go_loopw [7, 9] (fun t i wr => RVerI w3 k T Qs t i wr) (fun _ i _ => 4 - (intOf i).toNat)
    case atStart => exact ⟨0, c3, A3, by omega, rfl, rfl, own3, Ext.refl _⟩
    case round =>
      clear own3
      obtain ⟨h, d, A, hh, rfl, rfl, own, hEr⟩ := hrel
      have hEw := hE13.trans hEr
      have hBr := hB3.ext hEr
      by_cases hlt : h < 4
      · have hhi : (h : Int) < 4 := by omega
        obtain ⟨ad, rfl, hc⟩ := hq.cells (by omega)
        obtain ⟨E, z, y, hcell, hrE⟩ := hc h hlt
        obtain rfl : z = 32 := hrE.len.symm.trans (hq32 h hlt)
        have y1 := hEw.cell hcell
        have rE := hrE.ext hEw
        have hl1 := Lib.hid rE.len
        have hl2 := Lib.hid own.len
        have hcl : climb k T Qs (h + 1) = climbB k h (climb k T Qs h) (lb Qs h) := rfl
        unfold climbB at hcl
        have Hcl := Lib.hid hcl
        have hq16 : k / 2 ^ h < 16 := Nat.lt_of_le_of_lt (Nat.div_le_self _ _) hk
        have y0 : wr.cell? ⟨w.heap.size, 0, none⟩ = some (.int .i64 (k : Int)) := hBr.cell (i := 0) rfl
        have y2 : wr.cell? ⟨w.heap.size, 2, none⟩ = some (.slice (some ad) 4 cq) := hBr.cell (i := 2) rfl
        clear hcl hcell hrE hc hq hBr
        generalize climb k T Qs h = V at *
        generalize lb Qs h = Y at *
        obtain ⟨q, hq⟩ : ∃ q, q = k / 2 ^ h := ⟨_, rfl⟩
        rw [← hq] at hq16 Hcl
        have Hq := Lib.hid hq
        clear hq
        obtain ⟨b0, hb0⟩ : ∃ b0, decide (((q % 2 : Nat) : Int) = 0) = b0 := ⟨_, rfl⟩
        have Hb0 := Lib.hid hb0
        clear hb0
        go_upto_region 7 with (fail)
        refine seq_ext (n := 7) (by kernel_rfl) [.is (.pointer (some ⟨w.heap.size, 0, none⟩)), .is (.int .i64 (((k : Nat) : Int))), .is (.int .i64 (((h : Nat) : Int))), .is (.int .u64 ((h : Nat) : Int)), .is (.int .i64 (((q : Nat) : Int))), .is (.int .i64 (((q % 2 : Nat) : Int))), .is (.bool (b0))] rfl ⟨?_, ?_, ?_, ?_, ?_, ?_, ?_, trivial⟩ ?_
        · refine stepE rfl fun sdn sa sw sE sd sk => ?_
          have h5 : sa.eval (.tmp 5) = .pointer (some ⟨w.heap.size, 0, none⟩) := sk.old 5 rfl
          refine Runs.of_run (r := .pointer (some ⟨w.heap.size, 0, none⟩)) (w' := sw) ?_ ⟨Ext.refl _, rfl⟩
          unfold execOp
          simp only [h5]
          go_simp
        · refine stepE rfl fun sdn sa sw sE sd sk => ?_
          have h24 : sa.eval (.tmp 24) = .pointer (some ⟨w.heap.size, 0, none⟩) := sk.fact 0 24 rfl (sd 0 rfl)
          exact Runs.load rfl h24 (run_load1 Tryz.underlying3 rfl (sE.cell y0)) ⟨Ext.refl _, rfl⟩
        · refine stepE rfl fun sdn sa sw sE sd sk => ?_
          have h9 : sa.eval (.tmp 9) = .int .i64 (((h : Nat) : Int)) := sk.old 9 rfl
          exact Runs.move rfl h9 ⟨Ext.refl _, rfl⟩
        · refine stepE rfl fun sdn sa sw sE sd sk => ?_
          have h26 : sa.eval (.tmp 26) = .int .i64 (((h : Nat) : Int)) := sk.fact 2 26 rfl (sd 2 rfl)
          exact Runs.conv rfl h26 (conv_i64_u64 Tryz.underlying3 Tryz.underlying95 _ h rfl (by omega)) ⟨Ext.refl _, rfl⟩
        · refine stepE rfl fun sdn sa sw sE sd sk => ?_
          have h25 : sa.eval (.tmp 25) = .int .i64 (((k : Nat) : Int)) := sk.fact 1 25 rfl (sd 1 rfl)
          have h27 : sa.eval (.tmp 27) = .int .u64 ((h : Nat) : Int) := sk.fact 3 27 rfl (sd 3 rfl)
          exact Runs.bin rfl h25 h27 (eqGuard_bin rfl) (bin_shrI _ k h (by omega)) ⟨Ext.refl _, congrArg (fun z : Nat => Value.int .i64 (z : Int)) Hq.out.symm⟩
        · refine stepE rfl fun sdn sa sw sE sd sk => ?_
          have h28 : sa.eval (.tmp 28) = .int .i64 (((q : Nat) : Int)) := sk.fact 4 28 rfl (sd 4 rfl)
          exact Runs.bin rfl h28 rfl (eqGuard_bin rfl) (bin_and1 _ q hq16) ⟨Ext.refl _, rfl⟩
        · refine stepE rfl fun sdn sa sw sE sd sk => ?_
          have h29 : sa.eval (.tmp 29) = .int .i64 (((q % 2 : Nat) : Int)) := sk.fact 5 29 rfl (sd 5 rfl)
          exact Runs.bin rfl h29 rfl (by rfl) (bin_eql _ _ _ _) ⟨Ext.refl _, congrArg Value.bool Hb0.out⟩
        intro vals w7 hE7 hv7
        have e0 : vals 0 = .pointer (some ⟨w.heap.size, 0, none⟩) := hv7 0 (by omega) 24 rfl
        have e1 : vals 1 = .int .i64 (((k : Nat) : Int)) := hv7 1 (by omega) 25 rfl
        have e2 : vals 2 = .int .i64 (((h : Nat) : Int)) := hv7 2 (by omega) 26 rfl
        have e3 : vals 3 = .int .u64 ((h : Nat) : Int) := hv7 3 (by omega) 27 rfl
        have e4 : vals 4 = .int .i64 (((q : Nat) : Int)) := hv7 4 (by omega) 28 rfl
        have e5 : vals 5 = .int .i64 (((q % 2 : Nat) : Int)) := hv7 5 (by omega) 29 rfl
        have e6 : vals 6 = .bool (b0) := hv7 6 (by omega) 30 rfl
        simp only [putAll, Act.put, List.take_succ_cons, List.take_zero, List.drop_succ_cons, List.drop_zero, List.drop_nil, List.take_nil, Nat.reduceAdd, List.setIfInBounds_toArray, List.set_cons_succ, List.set_cons_zero, e0, e1, e2, e3, e4, e5, e6]
        clear hv7 e0 e1 e2 e3 e4 e5 e6
        have own7 := own.ext hE7
        have rE7 := rE.ext hE7
        have hEr7 := hEr.trans hE7
        have hEw7 := hEw.trans hE7
        have y2 := hE7.cell y2
        have y3 := hE7.cell y1
        clear y1 y0 own rE
        cases b0 with
        | true =>
          have hq2 : q % 2 = 0 := by have := of_decide_eq_true Hb0.out; omega
          have r2 := RBB.of2 own7 rE7 26
          have hEa := Ext.new w7 (.cells #[.slice A 32 d, .slice E 32 y] 26)
          have hta := rtagged_any 14 _ 2 2 _ _ r2 (by simp only [List.flatten_cons, List.flatten_nil, List.length_append, List.length_nil, hl1.out, hl2.out]; omega)
          have e14 : u8i 14 = 14 := rfl
          rw [e14, show [V, Y].flatten = V ++ Y from by simp] at hta
          have Hta := Lib.hid hta
          have hcl2 : climb k T Qs (h + 1) = tagged 14 (V ++ Y) := by rw [Hcl.out, if_pos hq2]; rfl
          have Hcl2 := Lib.hid hcl2
          clear hta hcl2 e14 hq2
          go_wp2_with fail
          refine Hta.out.mono ?_
          rintro e w5 ⟨A5, c5, rfl, own5, hE5⟩
          go_wp2_with fail
          go_roundw
          case rel => exact ⟨h + 1, c5, A5, by omega, by go_num, rfl, by rw [Hcl2.out]; exact own5.rb, (hEr7.trans hEa).trans hE5⟩
          case measure => simp [intOf]; omega
        | false =>
          have hq2 : ¬ q % 2 = 0 := by have := of_decide_eq_false Hb0.out; omega
          have r2 := RBB.of2 rE7 own7 26
          have hEa := Ext.new w7 (.cells #[.slice E 32 y, .slice A 32 d] 26)
          have hta := rtagged_any 14 _ 2 2 _ _ r2 (by simp only [List.flatten_cons, List.flatten_nil, List.length_append, List.length_nil, hl1.out, hl2.out]; omega)
          have e14 : u8i 14 = 14 := rfl
          rw [e14, show [Y, V].flatten = Y ++ V from by simp] at hta
          have Hta := Lib.hid hta
          have hcl2 : climb k T Qs (h + 1) = tagged 14 (Y ++ V) := by rw [Hcl.out, if_neg hq2]; rfl
          have Hcl2 := Lib.hid hcl2
          clear hta hcl2 e14 hq2
          go_wp2_with fail
          refine Hta.out.mono ?_
          rintro e w5 ⟨A5, c5, rfl, own5, hE5⟩
          go_wp2_with fail
          go_roundw
          case rel => exact ⟨h + 1, c5, A5, by omega, by go_num, rfl, by rw [Hcl2.out]; exact own5.rb, (hEr7.trans hEa).trans hE5⟩
          case measure => simp [intOf]; omega
      · obtain rfl : h = 4 := by omega
        have rX := hX.ext hEw
        obtain ⟨V, hV⟩ : ∃ V, V = climb k T Qs 4 := ⟨_, rfl⟩
        rw [← hV] at own Hv
        clear hV hB3 hBr hE13
        obtain ⟨bv', hbv⟩ : ∃ b, decide (V = X) = b := ⟨_, rfl⟩
        rw [hbv] at Hv
        have Hbv := Lib.hid hbv
        clear hbv
        go_upto_region 10 with (fail)
        refine seq_ext (n := 9) (by kernel_rfl) [.is (.bool (true)), .is (.bool (true)), .is (.slice (A) (32) (d)), .is (.string (str (V))), .is (.slice (D) (nd) (cd)), .is (.string (str (X))), .is (.bool (bv')), .is (.bool (bv')), .is (.bool (bv'))] rfl ⟨?_, ?_, ?_, ?_, ?_, ?_, ?_, ?_, ?_, trivial⟩ ?_
        · refine stepE rfl fun sdn sa sw sE sd sk => ?_
          have h8 : sa.eval (.tmp 8) = .bool (true) := sk.old 8 rfl
          exact Runs.move rfl h8 ⟨Ext.refl _, rfl⟩
        · refine stepE rfl fun sdn sa sw sE sd sk => ?_
          have h47 : sa.eval (.tmp 47) = .bool (true) := sk.fact 0 47 rfl (sd 0 rfl)
          exact Runs.move rfl h47 ⟨Ext.refl _, rfl⟩
        · refine stepY (j := 1) (d := 48) (b := true) rfl rfl rfl (fun v w h => h) fun sdn sa sw sE sd sk => ?_
          have h7 : sa.eval (.tmp 7) = .slice (A) (32) (d) := sk.old 7 rfl
          exact Runs.move rfl h7 ⟨Ext.refl _, rfl⟩
        · refine stepY (j := 1) (d := 48) (b := true) rfl rfl rfl (fun v w h => h) fun sdn sa sw sE sd sk => ?_
          have h49 : sa.eval (.tmp 49) = .slice (A) (32) (d) := sk.fact 2 49 rfl (sd 2 rfl)
          exact Runs.conv rfl h49 (run_str (own.ext sE)) ⟨Ext.refl _, rfl⟩
        · refine stepY (j := 1) (d := 48) (b := true) rfl rfl rfl (fun v w h => h) fun sdn sa sw sE sd sk => ?_
          have h0 : sa.eval (.tmp 0) = .slice (D) (nd) (cd) := sk.old 0 rfl
          exact Runs.move rfl h0 ⟨Ext.refl _, rfl⟩
        · refine stepY (j := 1) (d := 48) (b := true) rfl rfl rfl (fun v w h => h) fun sdn sa sw sE sd sk => ?_
          have h51 : sa.eval (.tmp 51) = .slice (D) (nd) (cd) := sk.fact 4 51 rfl (sd 4 rfl)
          exact Runs.conv rfl h51 (run_str (rX.ext sE)) ⟨Ext.refl _, rfl⟩
        · refine stepY (j := 1) (d := 48) (b := true) rfl rfl rfl (fun v w h => h) fun sdn sa sw sE sd sk => ?_
          have h50 : sa.eval (.tmp 50) = .string (str (V)) := sk.fact 3 50 rfl (sd 3 rfl)
          have h52 : sa.eval (.tmp 52) = .string (str (X)) := sk.fact 5 52 rfl (sd 5 rfl)
          exact Runs.bin rfl h50 h52 (by rfl) (bin_eqs _ _ _) ⟨Ext.refl _, congrArg Value.bool Hbv.out⟩
        · refine stepE rfl fun sdn sa sw sE sd sk => ?_
          have h48 : sa.eval (.tmp 48) = .bool (true) := sk.fact 1 48 rfl (sd 1 rfl)
          have h53 : sa.eval (.tmp 53) = .bool (bv') := sk.fact 6 53 rfl (sd 6 rfl)
          exact Runs.pick rfl h48 ⟨Ext.refl _, by first | exact h53 | simpa using h53⟩
        · refine stepE rfl fun sdn sa sw sE sd sk => ?_
          have h54 : sa.eval (.tmp 54) = .bool (bv') := sk.fact 7 54 rfl (sd 7 rfl)
          exact Runs.assign rfl h54 ⟨Ext.refl _, rfl⟩
        intro vals W9 hE10 hv10
        have e0 : vals 0 = .bool (true) := hv10 0 (by omega) 47 rfl
        have e1 : vals 1 = .bool (true) := hv10 1 (by omega) 48 rfl
        have e2 : vals 2 = .slice (A) (32) (d) := hv10 2 (by omega) 49 rfl
        have e3 : vals 3 = .string (str (V)) := hv10 3 (by omega) 50 rfl
        have e4 : vals 4 = .slice (D) (nd) (cd) := hv10 4 (by omega) 51 rfl
        have e5 : vals 5 = .string (str (X)) := hv10 5 (by omega) 52 rfl
        have e6 : vals 6 = .bool (bv') := hv10 6 (by omega) 53 rfl
        have e7 : vals 7 = .bool (bv') := hv10 7 (by omega) 54 rfl
        have e8 : vals 8 = .bool (bv') := hv10 8 (by omega) 6 rfl
        simp only [putAll, Act.put, List.take_succ_cons, List.take_zero, List.drop_succ_cons, List.drop_zero, List.drop_nil, List.take_nil, Nat.reduceAdd, List.setIfInBounds_toArray, List.set_cons_succ, List.set_cons_zero, e0, e1, e2, e3, e4, e5, e6, e7, e8]
        clear hv10 e0 e1 e2 e3 e4 e5 e6 e7 e8
        go_wp2_with fail
        go_ret
        exact ⟨by rw [Hv.out]; rfl, hEw.trans hE10⟩
end Go.Proofs.YtkndgpjamijbbaaGreat
namespace Go.Proofs.YtkndgpjamijbbaaGreat
set_option maxRecDepth 100000
open Go Go.RowKit
theorem beBytes_four (x : UInt32) : beBytes x 4 = bytesOf x := by
  unfold beBytes bytesOf
  simp only [List.range_succ, List.range_zero, List.nil_append, List.cons_append, List.map_cons, List.map_nil]
  refine congrArg (fun z => [_, _, _, z]) ?_
  apply UInt8.toNat_inj.1
  rw [UInt32.toNat_toUInt8, shr_toNat, UInt32.toNat_toUInt8]
  simp
end Go.Proofs.YtkndgpjamijbbaaGreat
namespace Go.Proofs.YtkndgpjamijbbaaGreat
set_option maxRecDepth 100000
open Go Go.RowKit
/-- what a Reader does: what it takes, what is left, whether bytes lacked -/
def rtake (L : List UInt8) (bad : Bool) (z : Int) : List UInt8 × List UInt8 × Bool := if bad = true ∨ z < 0 ∨ (L.length : Int) < z then ([], [], true) else (L.take z.toNat, L.drop z.toNat, false)
/-- A Reader: block q holds what is left, and whether bytes lacked. -/
structure Rdr (w : World) (base q : Nat) (A : Option Addr) (n c : Nat) (L : List UInt8) (bad : Bool) : Prop where
  blk : Blk w q 126 #[.slice A n c, .bool bad]
  rb : RB w A n c L
  ne : 0 < n → Go.Proofs.YtkndgpjamijbbaaGreat.blk A ≠ some q
  base : base ≤ q
  ty : 0 < n → ∀ k, Go.Proofs.YtkndgpjamijbbaaGreat.blk A = some k → ∃ cs fr, w.heap[k]? = some (.cells cs 5 fr)
theorem OB.typed {w : World} {base n c : Nat} {A : Option Addr} {L : List UInt8} (h : OB w base A n c L) (k : Nat) (hk : blk A = some k) : ∃ cs fr, w.heap[k]? = some (.cells cs 5 fr) := by
  rcases h.2 with ⟨e, _⟩ | ⟨g, cap, cur, e, _, h1, _⟩
  · injection e with e1
    subst e1
    cases hk
  · injection e with e1
    subst e1
    have h2 : some g = some k := hk
    injection h2 with h2
    subst h2
    exact ⟨cur, (0, 0), h1⟩
theorem typed_ext {w w' : World} (e : Ext w w') {k : Nat} (h : ∃ cs fr, w.heap[k]? = some (.cells cs 5 fr)) : ∃ cs fr, w'.heap[k]? = some (.cells cs 5 fr) := by
  obtain ⟨cs, fr, h1⟩ := h
  exact ⟨cs, fr, (e.block (Array.getElem?_eq_some_iff.1 h1).1).trans h1⟩
def RdrS (w : World) (base q : Nat) (L : List UInt8) (bad : Bool) : Prop := ∃ A n c, n ≤ 140737488355328 ∧ Rdr w base q A n c L bad
theorem Rdr.later {w w' : World} {base q n c : Nat} {A : Option Addr} {L : List UInt8} {bad : Bool} (h : Rdr w base q A n c L bad) (e : Ext w w') : Rdr w' base q A n c L bad :=
  ⟨h.blk.ext e, h.rb.ext e, h.ne, h.base, fun hn k hk => typed_ext e (h.ty hn k hk)⟩
theorem RdrS.later {w w' : World} {base q : Nat} {L : List UInt8} {bad : Bool} (h : RdrS w base q L bad) (e : Ext w w') : RdrS w' base q L bad := by
  obtain ⟨A, n, c, h1, h2⟩ := h
  exact ⟨A, n, c, h1, h2.later e⟩
set_option maxHeartbeats 1000000 in
theorem rread_any (A : Option Addr) (n c : Nat) (L : List UInt8) (w : World) (hr : RB w A n c L) (hn : n ≤ 140737488355328) :
    Calls Tryz.prog 71 #[.slice A n c] w fun e w' => ∃ q, e = .returned (.pointer (some ⟨q, 0, none⟩)) ∧ RdrS w' w.heap.size q L false ∧ Ext w w' := by
  go_enter Tryz.func71, Tryz.ntmps71
  go_wp2_with fail
  refine (clone_any A n c L w hr hn).mono ?_
  rintro e w1 ⟨B, d, rfl, own, hE⟩
  go_wp2_with fail
  go_ret
  refine ⟨w1.heap.size, rfl, ⟨B, n, d, hn, Blk.new w1 _ _, own.rb.ext (Ext.new w1 _), fun hn e => ?_, hE.size, fun _ k hk => typed_ext (Ext.new w1 _) (own.typed k hk)⟩, hE.alloc _⟩
  have := (own.lt e).2
  omega
set_option maxHeartbeats 1000000 in
theorem rtake_no (w : World) (base q n c : Nat) (A : Option Addr) (L : List UInt8) (bad : Bool) (z : Int) (hR : Rdr w base q A n c L bad) (hz0 : -9223372036854775808 ≤ z) (hz1 : z ≤ 9223372036854775807) (hno : bad = true ∨ z < 0 ∨ (n : Int) < z) :
    Calls Tryz.prog 95 #[.pointer (some ⟨q, 0, none⟩), .int .i64 z] w fun e w' => e = .returned (.slice none 0 0) ∧ RdrS w' base q [] true ∧ w.grownBy w' (some q) := by
  have y1 := hR.blk.cell (i := 0) rfl
  have y2 := hR.blk.cell (i := 1) rfl
  have y3 := hR.blk.frozen 0
  have y4 := hR.blk.frozen 1
  have hb := hR.blk
  have fin : ∀ w', w' = (w.setCell ⟨q, 0, none⟩ (.slice none 0 0)).setCell ⟨q, 1, none⟩ (.bool true) → RdrS w' base q [] true ∧ w.grownBy w' (some q) := by
    rintro w' rfl
    refine ⟨⟨none, 0, 0, by omega, (hb.set 0 _).set 1 _, RB.nil_ _, fun h => by omega, hR.base, fun h => by omega⟩, (grownBy_setCell w ⟨q, 0, none⟩ _).trans (grownBy_setCell _ ⟨q, 1, none⟩ _)⟩
  have Fin := Lib.hid fin
  clear fin hb hR
  by_cases hb : bad = true
  · subst hb
    go_enter Tryz.func95, Tryz.ntmps95
    go_wp2_with fail
    go_ret
    exact ⟨rfl, Fin.out _ rfl⟩
  · have hb' : bad = false := by simpa using hb
    subst hb'
    clear hb
    by_cases hz : z < 0
    · have d1 : decide (z < 0) = true := by simpa using hz
      go_enter Tryz.func95, Tryz.ntmps95
      go_wp2_with fail
      go_ret
      exact ⟨rfl, Fin.out _ rfl⟩
    · have d1 : decide (z < 0) = false := by simpa using hz
      have hlt : (n : Int) < z := by rcases hno with h | h | h <;> first | (cases h; done) | omega
      have d2 : decide ((n : Int) < z) = true := by simpa using hlt
      clear hno
      go_enter Tryz.func95, Tryz.ntmps95
      go_wp2_with fail
      go_ret
      exact ⟨rfl, Fin.out _ rfl⟩
set_option maxHeartbeats 1000000 in
theorem rtake_yes (w : World) (base q n c : Nat) (A : Option Addr) (L : List UInt8) (z : Int) (hR : Rdr w base q A n c L false) (hn : n ≤ 140737488355328) (hz0 : 0 ≤ z) (hz1 : z ≤ (n : Int)) :
    Calls Tryz.prog 95 #[.pointer (some ⟨q, 0, none⟩), .int .i64 z] w fun e w' => (∃ B m d, e = .returned (.slice B m d) ∧ RB w' B m d (L.take z.toNat) ∧ m ≤ 140737488355328 ∧ (0 < m → blk B ≠ some q)) ∧ RdrS w' base q (L.drop z.toNat) false ∧ w.grownBy w' (some q) := by
  obtain ⟨k, rfl⟩ := Int.eq_ofNat_of_zero_le hz0
  have hk : k ≤ n := by omega
  have hroom := hR.rb.room
  have hcap := hR.rb.cap
  unfold maxLen at hcap
  have y1 := hR.blk.cell (i := 0) rfl
  have y2 := hR.blk.cell (i := 1) rfl
  have y3 := hR.blk.frozen 0
  have y4 := hR.blk.frozen 1
  have d1 : decide ((k : Int) < 0) = false := by simp
  have d2 : decide ((n : Int) < (k : Int)) = false := by simp; omega
  have fin : ∀ (A' : Option Addr) (w' : World), (A' = if c = k then A else A.map (·.add (k * 1))) → w' = w.setCell ⟨q, 0, none⟩ (.slice A' (n - k) (c - k)) →
      (∃ B m d, Ending.returned (.slice A k c) = .returned (.slice B m d) ∧ RB w' B m d (L.take (k : Int).toNat) ∧ m ≤ 140737488355328 ∧ (0 < m → blk B ≠ some q)) ∧ RdrS w' base q (L.drop (k : Int).toNat) false ∧ w.grownBy w' (some q) := by
    rintro A' w' hA' rfl
    have hl := hR.rb.len
    have hbl : 0 < n - k → blk A' ≠ some q := by
      intro h e
      rw [hA', if_neg (by omega)] at e
      refine hR.ne (by omega) ?_
      cases A with
      | none => simp [blk] at e
      | some ad => simpa [blk, block_of_add] using e
    have hty : 0 < n - k → ∀ b, blk A' = some b → ∃ cs fr, (w.setCell ⟨q, 0, none⟩ (.slice A' (n - k) (c - k))).heap[b]? = some (.cells cs 5 fr) := by
      intro h b hb
      have hbq : b ≠ q := fun e => hbl h (by rw [hb, e])
      rw [Below.heap_setCell w ⟨q, 0, none⟩ _ b hbq]
      refine hR.ty (by omega) b ?_
      rw [hA', if_neg (by omega)] at hb
      cases A with
      | none => simp [blk] at hb
      | some ad => simpa [blk, block_of_add] using hb
    refine ⟨⟨A, k, c, rfl, ?_, by omega, fun h => hR.ne (by omega)⟩, ⟨A', n - k, c - k, by omega, ?_, ?_, hbl, hR.base, hty⟩, grownBy_setCell w ⟨q, 0, none⟩ _⟩
    · have h1 := hR.rb.cut (i := 0) (j := k) (c' := c) (A' := A) (by omega) hk rfl (fun _ => by cases A <;> simp [Addr.add])
      refine RB.grown (by simpa using h1) (grownBy_setCell w ⟨q, 0, none⟩ _) (fun h => hR.ne (by omega))
    · exact hR.blk.set 0 (.slice A' (n - k) (c - k))
    · have h2 := hR.rb.cut (i := k) (j := n) (c' := c - k) (A' := A') hk (Nat.le_refl _) rfl (fun h => by rw [hA', if_neg (by omega)]; simp)
      rw [List.take_of_length_le (by omega)] at h2
      exact RB.grown h2 (grownBy_setCell w ⟨q, 0, none⟩ _) hbl
  have Fin := Lib.hid fin
  clear fin hR
  by_cases hck : c = k
  · subst hck
    go_enter Tryz.func95, Tryz.ntmps95
    go_wp2_with fail
    go_ret
    have hcn : n - c = 0 := by omega
    exact Fin.out A _ (by simp) (by rw [Nat.sub_self]; try rw [hcn])
  · go_enter Tryz.func95, Tryz.ntmps95
    go_wp2_with fail
    go_ret
    exact Fin.out _ _ (by rw [if_neg hck, Nat.mul_one]) rfl
theorem rtake_any (w : World) (base q : Nat) (L : List UInt8) (bad : Bool) (z : Int) (hR : RdrS w base q L bad) (hz0 : -9223372036854775808 ≤ z) (hz1 : z ≤ 9223372036854775807) :
    Calls Tryz.prog 95 #[.pointer (some ⟨q, 0, none⟩), .int .i64 z] w fun e w' => (∃ B m d, e = .returned (.slice B m d) ∧ RB w' B m d (rtake L bad z).1 ∧ m ≤ 140737488355328 ∧ (0 < m → blk B ≠ some q)) ∧ RdrS w' base q (rtake L bad z).2.1 (rtake L bad z).2.2 ∧ w.grownBy w' (some q) := by
  obtain ⟨A, n, c, hn, hR⟩ := hR
  have hl := hR.rb.len
  unfold rtake
  by_cases h : bad = true ∨ z < 0 ∨ (L.length : Int) < z
  · rw [if_pos h]
    rw [hl] at h
    refine (rtake_no w base q n c A L bad z hR hz0 hz1 h).mono ?_
    rintro e w' ⟨rfl, h1, h2⟩
    exact ⟨⟨none, 0, 0, rfl, RB.nil_ _, by omega, fun h => by omega⟩, h1, h2⟩
  · rw [if_neg h]
    rw [hl] at h
    have hb : bad = false := by
      cases bad with
      | false => rfl
      | true => exact absurd (.inl rfl) h
    subst hb
    exact rtake_yes w base q n c A L z hR hn (by omega) (by omega)
set_option maxHeartbeats 1000000 in
theorem rraw_any (w : World) (base q : Nat) (L : List UInt8) (bad : Bool) (z : Int) (hR : RdrS w base q L bad) (hz0 : -9223372036854775808 ≤ z) (hz1 : z ≤ 9223372036854775807) :
    Calls Tryz.prog 75 #[.pointer (some ⟨q, 0, none⟩), .int .i64 z] w fun e w' => (∃ B m d, e = .returned (.slice B m d) ∧ OB w' w.heap.size B m d (rtake L bad z).1) ∧ RdrS w' base q (rtake L bad z).2.1 (rtake L bad z).2.2 ∧ w.grownBy w' (some q) := by
  go_enter Tryz.func75, Tryz.ntmps75
  go_wp2_with fail
  refine (rtake_any w base q L bad z hR hz0 hz1).mono ?_
  rintro e w1 ⟨⟨B, m, d, rfl, h1, h2, h3⟩, h4, h5⟩
  go_wp2_with fail
  refine (clone_any B m d _ w1 h1 h2).mono ?_
  rintro e w2 ⟨B2, d2, rfl, own, hE⟩
  go_wp2_with fail
  go_ret
  exact ⟨⟨B2, m, d2, rfl, own.base h5.size⟩, h4.later hE, h5.trans (hE.grownBy _)⟩
theorem bits_or32 (x y : UInt32) : bits .or .u32 (u32i x) (u32i y) = u32i (x ||| y) := by
  have h1 : BitVec.ofInt (IntKind.u32).bits (u32i x) = x.toBitVec := bitvec_u32 x
  have h2 : BitVec.ofInt (IntKind.u32).bits (u32i y) = y.toBitVec := bitvec_u32 y
  unfold bits
  simp only [h1, h2]
  exact u32_wrap_id (x ||| y)
theorem u32_shl8 (x : UInt32) : u32i x * 256 % 4294967296 = u32i (shl x 8) := by
  unfold u32i
  rw [shl_toNat]
  omega
/-- bytes, the highest first, as a number -/
def beNum (l : List UInt8) : UInt32 := l.foldl (fun n c => shl n 8 ||| c.toUInt32) 0
theorem beNum_snoc (l : List UInt8) (b : UInt8) : beNum (l ++ [b]) = (shl (beNum l) 8 ||| b.toUInt32) := by simp [beNum]
theorem take_snoc_ub (M : List UInt8) (k : Nat) (hk : k < M.length) : M.take (k + 1) = M.take k ++ [ub M k] := by
  rw [List.take_succ_eq_append_getElem hk]
  simp [ub, hk]
set_option maxHeartbeats 1000000 in
theorem rnumber_any (w : World) (base q : Nat) (L : List UInt8) (bad : Bool) (z : Int) (hR : RdrS w base q L bad) (hz0 : 0 ≤ z) (hz1 : z ≤ 4) :
    Calls Tryz.prog 94 #[.pointer (some ⟨q, 0, none⟩), .int .i64 z] w fun e w' => e = .returned (.int .u32 (u32i (beNum (rtake L bad z).1))) ∧ RdrS w' base q (rtake L bad z).2.1 (rtake L bad z).2.2 ∧ w.grownBy w' (some q) := by
  go_enter Tryz.func94, Tryz.ntmps94
  go_wp2_with fail
  refine (rtake_any w base q L bad z hR (by omega) (by omega)).mono ?_
  rintro e w1 ⟨⟨B, m, d, rfl, h1, h2, h3⟩, h4, h5⟩
  obtain ⟨M, hM⟩ : ∃ M, M = (rtake L bad z).1 := ⟨_, rfl⟩
  rw [← hM] at h1
  have HM := Lib.hid hM
  clear hM
  go_wp2_with fail
  go_loop [5, 12] (fun v i => ∃ k : Nat, k ≤ m ∧ i = .int .i64 k ∧ v = .int .u32 (u32i (beNum (M.take k)))) (fun _ i => m - (intOf i).toNat)
  case atStart => exact ⟨0, Nat.zero_le _, rfl, rfl⟩
  case round =>
    obtain ⟨k, hk, rfl, rfl⟩ := hrel
    have hroom := h1.room
    have hcap := h1.cap
    unfold maxLen at hcap
    by_cases hlt : k < m
    · obtain ⟨ad, rfl, hc⟩ := h1.cells (by omega)
      have y1 := hc k hlt
      clear hc
      have e2 := fun w' : World => conv_u8_u32' (P := Tryz.prog) (w := w') Tryz.underlying5 Tryz.underlying56 (ub M k)
      go_wp2_with fail
      go_round
      case rel => exact ⟨k + 1, by omega, by go_num, by rw [u32_shl8, bits_or32, take_snoc_ub M k (by rw [h1.len]; exact hlt), beNum_snoc]⟩
      case measure => simp [intOf]; omega
    · obtain rfl : k = m := by omega
      rw [List.take_of_length_le (by rw [h1.len]; exact Nat.le_refl _)]
      go_wp2_with fail
      go_ret
      refine ⟨?_, h4, h5⟩
      rw [← HM.out]
      rfl
end Go.Proofs.YtkndgpjamijbbaaGreat
