/-
  law2.HashJoins, walked.
-/
import Derived.Test.YtmgnigofilkfmaaKnown2
import Derived.Test.YtmgnigofilkfmaaHashTag
import Derived.Test.YtmgnigofilkfmaaInts
import Derived.Test.YtmgnigofilkfmaaAppBB
import Derived.Test.YtmgnigofilkfmaaAppOne
import Derived.Test.YtmgnigofilkfmaaKeep
namespace Go.Proofs.Ytmgnigofilkfmaa
set_option maxRecDepth 100000
open Go Go.RowKit
def MP.fullr (L : List UInt8) : MP Ext := ⟨fun u w => ∃ A, u = .slice (some A) 1 1 ∧ RB w (some A) 1 1 L, fun _ _ _ e ⟨A, h1, h2⟩ => ⟨A, h1, h2.ext e⟩⟩
theorem take_cut {X : List UInt8} {q k : Nat} (h : q ≤ k) : X.take q ++ (X.take k).drop q = X.take k := by
  have h1 : (X.take k).take q = X.take q := by rw [List.take_take, Nat.min_eq_left h]
  rw [← h1]
  exact List.take_append_drop q (X.take k)
def Joined (w : World) (X : List UInt8) (m nz : Nat) (v at' i : Value) (wr : World) : Prop :=
  ∃ (j q d : Nat) (P : Option Addr) (Ls : List (List UInt8)), j ≤ nz ∧ j ≤ 10 ∧ i = .int .i64 j ∧ at' = .int .i64 q ∧ q ≤ m ∧ v = .slice P j d ∧ OBB w wr P j d Ls ∧ Ls.flatten = X.take q ∧ Ext w wr
set_option maxHeartbeats 4000000 in
theorem joins_law (A Z : Option Addr) (n c nz cz : Nat) (L : List UInt8) (zs : List Int) (t : UInt8) (w : World) (hr : RB w A n c L) (hz : RI w Z nz cz zs) :
    Calls Try.prog 6 #[.slice A n c, .slice Z nz cz, .int .u8 (u8i t)] w fun e w' => e = .returned (.bool true) ∧ Ext w w' := by
  have hzc := hz.cap
  have hzr := hz.room
  unfold maxLen at hzc
  go_enter Try.func6, Try.ntmps6
  have hc1 := cut_any A n c 300 L w hr (by omega)
  have e300 : ((300 : Nat) : Int) = 300 := rfl
  rw [e300] at hc1
  go_wp2_with fail
  refine hc1.mono ?_
  rintro e w1 ⟨⟨rfl, rX⟩, rfl⟩
  clear hc1 e300 hr
  obtain ⟨m, hm⟩ : ∃ m, m = min n 300 := ⟨_, rfl⟩
  obtain ⟨X, hX⟩ : ∃ X, X = L.take 300 := ⟨_, rfl⟩
  rw [← hm, ← hX] at rX
  rw [← hm]
  have hm3 : m ≤ 300 := by omega
  clear hm hX
  have hXl := rX.len
  have HXl := Lib.hid hXl
  clear hXl
  have hxr := rX.room
  have hxc := rX.cap
  unfold maxLen at hxc
  go_wp2_with fail
  go_loopw [7, 8, 9] (fun v at' i wr => Joined w X m nz v at' i wr) (fun _ _ i _ => 10 - (intOf i).toNat)
  case atStart => exact ⟨0, 0, 0, none, [], by omega, by omega, rfl, rfl, by omega, rfl, OBB.none_ _ _, rfl, Ext.refl _⟩
  case round =>
    obtain ⟨j, q, d, P, Ls, hj1, hj2, rfl, rfl, hq, rfl, own, hfl, hEr⟩ := hrel
    have Hfl := Lib.hid hfl
    clear hfl
    by_cases hlt : j < nz ∧ j < 10
    · have h1 := hlt.1
      have h2 := hlt.2
      clear hlt
      obtain ⟨az, rfl, hcz⟩ := hz.cells (by omega)
      obtain ⟨y1', hz0, hz1⟩ := hcz j h1
      have y1 := hEr.cell y1'
      generalize zs.getD j 0 = z at *
      clear hcz y1'
      have hwi := within_any z q m wr hz0 hz1 (by omega) (by omega) (by omega)
      have hwin := within_in z q m (by omega)
      obtain ⟨k, hk⟩ : ∃ k : Nat, within z q m = k := ⟨_, (Int.toNat_of_nonneg (by omega)).symm⟩
      rw [hk] at hwi hwin
      have hqk : q ≤ k := by omega
      have hkm : k ≤ m := by omega
      have Hwi := Lib.hid hwi
      clear hwin hk hwi
      go_wp2_with fail
      refine Hwi.out.mono ?_
      rintro e w5 ⟨rfl, rfl⟩
      go_upto_region 8 with (fail)
      · skip
        refine seq_ext (n := 5) (by kernel_rfl) [.is (.slice (P) (j) (d)), .is (.slice (A) (m) (c)), .is (.int .i64 (((q : Nat) : Int))), .is (.int .i64 (((k : Nat) : Int))), .is (.slice (if c = q then A else (A).map (·.add (q * 1))) (k - q) (c - q))] rfl ⟨?_, ?_, ?_, ?_, ?_, trivial⟩ ?_
        · refine stepE rfl fun sdn sa sw sE sd sk => ?_
          have h7 : sa.eval (.tmp 7) = .slice (P) (j) (d) := sk.old 7 rfl
          exact Runs.move rfl h7 ⟨Ext.refl _, rfl⟩
        · refine stepE rfl fun sdn sa sw sE sd sk => ?_
          have h0 : sa.eval (.tmp 0) = .slice (A) (m) (c) := sk.old 0 rfl
          exact Runs.move rfl h0 ⟨Ext.refl _, rfl⟩
        · refine stepE rfl fun sdn sa sw sE sd sk => ?_
          have h8 : sa.eval (.tmp 8) = .int .i64 (((q : Nat) : Int)) := sk.old 8 rfl
          exact Runs.move rfl h8 ⟨Ext.refl _, rfl⟩
        · refine stepE rfl fun sdn sa sw sE sd sk => ?_
          have h10 : sa.eval (.tmp 10) = .int .i64 (((k : Nat) : Int)) := sk.old 10 rfl
          exact Runs.move rfl h10 ⟨Ext.refl _, rfl⟩
        · refine stepE rfl fun sdn sa sw sE sd sk => ?_
          have h33 : sa.eval (.tmp 33) = .slice (A) (m) (c) := sk.fact 1 33 rfl (sd 1 rfl)
          have h34 : sa.eval (.tmp 34) = .int .i64 (((q : Nat) : Int)) := sk.fact 2 34 rfl (sd 2 rfl)
          have h35 : sa.eval (.tmp 35) = .int .i64 (((k : Nat) : Int)) := sk.fact 3 35 rfl (sd 3 rfl)
          exact Runs.slice rfl h33 (by simp only [Option.map_some, Option.map_none, h34, h35]; exact run_cut_lh Try.underlying22 inf22_eq inf22_size (q) (k) (by first | rfl | omega) (by first | rfl | omega) (by omega) (by omega)) ⟨Ext.refl _, rfl⟩
        intro vals W1 hE hv
        have e0 : vals 0 = .slice (P) (j) (d) := hv 0 (by omega) 32 rfl
        have e1 : vals 1 = .slice (A) (m) (c) := hv 1 (by omega) 33 rfl
        have e2 : vals 2 = .int .i64 (((q : Nat) : Int)) := hv 2 (by omega) 34 rfl
        have e3 : vals 3 = .int .i64 (((k : Nat) : Int)) := hv 3 (by omega) 35 rfl
        have e4 : vals 4 = .slice (if c = q then A else (A).map (·.add (q * 1))) (k - q) (c - q) := hv 4 (by omega) 36 rfl
        simp only [putAll, Act.put, List.take_succ_cons, List.take_zero, List.drop_succ_cons, List.drop_zero, List.drop_nil, List.take_nil, Nat.reduceAdd, List.setIfInBounds_toArray, List.set_cons_succ, List.set_cons_zero, e0, e1, e2, e3, e4]
        clear hv e0 e1 e2 e3 e4
        obtain ⟨C, hC⟩ : ∃ C, C = (if c = q then A else A.map (·.add (q * 1))) := ⟨_, rfl⟩
        have rC : RB w C (k - q) (c - q) ((X.take k).drop q) := rX.cut (i := q) (j := k) (c' := c - q) (A' := C) hqk hkm rfl (fun h => by rw [hC, if_neg (by omega), Nat.mul_one])
        rw [← hC]
        clear hC
        have hEw := hEr.trans hE
        have hEa := Ext.new W1 (.cells #[.slice C (k - q) (c - q)] 22)
        have hBa := Blk.new W1 22 #[.slice C (k - q) (c - q)]
        go_wp2_with (refine appbb_law (w0 := w) (Ms := [(X.take k).drop q]) (us := [.slice C (k - q) (c - q)]) rfl rfl rfl rfl (hEw.trans hEa) ((own.ext hE).ext hEa) rfl (fun i u hu => ?_) (fun i hi => ?_) rfl (by omega) (by omega) ?_)
        rotate_left
        rotate_left
        all_goals first
          | (obtain rfl : i = 0 := by omega
             exact ⟨C, k - q, c - q, rfl, rC⟩)
          | (rcases i with _ | i
             · injection hu with hu
               subst hu
               rw [add_plain]
               exact hBa.cell (i := 0) rfl
             · cases hu)
          | skip
        intro A3 c3 w3 own3 hE3
        go_wp2_with fail
        go_roundw
        case rel => exact ⟨j + 1, k, c3, A3, _, by omega, by omega, by go_num, rfl, hkm, rfl, own3, by rw [List.flatten_append, Hfl.out]; simp only [List.flatten_cons, List.flatten_nil, List.append_nil]; exact take_cut hqk, hE3⟩
        case measure => simp [intOf]; omega
    · by_cases h1 : j < nz
      · have h2 : ¬ ((j : Int) < 10) := by omega
        clear hlt
        go_upto_region 10 with (fail)
        refine seq_ext (n := 4) (by kernel_rfl) [.is (.slice (P) (j) (d)), .is (.slice (A) (m) (c)), .is (.int .i64 (((q : Nat) : Int))), .is (.slice (if c = q then A else (A).map (·.add (q * 1))) (m - q) (c - q))] rfl ⟨?_, ?_, ?_, ?_, trivial⟩ ?_
        · refine stepE rfl fun sdn sa sw sE sd sk => ?_
          have h7 : sa.eval (.tmp 7) = .slice (P) (j) (d) := sk.old 7 rfl
          exact Runs.move rfl h7 ⟨Ext.refl _, rfl⟩
        · refine stepE rfl fun sdn sa sw sE sd sk => ?_
          have h0 : sa.eval (.tmp 0) = .slice (A) (m) (c) := sk.old 0 rfl
          exact Runs.move rfl h0 ⟨Ext.refl _, rfl⟩
        · refine stepE rfl fun sdn sa sw sE sd sk => ?_
          have h8 : sa.eval (.tmp 8) = .int .i64 (((q : Nat) : Int)) := sk.old 8 rfl
          exact Runs.move rfl h8 ⟨Ext.refl _, rfl⟩
        · refine stepE rfl fun sdn sa sw sE sd sk => ?_
          have h41 : sa.eval (.tmp 41) = .slice (A) (m) (c) := sk.fact 1 41 rfl (sd 1 rfl)
          have h42 : sa.eval (.tmp 42) = .int .i64 (((q : Nat) : Int)) := sk.fact 2 42 rfl (sd 2 rfl)
          exact Runs.slice rfl h41 (by simp only [Option.map_some, Option.map_none, h42]; exact run_cut_l Try.underlying22 inf22_eq inf22_size (q) (by first | rfl | omega) (by omega)) ⟨Ext.refl _, rfl⟩
        intro vals W1 hE hv
        have e0 : vals 0 = .slice (P) (j) (d) := hv 0 (by omega) 40 rfl
        have e1 : vals 1 = .slice (A) (m) (c) := hv 1 (by omega) 41 rfl
        have e2 : vals 2 = .int .i64 (((q : Nat) : Int)) := hv 2 (by omega) 42 rfl
        have e3 : vals 3 = .slice (if c = q then A else (A).map (·.add (q * 1))) (m - q) (c - q) := hv 3 (by omega) 43 rfl
        simp only [putAll, Act.put, List.take_succ_cons, List.take_zero, List.drop_succ_cons, List.drop_zero, List.drop_nil, List.take_nil, Nat.reduceAdd, List.setIfInBounds_toArray, List.set_cons_succ, List.set_cons_zero, e0, e1, e2, e3]
        clear hv e0 e1 e2 e3
        obtain ⟨C, hC⟩ : ∃ C, C = (if c = q then A else A.map (·.add (q * 1))) := ⟨_, rfl⟩
        have rC : RB w C (m - q) (c - q) (X.drop q) := by
          have h := rX.cut (i := q) (j := m) (c' := c - q) (A' := C) hq (Nat.le_refl _) rfl (fun h => by rw [hC, if_neg (by omega), Nat.mul_one])
          rw [List.take_of_length_le (by rw [HXl.out]; exact Nat.le_refl _)] at h
          exact h
        rw [← hC]
        clear hC
        have hEw := hEr.trans hE
        have hEa := Ext.new W1 (.cells #[.slice C (m - q) (c - q), .slice none 0 0] 22)
        have hBa := Blk.new W1 22 #[.slice C (m - q) (c - q), .slice none 0 0]
        go_wp2_with (refine appbb_law (w0 := w) (Ms := [X.drop q, []]) (us := [.slice C (m - q) (c - q), .slice none 0 0]) rfl rfl rfl rfl (hEw.trans hEa) ((own.ext hE).ext hEa) rfl (fun i u hu => ?_) (fun i hi => ?_) rfl (by omega) (by omega) ?_)
        rotate_left
        rotate_left
        all_goals first
          | (have hi2 : i = 0 ∨ i = 1 := by omega
             rcases hi2 with rfl | rfl
             · exact ⟨C, m - q, c - q, rfl, rC⟩
             · exact ⟨none, 0, 0, rfl, RB.nil_ _⟩)
          | (rcases i with _ | _ | i
             · injection hu with hu
               subst hu
               rw [add_plain]
               exact hBa.cell (i := 0) rfl
             · injection hu with hu
               subst hu
               rw [add_plain]
               exact hBa.cell (i := 1) rfl
             · cases hu)
          | skip
        intro A3 c3 w3 own3 hE3
        have rbb := own3.rbb hE3
        have hflat : (Ls ++ [X.drop q, []]).flatten = X := by
          rw [List.flatten_append, Hfl.out]
          simp only [List.flatten_cons, List.flatten_nil, List.append_nil]
          exact List.take_append_drop q X
        have htag := htagged_any t A3 (j + 2) c3 _ w3 rbb (by rw [hflat, HXl.out]; omega)
        rw [hflat] at htag
        have Htag := Lib.hid htag
        clear htag hflat rbb own own3 rC hBa hEa
        go_wp2_with fail
        refine Htag.out.mono ?_
        rintro e w4 ⟨A5, c5, rfl, own5, hE4⟩
        have r5 := own5.rb
        have hE04 := hE3.trans hE4
        have rX5 := rX.ext hE04
        clear Htag own5
        go_upto_region 12 with (fail)
        refine par_ext (n := 28) (by kernel_rfl) [.is (.slice (A5) (32) (c5)), .is (.string (str (tagged t X))), .is (.int .u8 (u8i (t))), .is (.slice (A) (m) (c)), .rbb ([X]), .rb (tagged (t) ([X]).flatten), .is (.string (str (tagged (t) ([X]).flatten))), .is (.bool (true)), .is (.bool (true)), .is (.slice (A5) (32) (c5)), .is (.string (str (tagged t X))), .is (.int .u8 (u8i (t))), .fullr [t], .is (.slice (A) (m) (c)), .rb ([t] ++ X), .rb (sha ([t] ++ X)), .is (.string (str (sha ([t] ++ X)))), .is (.bool (true)), .is (.bool (true)), .is (.bool (true)), .is (.slice (A5) (32) (c5)), .is (.int .i64 ((32 : Nat))), .is (.bool (true)), .is (.bool (true)), .is (.bool (true)), .is (.bool (true)), .is (.bool (true)), .is (.bool (true))] rfl ⟨?_, ?_, ?_, ?_, ?_, ?_, ?_, ?_, ?_, ?_, ?_, ?_, ?_, ?_, ?_, ?_, ?_, ?_, ?_, ?_, ?_, ?_, ?_, ?_, ?_, ?_, ?_, ?_, trivial⟩ ?_
        · refine stepE rfl fun sdn sa sw sE sd sk => ?_
          have h11 : sa.eval (.tmp 11) = .slice (A5) (32) (c5) := sk.old 11 rfl
          exact Runs.move rfl h11 ⟨Ext.refl _, rfl⟩
        · refine stepE rfl fun sdn sa sw sE sd sk => ?_
          have h49 : sa.eval (.tmp 49) = .slice (A5) (32) (c5) := sk.fact 0 49 rfl (sd 0 rfl)
          exact Runs.conv rfl h49 (run_str (r5.ext sE)) ⟨Ext.refl _, rfl⟩
        · refine stepE rfl fun sdn sa sw sE sd sk => ?_
          have h2 : sa.eval (.tmp 2) = .int .u8 (u8i (t)) := sk.old 2 rfl
          exact Runs.move rfl h2 ⟨Ext.refl _, rfl⟩
        · refine stepE rfl fun sdn sa sw sE sd sk => ?_
          have h0 : sa.eval (.tmp 0) = .slice (A) (m) (c) := sk.old 0 rfl
          exact Runs.move rfl h0 ⟨Ext.refl _, rfl⟩
        · refine stepE rfl fun sdn sa sw sE sd sk => ?_
          have h52 : sa.eval (.tmp 52) = .slice (A) (m) (c) := sk.fact 3 52 rfl (sd 3 rfl)
          exact Runs.ss1 rfl h52 (rX5.ext sE) (fun w1 e1 b1 => ⟨e1, _, _, _, rfl, b1⟩)
        · refine stepE rfl fun sdn sa sw sE sd sk => ?_
          have h51 : sa.eval (.tmp 51) = .int .u8 (u8i (t)) := sk.fact 2 51 rfl (sd 2 rfl)
          obtain ⟨A53, n53, c53, h53, r53⟩ := sk.fact 4 53 rfl (sd 4 rfl)
          refine Runs.call (f := 21) (vs := [.int .u8 (u8i (t)), .slice (A53) (n53) (c53)]) rfl rfl rfl (by simp only [List.map_toArray, List.map_cons, List.map_nil, h51, h53] <;> rfl) (ent21 _ _) ((htagged_any (t) A53 n53 c53 ([X]) sw (r53) (by simp only [List.flatten_cons, List.flatten_nil, List.length_append, List.length_nil, HXl.out]; omega)).mono ?_); rintro e w' ⟨A', c', rfl, own, hx⟩; exact ⟨_, rfl, hx, A', 32, c', rfl, own.rb⟩
        · refine stepE rfl fun sdn sa sw sE sd sk => ?_
          obtain ⟨A54, n54, c54, h54, r54⟩ := sk.fact 5 54 rfl (sd 5 rfl)
          exact Runs.conv rfl h54 (run_str r54) ⟨Ext.refl _, rfl⟩
        · refine stepE rfl fun sdn sa sw sE sd sk => ?_
          have h50 : sa.eval (.tmp 50) = .string (str (tagged t X)) := sk.fact 1 50 rfl (sd 1 rfl)
          have h55 : sa.eval (.tmp 55) = .string (str (tagged (t) ([X]).flatten)) := sk.fact 6 55 rfl (sd 6 rfl)
          exact Runs.bin rfl h50 h55 (by rfl) (bin_eqs _ _ _) ⟨Ext.refl _, congrArg Value.bool (by simp)⟩
        · refine stepE rfl fun sdn sa sw sE sd sk => ?_
          have h56 : sa.eval (.tmp 56) = .bool (true) := sk.fact 7 56 rfl (sd 7 rfl)
          exact Runs.move rfl h56 ⟨Ext.refl _, rfl⟩
        · refine stepY (j := 8) (d := 57) (b := true) rfl rfl rfl (fun v w h => h) fun sdn sa sw sE sd sk => ?_
          have h11 : sa.eval (.tmp 11) = .slice (A5) (32) (c5) := sk.old 11 rfl
          exact Runs.move rfl h11 ⟨Ext.refl _, rfl⟩
        · refine stepY (j := 8) (d := 57) (b := true) rfl rfl rfl (fun v w h => h) fun sdn sa sw sE sd sk => ?_
          have h58 : sa.eval (.tmp 58) = .slice (A5) (32) (c5) := sk.fact 9 58 rfl (sd 9 rfl)
          exact Runs.conv rfl h58 (run_str (r5.ext sE)) ⟨Ext.refl _, rfl⟩
        · refine stepY (j := 8) (d := 57) (b := true) rfl rfl rfl (fun v w h => h) fun sdn sa sw sE sd sk => ?_
          have h2 : sa.eval (.tmp 2) = .int .u8 (u8i (t)) := sk.old 2 rfl
          exact Runs.move rfl h2 ⟨Ext.refl _, rfl⟩
        · refine stepY (j := 8) (d := 57) (b := true) rfl rfl rfl (fun v w h => h) fun sdn sa sw sE sd sk => ?_
          have h60 : sa.eval (.tmp 60) = .int .u8 (u8i (t)) := sk.fact 11 60 rfl (sd 11 rfl)
          exact Runs.lit1 rfl h60 (fun w1 e1 o1 => ⟨e1, _, rfl, o1.rb⟩)
        · refine stepY (j := 8) (d := 57) (b := true) rfl rfl rfl (fun v w h => h) fun sdn sa sw sE sd sk => ?_
          have h0 : sa.eval (.tmp 0) = .slice (A) (m) (c) := sk.old 0 rfl
          exact Runs.move rfl h0 ⟨Ext.refl _, rfl⟩
        · refine stepY (j := 8) (d := 57) (b := true) rfl rfl rfl (fun v w h => h) fun sdn sa sw sE sd sk => ?_
          obtain ⟨A61, h61, r61⟩ := sk.fact 12 61 rfl (sd 12 rfl)
          have h62 : sa.eval (.tmp 62) = .slice (A) (m) (c) := sk.fact 13 62 rfl (sd 13 rfl)
          by_cases hm0 : m = 0
          · have hX0 : X = [] := List.length_eq_zero_iff.1 (by rw [HXl.out]; exact hm0)
            subst hm0
            exact Runs.appZero rfl h61 h62 (by omega) ⟨Ext.refl _, _, _, _, rfl, by rw [hX0]; exact r61⟩
          · exact Runs.appFull rfl h61 h62 r61 (rX5.ext sE) (by omega) (by omega) (fun A2 c2 w2 o2 e2 => ⟨e2, _, _, _, rfl, o2.rb⟩)
          skip
        · refine stepY (j := 8) (d := 57) (b := true) rfl rfl rfl (fun v w h => h) fun sdn sa sw sE sd sk => ?_
          obtain ⟨A63, n63, c63, h63, r63⟩ := sk.fact 14 63 rfl (sd 14 rfl)
          refine Runs.call (f := 16) (vs := [.slice (A63) (n63) (c63)]) rfl rfl rfl (by simp only [List.map_toArray, List.map_cons, List.map_nil, h63] <;> rfl) (ent16 _ _) ((hsum_any A63 n63 c63 _ sw r63 (by have h1 := r63.len; rw [List.length_append, HXl.out] at h1; simp only [List.length_cons, List.length_nil] at h1; omega)).mono ?_); rintro e w' ⟨A', c', rfl, own, hx⟩; exact ⟨_, rfl, hx, A', 32, c', rfl, own.rb⟩
        · refine stepY (j := 8) (d := 57) (b := true) rfl rfl rfl (fun v w h => h) fun sdn sa sw sE sd sk => ?_
          obtain ⟨A64, n64, c64, h64, r64⟩ := sk.fact 15 64 rfl (sd 15 rfl)
          exact Runs.conv rfl h64 (run_str r64) ⟨Ext.refl _, rfl⟩
        · refine stepY (j := 8) (d := 57) (b := true) rfl rfl rfl (fun v w h => h) fun sdn sa sw sE sd sk => ?_
          have h59 : sa.eval (.tmp 59) = .string (str (tagged t X)) := sk.fact 10 59 rfl (sd 10 rfl)
          have h65 : sa.eval (.tmp 65) = .string (str (sha ([t] ++ X))) := sk.fact 16 65 rfl (sd 16 rfl)
          exact Runs.bin rfl h59 h65 (by rfl) (bin_eqs _ _ _) ⟨Ext.refl _, congrArg Value.bool (by simp [tagged])⟩
        · refine stepE rfl fun sdn sa sw sE sd sk => ?_
          have h57 : sa.eval (.tmp 57) = .bool (true) := sk.fact 8 57 rfl (sd 8 rfl)
          have h66 : sa.eval (.tmp 66) = .bool (true) := sk.fact 17 66 rfl (sd 17 rfl)
          exact Runs.pick rfl h57 ⟨Ext.refl _, by first | exact h66 | simpa using h66⟩
        · refine stepE rfl fun sdn sa sw sE sd sk => ?_
          have h67 : sa.eval (.tmp 67) = .bool (true) := sk.fact 18 67 rfl (sd 18 rfl)
          exact Runs.move rfl h67 ⟨Ext.refl _, rfl⟩
        · refine stepY (j := 19) (d := 68) (b := true) rfl rfl rfl (fun v w h => h) fun sdn sa sw sE sd sk => ?_
          have h11 : sa.eval (.tmp 11) = .slice (A5) (32) (c5) := sk.old 11 rfl
          exact Runs.move rfl h11 ⟨Ext.refl _, rfl⟩
        · refine stepY (j := 19) (d := 68) (b := true) rfl rfl rfl (fun v w h => h) fun sdn sa sw sE sd sk => ?_
          have h69 : sa.eval (.tmp 69) = .slice (A5) (32) (c5) := sk.fact 20 69 rfl (sd 20 rfl)
          exact Runs.len Try.underlying22 rfl h69 ⟨Ext.refl _, rfl⟩
        · refine stepY (j := 19) (d := 68) (b := true) rfl rfl rfl (fun v w h => h) fun sdn sa sw sE sd sk => ?_
          have h70 : sa.eval (.tmp 70) = .int .i64 ((32 : Nat)) := sk.fact 21 70 rfl (sd 21 rfl)
          exact Runs.bin rfl h70 rfl (by rfl) (bin_eql _ _ _ _) ⟨Ext.refl _, congrArg Value.bool (decide_eq_true rfl)⟩
        · refine stepE rfl fun sdn sa sw sE sd sk => ?_
          have h68 : sa.eval (.tmp 68) = .bool (true) := sk.fact 19 68 rfl (sd 19 rfl)
          have h71 : sa.eval (.tmp 71) = .bool (true) := sk.fact 22 71 rfl (sd 22 rfl)
          exact Runs.pick rfl h68 ⟨Ext.refl _, by first | exact h71 | simpa using h71⟩
        · refine stepE rfl fun sdn sa sw sE sd sk => ?_
          have h72 : sa.eval (.tmp 72) = .bool (true) := sk.fact 23 72 rfl (sd 23 rfl)
          exact Runs.move rfl h72 ⟨Ext.refl _, rfl⟩
        · refine stepY (j := 24) (d := 73) (b := true) rfl rfl rfl (fun v w h => h) fun sdn sa sw sE sd sk => ?_
          refine Runs.call (f := 18) (vs := []) rfl rfl rfl (by simp only [List.map_toArray, List.map_cons, List.map_nil] <;> rfl) (ent18 _ _) ((known2_any sw).mono ?_); rintro e w' ⟨rfl, hx⟩; exact ⟨_, rfl, hx, rfl⟩
        · refine stepE rfl fun sdn sa sw sE sd sk => ?_
          have h73 : sa.eval (.tmp 73) = .bool (true) := sk.fact 24 73 rfl (sd 24 rfl)
          have h74 : sa.eval (.tmp 74) = .bool (true) := sk.fact 25 74 rfl (sd 25 rfl)
          exact Runs.pick rfl h73 ⟨Ext.refl _, by first | exact h74 | simpa using h74⟩
        · refine stepE rfl fun sdn sa sw sE sd sk => ?_
          have h75 : sa.eval (.tmp 75) = .bool (true) := sk.fact 26 75 rfl (sd 26 rfl)
          exact Runs.assign rfl h75 ⟨Ext.refl _, rfl⟩
        intro vals W9 hE1 hv1
        have e0 : vals 0 = .slice (A5) (32) (c5) := hv1 0 (by omega) 49 rfl
        have e1 : vals 1 = .string (str (tagged t X)) := hv1 1 (by omega) 50 rfl
        have e2 : vals 2 = .int .u8 (u8i (t)) := hv1 2 (by omega) 51 rfl
        have e3 : vals 3 = .slice (A) (m) (c) := hv1 3 (by omega) 52 rfl
        obtain ⟨A53, n53, c53, e4, r53⟩ := hv1 4 (by omega) 53 rfl
        obtain ⟨A54, n54, c54, e5, r54⟩ := hv1 5 (by omega) 54 rfl
        have e6 : vals 6 = .string (str (tagged (t) ([X]).flatten)) := hv1 6 (by omega) 55 rfl
        have e7 : vals 7 = .bool (true) := hv1 7 (by omega) 56 rfl
        have e8 : vals 8 = .bool (true) := hv1 8 (by omega) 57 rfl
        have e9 : vals 9 = .slice (A5) (32) (c5) := hv1 9 (by omega) 58 rfl
        have e10 : vals 10 = .string (str (tagged t X)) := hv1 10 (by omega) 59 rfl
        have e11 : vals 11 = .int .u8 (u8i (t)) := hv1 11 (by omega) 60 rfl
        obtain ⟨A61, e12, r61⟩ := hv1 12 (by omega) 61 rfl
        have e13 : vals 13 = .slice (A) (m) (c) := hv1 13 (by omega) 62 rfl
        obtain ⟨A63, n63, c63, e14, r63⟩ := hv1 14 (by omega) 63 rfl
        obtain ⟨A64, n64, c64, e15, r64⟩ := hv1 15 (by omega) 64 rfl
        have e16 : vals 16 = .string (str (sha ([t] ++ X))) := hv1 16 (by omega) 65 rfl
        have e17 : vals 17 = .bool (true) := hv1 17 (by omega) 66 rfl
        have e18 : vals 18 = .bool (true) := hv1 18 (by omega) 67 rfl
        have e19 : vals 19 = .bool (true) := hv1 19 (by omega) 68 rfl
        have e20 : vals 20 = .slice (A5) (32) (c5) := hv1 20 (by omega) 69 rfl
        have e21 : vals 21 = .int .i64 ((32 : Nat)) := hv1 21 (by omega) 70 rfl
        have e22 : vals 22 = .bool (true) := hv1 22 (by omega) 71 rfl
        have e23 : vals 23 = .bool (true) := hv1 23 (by omega) 72 rfl
        have e24 : vals 24 = .bool (true) := hv1 24 (by omega) 73 rfl
        have e25 : vals 25 = .bool (true) := hv1 25 (by omega) 74 rfl
        have e26 : vals 26 = .bool (true) := hv1 26 (by omega) 75 rfl
        have e27 : vals 27 = .bool (true) := hv1 27 (by omega) 6 rfl
        simp only [putAll, Act.put, List.take_succ_cons, List.take_zero, List.drop_succ_cons, List.drop_zero, List.drop_nil, List.take_nil, Nat.reduceAdd, List.setIfInBounds_toArray, List.set_cons_succ, List.set_cons_zero, e0, e1, e2, e3, e4, e5, e6, e7, e8, e9, e10, e11, e12, e13, e14, e15, e16, e17, e18, e19, e20, e21, e22, e23, e24, e25, e26, e27]
        clear hv1 e0 e1 e2 e3 e4 e5 e6 e7 e8 e9 e10 e11 e12 e13 e14 e15 e16 e17 e18 e19 e20 e21 e22 e23 e24 e25 e26 e27
        go_wp2_with fail
        go_ret
        exact ⟨rfl, hE04.trans hE1⟩
      · have h2 : ¬ ((j : Int) < (nz : Int)) := by omega
        clear hlt
        go_upto_region 10 with (fail)
        refine seq_ext (n := 4) (by kernel_rfl) [.is (.slice (P) (j) (d)), .is (.slice (A) (m) (c)), .is (.int .i64 (((q : Nat) : Int))), .is (.slice (if c = q then A else (A).map (·.add (q * 1))) (m - q) (c - q))] rfl ⟨?_, ?_, ?_, ?_, trivial⟩ ?_
        · refine stepE rfl fun sdn sa sw sE sd sk => ?_
          have h7 : sa.eval (.tmp 7) = .slice (P) (j) (d) := sk.old 7 rfl
          exact Runs.move rfl h7 ⟨Ext.refl _, rfl⟩
        · refine stepE rfl fun sdn sa sw sE sd sk => ?_
          have h0 : sa.eval (.tmp 0) = .slice (A) (m) (c) := sk.old 0 rfl
          exact Runs.move rfl h0 ⟨Ext.refl _, rfl⟩
        · refine stepE rfl fun sdn sa sw sE sd sk => ?_
          have h8 : sa.eval (.tmp 8) = .int .i64 (((q : Nat) : Int)) := sk.old 8 rfl
          exact Runs.move rfl h8 ⟨Ext.refl _, rfl⟩
        · refine stepE rfl fun sdn sa sw sE sd sk => ?_
          have h41 : sa.eval (.tmp 41) = .slice (A) (m) (c) := sk.fact 1 41 rfl (sd 1 rfl)
          have h42 : sa.eval (.tmp 42) = .int .i64 (((q : Nat) : Int)) := sk.fact 2 42 rfl (sd 2 rfl)
          exact Runs.slice rfl h41 (by simp only [Option.map_some, Option.map_none, h42]; exact run_cut_l Try.underlying22 inf22_eq inf22_size (q) (by first | rfl | omega) (by omega)) ⟨Ext.refl _, rfl⟩
        intro vals W1 hE hv
        have e0 : vals 0 = .slice (P) (j) (d) := hv 0 (by omega) 40 rfl
        have e1 : vals 1 = .slice (A) (m) (c) := hv 1 (by omega) 41 rfl
        have e2 : vals 2 = .int .i64 (((q : Nat) : Int)) := hv 2 (by omega) 42 rfl
        have e3 : vals 3 = .slice (if c = q then A else (A).map (·.add (q * 1))) (m - q) (c - q) := hv 3 (by omega) 43 rfl
        simp only [putAll, Act.put, List.take_succ_cons, List.take_zero, List.drop_succ_cons, List.drop_zero, List.drop_nil, List.take_nil, Nat.reduceAdd, List.setIfInBounds_toArray, List.set_cons_succ, List.set_cons_zero, e0, e1, e2, e3]
        clear hv e0 e1 e2 e3
        obtain ⟨C, hC⟩ : ∃ C, C = (if c = q then A else A.map (·.add (q * 1))) := ⟨_, rfl⟩
        have rC : RB w C (m - q) (c - q) (X.drop q) := by
          have h := rX.cut (i := q) (j := m) (c' := c - q) (A' := C) hq (Nat.le_refl _) rfl (fun h => by rw [hC, if_neg (by omega), Nat.mul_one])
          rw [List.take_of_length_le (by rw [HXl.out]; exact Nat.le_refl _)] at h
          exact h
        rw [← hC]
        clear hC
        have hEw := hEr.trans hE
        have hEa := Ext.new W1 (.cells #[.slice C (m - q) (c - q), .slice none 0 0] 22)
        have hBa := Blk.new W1 22 #[.slice C (m - q) (c - q), .slice none 0 0]
        go_wp2_with (refine appbb_law (w0 := w) (Ms := [X.drop q, []]) (us := [.slice C (m - q) (c - q), .slice none 0 0]) rfl rfl rfl rfl (hEw.trans hEa) ((own.ext hE).ext hEa) rfl (fun i u hu => ?_) (fun i hi => ?_) rfl (by omega) (by omega) ?_)
        rotate_left
        rotate_left
        all_goals first
          | (have hi2 : i = 0 ∨ i = 1 := by omega
             rcases hi2 with rfl | rfl
             · exact ⟨C, m - q, c - q, rfl, rC⟩
             · exact ⟨none, 0, 0, rfl, RB.nil_ _⟩)
          | (rcases i with _ | _ | i
             · injection hu with hu
               subst hu
               rw [add_plain]
               exact hBa.cell (i := 0) rfl
             · injection hu with hu
               subst hu
               rw [add_plain]
               exact hBa.cell (i := 1) rfl
             · cases hu)
          | skip
        intro A3 c3 w3 own3 hE3
        have rbb := own3.rbb hE3
        have hflat : (Ls ++ [X.drop q, []]).flatten = X := by
          rw [List.flatten_append, Hfl.out]
          simp only [List.flatten_cons, List.flatten_nil, List.append_nil]
          exact List.take_append_drop q X
        have htag := htagged_any t A3 (j + 2) c3 _ w3 rbb (by rw [hflat, HXl.out]; omega)
        rw [hflat] at htag
        have Htag := Lib.hid htag
        clear htag hflat rbb own own3 rC hBa hEa
        go_wp2_with fail
        refine Htag.out.mono ?_
        rintro e w4 ⟨A5, c5, rfl, own5, hE4⟩
        have r5 := own5.rb
        have hE04 := hE3.trans hE4
        have rX5 := rX.ext hE04
        clear Htag own5
        go_upto_region 12 with (fail)
        refine par_ext (n := 28) (by kernel_rfl) [.is (.slice (A5) (32) (c5)), .is (.string (str (tagged t X))), .is (.int .u8 (u8i (t))), .is (.slice (A) (m) (c)), .rbb ([X]), .rb (tagged (t) ([X]).flatten), .is (.string (str (tagged (t) ([X]).flatten))), .is (.bool (true)), .is (.bool (true)), .is (.slice (A5) (32) (c5)), .is (.string (str (tagged t X))), .is (.int .u8 (u8i (t))), .fullr [t], .is (.slice (A) (m) (c)), .rb ([t] ++ X), .rb (sha ([t] ++ X)), .is (.string (str (sha ([t] ++ X)))), .is (.bool (true)), .is (.bool (true)), .is (.bool (true)), .is (.slice (A5) (32) (c5)), .is (.int .i64 ((32 : Nat))), .is (.bool (true)), .is (.bool (true)), .is (.bool (true)), .is (.bool (true)), .is (.bool (true)), .is (.bool (true))] rfl ⟨?_, ?_, ?_, ?_, ?_, ?_, ?_, ?_, ?_, ?_, ?_, ?_, ?_, ?_, ?_, ?_, ?_, ?_, ?_, ?_, ?_, ?_, ?_, ?_, ?_, ?_, ?_, ?_, trivial⟩ ?_
        · refine stepE rfl fun sdn sa sw sE sd sk => ?_
          have h11 : sa.eval (.tmp 11) = .slice (A5) (32) (c5) := sk.old 11 rfl
          exact Runs.move rfl h11 ⟨Ext.refl _, rfl⟩
        · refine stepE rfl fun sdn sa sw sE sd sk => ?_
          have h49 : sa.eval (.tmp 49) = .slice (A5) (32) (c5) := sk.fact 0 49 rfl (sd 0 rfl)
          exact Runs.conv rfl h49 (run_str (r5.ext sE)) ⟨Ext.refl _, rfl⟩
        · refine stepE rfl fun sdn sa sw sE sd sk => ?_
          have h2 : sa.eval (.tmp 2) = .int .u8 (u8i (t)) := sk.old 2 rfl
          exact Runs.move rfl h2 ⟨Ext.refl _, rfl⟩
        · refine stepE rfl fun sdn sa sw sE sd sk => ?_
          have h0 : sa.eval (.tmp 0) = .slice (A) (m) (c) := sk.old 0 rfl
          exact Runs.move rfl h0 ⟨Ext.refl _, rfl⟩
        · refine stepE rfl fun sdn sa sw sE sd sk => ?_
          have h52 : sa.eval (.tmp 52) = .slice (A) (m) (c) := sk.fact 3 52 rfl (sd 3 rfl)
          exact Runs.ss1 rfl h52 (rX5.ext sE) (fun w1 e1 b1 => ⟨e1, _, _, _, rfl, b1⟩)
        · refine stepE rfl fun sdn sa sw sE sd sk => ?_
          have h51 : sa.eval (.tmp 51) = .int .u8 (u8i (t)) := sk.fact 2 51 rfl (sd 2 rfl)
          obtain ⟨A53, n53, c53, h53, r53⟩ := sk.fact 4 53 rfl (sd 4 rfl)
          refine Runs.call (f := 21) (vs := [.int .u8 (u8i (t)), .slice (A53) (n53) (c53)]) rfl rfl rfl (by simp only [List.map_toArray, List.map_cons, List.map_nil, h51, h53] <;> rfl) (ent21 _ _) ((htagged_any (t) A53 n53 c53 ([X]) sw (r53) (by simp only [List.flatten_cons, List.flatten_nil, List.length_append, List.length_nil, HXl.out]; omega)).mono ?_); rintro e w' ⟨A', c', rfl, own, hx⟩; exact ⟨_, rfl, hx, A', 32, c', rfl, own.rb⟩
        · refine stepE rfl fun sdn sa sw sE sd sk => ?_
          obtain ⟨A54, n54, c54, h54, r54⟩ := sk.fact 5 54 rfl (sd 5 rfl)
          exact Runs.conv rfl h54 (run_str r54) ⟨Ext.refl _, rfl⟩
        · refine stepE rfl fun sdn sa sw sE sd sk => ?_
          have h50 : sa.eval (.tmp 50) = .string (str (tagged t X)) := sk.fact 1 50 rfl (sd 1 rfl)
          have h55 : sa.eval (.tmp 55) = .string (str (tagged (t) ([X]).flatten)) := sk.fact 6 55 rfl (sd 6 rfl)
          exact Runs.bin rfl h50 h55 (by rfl) (bin_eqs _ _ _) ⟨Ext.refl _, congrArg Value.bool (by simp)⟩
        · refine stepE rfl fun sdn sa sw sE sd sk => ?_
          have h56 : sa.eval (.tmp 56) = .bool (true) := sk.fact 7 56 rfl (sd 7 rfl)
          exact Runs.move rfl h56 ⟨Ext.refl _, rfl⟩
        · refine stepY (j := 8) (d := 57) (b := true) rfl rfl rfl (fun v w h => h) fun sdn sa sw sE sd sk => ?_
          have h11 : sa.eval (.tmp 11) = .slice (A5) (32) (c5) := sk.old 11 rfl
          exact Runs.move rfl h11 ⟨Ext.refl _, rfl⟩
        · refine stepY (j := 8) (d := 57) (b := true) rfl rfl rfl (fun v w h => h) fun sdn sa sw sE sd sk => ?_
          have h58 : sa.eval (.tmp 58) = .slice (A5) (32) (c5) := sk.fact 9 58 rfl (sd 9 rfl)
          exact Runs.conv rfl h58 (run_str (r5.ext sE)) ⟨Ext.refl _, rfl⟩
        · refine stepY (j := 8) (d := 57) (b := true) rfl rfl rfl (fun v w h => h) fun sdn sa sw sE sd sk => ?_
          have h2 : sa.eval (.tmp 2) = .int .u8 (u8i (t)) := sk.old 2 rfl
          exact Runs.move rfl h2 ⟨Ext.refl _, rfl⟩
        · refine stepY (j := 8) (d := 57) (b := true) rfl rfl rfl (fun v w h => h) fun sdn sa sw sE sd sk => ?_
          have h60 : sa.eval (.tmp 60) = .int .u8 (u8i (t)) := sk.fact 11 60 rfl (sd 11 rfl)
          exact Runs.lit1 rfl h60 (fun w1 e1 o1 => ⟨e1, _, rfl, o1.rb⟩)
        · refine stepY (j := 8) (d := 57) (b := true) rfl rfl rfl (fun v w h => h) fun sdn sa sw sE sd sk => ?_
          have h0 : sa.eval (.tmp 0) = .slice (A) (m) (c) := sk.old 0 rfl
          exact Runs.move rfl h0 ⟨Ext.refl _, rfl⟩
        · refine stepY (j := 8) (d := 57) (b := true) rfl rfl rfl (fun v w h => h) fun sdn sa sw sE sd sk => ?_
          obtain ⟨A61, h61, r61⟩ := sk.fact 12 61 rfl (sd 12 rfl)
          have h62 : sa.eval (.tmp 62) = .slice (A) (m) (c) := sk.fact 13 62 rfl (sd 13 rfl)
          by_cases hm0 : m = 0
          · have hX0 : X = [] := List.length_eq_zero_iff.1 (by rw [HXl.out]; exact hm0)
            subst hm0
            exact Runs.appZero rfl h61 h62 (by omega) ⟨Ext.refl _, _, _, _, rfl, by rw [hX0]; exact r61⟩
          · exact Runs.appFull rfl h61 h62 r61 (rX5.ext sE) (by omega) (by omega) (fun A2 c2 w2 o2 e2 => ⟨e2, _, _, _, rfl, o2.rb⟩)
          skip
        · refine stepY (j := 8) (d := 57) (b := true) rfl rfl rfl (fun v w h => h) fun sdn sa sw sE sd sk => ?_
          obtain ⟨A63, n63, c63, h63, r63⟩ := sk.fact 14 63 rfl (sd 14 rfl)
          refine Runs.call (f := 16) (vs := [.slice (A63) (n63) (c63)]) rfl rfl rfl (by simp only [List.map_toArray, List.map_cons, List.map_nil, h63] <;> rfl) (ent16 _ _) ((hsum_any A63 n63 c63 _ sw r63 (by have h1 := r63.len; rw [List.length_append, HXl.out] at h1; simp only [List.length_cons, List.length_nil] at h1; omega)).mono ?_); rintro e w' ⟨A', c', rfl, own, hx⟩; exact ⟨_, rfl, hx, A', 32, c', rfl, own.rb⟩
        · refine stepY (j := 8) (d := 57) (b := true) rfl rfl rfl (fun v w h => h) fun sdn sa sw sE sd sk => ?_
          obtain ⟨A64, n64, c64, h64, r64⟩ := sk.fact 15 64 rfl (sd 15 rfl)
          exact Runs.conv rfl h64 (run_str r64) ⟨Ext.refl _, rfl⟩
        · refine stepY (j := 8) (d := 57) (b := true) rfl rfl rfl (fun v w h => h) fun sdn sa sw sE sd sk => ?_
          have h59 : sa.eval (.tmp 59) = .string (str (tagged t X)) := sk.fact 10 59 rfl (sd 10 rfl)
          have h65 : sa.eval (.tmp 65) = .string (str (sha ([t] ++ X))) := sk.fact 16 65 rfl (sd 16 rfl)
          exact Runs.bin rfl h59 h65 (by rfl) (bin_eqs _ _ _) ⟨Ext.refl _, congrArg Value.bool (by simp [tagged])⟩
        · refine stepE rfl fun sdn sa sw sE sd sk => ?_
          have h57 : sa.eval (.tmp 57) = .bool (true) := sk.fact 8 57 rfl (sd 8 rfl)
          have h66 : sa.eval (.tmp 66) = .bool (true) := sk.fact 17 66 rfl (sd 17 rfl)
          exact Runs.pick rfl h57 ⟨Ext.refl _, by first | exact h66 | simpa using h66⟩
        · refine stepE rfl fun sdn sa sw sE sd sk => ?_
          have h67 : sa.eval (.tmp 67) = .bool (true) := sk.fact 18 67 rfl (sd 18 rfl)
          exact Runs.move rfl h67 ⟨Ext.refl _, rfl⟩
        · refine stepY (j := 19) (d := 68) (b := true) rfl rfl rfl (fun v w h => h) fun sdn sa sw sE sd sk => ?_
          have h11 : sa.eval (.tmp 11) = .slice (A5) (32) (c5) := sk.old 11 rfl
          exact Runs.move rfl h11 ⟨Ext.refl _, rfl⟩
        · refine stepY (j := 19) (d := 68) (b := true) rfl rfl rfl (fun v w h => h) fun sdn sa sw sE sd sk => ?_
          have h69 : sa.eval (.tmp 69) = .slice (A5) (32) (c5) := sk.fact 20 69 rfl (sd 20 rfl)
          exact Runs.len Try.underlying22 rfl h69 ⟨Ext.refl _, rfl⟩
        · refine stepY (j := 19) (d := 68) (b := true) rfl rfl rfl (fun v w h => h) fun sdn sa sw sE sd sk => ?_
          have h70 : sa.eval (.tmp 70) = .int .i64 ((32 : Nat)) := sk.fact 21 70 rfl (sd 21 rfl)
          exact Runs.bin rfl h70 rfl (by rfl) (bin_eql _ _ _ _) ⟨Ext.refl _, congrArg Value.bool (decide_eq_true rfl)⟩
        · refine stepE rfl fun sdn sa sw sE sd sk => ?_
          have h68 : sa.eval (.tmp 68) = .bool (true) := sk.fact 19 68 rfl (sd 19 rfl)
          have h71 : sa.eval (.tmp 71) = .bool (true) := sk.fact 22 71 rfl (sd 22 rfl)
          exact Runs.pick rfl h68 ⟨Ext.refl _, by first | exact h71 | simpa using h71⟩
        · refine stepE rfl fun sdn sa sw sE sd sk => ?_
          have h72 : sa.eval (.tmp 72) = .bool (true) := sk.fact 23 72 rfl (sd 23 rfl)
          exact Runs.move rfl h72 ⟨Ext.refl _, rfl⟩
        · refine stepY (j := 24) (d := 73) (b := true) rfl rfl rfl (fun v w h => h) fun sdn sa sw sE sd sk => ?_
          refine Runs.call (f := 18) (vs := []) rfl rfl rfl (by simp only [List.map_toArray, List.map_cons, List.map_nil] <;> rfl) (ent18 _ _) ((known2_any sw).mono ?_); rintro e w' ⟨rfl, hx⟩; exact ⟨_, rfl, hx, rfl⟩
        · refine stepE rfl fun sdn sa sw sE sd sk => ?_
          have h73 : sa.eval (.tmp 73) = .bool (true) := sk.fact 24 73 rfl (sd 24 rfl)
          have h74 : sa.eval (.tmp 74) = .bool (true) := sk.fact 25 74 rfl (sd 25 rfl)
          exact Runs.pick rfl h73 ⟨Ext.refl _, by first | exact h74 | simpa using h74⟩
        · refine stepE rfl fun sdn sa sw sE sd sk => ?_
          have h75 : sa.eval (.tmp 75) = .bool (true) := sk.fact 26 75 rfl (sd 26 rfl)
          exact Runs.assign rfl h75 ⟨Ext.refl _, rfl⟩
        intro vals W9 hE1 hv1
        have e0 : vals 0 = .slice (A5) (32) (c5) := hv1 0 (by omega) 49 rfl
        have e1 : vals 1 = .string (str (tagged t X)) := hv1 1 (by omega) 50 rfl
        have e2 : vals 2 = .int .u8 (u8i (t)) := hv1 2 (by omega) 51 rfl
        have e3 : vals 3 = .slice (A) (m) (c) := hv1 3 (by omega) 52 rfl
        obtain ⟨A53, n53, c53, e4, r53⟩ := hv1 4 (by omega) 53 rfl
        obtain ⟨A54, n54, c54, e5, r54⟩ := hv1 5 (by omega) 54 rfl
        have e6 : vals 6 = .string (str (tagged (t) ([X]).flatten)) := hv1 6 (by omega) 55 rfl
        have e7 : vals 7 = .bool (true) := hv1 7 (by omega) 56 rfl
        have e8 : vals 8 = .bool (true) := hv1 8 (by omega) 57 rfl
        have e9 : vals 9 = .slice (A5) (32) (c5) := hv1 9 (by omega) 58 rfl
        have e10 : vals 10 = .string (str (tagged t X)) := hv1 10 (by omega) 59 rfl
        have e11 : vals 11 = .int .u8 (u8i (t)) := hv1 11 (by omega) 60 rfl
        obtain ⟨A61, e12, r61⟩ := hv1 12 (by omega) 61 rfl
        have e13 : vals 13 = .slice (A) (m) (c) := hv1 13 (by omega) 62 rfl
        obtain ⟨A63, n63, c63, e14, r63⟩ := hv1 14 (by omega) 63 rfl
        obtain ⟨A64, n64, c64, e15, r64⟩ := hv1 15 (by omega) 64 rfl
        have e16 : vals 16 = .string (str (sha ([t] ++ X))) := hv1 16 (by omega) 65 rfl
        have e17 : vals 17 = .bool (true) := hv1 17 (by omega) 66 rfl
        have e18 : vals 18 = .bool (true) := hv1 18 (by omega) 67 rfl
        have e19 : vals 19 = .bool (true) := hv1 19 (by omega) 68 rfl
        have e20 : vals 20 = .slice (A5) (32) (c5) := hv1 20 (by omega) 69 rfl
        have e21 : vals 21 = .int .i64 ((32 : Nat)) := hv1 21 (by omega) 70 rfl
        have e22 : vals 22 = .bool (true) := hv1 22 (by omega) 71 rfl
        have e23 : vals 23 = .bool (true) := hv1 23 (by omega) 72 rfl
        have e24 : vals 24 = .bool (true) := hv1 24 (by omega) 73 rfl
        have e25 : vals 25 = .bool (true) := hv1 25 (by omega) 74 rfl
        have e26 : vals 26 = .bool (true) := hv1 26 (by omega) 75 rfl
        have e27 : vals 27 = .bool (true) := hv1 27 (by omega) 6 rfl
        simp only [putAll, Act.put, List.take_succ_cons, List.take_zero, List.drop_succ_cons, List.drop_zero, List.drop_nil, List.take_nil, Nat.reduceAdd, List.setIfInBounds_toArray, List.set_cons_succ, List.set_cons_zero, e0, e1, e2, e3, e4, e5, e6, e7, e8, e9, e10, e11, e12, e13, e14, e15, e16, e17, e18, e19, e20, e21, e22, e23, e24, e25, e26, e27]
        clear hv1 e0 e1 e2 e3 e4 e5 e6 e7 e8 e9 e10 e11 e12 e13 e14 e15 e16 e17 e18 e19 e20 e21 e22 e23 e24 e25 e26 e27
        go_wp2_with fail
        go_ret
        exact ⟨rfl, hE04.trans hE1⟩
end Go.Proofs.Ytmgnigofilkfmaa
