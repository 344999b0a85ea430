/-
  law4.OnceRoots, walked.
-/
import Derived.Test.YtmgnigofilkfmaaRootU
import Derived.Test.YtmgnigofilkfmaaFew
import Derived.Test.YtmgnigofilkfmaaInts
import Derived.Test.YtmgnigofilkfmaaCopy
import Derived.Test.YtmgnigofilkfmaaBools
namespace Go.Proofs.Ytmgnigofilkfmaa
set_option maxRecDepth 100000
open Go Go.RowKit
def RootsI (w : World) (b g d q : Nat) (i : Value) (wr : World) : Prop :=
  ∃ (k : Nat) (Ls : List (List UInt8)), k ≤ q ∧ i = .int .i64 k ∧ OBC wr b (some ⟨g, 0, none⟩) 64 d Ls ∧ Ext w wr
set_option maxHeartbeats 8000000 in
theorem roots_law (B A C : Option Addr) (m e' n c p cp : Nat) (Q : List UInt8) (Ls : List (List UInt8)) (zs : List Int) (size : Int) (w : World) (hq : RB w B m e' Q) (hr : RBB w A n c Ls) (hz : RI w C p cp zs) (hs0 : -9223372036854775808 ≤ size) (hs1 : size ≤ 9223372036854775807) :
    Calls Try.prog 10 #[.slice B m e', .slice A n c, .slice C p cp, .int .i64 size] w fun e w' => e = .returned (.bool true) ∧ Ext w w' := by
  have hroom := hr.room
  have hcap := hr.cap
  have hroom2 := hz.room
  have hcap2 := hz.cap
  unfold maxLen at hcap hcap2
  have hsd := seed_any size w hs0 hs1
  have Hsd := Lib.hid hsd
  clear hsd
  have hfew := fun (w' : World) (hE : Ext w w') => few_any A n c 100 100 Ls w' (hr.ext hE) (by omega) (by omega)
  have e100 : ((100 : Nat) : Int) = 100 := rfl
  rw [e100] at hfew
  have Hfew := Lib.hid hfew
  clear hfew
  go_enter Try.func10, Try.ntmps10
  have hc1 := cut_any B m e' 100 Q w hq (by omega)
  rw [e100] at hc1
  go_wp2_with fail
  refine hc1.mono ?_
  rintro e w1 ⟨⟨rfl, rM⟩, rfl⟩
  clear hc1 hq e100
  have hm1 : min m 100 ≤ 100 := by omega
  generalize min m 100 = m at *
  generalize Q.take 100 = M at *
  go_wp2_with fail
  refine Hsd.out.mono ?_
  rintro e w1 ⟨A1, c1, rfl, own1, hE1⟩
  clear Hsd
  generalize seedL size = S at *
  go_wp2_with fail
  refine (r4sign_any A1 B 32 c1 m e' S M size w1 own1.rb (by omega) (rM.ext hE1) (by omega)).mono ?_
  rintro e w3 ⟨P, d, rfl, own, hE3⟩
  obtain ⟨ad, rfl, _⟩ := own.rbb.cells (by omega)
  obtain ⟨g, rfl⟩ := own.plain
  have hE03 := hE1.trans hE3
  have hbase := hE1.size
  generalize w1.heap.size = b0 at *
  generalize (List.range 64).map (partS (digestW M) S size) = LS at *
  clear own1 hE1 hE3
  obtain ⟨q, hq⟩ : ∃ q, q = min (min n p) 10 := ⟨_, rfl⟩
  have hqn : q ≤ n := by omega
  have hqp : q ≤ p := by omega
  have hq10 : q ≤ 10 := by omega
  have hq3 : q = n ∨ q = p ∨ q = 10 := by omega
  have Hq3 := Lib.hid hq3
  clear hq hq3
  go_wp2_with fail
  go_loopw [10] (fun i wr => RootsI w b0 g d q i wr) (fun i _ => q - (intOf i).toNat)
  case atStart => exact ⟨0, LS, by omega, rfl, own, hE03⟩
  case round =>
    clear own hE03
    obtain ⟨k, LT, hk, rfl, own, hEr⟩ := hrel
    by_cases hlt : k < q
    · have a1 : (k : Int) < (n : Int) := by omega
      have a2 : (k : Int) < (p : Int) := by omega
      have a3 : (k : Int) < 10 := by omega
      obtain ⟨adA, rfl, hcA⟩ := hr.cells (by omega)
      obtain ⟨E, z, y, hcell, hrE⟩ := hcA k (by omega)
      obtain ⟨adC, rfl, hcC⟩ := hz.cells (by omega)
      obtain ⟨hci, hb0, hb1⟩ := hcC k (by omega)
      generalize zs.getD k 0 = x9 at *
      have y1 := hEr.cell hcell
      have hcu := cut_any E z y 40 _ wr (hrE.ext hEr) (by omega)
      have e40 : ((40 : Nat) : Int) = 40 := rfl
      rw [e40] at hcu
      have hEb : ∀ z' : Nat, z' ≤ z → 0 < z' → blk E ≠ some g := by
        intro z' hz' h0 e
        have h1 := rb_blk_lt hrE (by omega) _ e
        have h2 := own.lt (k := g) rfl
        omega
      have HEb := Lib.hid hEb
      have Hcu := Lib.hid hcu
      obtain ⟨ix, hix⟩ : ∃ ix : Nat, within x9 0 63 = ix := ⟨_, (Int.toNat_of_nonneg (within_in x9 0 63 (by omega)).1).symm⟩
      have hix63 : ix < 64 := by have := (within_in x9 0 63 (by omega)).2; omega
      have hwi := fun w' => within_any x9 0 63 w' hb0 hb1 (by omega) (by omega) (by omega)
      rw [hix] at hwi
      have Hwi := Lib.hid hwi
      clear hwi hix hcu e40 hEb hcA hcC hb0 hb1
      obtain ⟨b2, hb2⟩ : ∃ b2, decide (((k % 2 : Nat) : Int) = 0) = b2 := ⟨_, rfl⟩
      have Hb2 := Lib.hid hb2
      clear hb2
      go_wp2_with fail
      refine Hcu.out.mono ?_
      rintro e w4 ⟨⟨rfl, rC⟩, rfl⟩
      clear Hcu
      have hne := HEb.out (min z 40) (by omega)
      generalize min z 40 = z' at *
      generalize (lb Ls k).take 40 = X at *
      have Hne := Lib.hid hne
      clear hne HEb y1
      go_upto_region 7 with (fail)
      refine seq_ext (n := 3) (by kernel_rfl) [.is (.int .i64 (((k : Nat) : Int))), .is (.int .i64 (((k % 2 : Nat) : Int))), .is (.bool (b2))] rfl ⟨?_, ?_, ?_, trivial⟩ ?_
      · refine stepE rfl fun sdn sa sw sE sd sk => ?_
        have h10 : sa.eval (.tmp 10) = .int .i64 (((k : Nat) : Int)) := sk.old 10 rfl
        exact Runs.move rfl h10 ⟨Ext.refl _, rfl⟩
      · refine stepE rfl fun sdn sa sw sE sd sk => ?_
        have h48 : sa.eval (.tmp 48) = .int .i64 (((k : Nat) : Int)) := sk.fact 0 48 rfl (sd 0 rfl)
        exact Runs.bin rfl h48 rfl (eqGuard_bin rfl) (bin_rem2 _ k (by omega)) ⟨Ext.refl _, rfl⟩
      · refine stepE rfl fun sdn sa sw sE sd sk => ?_
        have h49 : sa.eval (.tmp 49) = .int .i64 (((k % 2 : Nat) : Int)) := sk.fact 1 49 rfl (sd 1 rfl)
        exact Runs.bin rfl h49 rfl (by rfl) (bin_eql _ _ _ _) ⟨Ext.refl _, congrArg Value.bool Hb2.out⟩
      intro vals w7 hE7 hv7
      have e0 : vals 0 = .int .i64 (((k : Nat) : Int)) := hv7 0 (by omega) 48 rfl
      have e1 : vals 1 = .int .i64 (((k % 2 : Nat) : Int)) := hv7 1 (by omega) 49 rfl
      have e2 : vals 2 = .bool (b2) := hv7 2 (by omega) 50 rfl
      simp only [putAll, Act.put, List.take_succ_cons, List.take_zero, List.drop_succ_cons, List.drop_zero, List.drop_nil, List.take_nil, Nat.reduceAdd, List.setIfInBounds_toArray, List.set_cons_succ, List.set_cons_zero, e0, e1, e2]
      clear hv7 e0 e1 e2
      have own7 := own.ext hE7
      have hEr7 := hEr.trans hE7
      have rC7 := rC.ext hE7
      cases b2 with
      | true =>
        have hsz := sized_any E z' y 32 X w7 rC7 (by omega)
        have e32 : ((32 : Nat) : Int) = 32 := rfl
        rw [e32] at hsz
        have Hsz := Lib.hid hsz
        clear hsz e32
        go_wp2_with fail
        refine Hsz.out.mono ?_
        rintro e w8 ⟨rfl, own8, hE8⟩
        clear Hsz
        have hlt7 := own7.lt (k := g) rfl
        have ownr := own7.ext hE8
        have hEr8 := hEr7.trans hE8
        have y3 := hEr8.cell hci
        have y2 := ownr.frozen ix
        obtain ⟨adg, hadg, hcg⟩ := ownr.rbb.cells (by omega)
        obtain ⟨E9, z9, y9, hcell9, _⟩ := hcg ix hix63
        cases hadg
        rw [add_plain] at hcell9
        clear hcg
        have hne8 : 0 < 32 → blk (some ⟨w7.heap.size, 0, none⟩) ≠ some g := by
          intro _ e
          have e' : w7.heap.size = g := by injection e
          omega
        have hst := OBC.store ownr own8.rb hne8 ix hix63 hEr8 hbase
        have Hst := Lib.hid hst
        clear hst hne8 hlt7
        go_wp2_with fail
        refine (Hwi.out _).mono ?_
        rintro e w9 ⟨rfl, rfl⟩
        go_wp2_with fail
        go_roundw
        case rel => exact ⟨k + 1, _, by omega, by go_num, Hst.out.1, Hst.out.2⟩
        case measure => simp [intOf]; omega
      | false =>
        have y3 := hEr7.cell hci
        have y2 := own7.frozen ix
        obtain ⟨adg, hadg, hcg⟩ := own7.rbb.cells (by omega)
        obtain ⟨E9, z9, y9, hcell9, _⟩ := hcg ix hix63
        cases hadg
        rw [add_plain] at hcell9
        clear hcg
        have hst := OBC.store own7 rC7 Hne.out ix hix63 hEr7 hbase
        have Hst := Lib.hid hst
        clear hst
        go_wp2_with fail
        refine (Hwi.out _).mono ?_
        rintro e w9 ⟨rfl, rfl⟩
        go_wp2_with fail
        go_roundw
        case rel => exact ⟨k + 1, _, by omega, by go_num, Hst.out.1, Hst.out.2⟩
        case measure => simp [intOf]; omega
    · obtain rfl : k = q := by omega
      have rMr := rM.ext hEr
      have rl0 := own.rbb
      clear own hz
      by_cases a1 : (k : Int) < (n : Int)
      · by_cases a2 : (k : Int) < (p : Int)
        · have a3 : ¬ ((k : Int) < 10) := by have := Hq3.out; omega
          obtain ⟨b7, hb7⟩ : ∃ b7, decide (Int.tmod size 7 = 0) = b7 := ⟨_, rfl⟩
          have Hb7 := Lib.hid hb7
          clear hb7
          go_upto_region 10 with (fail)
          refine seq_ext (n := 3) (by kernel_rfl) [.is (.int .i64 (size)), .is (.int .i64 (Int.tmod size 7)), .is (.bool (b7))] rfl ⟨?_, ?_, ?_, trivial⟩ ?_
          · refine stepE rfl fun sdn sa sw sE sd sk => ?_
            have h3 : sa.eval (.tmp 3) = .int .i64 (size) := sk.old 3 rfl
            exact Runs.move rfl h3 ⟨Ext.refl _, rfl⟩
          · refine stepE rfl fun sdn sa sw sE sd sk => ?_
            have h64 : sa.eval (.tmp 64) = .int .i64 (size) := sk.fact 0 64 rfl (sd 0 rfl)
            exact Runs.bin rfl h64 rfl (eqGuard_bin rfl) (bin_rem7 _ size hs0 hs1) ⟨Ext.refl _, rfl⟩
          · refine stepE rfl fun sdn sa sw sE sd sk => ?_
            have h65 : sa.eval (.tmp 65) = .int .i64 (Int.tmod size 7) := sk.fact 1 65 rfl (sd 1 rfl)
            exact Runs.bin rfl h65 rfl (by rfl) (bin_eql _ _ _ _) ⟨Ext.refl _, congrArg Value.bool Hb7.out⟩
          intro vals w10 hE10 hv10
          have e0 : vals 0 = .int .i64 (size) := hv10 0 (by omega) 64 rfl
          have e1 : vals 1 = .int .i64 (Int.tmod size 7) := hv10 1 (by omega) 65 rfl
          have e2 : vals 2 = .bool (b7) := hv10 2 (by omega) 66 rfl
          simp only [putAll, Act.put, List.take_succ_cons, List.take_zero, List.drop_succ_cons, List.drop_zero, List.drop_nil, List.take_nil, Nat.reduceAdd, List.setIfInBounds_toArray, List.set_cons_succ, List.set_cons_zero, e0, e1, e2]
          clear hv10 e0 e1 e2
          cases b7 with
          | true =>
            obtain ⟨jx, hjx⟩ : ∃ jx : Nat, within size 0 64 = jx := ⟨_, (Int.toNat_of_nonneg (within_in size 0 64 (by omega)).1).symm⟩
            have hjx64 : jx ≤ 64 := by have := (within_in size 0 64 (by omega)).2; omega
            have hwi := within_any size 0 64 w10 hs0 hs1 (by omega) (by omega) (by omega)
            rw [hjx] at hwi
            have Hwi := Lib.hid hwi
            clear hwi hjx
            have rl := (rl0.take hjx64).ext hE10
            have hEw := hE10
            have hrd := rl0.room
            have hcd := rl0.cap
            unfold maxLen at hcd
            obtain ⟨LL, hLL⟩ : ∃ LL, LL = LT.take jx := ⟨_, rfl⟩
            rw [← hLL] at rl
            clear hLL rl0 hE10
            go_wp2_with fail
            refine Hwi.out.mono ?_
            rintro e w11 ⟨rfl, rfl⟩
            clear Hwi
            have hEr1 := hEr.trans hEw
            have rM9 := rMr.ext hEw
            go_wp2_with fail
            refine (root_uni B _ m e' _ d M LL _ rM9 (by omega) rl).mono ?_
            rintro e w1 ⟨A1, n1, c1, rfl, q1, hF1⟩
            go_wp2_with fail
            refine (r4root_uni B _ m e' _ d M LL w1 (rM9.ext hF1) (by omega) (rl.ext hF1)).mono ?_
            rintro e w2 ⟨A2, n2, c2, rfl, q2, hF2⟩
            have hF12 := hF1.trans hF2
            have rM2 := rM9.ext hF12
            have hEr2 := hEr1.trans hF12
            go_wp2_with fail
            refine (Hfew.out w2 hEr2).mono ?_
            rintro e w3 ⟨P3, d3, rfl, own3, hF3⟩
            go_wp2_with fail
            refine (root_uni B _ m e' _ d3 M _ w3 (rM2.ext hF3) (by omega) own3.rbb).mono ?_
            rintro e w4 ⟨A3, n3, c3, rfl, q3, hF4⟩
            have hF34 := hF3.trans hF4
            go_wp2_with fail
            refine (Hfew.out w4 (hEr2.trans hF34)).mono ?_
            rintro e w5 ⟨P5, d5, rfl, own5, hF5⟩
            have hF35 := hF34.trans hF5
            go_wp2_with fail
            refine (r4root_uni B _ m e' _ d5 M _ w5 (rM2.ext hF35) (by omega) own5.rbb).mono ?_
            rintro e w6 ⟨A4, n4, c4, rfl, q4, hF6⟩
            have hF36 := hF35.trans hF6
            have hE6 := hEr2.trans hF36
            have q1 := (q1.ext hF2).ext hF36
            have q2 := q2.ext hF36
            have q3 := q3.ext (hF5.trans hF6)
            clear own3 own5 rl rM9 rM2 rMr hF1 hF2 hF3 hF4 hF5 hF6 hF12 hF34 hF35 hF36 hEr1 hEr2 hEr hEw Hfew
            obtain ⟨V, hV⟩ : ∃ V, V = rootW M LL := ⟨_, rfl⟩
            obtain ⟨U, hU⟩ : ∃ U, U = rootW M (fewL 100 (Ls.take 100)) := ⟨_, rfl⟩
            obtain ⟨vb, hvb⟩ : ∃ vb, vb = rootB LL := ⟨_, rfl⟩
            obtain ⟨ub', hub⟩ : ∃ ub', ub' = rootB (fewL 100 (Ls.take 100)) := ⟨_, rfl⟩
            rw [← hV] at q1 q2
            rw [← hU] at q3 q4
            rw [← hvb, ← hub]
            clear hV hU hvb hub
            go_upto_region 16 with (fail)
            refine seq_ext (n := 26) (by kernel_rfl) [.is (.slice (A1) (n1) (c1)), .is (.string (str (V))), .is (.slice (A2) (n2) (c2)), .is (.string (str (V))), .is (.bool (true)), .is (.bool (true)), .is (.bool (vb)), .is (.bool (vb)), .is (.bool (true)), .is (.bool (true)), .is (.bool (true)), .is (.slice (A3) (n3) (c3)), .is (.string (str (U))), .is (.slice (A4) (n4) (c4)), .is (.string (str (U))), .is (.bool (true)), .is (.bool (true)), .is (.bool (true)), .is (.bool (ub')), .is (.bool (ub')), .is (.bool (true)), .is (.bool (true)), .is (.bool (true)), .is (.bool (true)), .is (.bool (true)), .is (.bool (true))] rfl ⟨?_, ?_, ?_, ?_, ?_, ?_, ?_, ?_, ?_, ?_, ?_, ?_, ?_, ?_, ?_, ?_, ?_, ?_, ?_, ?_, ?_, ?_, ?_, ?_, ?_, ?_, trivial⟩ ?_
            · refine stepE rfl fun sdn sa sw sE sd sk => ?_
              have h12 : sa.eval (.tmp 12) = .slice (A1) (n1) (c1) := sk.old 12 rfl
              exact Runs.move rfl h12 ⟨Ext.refl _, rfl⟩
            · refine stepE rfl fun sdn sa sw sE sd sk => ?_
              have h99 : sa.eval (.tmp 99) = .slice (A1) (n1) (c1) := sk.fact 0 99 rfl (sd 0 rfl)
              exact Runs.conv rfl h99 (run_str (q1.ext sE)) ⟨Ext.refl _, rfl⟩
            · refine stepE rfl fun sdn sa sw sE sd sk => ?_
              have h14 : sa.eval (.tmp 14) = .slice (A2) (n2) (c2) := sk.old 14 rfl
              exact Runs.move rfl h14 ⟨Ext.refl _, rfl⟩
            · refine stepE rfl fun sdn sa sw sE sd sk => ?_
              have h101 : sa.eval (.tmp 101) = .slice (A2) (n2) (c2) := sk.fact 2 101 rfl (sd 2 rfl)
              exact Runs.conv rfl h101 (run_str (q2.ext sE)) ⟨Ext.refl _, rfl⟩
            · refine stepE rfl fun sdn sa sw sE sd sk => ?_
              have h100 : sa.eval (.tmp 100) = .string (str (V)) := sk.fact 1 100 rfl (sd 1 rfl)
              have h102 : sa.eval (.tmp 102) = .string (str (V)) := sk.fact 3 102 rfl (sd 3 rfl)
              exact Runs.bin rfl h100 h102 (by rfl) (bin_eqs _ _ _) ⟨Ext.refl _, congrArg Value.bool (by simp)⟩
            · refine stepE rfl fun sdn sa sw sE sd sk => ?_
              have h103 : sa.eval (.tmp 103) = .bool (true) := sk.fact 4 103 rfl (sd 4 rfl)
              exact Runs.move rfl h103 ⟨Ext.refl _, rfl⟩
            · refine stepY (j := 5) (d := 104) (b := true) rfl rfl rfl (fun v w h => h) fun sdn sa sw sE sd sk => ?_
              have h13 : sa.eval (.tmp 13) = .bool (vb) := sk.old 13 rfl
              exact Runs.move rfl h13 ⟨Ext.refl _, rfl⟩
            · refine stepY (j := 5) (d := 104) (b := true) rfl rfl rfl (fun v w h => h) fun sdn sa sw sE sd sk => ?_
              have h15 : sa.eval (.tmp 15) = .bool (vb) := sk.old 15 rfl
              exact Runs.move rfl h15 ⟨Ext.refl _, rfl⟩
            · refine stepY (j := 5) (d := 104) (b := true) rfl rfl rfl (fun v w h => h) fun sdn sa sw sE sd sk => ?_
              have h105 : sa.eval (.tmp 105) = .bool (vb) := sk.fact 6 105 rfl (sd 6 rfl)
              have h106 : sa.eval (.tmp 106) = .bool (vb) := sk.fact 7 106 rfl (sd 7 rfl)
              exact Runs.bin rfl h105 h106 (by rfl) (bin_eqb _ _) ⟨Ext.refl _, congrArg Value.bool (by simp)⟩
            · refine stepE rfl fun sdn sa sw sE sd sk => ?_
              have h104 : sa.eval (.tmp 104) = .bool (true) := sk.fact 5 104 rfl (sd 5 rfl)
              have h107 : sa.eval (.tmp 107) = .bool (true) := sk.fact 8 107 rfl (sd 8 rfl)
              exact Runs.pick rfl h104 ⟨Ext.refl _, by first | exact h107 | simpa using h107⟩
            · refine stepE rfl fun sdn sa sw sE sd sk => ?_
              have h108 : sa.eval (.tmp 108) = .bool (true) := sk.fact 9 108 rfl (sd 9 rfl)
              exact Runs.move rfl h108 ⟨Ext.refl _, rfl⟩
            · refine stepY (j := 10) (d := 109) (b := true) rfl rfl rfl (fun v w h => h) fun sdn sa sw sE sd sk => ?_
              have h16 : sa.eval (.tmp 16) = .slice (A3) (n3) (c3) := sk.old 16 rfl
              exact Runs.move rfl h16 ⟨Ext.refl _, rfl⟩
            · refine stepY (j := 10) (d := 109) (b := true) rfl rfl rfl (fun v w h => h) fun sdn sa sw sE sd sk => ?_
              have h110 : sa.eval (.tmp 110) = .slice (A3) (n3) (c3) := sk.fact 11 110 rfl (sd 11 rfl)
              exact Runs.conv rfl h110 (run_str (q3.ext sE)) ⟨Ext.refl _, rfl⟩
            · refine stepY (j := 10) (d := 109) (b := true) rfl rfl rfl (fun v w h => h) fun sdn sa sw sE sd sk => ?_
              have h18 : sa.eval (.tmp 18) = .slice (A4) (n4) (c4) := sk.old 18 rfl
              exact Runs.move rfl h18 ⟨Ext.refl _, rfl⟩
            · refine stepY (j := 10) (d := 109) (b := true) rfl rfl rfl (fun v w h => h) fun sdn sa sw sE sd sk => ?_
              have h112 : sa.eval (.tmp 112) = .slice (A4) (n4) (c4) := sk.fact 13 112 rfl (sd 13 rfl)
              exact Runs.conv rfl h112 (run_str (q4.ext sE)) ⟨Ext.refl _, rfl⟩
            · refine stepY (j := 10) (d := 109) (b := true) rfl rfl rfl (fun v w h => h) fun sdn sa sw sE sd sk => ?_
              have h111 : sa.eval (.tmp 111) = .string (str (U)) := sk.fact 12 111 rfl (sd 12 rfl)
              have h113 : sa.eval (.tmp 113) = .string (str (U)) := sk.fact 14 113 rfl (sd 14 rfl)
              exact Runs.bin rfl h111 h113 (by rfl) (bin_eqs _ _ _) ⟨Ext.refl _, congrArg Value.bool (by simp)⟩
            · refine stepE rfl fun sdn sa sw sE sd sk => ?_
              have h109 : sa.eval (.tmp 109) = .bool (true) := sk.fact 10 109 rfl (sd 10 rfl)
              have h114 : sa.eval (.tmp 114) = .bool (true) := sk.fact 15 114 rfl (sd 15 rfl)
              exact Runs.pick rfl h109 ⟨Ext.refl _, by first | exact h114 | simpa using h114⟩
            · refine stepE rfl fun sdn sa sw sE sd sk => ?_
              have h115 : sa.eval (.tmp 115) = .bool (true) := sk.fact 16 115 rfl (sd 16 rfl)
              exact Runs.move rfl h115 ⟨Ext.refl _, rfl⟩
            · refine stepY (j := 17) (d := 116) (b := true) rfl rfl rfl (fun v w h => h) fun sdn sa sw sE sd sk => ?_
              have h17 : sa.eval (.tmp 17) = .bool (ub') := sk.old 17 rfl
              exact Runs.move rfl h17 ⟨Ext.refl _, rfl⟩
            · refine stepY (j := 17) (d := 116) (b := true) rfl rfl rfl (fun v w h => h) fun sdn sa sw sE sd sk => ?_
              have h19 : sa.eval (.tmp 19) = .bool (ub') := sk.old 19 rfl
              exact Runs.move rfl h19 ⟨Ext.refl _, rfl⟩
            · refine stepY (j := 17) (d := 116) (b := true) rfl rfl rfl (fun v w h => h) fun sdn sa sw sE sd sk => ?_
              have h117 : sa.eval (.tmp 117) = .bool (ub') := sk.fact 18 117 rfl (sd 18 rfl)
              have h118 : sa.eval (.tmp 118) = .bool (ub') := sk.fact 19 118 rfl (sd 19 rfl)
              exact Runs.bin rfl h117 h118 (by rfl) (bin_eqb _ _) ⟨Ext.refl _, congrArg Value.bool (by simp)⟩
            · refine stepE rfl fun sdn sa sw sE sd sk => ?_
              have h116 : sa.eval (.tmp 116) = .bool (true) := sk.fact 17 116 rfl (sd 17 rfl)
              have h119 : sa.eval (.tmp 119) = .bool (true) := sk.fact 20 119 rfl (sd 20 rfl)
              exact Runs.pick rfl h116 ⟨Ext.refl _, by first | exact h119 | simpa using h119⟩
            · refine stepE rfl fun sdn sa sw sE sd sk => ?_
              have h120 : sa.eval (.tmp 120) = .bool (true) := sk.fact 21 120 rfl (sd 21 rfl)
              exact Runs.move rfl h120 ⟨Ext.refl _, rfl⟩
            · refine stepY (j := 22) (d := 121) (b := true) rfl rfl rfl (fun v w h => h) fun sdn sa sw sE sd sk => ?_
              refine Runs.call (f := 40) (vs := []) rfl rfl rfl (by simp only [List.map_toArray, List.map_cons, List.map_nil] <;> rfl) (ent40 _ _) ((known4_any sw).mono ?_); rintro e w' ⟨rfl, hx⟩; exact ⟨_, rfl, hx, rfl⟩
            · refine stepE rfl fun sdn sa sw sE sd sk => ?_
              have h121 : sa.eval (.tmp 121) = .bool (true) := sk.fact 22 121 rfl (sd 22 rfl)
              have h122 : sa.eval (.tmp 122) = .bool (true) := sk.fact 23 122 rfl (sd 23 rfl)
              exact Runs.pick rfl h121 ⟨Ext.refl _, by first | exact h122 | simpa using h122⟩
            · refine stepE rfl fun sdn sa sw sE sd sk => ?_
              have h123 : sa.eval (.tmp 123) = .bool (true) := sk.fact 24 123 rfl (sd 24 rfl)
              exact Runs.assign rfl h123 ⟨Ext.refl _, rfl⟩
            intro vals W9 hE hv
            have e0 : vals 0 = .slice (A1) (n1) (c1) := hv 0 (by omega) 99 rfl
            have e1 : vals 1 = .string (str (V)) := hv 1 (by omega) 100 rfl
            have e2 : vals 2 = .slice (A2) (n2) (c2) := hv 2 (by omega) 101 rfl
            have e3 : vals 3 = .string (str (V)) := hv 3 (by omega) 102 rfl
            have e4 : vals 4 = .bool (true) := hv 4 (by omega) 103 rfl
            have e5 : vals 5 = .bool (true) := hv 5 (by omega) 104 rfl
            have e6 : vals 6 = .bool (vb) := hv 6 (by omega) 105 rfl
            have e7 : vals 7 = .bool (vb) := hv 7 (by omega) 106 rfl
            have e8 : vals 8 = .bool (true) := hv 8 (by omega) 107 rfl
            have e9 : vals 9 = .bool (true) := hv 9 (by omega) 108 rfl
            have e10 : vals 10 = .bool (true) := hv 10 (by omega) 109 rfl
            have e11 : vals 11 = .slice (A3) (n3) (c3) := hv 11 (by omega) 110 rfl
            have e12 : vals 12 = .string (str (U)) := hv 12 (by omega) 111 rfl
            have e13 : vals 13 = .slice (A4) (n4) (c4) := hv 13 (by omega) 112 rfl
            have e14 : vals 14 = .string (str (U)) := hv 14 (by omega) 113 rfl
            have e15 : vals 15 = .bool (true) := hv 15 (by omega) 114 rfl
            have e16 : vals 16 = .bool (true) := hv 16 (by omega) 115 rfl
            have e17 : vals 17 = .bool (true) := hv 17 (by omega) 116 rfl
            have e18 : vals 18 = .bool (ub') := hv 18 (by omega) 117 rfl
            have e19 : vals 19 = .bool (ub') := hv 19 (by omega) 118 rfl
            have e20 : vals 20 = .bool (true) := hv 20 (by omega) 119 rfl
            have e21 : vals 21 = .bool (true) := hv 21 (by omega) 120 rfl
            have e22 : vals 22 = .bool (true) := hv 22 (by omega) 121 rfl
            have e23 : vals 23 = .bool (true) := hv 23 (by omega) 122 rfl
            have e24 : vals 24 = .bool (true) := hv 24 (by omega) 123 rfl
            have e25 : vals 25 = .bool (true) := hv 25 (by omega) 8 rfl
            simp only [putAll, Act.put, List.take_succ_cons, List.take_zero, List.drop_succ_cons, List.drop_zero, List.drop_nil, List.take_nil, Nat.reduceAdd, List.setIfInBounds_toArray, List.set_cons_succ, List.set_cons_zero, e0, e1, e2, e3, e4, e5, e6, e7, e8, e9, e10, e11, e12, e13, e14, e15, e16, e17, e18, e19, e20, e21, e22, e23, e24, e25]
            clear hv e0 e1 e2 e3 e4 e5 e6 e7 e8 e9 e10 e11 e12 e13 e14 e15 e16 e17 e18 e19 e20 e21 e22 e23 e24 e25
            go_wp2_with fail
            go_ret
            exact ⟨rfl, hE6.trans hE⟩
          | false =>
            have rl := rl0.ext hE10
            have hEw := hE10
            obtain ⟨LL, hLL⟩ : ∃ LL, LL = LT := ⟨_, rfl⟩
            rw [← hLL] at rl
            clear hLL rl0 hE10
            have hEr1 := hEr.trans hEw
            have rM9 := rMr.ext hEw
            go_wp2_with fail
            refine (root_uni B _ m e' _ d M LL _ rM9 (by omega) rl).mono ?_
            rintro e w1 ⟨A1, n1, c1, rfl, q1, hF1⟩
            go_wp2_with fail
            refine (r4root_uni B _ m e' _ d M LL w1 (rM9.ext hF1) (by omega) (rl.ext hF1)).mono ?_
            rintro e w2 ⟨A2, n2, c2, rfl, q2, hF2⟩
            have hF12 := hF1.trans hF2
            have rM2 := rM9.ext hF12
            have hEr2 := hEr1.trans hF12
            go_wp2_with fail
            refine (Hfew.out w2 hEr2).mono ?_
            rintro e w3 ⟨P3, d3, rfl, own3, hF3⟩
            go_wp2_with fail
            refine (root_uni B _ m e' _ d3 M _ w3 (rM2.ext hF3) (by omega) own3.rbb).mono ?_
            rintro e w4 ⟨A3, n3, c3, rfl, q3, hF4⟩
            have hF34 := hF3.trans hF4
            go_wp2_with fail
            refine (Hfew.out w4 (hEr2.trans hF34)).mono ?_
            rintro e w5 ⟨P5, d5, rfl, own5, hF5⟩
            have hF35 := hF34.trans hF5
            go_wp2_with fail
            refine (r4root_uni B _ m e' _ d5 M _ w5 (rM2.ext hF35) (by omega) own5.rbb).mono ?_
            rintro e w6 ⟨A4, n4, c4, rfl, q4, hF6⟩
            have hF36 := hF35.trans hF6
            have hE6 := hEr2.trans hF36
            have q1 := (q1.ext hF2).ext hF36
            have q2 := q2.ext hF36
            have q3 := q3.ext (hF5.trans hF6)
            clear own3 own5 rl rM9 rM2 rMr hF1 hF2 hF3 hF4 hF5 hF6 hF12 hF34 hF35 hF36 hEr1 hEr2 hEr hEw Hfew
            obtain ⟨V, hV⟩ : ∃ V, V = rootW M LL := ⟨_, rfl⟩
            obtain ⟨U, hU⟩ : ∃ U, U = rootW M (fewL 100 (Ls.take 100)) := ⟨_, rfl⟩
            obtain ⟨vb, hvb⟩ : ∃ vb, vb = rootB LL := ⟨_, rfl⟩
            obtain ⟨ub', hub⟩ : ∃ ub', ub' = rootB (fewL 100 (Ls.take 100)) := ⟨_, rfl⟩
            rw [← hV] at q1 q2
            rw [← hU] at q3 q4
            rw [← hvb, ← hub]
            clear hV hU hvb hub
            go_upto_region 16 with (fail)
            refine seq_ext (n := 26) (by kernel_rfl) [.is (.slice (A1) (n1) (c1)), .is (.string (str (V))), .is (.slice (A2) (n2) (c2)), .is (.string (str (V))), .is (.bool (true)), .is (.bool (true)), .is (.bool (vb)), .is (.bool (vb)), .is (.bool (true)), .is (.bool (true)), .is (.bool (true)), .is (.slice (A3) (n3) (c3)), .is (.string (str (U))), .is (.slice (A4) (n4) (c4)), .is (.string (str (U))), .is (.bool (true)), .is (.bool (true)), .is (.bool (true)), .is (.bool (ub')), .is (.bool (ub')), .is (.bool (true)), .is (.bool (true)), .is (.bool (true)), .is (.bool (true)), .is (.bool (true)), .is (.bool (true))] rfl ⟨?_, ?_, ?_, ?_, ?_, ?_, ?_, ?_, ?_, ?_, ?_, ?_, ?_, ?_, ?_, ?_, ?_, ?_, ?_, ?_, ?_, ?_, ?_, ?_, ?_, ?_, trivial⟩ ?_
            · refine stepE rfl fun sdn sa sw sE sd sk => ?_
              have h12 : sa.eval (.tmp 12) = .slice (A1) (n1) (c1) := sk.old 12 rfl
              exact Runs.move rfl h12 ⟨Ext.refl _, rfl⟩
            · refine stepE rfl fun sdn sa sw sE sd sk => ?_
              have h99 : sa.eval (.tmp 99) = .slice (A1) (n1) (c1) := sk.fact 0 99 rfl (sd 0 rfl)
              exact Runs.conv rfl h99 (run_str (q1.ext sE)) ⟨Ext.refl _, rfl⟩
            · refine stepE rfl fun sdn sa sw sE sd sk => ?_
              have h14 : sa.eval (.tmp 14) = .slice (A2) (n2) (c2) := sk.old 14 rfl
              exact Runs.move rfl h14 ⟨Ext.refl _, rfl⟩
            · refine stepE rfl fun sdn sa sw sE sd sk => ?_
              have h101 : sa.eval (.tmp 101) = .slice (A2) (n2) (c2) := sk.fact 2 101 rfl (sd 2 rfl)
              exact Runs.conv rfl h101 (run_str (q2.ext sE)) ⟨Ext.refl _, rfl⟩
            · refine stepE rfl fun sdn sa sw sE sd sk => ?_
              have h100 : sa.eval (.tmp 100) = .string (str (V)) := sk.fact 1 100 rfl (sd 1 rfl)
              have h102 : sa.eval (.tmp 102) = .string (str (V)) := sk.fact 3 102 rfl (sd 3 rfl)
              exact Runs.bin rfl h100 h102 (by rfl) (bin_eqs _ _ _) ⟨Ext.refl _, congrArg Value.bool (by simp)⟩
            · refine stepE rfl fun sdn sa sw sE sd sk => ?_
              have h103 : sa.eval (.tmp 103) = .bool (true) := sk.fact 4 103 rfl (sd 4 rfl)
              exact Runs.move rfl h103 ⟨Ext.refl _, rfl⟩
            · refine stepY (j := 5) (d := 104) (b := true) rfl rfl rfl (fun v w h => h) fun sdn sa sw sE sd sk => ?_
              have h13 : sa.eval (.tmp 13) = .bool (vb) := sk.old 13 rfl
              exact Runs.move rfl h13 ⟨Ext.refl _, rfl⟩
            · refine stepY (j := 5) (d := 104) (b := true) rfl rfl rfl (fun v w h => h) fun sdn sa sw sE sd sk => ?_
              have h15 : sa.eval (.tmp 15) = .bool (vb) := sk.old 15 rfl
              exact Runs.move rfl h15 ⟨Ext.refl _, rfl⟩
            · refine stepY (j := 5) (d := 104) (b := true) rfl rfl rfl (fun v w h => h) fun sdn sa sw sE sd sk => ?_
              have h105 : sa.eval (.tmp 105) = .bool (vb) := sk.fact 6 105 rfl (sd 6 rfl)
              have h106 : sa.eval (.tmp 106) = .bool (vb) := sk.fact 7 106 rfl (sd 7 rfl)
              exact Runs.bin rfl h105 h106 (by rfl) (bin_eqb _ _) ⟨Ext.refl _, congrArg Value.bool (by simp)⟩
            · refine stepE rfl fun sdn sa sw sE sd sk => ?_
              have h104 : sa.eval (.tmp 104) = .bool (true) := sk.fact 5 104 rfl (sd 5 rfl)
              have h107 : sa.eval (.tmp 107) = .bool (true) := sk.fact 8 107 rfl (sd 8 rfl)
              exact Runs.pick rfl h104 ⟨Ext.refl _, by first | exact h107 | simpa using h107⟩
            · refine stepE rfl fun sdn sa sw sE sd sk => ?_
              have h108 : sa.eval (.tmp 108) = .bool (true) := sk.fact 9 108 rfl (sd 9 rfl)
              exact Runs.move rfl h108 ⟨Ext.refl _, rfl⟩
            · refine stepY (j := 10) (d := 109) (b := true) rfl rfl rfl (fun v w h => h) fun sdn sa sw sE sd sk => ?_
              have h16 : sa.eval (.tmp 16) = .slice (A3) (n3) (c3) := sk.old 16 rfl
              exact Runs.move rfl h16 ⟨Ext.refl _, rfl⟩
            · refine stepY (j := 10) (d := 109) (b := true) rfl rfl rfl (fun v w h => h) fun sdn sa sw sE sd sk => ?_
              have h110 : sa.eval (.tmp 110) = .slice (A3) (n3) (c3) := sk.fact 11 110 rfl (sd 11 rfl)
              exact Runs.conv rfl h110 (run_str (q3.ext sE)) ⟨Ext.refl _, rfl⟩
            · refine stepY (j := 10) (d := 109) (b := true) rfl rfl rfl (fun v w h => h) fun sdn sa sw sE sd sk => ?_
              have h18 : sa.eval (.tmp 18) = .slice (A4) (n4) (c4) := sk.old 18 rfl
              exact Runs.move rfl h18 ⟨Ext.refl _, rfl⟩
            · refine stepY (j := 10) (d := 109) (b := true) rfl rfl rfl (fun v w h => h) fun sdn sa sw sE sd sk => ?_
              have h112 : sa.eval (.tmp 112) = .slice (A4) (n4) (c4) := sk.fact 13 112 rfl (sd 13 rfl)
              exact Runs.conv rfl h112 (run_str (q4.ext sE)) ⟨Ext.refl _, rfl⟩
            · refine stepY (j := 10) (d := 109) (b := true) rfl rfl rfl (fun v w h => h) fun sdn sa sw sE sd sk => ?_
              have h111 : sa.eval (.tmp 111) = .string (str (U)) := sk.fact 12 111 rfl (sd 12 rfl)
              have h113 : sa.eval (.tmp 113) = .string (str (U)) := sk.fact 14 113 rfl (sd 14 rfl)
              exact Runs.bin rfl h111 h113 (by rfl) (bin_eqs _ _ _) ⟨Ext.refl _, congrArg Value.bool (by simp)⟩
            · refine stepE rfl fun sdn sa sw sE sd sk => ?_
              have h109 : sa.eval (.tmp 109) = .bool (true) := sk.fact 10 109 rfl (sd 10 rfl)
              have h114 : sa.eval (.tmp 114) = .bool (true) := sk.fact 15 114 rfl (sd 15 rfl)
              exact Runs.pick rfl h109 ⟨Ext.refl _, by first | exact h114 | simpa using h114⟩
            · refine stepE rfl fun sdn sa sw sE sd sk => ?_
              have h115 : sa.eval (.tmp 115) = .bool (true) := sk.fact 16 115 rfl (sd 16 rfl)
              exact Runs.move rfl h115 ⟨Ext.refl _, rfl⟩
            · refine stepY (j := 17) (d := 116) (b := true) rfl rfl rfl (fun v w h => h) fun sdn sa sw sE sd sk => ?_
              have h17 : sa.eval (.tmp 17) = .bool (ub') := sk.old 17 rfl
              exact Runs.move rfl h17 ⟨Ext.refl _, rfl⟩
            · refine stepY (j := 17) (d := 116) (b := true) rfl rfl rfl (fun v w h => h) fun sdn sa sw sE sd sk => ?_
              have h19 : sa.eval (.tmp 19) = .bool (ub') := sk.old 19 rfl
              exact Runs.move rfl h19 ⟨Ext.refl _, rfl⟩
            · refine stepY (j := 17) (d := 116) (b := true) rfl rfl rfl (fun v w h => h) fun sdn sa sw sE sd sk => ?_
              have h117 : sa.eval (.tmp 117) = .bool (ub') := sk.fact 18 117 rfl (sd 18 rfl)
              have h118 : sa.eval (.tmp 118) = .bool (ub') := sk.fact 19 118 rfl (sd 19 rfl)
              exact Runs.bin rfl h117 h118 (by rfl) (bin_eqb _ _) ⟨Ext.refl _, congrArg Value.bool (by simp)⟩
            · refine stepE rfl fun sdn sa sw sE sd sk => ?_
              have h116 : sa.eval (.tmp 116) = .bool (true) := sk.fact 17 116 rfl (sd 17 rfl)
              have h119 : sa.eval (.tmp 119) = .bool (true) := sk.fact 20 119 rfl (sd 20 rfl)
              exact Runs.pick rfl h116 ⟨Ext.refl _, by first | exact h119 | simpa using h119⟩
            · refine stepE rfl fun sdn sa sw sE sd sk => ?_
              have h120 : sa.eval (.tmp 120) = .bool (true) := sk.fact 21 120 rfl (sd 21 rfl)
              exact Runs.move rfl h120 ⟨Ext.refl _, rfl⟩
            · refine stepY (j := 22) (d := 121) (b := true) rfl rfl rfl (fun v w h => h) fun sdn sa sw sE sd sk => ?_
              refine Runs.call (f := 40) (vs := []) rfl rfl rfl (by simp only [List.map_toArray, List.map_cons, List.map_nil] <;> rfl) (ent40 _ _) ((known4_any sw).mono ?_); rintro e w' ⟨rfl, hx⟩; exact ⟨_, rfl, hx, rfl⟩
            · refine stepE rfl fun sdn sa sw sE sd sk => ?_
              have h121 : sa.eval (.tmp 121) = .bool (true) := sk.fact 22 121 rfl (sd 22 rfl)
              have h122 : sa.eval (.tmp 122) = .bool (true) := sk.fact 23 122 rfl (sd 23 rfl)
              exact Runs.pick rfl h121 ⟨Ext.refl _, by first | exact h122 | simpa using h122⟩
            · refine stepE rfl fun sdn sa sw sE sd sk => ?_
              have h123 : sa.eval (.tmp 123) = .bool (true) := sk.fact 24 123 rfl (sd 24 rfl)
              exact Runs.assign rfl h123 ⟨Ext.refl _, rfl⟩
            intro vals W9 hE hv
            have e0 : vals 0 = .slice (A1) (n1) (c1) := hv 0 (by omega) 99 rfl
            have e1 : vals 1 = .string (str (V)) := hv 1 (by omega) 100 rfl
            have e2 : vals 2 = .slice (A2) (n2) (c2) := hv 2 (by omega) 101 rfl
            have e3 : vals 3 = .string (str (V)) := hv 3 (by omega) 102 rfl
            have e4 : vals 4 = .bool (true) := hv 4 (by omega) 103 rfl
            have e5 : vals 5 = .bool (true) := hv 5 (by omega) 104 rfl
            have e6 : vals 6 = .bool (vb) := hv 6 (by omega) 105 rfl
            have e7 : vals 7 = .bool (vb) := hv 7 (by omega) 106 rfl
            have e8 : vals 8 = .bool (true) := hv 8 (by omega) 107 rfl
            have e9 : vals 9 = .bool (true) := hv 9 (by omega) 108 rfl
            have e10 : vals 10 = .bool (true) := hv 10 (by omega) 109 rfl
            have e11 : vals 11 = .slice (A3) (n3) (c3) := hv 11 (by omega) 110 rfl
            have e12 : vals 12 = .string (str (U)) := hv 12 (by omega) 111 rfl
            have e13 : vals 13 = .slice (A4) (n4) (c4) := hv 13 (by omega) 112 rfl
            have e14 : vals 14 = .string (str (U)) := hv 14 (by omega) 113 rfl
            have e15 : vals 15 = .bool (true) := hv 15 (by omega) 114 rfl
            have e16 : vals 16 = .bool (true) := hv 16 (by omega) 115 rfl
            have e17 : vals 17 = .bool (true) := hv 17 (by omega) 116 rfl
            have e18 : vals 18 = .bool (ub') := hv 18 (by omega) 117 rfl
            have e19 : vals 19 = .bool (ub') := hv 19 (by omega) 118 rfl
            have e20 : vals 20 = .bool (true) := hv 20 (by omega) 119 rfl
            have e21 : vals 21 = .bool (true) := hv 21 (by omega) 120 rfl
            have e22 : vals 22 = .bool (true) := hv 22 (by omega) 121 rfl
            have e23 : vals 23 = .bool (true) := hv 23 (by omega) 122 rfl
            have e24 : vals 24 = .bool (true) := hv 24 (by omega) 123 rfl
            have e25 : vals 25 = .bool (true) := hv 25 (by omega) 8 rfl
            simp only [putAll, Act.put, List.take_succ_cons, List.take_zero, List.drop_succ_cons, List.drop_zero, List.drop_nil, List.take_nil, Nat.reduceAdd, List.setIfInBounds_toArray, List.set_cons_succ, List.set_cons_zero, e0, e1, e2, e3, e4, e5, e6, e7, e8, e9, e10, e11, e12, e13, e14, e15, e16, e17, e18, e19, e20, e21, e22, e23, e24, e25]
            clear hv e0 e1 e2 e3 e4 e5 e6 e7 e8 e9 e10 e11 e12 e13 e14 e15 e16 e17 e18 e19 e20 e21 e22 e23 e24 e25
            go_wp2_with fail
            go_ret
            exact ⟨rfl, hE6.trans hE⟩
        · skip
          obtain ⟨b7, hb7⟩ : ∃ b7, decide (Int.tmod size 7 = 0) = b7 := ⟨_, rfl⟩
          have Hb7 := Lib.hid hb7
          clear hb7
          go_upto_region 10 with (fail)
          refine seq_ext (n := 3) (by kernel_rfl) [.is (.int .i64 (size)), .is (.int .i64 (Int.tmod size 7)), .is (.bool (b7))] rfl ⟨?_, ?_, ?_, trivial⟩ ?_
          · refine stepE rfl fun sdn sa sw sE sd sk => ?_
            have h3 : sa.eval (.tmp 3) = .int .i64 (size) := sk.old 3 rfl
            exact Runs.move rfl h3 ⟨Ext.refl _, rfl⟩
          · refine stepE rfl fun sdn sa sw sE sd sk => ?_
            have h64 : sa.eval (.tmp 64) = .int .i64 (size) := sk.fact 0 64 rfl (sd 0 rfl)
            exact Runs.bin rfl h64 rfl (eqGuard_bin rfl) (bin_rem7 _ size hs0 hs1) ⟨Ext.refl _, rfl⟩
          · refine stepE rfl fun sdn sa sw sE sd sk => ?_
            have h65 : sa.eval (.tmp 65) = .int .i64 (Int.tmod size 7) := sk.fact 1 65 rfl (sd 1 rfl)
            exact Runs.bin rfl h65 rfl (by rfl) (bin_eql _ _ _ _) ⟨Ext.refl _, congrArg Value.bool Hb7.out⟩
          intro vals w10 hE10 hv10
          have e0 : vals 0 = .int .i64 (size) := hv10 0 (by omega) 64 rfl
          have e1 : vals 1 = .int .i64 (Int.tmod size 7) := hv10 1 (by omega) 65 rfl
          have e2 : vals 2 = .bool (b7) := hv10 2 (by omega) 66 rfl
          simp only [putAll, Act.put, List.take_succ_cons, List.take_zero, List.drop_succ_cons, List.drop_zero, List.drop_nil, List.take_nil, Nat.reduceAdd, List.setIfInBounds_toArray, List.set_cons_succ, List.set_cons_zero, e0, e1, e2]
          clear hv10 e0 e1 e2
          cases b7 with
          | true =>
            obtain ⟨jx, hjx⟩ : ∃ jx : Nat, within size 0 64 = jx := ⟨_, (Int.toNat_of_nonneg (within_in size 0 64 (by omega)).1).symm⟩
            have hjx64 : jx ≤ 64 := by have := (within_in size 0 64 (by omega)).2; omega
            have hwi := within_any size 0 64 w10 hs0 hs1 (by omega) (by omega) (by omega)
            rw [hjx] at hwi
            have Hwi := Lib.hid hwi
            clear hwi hjx
            have rl := (rl0.take hjx64).ext hE10
            have hEw := hE10
            have hrd := rl0.room
            have hcd := rl0.cap
            unfold maxLen at hcd
            obtain ⟨LL, hLL⟩ : ∃ LL, LL = LT.take jx := ⟨_, rfl⟩
            rw [← hLL] at rl
            clear hLL rl0 hE10
            go_wp2_with fail
            refine Hwi.out.mono ?_
            rintro e w11 ⟨rfl, rfl⟩
            clear Hwi
            have hEr1 := hEr.trans hEw
            have rM9 := rMr.ext hEw
            go_wp2_with fail
            refine (root_uni B _ m e' _ d M LL _ rM9 (by omega) rl).mono ?_
            rintro e w1 ⟨A1, n1, c1, rfl, q1, hF1⟩
            go_wp2_with fail
            refine (r4root_uni B _ m e' _ d M LL w1 (rM9.ext hF1) (by omega) (rl.ext hF1)).mono ?_
            rintro e w2 ⟨A2, n2, c2, rfl, q2, hF2⟩
            have hF12 := hF1.trans hF2
            have rM2 := rM9.ext hF12
            have hEr2 := hEr1.trans hF12
            go_wp2_with fail
            refine (Hfew.out w2 hEr2).mono ?_
            rintro e w3 ⟨P3, d3, rfl, own3, hF3⟩
            go_wp2_with fail
            refine (root_uni B _ m e' _ d3 M _ w3 (rM2.ext hF3) (by omega) own3.rbb).mono ?_
            rintro e w4 ⟨A3, n3, c3, rfl, q3, hF4⟩
            have hF34 := hF3.trans hF4
            go_wp2_with fail
            refine (Hfew.out w4 (hEr2.trans hF34)).mono ?_
            rintro e w5 ⟨P5, d5, rfl, own5, hF5⟩
            have hF35 := hF34.trans hF5
            go_wp2_with fail
            refine (r4root_uni B _ m e' _ d5 M _ w5 (rM2.ext hF35) (by omega) own5.rbb).mono ?_
            rintro e w6 ⟨A4, n4, c4, rfl, q4, hF6⟩
            have hF36 := hF35.trans hF6
            have hE6 := hEr2.trans hF36
            have q1 := (q1.ext hF2).ext hF36
            have q2 := q2.ext hF36
            have q3 := q3.ext (hF5.trans hF6)
            clear own3 own5 rl rM9 rM2 rMr hF1 hF2 hF3 hF4 hF5 hF6 hF12 hF34 hF35 hF36 hEr1 hEr2 hEr hEw Hfew
            obtain ⟨V, hV⟩ : ∃ V, V = rootW M LL := ⟨_, rfl⟩
            obtain ⟨U, hU⟩ : ∃ U, U = rootW M (fewL 100 (Ls.take 100)) := ⟨_, rfl⟩
            obtain ⟨vb, hvb⟩ : ∃ vb, vb = rootB LL := ⟨_, rfl⟩
            obtain ⟨ub', hub⟩ : ∃ ub', ub' = rootB (fewL 100 (Ls.take 100)) := ⟨_, rfl⟩
            rw [← hV] at q1 q2
            rw [← hU] at q3 q4
            rw [← hvb, ← hub]
            clear hV hU hvb hub
            go_upto_region 16 with (fail)
            refine seq_ext (n := 26) (by kernel_rfl) [.is (.slice (A1) (n1) (c1)), .is (.string (str (V))), .is (.slice (A2) (n2) (c2)), .is (.string (str (V))), .is (.bool (true)), .is (.bool (true)), .is (.bool (vb)), .is (.bool (vb)), .is (.bool (true)), .is (.bool (true)), .is (.bool (true)), .is (.slice (A3) (n3) (c3)), .is (.string (str (U))), .is (.slice (A4) (n4) (c4)), .is (.string (str (U))), .is (.bool (true)), .is (.bool (true)), .is (.bool (true)), .is (.bool (ub')), .is (.bool (ub')), .is (.bool (true)), .is (.bool (true)), .is (.bool (true)), .is (.bool (true)), .is (.bool (true)), .is (.bool (true))] rfl ⟨?_, ?_, ?_, ?_, ?_, ?_, ?_, ?_, ?_, ?_, ?_, ?_, ?_, ?_, ?_, ?_, ?_, ?_, ?_, ?_, ?_, ?_, ?_, ?_, ?_, ?_, trivial⟩ ?_
            · refine stepE rfl fun sdn sa sw sE sd sk => ?_
              have h12 : sa.eval (.tmp 12) = .slice (A1) (n1) (c1) := sk.old 12 rfl
              exact Runs.move rfl h12 ⟨Ext.refl _, rfl⟩
            · refine stepE rfl fun sdn sa sw sE sd sk => ?_
              have h99 : sa.eval (.tmp 99) = .slice (A1) (n1) (c1) := sk.fact 0 99 rfl (sd 0 rfl)
              exact Runs.conv rfl h99 (run_str (q1.ext sE)) ⟨Ext.refl _, rfl⟩
            · refine stepE rfl fun sdn sa sw sE sd sk => ?_
              have h14 : sa.eval (.tmp 14) = .slice (A2) (n2) (c2) := sk.old 14 rfl
              exact Runs.move rfl h14 ⟨Ext.refl _, rfl⟩
            · refine stepE rfl fun sdn sa sw sE sd sk => ?_
              have h101 : sa.eval (.tmp 101) = .slice (A2) (n2) (c2) := sk.fact 2 101 rfl (sd 2 rfl)
              exact Runs.conv rfl h101 (run_str (q2.ext sE)) ⟨Ext.refl _, rfl⟩
            · refine stepE rfl fun sdn sa sw sE sd sk => ?_
              have h100 : sa.eval (.tmp 100) = .string (str (V)) := sk.fact 1 100 rfl (sd 1 rfl)
              have h102 : sa.eval (.tmp 102) = .string (str (V)) := sk.fact 3 102 rfl (sd 3 rfl)
              exact Runs.bin rfl h100 h102 (by rfl) (bin_eqs _ _ _) ⟨Ext.refl _, congrArg Value.bool (by simp)⟩
            · refine stepE rfl fun sdn sa sw sE sd sk => ?_
              have h103 : sa.eval (.tmp 103) = .bool (true) := sk.fact 4 103 rfl (sd 4 rfl)
              exact Runs.move rfl h103 ⟨Ext.refl _, rfl⟩
            · refine stepY (j := 5) (d := 104) (b := true) rfl rfl rfl (fun v w h => h) fun sdn sa sw sE sd sk => ?_
              have h13 : sa.eval (.tmp 13) = .bool (vb) := sk.old 13 rfl
              exact Runs.move rfl h13 ⟨Ext.refl _, rfl⟩
            · refine stepY (j := 5) (d := 104) (b := true) rfl rfl rfl (fun v w h => h) fun sdn sa sw sE sd sk => ?_
              have h15 : sa.eval (.tmp 15) = .bool (vb) := sk.old 15 rfl
              exact Runs.move rfl h15 ⟨Ext.refl _, rfl⟩
            · refine stepY (j := 5) (d := 104) (b := true) rfl rfl rfl (fun v w h => h) fun sdn sa sw sE sd sk => ?_
              have h105 : sa.eval (.tmp 105) = .bool (vb) := sk.fact 6 105 rfl (sd 6 rfl)
              have h106 : sa.eval (.tmp 106) = .bool (vb) := sk.fact 7 106 rfl (sd 7 rfl)
              exact Runs.bin rfl h105 h106 (by rfl) (bin_eqb _ _) ⟨Ext.refl _, congrArg Value.bool (by simp)⟩
            · refine stepE rfl fun sdn sa sw sE sd sk => ?_
              have h104 : sa.eval (.tmp 104) = .bool (true) := sk.fact 5 104 rfl (sd 5 rfl)
              have h107 : sa.eval (.tmp 107) = .bool (true) := sk.fact 8 107 rfl (sd 8 rfl)
              exact Runs.pick rfl h104 ⟨Ext.refl _, by first | exact h107 | simpa using h107⟩
            · refine stepE rfl fun sdn sa sw sE sd sk => ?_
              have h108 : sa.eval (.tmp 108) = .bool (true) := sk.fact 9 108 rfl (sd 9 rfl)
              exact Runs.move rfl h108 ⟨Ext.refl _, rfl⟩
            · refine stepY (j := 10) (d := 109) (b := true) rfl rfl rfl (fun v w h => h) fun sdn sa sw sE sd sk => ?_
              have h16 : sa.eval (.tmp 16) = .slice (A3) (n3) (c3) := sk.old 16 rfl
              exact Runs.move rfl h16 ⟨Ext.refl _, rfl⟩
            · refine stepY (j := 10) (d := 109) (b := true) rfl rfl rfl (fun v w h => h) fun sdn sa sw sE sd sk => ?_
              have h110 : sa.eval (.tmp 110) = .slice (A3) (n3) (c3) := sk.fact 11 110 rfl (sd 11 rfl)
              exact Runs.conv rfl h110 (run_str (q3.ext sE)) ⟨Ext.refl _, rfl⟩
            · refine stepY (j := 10) (d := 109) (b := true) rfl rfl rfl (fun v w h => h) fun sdn sa sw sE sd sk => ?_
              have h18 : sa.eval (.tmp 18) = .slice (A4) (n4) (c4) := sk.old 18 rfl
              exact Runs.move rfl h18 ⟨Ext.refl _, rfl⟩
            · refine stepY (j := 10) (d := 109) (b := true) rfl rfl rfl (fun v w h => h) fun sdn sa sw sE sd sk => ?_
              have h112 : sa.eval (.tmp 112) = .slice (A4) (n4) (c4) := sk.fact 13 112 rfl (sd 13 rfl)
              exact Runs.conv rfl h112 (run_str (q4.ext sE)) ⟨Ext.refl _, rfl⟩
            · refine stepY (j := 10) (d := 109) (b := true) rfl rfl rfl (fun v w h => h) fun sdn sa sw sE sd sk => ?_
              have h111 : sa.eval (.tmp 111) = .string (str (U)) := sk.fact 12 111 rfl (sd 12 rfl)
              have h113 : sa.eval (.tmp 113) = .string (str (U)) := sk.fact 14 113 rfl (sd 14 rfl)
              exact Runs.bin rfl h111 h113 (by rfl) (bin_eqs _ _ _) ⟨Ext.refl _, congrArg Value.bool (by simp)⟩
            · refine stepE rfl fun sdn sa sw sE sd sk => ?_
              have h109 : sa.eval (.tmp 109) = .bool (true) := sk.fact 10 109 rfl (sd 10 rfl)
              have h114 : sa.eval (.tmp 114) = .bool (true) := sk.fact 15 114 rfl (sd 15 rfl)
              exact Runs.pick rfl h109 ⟨Ext.refl _, by first | exact h114 | simpa using h114⟩
            · refine stepE rfl fun sdn sa sw sE sd sk => ?_
              have h115 : sa.eval (.tmp 115) = .bool (true) := sk.fact 16 115 rfl (sd 16 rfl)
              exact Runs.move rfl h115 ⟨Ext.refl _, rfl⟩
            · refine stepY (j := 17) (d := 116) (b := true) rfl rfl rfl (fun v w h => h) fun sdn sa sw sE sd sk => ?_
              have h17 : sa.eval (.tmp 17) = .bool (ub') := sk.old 17 rfl
              exact Runs.move rfl h17 ⟨Ext.refl _, rfl⟩
            · refine stepY (j := 17) (d := 116) (b := true) rfl rfl rfl (fun v w h => h) fun sdn sa sw sE sd sk => ?_
              have h19 : sa.eval (.tmp 19) = .bool (ub') := sk.old 19 rfl
              exact Runs.move rfl h19 ⟨Ext.refl _, rfl⟩
            · refine stepY (j := 17) (d := 116) (b := true) rfl rfl rfl (fun v w h => h) fun sdn sa sw sE sd sk => ?_
              have h117 : sa.eval (.tmp 117) = .bool (ub') := sk.fact 18 117 rfl (sd 18 rfl)
              have h118 : sa.eval (.tmp 118) = .bool (ub') := sk.fact 19 118 rfl (sd 19 rfl)
              exact Runs.bin rfl h117 h118 (by rfl) (bin_eqb _ _) ⟨Ext.refl _, congrArg Value.bool (by simp)⟩
            · refine stepE rfl fun sdn sa sw sE sd sk => ?_
              have h116 : sa.eval (.tmp 116) = .bool (true) := sk.fact 17 116 rfl (sd 17 rfl)
              have h119 : sa.eval (.tmp 119) = .bool (true) := sk.fact 20 119 rfl (sd 20 rfl)
              exact Runs.pick rfl h116 ⟨Ext.refl _, by first | exact h119 | simpa using h119⟩
            · refine stepE rfl fun sdn sa sw sE sd sk => ?_
              have h120 : sa.eval (.tmp 120) = .bool (true) := sk.fact 21 120 rfl (sd 21 rfl)
              exact Runs.move rfl h120 ⟨Ext.refl _, rfl⟩
            · refine stepY (j := 22) (d := 121) (b := true) rfl rfl rfl (fun v w h => h) fun sdn sa sw sE sd sk => ?_
              refine Runs.call (f := 40) (vs := []) rfl rfl rfl (by simp only [List.map_toArray, List.map_cons, List.map_nil] <;> rfl) (ent40 _ _) ((known4_any sw).mono ?_); rintro e w' ⟨rfl, hx⟩; exact ⟨_, rfl, hx, rfl⟩
            · refine stepE rfl fun sdn sa sw sE sd sk => ?_
              have h121 : sa.eval (.tmp 121) = .bool (true) := sk.fact 22 121 rfl (sd 22 rfl)
              have h122 : sa.eval (.tmp 122) = .bool (true) := sk.fact 23 122 rfl (sd 23 rfl)
              exact Runs.pick rfl h121 ⟨Ext.refl _, by first | exact h122 | simpa using h122⟩
            · refine stepE rfl fun sdn sa sw sE sd sk => ?_
              have h123 : sa.eval (.tmp 123) = .bool (true) := sk.fact 24 123 rfl (sd 24 rfl)
              exact Runs.assign rfl h123 ⟨Ext.refl _, rfl⟩
            intro vals W9 hE hv
            have e0 : vals 0 = .slice (A1) (n1) (c1) := hv 0 (by omega) 99 rfl
            have e1 : vals 1 = .string (str (V)) := hv 1 (by omega) 100 rfl
            have e2 : vals 2 = .slice (A2) (n2) (c2) := hv 2 (by omega) 101 rfl
            have e3 : vals 3 = .string (str (V)) := hv 3 (by omega) 102 rfl
            have e4 : vals 4 = .bool (true) := hv 4 (by omega) 103 rfl
            have e5 : vals 5 = .bool (true) := hv 5 (by omega) 104 rfl
            have e6 : vals 6 = .bool (vb) := hv 6 (by omega) 105 rfl
            have e7 : vals 7 = .bool (vb) := hv 7 (by omega) 106 rfl
            have e8 : vals 8 = .bool (true) := hv 8 (by omega) 107 rfl
            have e9 : vals 9 = .bool (true) := hv 9 (by omega) 108 rfl
            have e10 : vals 10 = .bool (true) := hv 10 (by omega) 109 rfl
            have e11 : vals 11 = .slice (A3) (n3) (c3) := hv 11 (by omega) 110 rfl
            have e12 : vals 12 = .string (str (U)) := hv 12 (by omega) 111 rfl
            have e13 : vals 13 = .slice (A4) (n4) (c4) := hv 13 (by omega) 112 rfl
            have e14 : vals 14 = .string (str (U)) := hv 14 (by omega) 113 rfl
            have e15 : vals 15 = .bool (true) := hv 15 (by omega) 114 rfl
            have e16 : vals 16 = .bool (true) := hv 16 (by omega) 115 rfl
            have e17 : vals 17 = .bool (true) := hv 17 (by omega) 116 rfl
            have e18 : vals 18 = .bool (ub') := hv 18 (by omega) 117 rfl
            have e19 : vals 19 = .bool (ub') := hv 19 (by omega) 118 rfl
            have e20 : vals 20 = .bool (true) := hv 20 (by omega) 119 rfl
            have e21 : vals 21 = .bool (true) := hv 21 (by omega) 120 rfl
            have e22 : vals 22 = .bool (true) := hv 22 (by omega) 121 rfl
            have e23 : vals 23 = .bool (true) := hv 23 (by omega) 122 rfl
            have e24 : vals 24 = .bool (true) := hv 24 (by omega) 123 rfl
            have e25 : vals 25 = .bool (true) := hv 25 (by omega) 8 rfl
            simp only [putAll, Act.put, List.take_succ_cons, List.take_zero, List.drop_succ_cons, List.drop_zero, List.drop_nil, List.take_nil, Nat.reduceAdd, List.setIfInBounds_toArray, List.set_cons_succ, List.set_cons_zero, e0, e1, e2, e3, e4, e5, e6, e7, e8, e9, e10, e11, e12, e13, e14, e15, e16, e17, e18, e19, e20, e21, e22, e23, e24, e25]
            clear hv e0 e1 e2 e3 e4 e5 e6 e7 e8 e9 e10 e11 e12 e13 e14 e15 e16 e17 e18 e19 e20 e21 e22 e23 e24 e25
            go_wp2_with fail
            go_ret
            exact ⟨rfl, hE6.trans hE⟩
          | false =>
            have rl := rl0.ext hE10
            have hEw := hE10
            obtain ⟨LL, hLL⟩ : ∃ LL, LL = LT := ⟨_, rfl⟩
            rw [← hLL] at rl
            clear hLL rl0 hE10
            have hEr1 := hEr.trans hEw
            have rM9 := rMr.ext hEw
            go_wp2_with fail
            refine (root_uni B _ m e' _ d M LL _ rM9 (by omega) rl).mono ?_
            rintro e w1 ⟨A1, n1, c1, rfl, q1, hF1⟩
            go_wp2_with fail
            refine (r4root_uni B _ m e' _ d M LL w1 (rM9.ext hF1) (by omega) (rl.ext hF1)).mono ?_
            rintro e w2 ⟨A2, n2, c2, rfl, q2, hF2⟩
            have hF12 := hF1.trans hF2
            have rM2 := rM9.ext hF12
            have hEr2 := hEr1.trans hF12
            go_wp2_with fail
            refine (Hfew.out w2 hEr2).mono ?_
            rintro e w3 ⟨P3, d3, rfl, own3, hF3⟩
            go_wp2_with fail
            refine (root_uni B _ m e' _ d3 M _ w3 (rM2.ext hF3) (by omega) own3.rbb).mono ?_
            rintro e w4 ⟨A3, n3, c3, rfl, q3, hF4⟩
            have hF34 := hF3.trans hF4
            go_wp2_with fail
            refine (Hfew.out w4 (hEr2.trans hF34)).mono ?_
            rintro e w5 ⟨P5, d5, rfl, own5, hF5⟩
            have hF35 := hF34.trans hF5
            go_wp2_with fail
            refine (r4root_uni B _ m e' _ d5 M _ w5 (rM2.ext hF35) (by omega) own5.rbb).mono ?_
            rintro e w6 ⟨A4, n4, c4, rfl, q4, hF6⟩
            have hF36 := hF35.trans hF6
            have hE6 := hEr2.trans hF36
            have q1 := (q1.ext hF2).ext hF36
            have q2 := q2.ext hF36
            have q3 := q3.ext (hF5.trans hF6)
            clear own3 own5 rl rM9 rM2 rMr hF1 hF2 hF3 hF4 hF5 hF6 hF12 hF34 hF35 hF36 hEr1 hEr2 hEr hEw Hfew
            obtain ⟨V, hV⟩ : ∃ V, V = rootW M LL := ⟨_, rfl⟩
            obtain ⟨U, hU⟩ : ∃ U, U = rootW M (fewL 100 (Ls.take 100)) := ⟨_, rfl⟩
            obtain ⟨vb, hvb⟩ : ∃ vb, vb = rootB LL := ⟨_, rfl⟩
            obtain ⟨ub', hub⟩ : ∃ ub', ub' = rootB (fewL 100 (Ls.take 100)) := ⟨_, rfl⟩
            rw [← hV] at q1 q2
            rw [← hU] at q3 q4
            rw [← hvb, ← hub]
            clear hV hU hvb hub
            go_upto_region 16 with (fail)
            refine seq_ext (n := 26) (by kernel_rfl) [.is (.slice (A1) (n1) (c1)), .is (.string (str (V))), .is (.slice (A2) (n2) (c2)), .is (.string (str (V))), .is (.bool (true)), .is (.bool (true)), .is (.bool (vb)), .is (.bool (vb)), .is (.bool (true)), .is (.bool (true)), .is (.bool (true)), .is (.slice (A3) (n3) (c3)), .is (.string (str (U))), .is (.slice (A4) (n4) (c4)), .is (.string (str (U))), .is (.bool (true)), .is (.bool (true)), .is (.bool (true)), .is (.bool (ub')), .is (.bool (ub')), .is (.bool (true)), .is (.bool (true)), .is (.bool (true)), .is (.bool (true)), .is (.bool (true)), .is (.bool (true))] rfl ⟨?_, ?_, ?_, ?_, ?_, ?_, ?_, ?_, ?_, ?_, ?_, ?_, ?_, ?_, ?_, ?_, ?_, ?_, ?_, ?_, ?_, ?_, ?_, ?_, ?_, ?_, trivial⟩ ?_
            · refine stepE rfl fun sdn sa sw sE sd sk => ?_
              have h12 : sa.eval (.tmp 12) = .slice (A1) (n1) (c1) := sk.old 12 rfl
              exact Runs.move rfl h12 ⟨Ext.refl _, rfl⟩
            · refine stepE rfl fun sdn sa sw sE sd sk => ?_
              have h99 : sa.eval (.tmp 99) = .slice (A1) (n1) (c1) := sk.fact 0 99 rfl (sd 0 rfl)
              exact Runs.conv rfl h99 (run_str (q1.ext sE)) ⟨Ext.refl _, rfl⟩
            · refine stepE rfl fun sdn sa sw sE sd sk => ?_
              have h14 : sa.eval (.tmp 14) = .slice (A2) (n2) (c2) := sk.old 14 rfl
              exact Runs.move rfl h14 ⟨Ext.refl _, rfl⟩
            · refine stepE rfl fun sdn sa sw sE sd sk => ?_
              have h101 : sa.eval (.tmp 101) = .slice (A2) (n2) (c2) := sk.fact 2 101 rfl (sd 2 rfl)
              exact Runs.conv rfl h101 (run_str (q2.ext sE)) ⟨Ext.refl _, rfl⟩
            · refine stepE rfl fun sdn sa sw sE sd sk => ?_
              have h100 : sa.eval (.tmp 100) = .string (str (V)) := sk.fact 1 100 rfl (sd 1 rfl)
              have h102 : sa.eval (.tmp 102) = .string (str (V)) := sk.fact 3 102 rfl (sd 3 rfl)
              exact Runs.bin rfl h100 h102 (by rfl) (bin_eqs _ _ _) ⟨Ext.refl _, congrArg Value.bool (by simp)⟩
            · refine stepE rfl fun sdn sa sw sE sd sk => ?_
              have h103 : sa.eval (.tmp 103) = .bool (true) := sk.fact 4 103 rfl (sd 4 rfl)
              exact Runs.move rfl h103 ⟨Ext.refl _, rfl⟩
            · refine stepY (j := 5) (d := 104) (b := true) rfl rfl rfl (fun v w h => h) fun sdn sa sw sE sd sk => ?_
              have h13 : sa.eval (.tmp 13) = .bool (vb) := sk.old 13 rfl
              exact Runs.move rfl h13 ⟨Ext.refl _, rfl⟩
            · refine stepY (j := 5) (d := 104) (b := true) rfl rfl rfl (fun v w h => h) fun sdn sa sw sE sd sk => ?_
              have h15 : sa.eval (.tmp 15) = .bool (vb) := sk.old 15 rfl
              exact Runs.move rfl h15 ⟨Ext.refl _, rfl⟩
            · refine stepY (j := 5) (d := 104) (b := true) rfl rfl rfl (fun v w h => h) fun sdn sa sw sE sd sk => ?_
              have h105 : sa.eval (.tmp 105) = .bool (vb) := sk.fact 6 105 rfl (sd 6 rfl)
              have h106 : sa.eval (.tmp 106) = .bool (vb) := sk.fact 7 106 rfl (sd 7 rfl)
              exact Runs.bin rfl h105 h106 (by rfl) (bin_eqb _ _) ⟨Ext.refl _, congrArg Value.bool (by simp)⟩
            · refine stepE rfl fun sdn sa sw sE sd sk => ?_
              have h104 : sa.eval (.tmp 104) = .bool (true) := sk.fact 5 104 rfl (sd 5 rfl)
              have h107 : sa.eval (.tmp 107) = .bool (true) := sk.fact 8 107 rfl (sd 8 rfl)
              exact Runs.pick rfl h104 ⟨Ext.refl _, by first | exact h107 | simpa using h107⟩
            · refine stepE rfl fun sdn sa sw sE sd sk => ?_
              have h108 : sa.eval (.tmp 108) = .bool (true) := sk.fact 9 108 rfl (sd 9 rfl)
              exact Runs.move rfl h108 ⟨Ext.refl _, rfl⟩
            · refine stepY (j := 10) (d := 109) (b := true) rfl rfl rfl (fun v w h => h) fun sdn sa sw sE sd sk => ?_
              have h16 : sa.eval (.tmp 16) = .slice (A3) (n3) (c3) := sk.old 16 rfl
              exact Runs.move rfl h16 ⟨Ext.refl _, rfl⟩
            · refine stepY (j := 10) (d := 109) (b := true) rfl rfl rfl (fun v w h => h) fun sdn sa sw sE sd sk => ?_
              have h110 : sa.eval (.tmp 110) = .slice (A3) (n3) (c3) := sk.fact 11 110 rfl (sd 11 rfl)
              exact Runs.conv rfl h110 (run_str (q3.ext sE)) ⟨Ext.refl _, rfl⟩
            · refine stepY (j := 10) (d := 109) (b := true) rfl rfl rfl (fun v w h => h) fun sdn sa sw sE sd sk => ?_
              have h18 : sa.eval (.tmp 18) = .slice (A4) (n4) (c4) := sk.old 18 rfl
              exact Runs.move rfl h18 ⟨Ext.refl _, rfl⟩
            · refine stepY (j := 10) (d := 109) (b := true) rfl rfl rfl (fun v w h => h) fun sdn sa sw sE sd sk => ?_
              have h112 : sa.eval (.tmp 112) = .slice (A4) (n4) (c4) := sk.fact 13 112 rfl (sd 13 rfl)
              exact Runs.conv rfl h112 (run_str (q4.ext sE)) ⟨Ext.refl _, rfl⟩
            · refine stepY (j := 10) (d := 109) (b := true) rfl rfl rfl (fun v w h => h) fun sdn sa sw sE sd sk => ?_
              have h111 : sa.eval (.tmp 111) = .string (str (U)) := sk.fact 12 111 rfl (sd 12 rfl)
              have h113 : sa.eval (.tmp 113) = .string (str (U)) := sk.fact 14 113 rfl (sd 14 rfl)
              exact Runs.bin rfl h111 h113 (by rfl) (bin_eqs _ _ _) ⟨Ext.refl _, congrArg Value.bool (by simp)⟩
            · refine stepE rfl fun sdn sa sw sE sd sk => ?_
              have h109 : sa.eval (.tmp 109) = .bool (true) := sk.fact 10 109 rfl (sd 10 rfl)
              have h114 : sa.eval (.tmp 114) = .bool (true) := sk.fact 15 114 rfl (sd 15 rfl)
              exact Runs.pick rfl h109 ⟨Ext.refl _, by first | exact h114 | simpa using h114⟩
            · refine stepE rfl fun sdn sa sw sE sd sk => ?_
              have h115 : sa.eval (.tmp 115) = .bool (true) := sk.fact 16 115 rfl (sd 16 rfl)
              exact Runs.move rfl h115 ⟨Ext.refl _, rfl⟩
            · refine stepY (j := 17) (d := 116) (b := true) rfl rfl rfl (fun v w h => h) fun sdn sa sw sE sd sk => ?_
              have h17 : sa.eval (.tmp 17) = .bool (ub') := sk.old 17 rfl
              exact Runs.move rfl h17 ⟨Ext.refl _, rfl⟩
            · refine stepY (j := 17) (d := 116) (b := true) rfl rfl rfl (fun v w h => h) fun sdn sa sw sE sd sk => ?_
              have h19 : sa.eval (.tmp 19) = .bool (ub') := sk.old 19 rfl
              exact Runs.move rfl h19 ⟨Ext.refl _, rfl⟩
            · refine stepY (j := 17) (d := 116) (b := true) rfl rfl rfl (fun v w h => h) fun sdn sa sw sE sd sk => ?_
              have h117 : sa.eval (.tmp 117) = .bool (ub') := sk.fact 18 117 rfl (sd 18 rfl)
              have h118 : sa.eval (.tmp 118) = .bool (ub') := sk.fact 19 118 rfl (sd 19 rfl)
              exact Runs.bin rfl h117 h118 (by rfl) (bin_eqb _ _) ⟨Ext.refl _, congrArg Value.bool (by simp)⟩
            · refine stepE rfl fun sdn sa sw sE sd sk => ?_
              have h116 : sa.eval (.tmp 116) = .bool (true) := sk.fact 17 116 rfl (sd 17 rfl)
              have h119 : sa.eval (.tmp 119) = .bool (true) := sk.fact 20 119 rfl (sd 20 rfl)
              exact Runs.pick rfl h116 ⟨Ext.refl _, by first | exact h119 | simpa using h119⟩
            · refine stepE rfl fun sdn sa sw sE sd sk => ?_
              have h120 : sa.eval (.tmp 120) = .bool (true) := sk.fact 21 120 rfl (sd 21 rfl)
              exact Runs.move rfl h120 ⟨Ext.refl _, rfl⟩
            · refine stepY (j := 22) (d := 121) (b := true) rfl rfl rfl (fun v w h => h) fun sdn sa sw sE sd sk => ?_
              refine Runs.call (f := 40) (vs := []) rfl rfl rfl (by simp only [List.map_toArray, List.map_cons, List.map_nil] <;> rfl) (ent40 _ _) ((known4_any sw).mono ?_); rintro e w' ⟨rfl, hx⟩; exact ⟨_, rfl, hx, rfl⟩
            · refine stepE rfl fun sdn sa sw sE sd sk => ?_
              have h121 : sa.eval (.tmp 121) = .bool (true) := sk.fact 22 121 rfl (sd 22 rfl)
              have h122 : sa.eval (.tmp 122) = .bool (true) := sk.fact 23 122 rfl (sd 23 rfl)
              exact Runs.pick rfl h121 ⟨Ext.refl _, by first | exact h122 | simpa using h122⟩
            · refine stepE rfl fun sdn sa sw sE sd sk => ?_
              have h123 : sa.eval (.tmp 123) = .bool (true) := sk.fact 24 123 rfl (sd 24 rfl)
              exact Runs.assign rfl h123 ⟨Ext.refl _, rfl⟩
            intro vals W9 hE hv
            have e0 : vals 0 = .slice (A1) (n1) (c1) := hv 0 (by omega) 99 rfl
            have e1 : vals 1 = .string (str (V)) := hv 1 (by omega) 100 rfl
            have e2 : vals 2 = .slice (A2) (n2) (c2) := hv 2 (by omega) 101 rfl
            have e3 : vals 3 = .string (str (V)) := hv 3 (by omega) 102 rfl
            have e4 : vals 4 = .bool (true) := hv 4 (by omega) 103 rfl
            have e5 : vals 5 = .bool (true) := hv 5 (by omega) 104 rfl
            have e6 : vals 6 = .bool (vb) := hv 6 (by omega) 105 rfl
            have e7 : vals 7 = .bool (vb) := hv 7 (by omega) 106 rfl
            have e8 : vals 8 = .bool (true) := hv 8 (by omega) 107 rfl
            have e9 : vals 9 = .bool (true) := hv 9 (by omega) 108 rfl
            have e10 : vals 10 = .bool (true) := hv 10 (by omega) 109 rfl
            have e11 : vals 11 = .slice (A3) (n3) (c3) := hv 11 (by omega) 110 rfl
            have e12 : vals 12 = .string (str (U)) := hv 12 (by omega) 111 rfl
            have e13 : vals 13 = .slice (A4) (n4) (c4) := hv 13 (by omega) 112 rfl
            have e14 : vals 14 = .string (str (U)) := hv 14 (by omega) 113 rfl
            have e15 : vals 15 = .bool (true) := hv 15 (by omega) 114 rfl
            have e16 : vals 16 = .bool (true) := hv 16 (by omega) 115 rfl
            have e17 : vals 17 = .bool (true) := hv 17 (by omega) 116 rfl
            have e18 : vals 18 = .bool (ub') := hv 18 (by omega) 117 rfl
            have e19 : vals 19 = .bool (ub') := hv 19 (by omega) 118 rfl
            have e20 : vals 20 = .bool (true) := hv 20 (by omega) 119 rfl
            have e21 : vals 21 = .bool (true) := hv 21 (by omega) 120 rfl
            have e22 : vals 22 = .bool (true) := hv 22 (by omega) 121 rfl
            have e23 : vals 23 = .bool (true) := hv 23 (by omega) 122 rfl
            have e24 : vals 24 = .bool (true) := hv 24 (by omega) 123 rfl
            have e25 : vals 25 = .bool (true) := hv 25 (by omega) 8 rfl
            simp only [putAll, Act.put, List.take_succ_cons, List.take_zero, List.drop_succ_cons, List.drop_zero, List.drop_nil, List.take_nil, Nat.reduceAdd, List.setIfInBounds_toArray, List.set_cons_succ, List.set_cons_zero, e0, e1, e2, e3, e4, e5, e6, e7, e8, e9, e10, e11, e12, e13, e14, e15, e16, e17, e18, e19, e20, e21, e22, e23, e24, e25]
            clear hv e0 e1 e2 e3 e4 e5 e6 e7 e8 e9 e10 e11 e12 e13 e14 e15 e16 e17 e18 e19 e20 e21 e22 e23 e24 e25
            go_wp2_with fail
            go_ret
            exact ⟨rfl, hE6.trans hE⟩
      · skip
        obtain ⟨b7, hb7⟩ : ∃ b7, decide (Int.tmod size 7 = 0) = b7 := ⟨_, rfl⟩
        have Hb7 := Lib.hid hb7
        clear hb7
        go_upto_region 10 with (fail)
        refine seq_ext (n := 3) (by kernel_rfl) [.is (.int .i64 (size)), .is (.int .i64 (Int.tmod size 7)), .is (.bool (b7))] rfl ⟨?_, ?_, ?_, trivial⟩ ?_
        · refine stepE rfl fun sdn sa sw sE sd sk => ?_
          have h3 : sa.eval (.tmp 3) = .int .i64 (size) := sk.old 3 rfl
          exact Runs.move rfl h3 ⟨Ext.refl _, rfl⟩
        · refine stepE rfl fun sdn sa sw sE sd sk => ?_
          have h64 : sa.eval (.tmp 64) = .int .i64 (size) := sk.fact 0 64 rfl (sd 0 rfl)
          exact Runs.bin rfl h64 rfl (eqGuard_bin rfl) (bin_rem7 _ size hs0 hs1) ⟨Ext.refl _, rfl⟩
        · refine stepE rfl fun sdn sa sw sE sd sk => ?_
          have h65 : sa.eval (.tmp 65) = .int .i64 (Int.tmod size 7) := sk.fact 1 65 rfl (sd 1 rfl)
          exact Runs.bin rfl h65 rfl (by rfl) (bin_eql _ _ _ _) ⟨Ext.refl _, congrArg Value.bool Hb7.out⟩
        intro vals w10 hE10 hv10
        have e0 : vals 0 = .int .i64 (size) := hv10 0 (by omega) 64 rfl
        have e1 : vals 1 = .int .i64 (Int.tmod size 7) := hv10 1 (by omega) 65 rfl
        have e2 : vals 2 = .bool (b7) := hv10 2 (by omega) 66 rfl
        simp only [putAll, Act.put, List.take_succ_cons, List.take_zero, List.drop_succ_cons, List.drop_zero, List.drop_nil, List.take_nil, Nat.reduceAdd, List.setIfInBounds_toArray, List.set_cons_succ, List.set_cons_zero, e0, e1, e2]
        clear hv10 e0 e1 e2
        cases b7 with
        | true =>
          obtain ⟨jx, hjx⟩ : ∃ jx : Nat, within size 0 64 = jx := ⟨_, (Int.toNat_of_nonneg (within_in size 0 64 (by omega)).1).symm⟩
          have hjx64 : jx ≤ 64 := by have := (within_in size 0 64 (by omega)).2; omega
          have hwi := within_any size 0 64 w10 hs0 hs1 (by omega) (by omega) (by omega)
          rw [hjx] at hwi
          have Hwi := Lib.hid hwi
          clear hwi hjx
          have rl := (rl0.take hjx64).ext hE10
          have hEw := hE10
          have hrd := rl0.room
          have hcd := rl0.cap
          unfold maxLen at hcd
          obtain ⟨LL, hLL⟩ : ∃ LL, LL = LT.take jx := ⟨_, rfl⟩
          rw [← hLL] at rl
          clear hLL rl0 hE10
          go_wp2_with fail
          refine Hwi.out.mono ?_
          rintro e w11 ⟨rfl, rfl⟩
          clear Hwi
          have hEr1 := hEr.trans hEw
          have rM9 := rMr.ext hEw
          go_wp2_with fail
          refine (root_uni B _ m e' _ d M LL _ rM9 (by omega) rl).mono ?_
          rintro e w1 ⟨A1, n1, c1, rfl, q1, hF1⟩
          go_wp2_with fail
          refine (r4root_uni B _ m e' _ d M LL w1 (rM9.ext hF1) (by omega) (rl.ext hF1)).mono ?_
          rintro e w2 ⟨A2, n2, c2, rfl, q2, hF2⟩
          have hF12 := hF1.trans hF2
          have rM2 := rM9.ext hF12
          have hEr2 := hEr1.trans hF12
          go_wp2_with fail
          refine (Hfew.out w2 hEr2).mono ?_
          rintro e w3 ⟨P3, d3, rfl, own3, hF3⟩
          go_wp2_with fail
          refine (root_uni B _ m e' _ d3 M _ w3 (rM2.ext hF3) (by omega) own3.rbb).mono ?_
          rintro e w4 ⟨A3, n3, c3, rfl, q3, hF4⟩
          have hF34 := hF3.trans hF4
          go_wp2_with fail
          refine (Hfew.out w4 (hEr2.trans hF34)).mono ?_
          rintro e w5 ⟨P5, d5, rfl, own5, hF5⟩
          have hF35 := hF34.trans hF5
          go_wp2_with fail
          refine (r4root_uni B _ m e' _ d5 M _ w5 (rM2.ext hF35) (by omega) own5.rbb).mono ?_
          rintro e w6 ⟨A4, n4, c4, rfl, q4, hF6⟩
          have hF36 := hF35.trans hF6
          have hE6 := hEr2.trans hF36
          have q1 := (q1.ext hF2).ext hF36
          have q2 := q2.ext hF36
          have q3 := q3.ext (hF5.trans hF6)
          clear own3 own5 rl rM9 rM2 rMr hF1 hF2 hF3 hF4 hF5 hF6 hF12 hF34 hF35 hF36 hEr1 hEr2 hEr hEw Hfew
          obtain ⟨V, hV⟩ : ∃ V, V = rootW M LL := ⟨_, rfl⟩
          obtain ⟨U, hU⟩ : ∃ U, U = rootW M (fewL 100 (Ls.take 100)) := ⟨_, rfl⟩
          obtain ⟨vb, hvb⟩ : ∃ vb, vb = rootB LL := ⟨_, rfl⟩
          obtain ⟨ub', hub⟩ : ∃ ub', ub' = rootB (fewL 100 (Ls.take 100)) := ⟨_, rfl⟩
          rw [← hV] at q1 q2
          rw [← hU] at q3 q4
          rw [← hvb, ← hub]
          clear hV hU hvb hub
          go_upto_region 16 with (fail)
          refine seq_ext (n := 26) (by kernel_rfl) [.is (.slice (A1) (n1) (c1)), .is (.string (str (V))), .is (.slice (A2) (n2) (c2)), .is (.string (str (V))), .is (.bool (true)), .is (.bool (true)), .is (.bool (vb)), .is (.bool (vb)), .is (.bool (true)), .is (.bool (true)), .is (.bool (true)), .is (.slice (A3) (n3) (c3)), .is (.string (str (U))), .is (.slice (A4) (n4) (c4)), .is (.string (str (U))), .is (.bool (true)), .is (.bool (true)), .is (.bool (true)), .is (.bool (ub')), .is (.bool (ub')), .is (.bool (true)), .is (.bool (true)), .is (.bool (true)), .is (.bool (true)), .is (.bool (true)), .is (.bool (true))] rfl ⟨?_, ?_, ?_, ?_, ?_, ?_, ?_, ?_, ?_, ?_, ?_, ?_, ?_, ?_, ?_, ?_, ?_, ?_, ?_, ?_, ?_, ?_, ?_, ?_, ?_, ?_, trivial⟩ ?_
          · refine stepE rfl fun sdn sa sw sE sd sk => ?_
            have h12 : sa.eval (.tmp 12) = .slice (A1) (n1) (c1) := sk.old 12 rfl
            exact Runs.move rfl h12 ⟨Ext.refl _, rfl⟩
          · refine stepE rfl fun sdn sa sw sE sd sk => ?_
            have h99 : sa.eval (.tmp 99) = .slice (A1) (n1) (c1) := sk.fact 0 99 rfl (sd 0 rfl)
            exact Runs.conv rfl h99 (run_str (q1.ext sE)) ⟨Ext.refl _, rfl⟩
          · refine stepE rfl fun sdn sa sw sE sd sk => ?_
            have h14 : sa.eval (.tmp 14) = .slice (A2) (n2) (c2) := sk.old 14 rfl
            exact Runs.move rfl h14 ⟨Ext.refl _, rfl⟩
          · refine stepE rfl fun sdn sa sw sE sd sk => ?_
            have h101 : sa.eval (.tmp 101) = .slice (A2) (n2) (c2) := sk.fact 2 101 rfl (sd 2 rfl)
            exact Runs.conv rfl h101 (run_str (q2.ext sE)) ⟨Ext.refl _, rfl⟩
          · refine stepE rfl fun sdn sa sw sE sd sk => ?_
            have h100 : sa.eval (.tmp 100) = .string (str (V)) := sk.fact 1 100 rfl (sd 1 rfl)
            have h102 : sa.eval (.tmp 102) = .string (str (V)) := sk.fact 3 102 rfl (sd 3 rfl)
            exact Runs.bin rfl h100 h102 (by rfl) (bin_eqs _ _ _) ⟨Ext.refl _, congrArg Value.bool (by simp)⟩
          · refine stepE rfl fun sdn sa sw sE sd sk => ?_
            have h103 : sa.eval (.tmp 103) = .bool (true) := sk.fact 4 103 rfl (sd 4 rfl)
            exact Runs.move rfl h103 ⟨Ext.refl _, rfl⟩
          · refine stepY (j := 5) (d := 104) (b := true) rfl rfl rfl (fun v w h => h) fun sdn sa sw sE sd sk => ?_
            have h13 : sa.eval (.tmp 13) = .bool (vb) := sk.old 13 rfl
            exact Runs.move rfl h13 ⟨Ext.refl _, rfl⟩
          · refine stepY (j := 5) (d := 104) (b := true) rfl rfl rfl (fun v w h => h) fun sdn sa sw sE sd sk => ?_
            have h15 : sa.eval (.tmp 15) = .bool (vb) := sk.old 15 rfl
            exact Runs.move rfl h15 ⟨Ext.refl _, rfl⟩
          · refine stepY (j := 5) (d := 104) (b := true) rfl rfl rfl (fun v w h => h) fun sdn sa sw sE sd sk => ?_
            have h105 : sa.eval (.tmp 105) = .bool (vb) := sk.fact 6 105 rfl (sd 6 rfl)
            have h106 : sa.eval (.tmp 106) = .bool (vb) := sk.fact 7 106 rfl (sd 7 rfl)
            exact Runs.bin rfl h105 h106 (by rfl) (bin_eqb _ _) ⟨Ext.refl _, congrArg Value.bool (by simp)⟩
          · refine stepE rfl fun sdn sa sw sE sd sk => ?_
            have h104 : sa.eval (.tmp 104) = .bool (true) := sk.fact 5 104 rfl (sd 5 rfl)
            have h107 : sa.eval (.tmp 107) = .bool (true) := sk.fact 8 107 rfl (sd 8 rfl)
            exact Runs.pick rfl h104 ⟨Ext.refl _, by first | exact h107 | simpa using h107⟩
          · refine stepE rfl fun sdn sa sw sE sd sk => ?_
            have h108 : sa.eval (.tmp 108) = .bool (true) := sk.fact 9 108 rfl (sd 9 rfl)
            exact Runs.move rfl h108 ⟨Ext.refl _, rfl⟩
          · refine stepY (j := 10) (d := 109) (b := true) rfl rfl rfl (fun v w h => h) fun sdn sa sw sE sd sk => ?_
            have h16 : sa.eval (.tmp 16) = .slice (A3) (n3) (c3) := sk.old 16 rfl
            exact Runs.move rfl h16 ⟨Ext.refl _, rfl⟩
          · refine stepY (j := 10) (d := 109) (b := true) rfl rfl rfl (fun v w h => h) fun sdn sa sw sE sd sk => ?_
            have h110 : sa.eval (.tmp 110) = .slice (A3) (n3) (c3) := sk.fact 11 110 rfl (sd 11 rfl)
            exact Runs.conv rfl h110 (run_str (q3.ext sE)) ⟨Ext.refl _, rfl⟩
          · refine stepY (j := 10) (d := 109) (b := true) rfl rfl rfl (fun v w h => h) fun sdn sa sw sE sd sk => ?_
            have h18 : sa.eval (.tmp 18) = .slice (A4) (n4) (c4) := sk.old 18 rfl
            exact Runs.move rfl h18 ⟨Ext.refl _, rfl⟩
          · refine stepY (j := 10) (d := 109) (b := true) rfl rfl rfl (fun v w h => h) fun sdn sa sw sE sd sk => ?_
            have h112 : sa.eval (.tmp 112) = .slice (A4) (n4) (c4) := sk.fact 13 112 rfl (sd 13 rfl)
            exact Runs.conv rfl h112 (run_str (q4.ext sE)) ⟨Ext.refl _, rfl⟩
          · refine stepY (j := 10) (d := 109) (b := true) rfl rfl rfl (fun v w h => h) fun sdn sa sw sE sd sk => ?_
            have h111 : sa.eval (.tmp 111) = .string (str (U)) := sk.fact 12 111 rfl (sd 12 rfl)
            have h113 : sa.eval (.tmp 113) = .string (str (U)) := sk.fact 14 113 rfl (sd 14 rfl)
            exact Runs.bin rfl h111 h113 (by rfl) (bin_eqs _ _ _) ⟨Ext.refl _, congrArg Value.bool (by simp)⟩
          · refine stepE rfl fun sdn sa sw sE sd sk => ?_
            have h109 : sa.eval (.tmp 109) = .bool (true) := sk.fact 10 109 rfl (sd 10 rfl)
            have h114 : sa.eval (.tmp 114) = .bool (true) := sk.fact 15 114 rfl (sd 15 rfl)
            exact Runs.pick rfl h109 ⟨Ext.refl _, by first | exact h114 | simpa using h114⟩
          · refine stepE rfl fun sdn sa sw sE sd sk => ?_
            have h115 : sa.eval (.tmp 115) = .bool (true) := sk.fact 16 115 rfl (sd 16 rfl)
            exact Runs.move rfl h115 ⟨Ext.refl _, rfl⟩
          · refine stepY (j := 17) (d := 116) (b := true) rfl rfl rfl (fun v w h => h) fun sdn sa sw sE sd sk => ?_
            have h17 : sa.eval (.tmp 17) = .bool (ub') := sk.old 17 rfl
            exact Runs.move rfl h17 ⟨Ext.refl _, rfl⟩
          · refine stepY (j := 17) (d := 116) (b := true) rfl rfl rfl (fun v w h => h) fun sdn sa sw sE sd sk => ?_
            have h19 : sa.eval (.tmp 19) = .bool (ub') := sk.old 19 rfl
            exact Runs.move rfl h19 ⟨Ext.refl _, rfl⟩
          · refine stepY (j := 17) (d := 116) (b := true) rfl rfl rfl (fun v w h => h) fun sdn sa sw sE sd sk => ?_
            have h117 : sa.eval (.tmp 117) = .bool (ub') := sk.fact 18 117 rfl (sd 18 rfl)
            have h118 : sa.eval (.tmp 118) = .bool (ub') := sk.fact 19 118 rfl (sd 19 rfl)
            exact Runs.bin rfl h117 h118 (by rfl) (bin_eqb _ _) ⟨Ext.refl _, congrArg Value.bool (by simp)⟩
          · refine stepE rfl fun sdn sa sw sE sd sk => ?_
            have h116 : sa.eval (.tmp 116) = .bool (true) := sk.fact 17 116 rfl (sd 17 rfl)
            have h119 : sa.eval (.tmp 119) = .bool (true) := sk.fact 20 119 rfl (sd 20 rfl)
            exact Runs.pick rfl h116 ⟨Ext.refl _, by first | exact h119 | simpa using h119⟩
          · refine stepE rfl fun sdn sa sw sE sd sk => ?_
            have h120 : sa.eval (.tmp 120) = .bool (true) := sk.fact 21 120 rfl (sd 21 rfl)
            exact Runs.move rfl h120 ⟨Ext.refl _, rfl⟩
          · refine stepY (j := 22) (d := 121) (b := true) rfl rfl rfl (fun v w h => h) fun sdn sa sw sE sd sk => ?_
            refine Runs.call (f := 40) (vs := []) rfl rfl rfl (by simp only [List.map_toArray, List.map_cons, List.map_nil] <;> rfl) (ent40 _ _) ((known4_any sw).mono ?_); rintro e w' ⟨rfl, hx⟩; exact ⟨_, rfl, hx, rfl⟩
          · refine stepE rfl fun sdn sa sw sE sd sk => ?_
            have h121 : sa.eval (.tmp 121) = .bool (true) := sk.fact 22 121 rfl (sd 22 rfl)
            have h122 : sa.eval (.tmp 122) = .bool (true) := sk.fact 23 122 rfl (sd 23 rfl)
            exact Runs.pick rfl h121 ⟨Ext.refl _, by first | exact h122 | simpa using h122⟩
          · refine stepE rfl fun sdn sa sw sE sd sk => ?_
            have h123 : sa.eval (.tmp 123) = .bool (true) := sk.fact 24 123 rfl (sd 24 rfl)
            exact Runs.assign rfl h123 ⟨Ext.refl _, rfl⟩
          intro vals W9 hE hv
          have e0 : vals 0 = .slice (A1) (n1) (c1) := hv 0 (by omega) 99 rfl
          have e1 : vals 1 = .string (str (V)) := hv 1 (by omega) 100 rfl
          have e2 : vals 2 = .slice (A2) (n2) (c2) := hv 2 (by omega) 101 rfl
          have e3 : vals 3 = .string (str (V)) := hv 3 (by omega) 102 rfl
          have e4 : vals 4 = .bool (true) := hv 4 (by omega) 103 rfl
          have e5 : vals 5 = .bool (true) := hv 5 (by omega) 104 rfl
          have e6 : vals 6 = .bool (vb) := hv 6 (by omega) 105 rfl
          have e7 : vals 7 = .bool (vb) := hv 7 (by omega) 106 rfl
          have e8 : vals 8 = .bool (true) := hv 8 (by omega) 107 rfl
          have e9 : vals 9 = .bool (true) := hv 9 (by omega) 108 rfl
          have e10 : vals 10 = .bool (true) := hv 10 (by omega) 109 rfl
          have e11 : vals 11 = .slice (A3) (n3) (c3) := hv 11 (by omega) 110 rfl
          have e12 : vals 12 = .string (str (U)) := hv 12 (by omega) 111 rfl
          have e13 : vals 13 = .slice (A4) (n4) (c4) := hv 13 (by omega) 112 rfl
          have e14 : vals 14 = .string (str (U)) := hv 14 (by omega) 113 rfl
          have e15 : vals 15 = .bool (true) := hv 15 (by omega) 114 rfl
          have e16 : vals 16 = .bool (true) := hv 16 (by omega) 115 rfl
          have e17 : vals 17 = .bool (true) := hv 17 (by omega) 116 rfl
          have e18 : vals 18 = .bool (ub') := hv 18 (by omega) 117 rfl
          have e19 : vals 19 = .bool (ub') := hv 19 (by omega) 118 rfl
          have e20 : vals 20 = .bool (true) := hv 20 (by omega) 119 rfl
          have e21 : vals 21 = .bool (true) := hv 21 (by omega) 120 rfl
          have e22 : vals 22 = .bool (true) := hv 22 (by omega) 121 rfl
          have e23 : vals 23 = .bool (true) := hv 23 (by omega) 122 rfl
          have e24 : vals 24 = .bool (true) := hv 24 (by omega) 123 rfl
          have e25 : vals 25 = .bool (true) := hv 25 (by omega) 8 rfl
          simp only [putAll, Act.put, List.take_succ_cons, List.take_zero, List.drop_succ_cons, List.drop_zero, List.drop_nil, List.take_nil, Nat.reduceAdd, List.setIfInBounds_toArray, List.set_cons_succ, List.set_cons_zero, e0, e1, e2, e3, e4, e5, e6, e7, e8, e9, e10, e11, e12, e13, e14, e15, e16, e17, e18, e19, e20, e21, e22, e23, e24, e25]
          clear hv e0 e1 e2 e3 e4 e5 e6 e7 e8 e9 e10 e11 e12 e13 e14 e15 e16 e17 e18 e19 e20 e21 e22 e23 e24 e25
          go_wp2_with fail
          go_ret
          exact ⟨rfl, hE6.trans hE⟩
        | false =>
          have rl := rl0.ext hE10
          have hEw := hE10
          obtain ⟨LL, hLL⟩ : ∃ LL, LL = LT := ⟨_, rfl⟩
          rw [← hLL] at rl
          clear hLL rl0 hE10
          have hEr1 := hEr.trans hEw
          have rM9 := rMr.ext hEw
          go_wp2_with fail
          refine (root_uni B _ m e' _ d M LL _ rM9 (by omega) rl).mono ?_
          rintro e w1 ⟨A1, n1, c1, rfl, q1, hF1⟩
          go_wp2_with fail
          refine (r4root_uni B _ m e' _ d M LL w1 (rM9.ext hF1) (by omega) (rl.ext hF1)).mono ?_
          rintro e w2 ⟨A2, n2, c2, rfl, q2, hF2⟩
          have hF12 := hF1.trans hF2
          have rM2 := rM9.ext hF12
          have hEr2 := hEr1.trans hF12
          go_wp2_with fail
          refine (Hfew.out w2 hEr2).mono ?_
          rintro e w3 ⟨P3, d3, rfl, own3, hF3⟩
          go_wp2_with fail
          refine (root_uni B _ m e' _ d3 M _ w3 (rM2.ext hF3) (by omega) own3.rbb).mono ?_
          rintro e w4 ⟨A3, n3, c3, rfl, q3, hF4⟩
          have hF34 := hF3.trans hF4
          go_wp2_with fail
          refine (Hfew.out w4 (hEr2.trans hF34)).mono ?_
          rintro e w5 ⟨P5, d5, rfl, own5, hF5⟩
          have hF35 := hF34.trans hF5
          go_wp2_with fail
          refine (r4root_uni B _ m e' _ d5 M _ w5 (rM2.ext hF35) (by omega) own5.rbb).mono ?_
          rintro e w6 ⟨A4, n4, c4, rfl, q4, hF6⟩
          have hF36 := hF35.trans hF6
          have hE6 := hEr2.trans hF36
          have q1 := (q1.ext hF2).ext hF36
          have q2 := q2.ext hF36
          have q3 := q3.ext (hF5.trans hF6)
          clear own3 own5 rl rM9 rM2 rMr hF1 hF2 hF3 hF4 hF5 hF6 hF12 hF34 hF35 hF36 hEr1 hEr2 hEr hEw Hfew
          obtain ⟨V, hV⟩ : ∃ V, V = rootW M LL := ⟨_, rfl⟩
          obtain ⟨U, hU⟩ : ∃ U, U = rootW M (fewL 100 (Ls.take 100)) := ⟨_, rfl⟩
          obtain ⟨vb, hvb⟩ : ∃ vb, vb = rootB LL := ⟨_, rfl⟩
          obtain ⟨ub', hub⟩ : ∃ ub', ub' = rootB (fewL 100 (Ls.take 100)) := ⟨_, rfl⟩
          rw [← hV] at q1 q2
          rw [← hU] at q3 q4
          rw [← hvb, ← hub]
          clear hV hU hvb hub
          go_upto_region 16 with (fail)
          refine seq_ext (n := 26) (by kernel_rfl) [.is (.slice (A1) (n1) (c1)), .is (.string (str (V))), .is (.slice (A2) (n2) (c2)), .is (.string (str (V))), .is (.bool (true)), .is (.bool (true)), .is (.bool (vb)), .is (.bool (vb)), .is (.bool (true)), .is (.bool (true)), .is (.bool (true)), .is (.slice (A3) (n3) (c3)), .is (.string (str (U))), .is (.slice (A4) (n4) (c4)), .is (.string (str (U))), .is (.bool (true)), .is (.bool (true)), .is (.bool (true)), .is (.bool (ub')), .is (.bool (ub')), .is (.bool (true)), .is (.bool (true)), .is (.bool (true)), .is (.bool (true)), .is (.bool (true)), .is (.bool (true))] rfl ⟨?_, ?_, ?_, ?_, ?_, ?_, ?_, ?_, ?_, ?_, ?_, ?_, ?_, ?_, ?_, ?_, ?_, ?_, ?_, ?_, ?_, ?_, ?_, ?_, ?_, ?_, trivial⟩ ?_
          · refine stepE rfl fun sdn sa sw sE sd sk => ?_
            have h12 : sa.eval (.tmp 12) = .slice (A1) (n1) (c1) := sk.old 12 rfl
            exact Runs.move rfl h12 ⟨Ext.refl _, rfl⟩
          · refine stepE rfl fun sdn sa sw sE sd sk => ?_
            have h99 : sa.eval (.tmp 99) = .slice (A1) (n1) (c1) := sk.fact 0 99 rfl (sd 0 rfl)
            exact Runs.conv rfl h99 (run_str (q1.ext sE)) ⟨Ext.refl _, rfl⟩
          · refine stepE rfl fun sdn sa sw sE sd sk => ?_
            have h14 : sa.eval (.tmp 14) = .slice (A2) (n2) (c2) := sk.old 14 rfl
            exact Runs.move rfl h14 ⟨Ext.refl _, rfl⟩
          · refine stepE rfl fun sdn sa sw sE sd sk => ?_
            have h101 : sa.eval (.tmp 101) = .slice (A2) (n2) (c2) := sk.fact 2 101 rfl (sd 2 rfl)
            exact Runs.conv rfl h101 (run_str (q2.ext sE)) ⟨Ext.refl _, rfl⟩
          · refine stepE rfl fun sdn sa sw sE sd sk => ?_
            have h100 : sa.eval (.tmp 100) = .string (str (V)) := sk.fact 1 100 rfl (sd 1 rfl)
            have h102 : sa.eval (.tmp 102) = .string (str (V)) := sk.fact 3 102 rfl (sd 3 rfl)
            exact Runs.bin rfl h100 h102 (by rfl) (bin_eqs _ _ _) ⟨Ext.refl _, congrArg Value.bool (by simp)⟩
          · refine stepE rfl fun sdn sa sw sE sd sk => ?_
            have h103 : sa.eval (.tmp 103) = .bool (true) := sk.fact 4 103 rfl (sd 4 rfl)
            exact Runs.move rfl h103 ⟨Ext.refl _, rfl⟩
          · refine stepY (j := 5) (d := 104) (b := true) rfl rfl rfl (fun v w h => h) fun sdn sa sw sE sd sk => ?_
            have h13 : sa.eval (.tmp 13) = .bool (vb) := sk.old 13 rfl
            exact Runs.move rfl h13 ⟨Ext.refl _, rfl⟩
          · refine stepY (j := 5) (d := 104) (b := true) rfl rfl rfl (fun v w h => h) fun sdn sa sw sE sd sk => ?_
            have h15 : sa.eval (.tmp 15) = .bool (vb) := sk.old 15 rfl
            exact Runs.move rfl h15 ⟨Ext.refl _, rfl⟩
          · refine stepY (j := 5) (d := 104) (b := true) rfl rfl rfl (fun v w h => h) fun sdn sa sw sE sd sk => ?_
            have h105 : sa.eval (.tmp 105) = .bool (vb) := sk.fact 6 105 rfl (sd 6 rfl)
            have h106 : sa.eval (.tmp 106) = .bool (vb) := sk.fact 7 106 rfl (sd 7 rfl)
            exact Runs.bin rfl h105 h106 (by rfl) (bin_eqb _ _) ⟨Ext.refl _, congrArg Value.bool (by simp)⟩
          · refine stepE rfl fun sdn sa sw sE sd sk => ?_
            have h104 : sa.eval (.tmp 104) = .bool (true) := sk.fact 5 104 rfl (sd 5 rfl)
            have h107 : sa.eval (.tmp 107) = .bool (true) := sk.fact 8 107 rfl (sd 8 rfl)
            exact Runs.pick rfl h104 ⟨Ext.refl _, by first | exact h107 | simpa using h107⟩
          · refine stepE rfl fun sdn sa sw sE sd sk => ?_
            have h108 : sa.eval (.tmp 108) = .bool (true) := sk.fact 9 108 rfl (sd 9 rfl)
            exact Runs.move rfl h108 ⟨Ext.refl _, rfl⟩
          · refine stepY (j := 10) (d := 109) (b := true) rfl rfl rfl (fun v w h => h) fun sdn sa sw sE sd sk => ?_
            have h16 : sa.eval (.tmp 16) = .slice (A3) (n3) (c3) := sk.old 16 rfl
            exact Runs.move rfl h16 ⟨Ext.refl _, rfl⟩
          · refine stepY (j := 10) (d := 109) (b := true) rfl rfl rfl (fun v w h => h) fun sdn sa sw sE sd sk => ?_
            have h110 : sa.eval (.tmp 110) = .slice (A3) (n3) (c3) := sk.fact 11 110 rfl (sd 11 rfl)
            exact Runs.conv rfl h110 (run_str (q3.ext sE)) ⟨Ext.refl _, rfl⟩
          · refine stepY (j := 10) (d := 109) (b := true) rfl rfl rfl (fun v w h => h) fun sdn sa sw sE sd sk => ?_
            have h18 : sa.eval (.tmp 18) = .slice (A4) (n4) (c4) := sk.old 18 rfl
            exact Runs.move rfl h18 ⟨Ext.refl _, rfl⟩
          · refine stepY (j := 10) (d := 109) (b := true) rfl rfl rfl (fun v w h => h) fun sdn sa sw sE sd sk => ?_
            have h112 : sa.eval (.tmp 112) = .slice (A4) (n4) (c4) := sk.fact 13 112 rfl (sd 13 rfl)
            exact Runs.conv rfl h112 (run_str (q4.ext sE)) ⟨Ext.refl _, rfl⟩
          · refine stepY (j := 10) (d := 109) (b := true) rfl rfl rfl (fun v w h => h) fun sdn sa sw sE sd sk => ?_
            have h111 : sa.eval (.tmp 111) = .string (str (U)) := sk.fact 12 111 rfl (sd 12 rfl)
            have h113 : sa.eval (.tmp 113) = .string (str (U)) := sk.fact 14 113 rfl (sd 14 rfl)
            exact Runs.bin rfl h111 h113 (by rfl) (bin_eqs _ _ _) ⟨Ext.refl _, congrArg Value.bool (by simp)⟩
          · refine stepE rfl fun sdn sa sw sE sd sk => ?_
            have h109 : sa.eval (.tmp 109) = .bool (true) := sk.fact 10 109 rfl (sd 10 rfl)
            have h114 : sa.eval (.tmp 114) = .bool (true) := sk.fact 15 114 rfl (sd 15 rfl)
            exact Runs.pick rfl h109 ⟨Ext.refl _, by first | exact h114 | simpa using h114⟩
          · refine stepE rfl fun sdn sa sw sE sd sk => ?_
            have h115 : sa.eval (.tmp 115) = .bool (true) := sk.fact 16 115 rfl (sd 16 rfl)
            exact Runs.move rfl h115 ⟨Ext.refl _, rfl⟩
          · refine stepY (j := 17) (d := 116) (b := true) rfl rfl rfl (fun v w h => h) fun sdn sa sw sE sd sk => ?_
            have h17 : sa.eval (.tmp 17) = .bool (ub') := sk.old 17 rfl
            exact Runs.move rfl h17 ⟨Ext.refl _, rfl⟩
          · refine stepY (j := 17) (d := 116) (b := true) rfl rfl rfl (fun v w h => h) fun sdn sa sw sE sd sk => ?_
            have h19 : sa.eval (.tmp 19) = .bool (ub') := sk.old 19 rfl
            exact Runs.move rfl h19 ⟨Ext.refl _, rfl⟩
          · refine stepY (j := 17) (d := 116) (b := true) rfl rfl rfl (fun v w h => h) fun sdn sa sw sE sd sk => ?_
            have h117 : sa.eval (.tmp 117) = .bool (ub') := sk.fact 18 117 rfl (sd 18 rfl)
            have h118 : sa.eval (.tmp 118) = .bool (ub') := sk.fact 19 118 rfl (sd 19 rfl)
            exact Runs.bin rfl h117 h118 (by rfl) (bin_eqb _ _) ⟨Ext.refl _, congrArg Value.bool (by simp)⟩
          · refine stepE rfl fun sdn sa sw sE sd sk => ?_
            have h116 : sa.eval (.tmp 116) = .bool (true) := sk.fact 17 116 rfl (sd 17 rfl)
            have h119 : sa.eval (.tmp 119) = .bool (true) := sk.fact 20 119 rfl (sd 20 rfl)
            exact Runs.pick rfl h116 ⟨Ext.refl _, by first | exact h119 | simpa using h119⟩
          · refine stepE rfl fun sdn sa sw sE sd sk => ?_
            have h120 : sa.eval (.tmp 120) = .bool (true) := sk.fact 21 120 rfl (sd 21 rfl)
            exact Runs.move rfl h120 ⟨Ext.refl _, rfl⟩
          · refine stepY (j := 22) (d := 121) (b := true) rfl rfl rfl (fun v w h => h) fun sdn sa sw sE sd sk => ?_
            refine Runs.call (f := 40) (vs := []) rfl rfl rfl (by simp only [List.map_toArray, List.map_cons, List.map_nil] <;> rfl) (ent40 _ _) ((known4_any sw).mono ?_); rintro e w' ⟨rfl, hx⟩; exact ⟨_, rfl, hx, rfl⟩
          · refine stepE rfl fun sdn sa sw sE sd sk => ?_
            have h121 : sa.eval (.tmp 121) = .bool (true) := sk.fact 22 121 rfl (sd 22 rfl)
            have h122 : sa.eval (.tmp 122) = .bool (true) := sk.fact 23 122 rfl (sd 23 rfl)
            exact Runs.pick rfl h121 ⟨Ext.refl _, by first | exact h122 | simpa using h122⟩
          · refine stepE rfl fun sdn sa sw sE sd sk => ?_
            have h123 : sa.eval (.tmp 123) = .bool (true) := sk.fact 24 123 rfl (sd 24 rfl)
            exact Runs.assign rfl h123 ⟨Ext.refl _, rfl⟩
          intro vals W9 hE hv
          have e0 : vals 0 = .slice (A1) (n1) (c1) := hv 0 (by omega) 99 rfl
          have e1 : vals 1 = .string (str (V)) := hv 1 (by omega) 100 rfl
          have e2 : vals 2 = .slice (A2) (n2) (c2) := hv 2 (by omega) 101 rfl
          have e3 : vals 3 = .string (str (V)) := hv 3 (by omega) 102 rfl
          have e4 : vals 4 = .bool (true) := hv 4 (by omega) 103 rfl
          have e5 : vals 5 = .bool (true) := hv 5 (by omega) 104 rfl
          have e6 : vals 6 = .bool (vb) := hv 6 (by omega) 105 rfl
          have e7 : vals 7 = .bool (vb) := hv 7 (by omega) 106 rfl
          have e8 : vals 8 = .bool (true) := hv 8 (by omega) 107 rfl
          have e9 : vals 9 = .bool (true) := hv 9 (by omega) 108 rfl
          have e10 : vals 10 = .bool (true) := hv 10 (by omega) 109 rfl
          have e11 : vals 11 = .slice (A3) (n3) (c3) := hv 11 (by omega) 110 rfl
          have e12 : vals 12 = .string (str (U)) := hv 12 (by omega) 111 rfl
          have e13 : vals 13 = .slice (A4) (n4) (c4) := hv 13 (by omega) 112 rfl
          have e14 : vals 14 = .string (str (U)) := hv 14 (by omega) 113 rfl
          have e15 : vals 15 = .bool (true) := hv 15 (by omega) 114 rfl
          have e16 : vals 16 = .bool (true) := hv 16 (by omega) 115 rfl
          have e17 : vals 17 = .bool (true) := hv 17 (by omega) 116 rfl
          have e18 : vals 18 = .bool (ub') := hv 18 (by omega) 117 rfl
          have e19 : vals 19 = .bool (ub') := hv 19 (by omega) 118 rfl
          have e20 : vals 20 = .bool (true) := hv 20 (by omega) 119 rfl
          have e21 : vals 21 = .bool (true) := hv 21 (by omega) 120 rfl
          have e22 : vals 22 = .bool (true) := hv 22 (by omega) 121 rfl
          have e23 : vals 23 = .bool (true) := hv 23 (by omega) 122 rfl
          have e24 : vals 24 = .bool (true) := hv 24 (by omega) 123 rfl
          have e25 : vals 25 = .bool (true) := hv 25 (by omega) 8 rfl
          simp only [putAll, Act.put, List.take_succ_cons, List.take_zero, List.drop_succ_cons, List.drop_zero, List.drop_nil, List.take_nil, Nat.reduceAdd, List.setIfInBounds_toArray, List.set_cons_succ, List.set_cons_zero, e0, e1, e2, e3, e4, e5, e6, e7, e8, e9, e10, e11, e12, e13, e14, e15, e16, e17, e18, e19, e20, e21, e22, e23, e24, e25]
          clear hv e0 e1 e2 e3 e4 e5 e6 e7 e8 e9 e10 e11 e12 e13 e14 e15 e16 e17 e18 e19 e20 e21 e22 e23 e24 e25
          go_wp2_with fail
          go_ret
          exact ⟨rfl, hE6.trans hE⟩
end Go.Proofs.Ytmgnigofilkfmaa
