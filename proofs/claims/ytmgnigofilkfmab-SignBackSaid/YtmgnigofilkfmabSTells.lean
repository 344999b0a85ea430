/-
  law5.SignTells, walked.
-/
import Derived.Test.YtmgnigofilkfmabEncG
import Derived.Test.YtmgnigofilkfmabCopy
namespace Go.Proofs.Ytmgnigofilkfmab
set_option maxRecDepth 100000
open Go Go.RowKit
/-- a signature that is read -/
def MP.sg (x : Int) (n m : Nat) (Ps Qs : List (List UInt8)) : MP Ext := ⟨fun u w => ∃ P d Q d', u = .agg #[.int .i64 x, .slice P n d, .slice Q m d'] ∧ RBB w P n d Ps ∧ RBB w Q m d' Qs, fun _ _ _ e ⟨P, d, Q, d', h1, h2, h3⟩ => ⟨P, d, Q, d', h1, h2.ext e, h3.ext e⟩⟩
set_option maxHeartbeats 16000000 in
theorem stells_law (A B D : Option Addr) (n c m e' md ed : Nat) (L Q R : List UInt8) (index : Int) (w : World) (hs : RB w A n c L) (hq : RB w B m e' Q) (hq2 : RB w D md ed R) (hi0 : -9223372036854775808 ≤ index) (hi1 : index ≤ 9223372036854775807) :
    Calls Try.prog 11 #[.slice A n c, .int .i64 index, .slice B m e', .slice D md ed] w fun e w' => e = .returned (.bool true) ∧ Ext w w' := by
  obtain ⟨k, hk⟩ : ∃ k : Nat, within index 0 15 = k := ⟨_, (Int.toNat_of_nonneg (within_in index 0 15 (by omega)).1).symm⟩
  have hk16 : k < 16 := by have := (within_in index 0 15 (by omega)).2; omega
  have hkin : 0 ≤ index → index < 16 → index = (k : Int) := by
    intro h1 h2
    rw [← hk]
    unfold within
    rw [if_pos ⟨h1, by omega⟩]
  have Hkin := Lib.hid hkin
  have hwi := fun w' => within_any index 0 15 w' hi0 hi1 (by omega) (by omega) (by omega)
  rw [hk] at hwi
  have Hwi := Lib.hid hwi
  have hsz := sized_any A n c 32 L w hs (by omega)
  have e32 : ((32 : Nat) : Int) = 32 := rfl
  rw [e32] at hsz
  have Hsz := Lib.hid hsz
  clear hwi hk hkin hsz e32
  go_enter Try.func11, Try.ntmps11
  go_wp2_with fail
  refine Hsz.out.mono ?_
  rintro e w1 ⟨rfl, own1, hE1⟩
  clear Hsz
  obtain ⟨A1, hA1⟩ : ∃ A1 : Option Addr, A1 = some ⟨w.heap.size, 0, none⟩ := ⟨_, rfl⟩
  rw [← hA1] at own1 ⊢
  clear hA1
  have rS1 := own1.rb
  generalize sizedL L 32 = S at *
  have e200 : ((200 : Nat) : Int) = 200 := rfl
  have e100 : ((100 : Nat) : Int) = 100 := rfl
  have hc1 := cut_any B m e' 200 Q w1 (hq.ext hE1) (by omega)
  have hc2 := cut_any D md ed 100 R w1 (hq2.ext hE1) (by omega)
  rw [e200] at hc1
  rw [e100] at hc2
  have Hc2 := Lib.hid hc2
  clear hc2 hq hq2 own1 hs
  go_wp2_with fail
  refine hc1.mono ?_
  rintro e w2 ⟨⟨rfl, rM⟩, rfl⟩
  clear hc1
  go_wp2_with fail
  refine Hc2.out.mono ?_
  rintro e w3 ⟨⟨rfl, rR⟩, rfl⟩
  clear Hc2 e200 e100
  have hm1 : min m 200 ≤ 200 := by omega
  have hm2 : min md 100 ≤ 100 := by omega
  generalize min m 200 = m at *
  generalize min md 100 = md at *
  generalize Q.take 200 = M at *
  generalize R.take 100 = M2 at *
  go_wp2_with fail
  refine (rnew_any A1 32 S _ rS1).mono ?_
  rintro e w4 ⟨g1, rfl, o1, hE4⟩
  go_wp2_with fail
  refine (Hwi.out _).mono ?_
  rintro e w5 ⟨rfl, rfl⟩
  clear Hwi
  have rS4 := rS1.ext hE4
  have rM4 := rM.ext hE4
  have rR4 := rR.ext hE4
  have hE14 := hE1.trans hE4
  clear rS1 rM rR hE1 hE4
  go_wp2_with fail
  refine (ssign_any A1 B 32 m e' k S M _ rS4 rM4 (by omega) hk16).mono ?_
  rintro e w6 ⟨P, d, Q', d', rfl, rPs, rQs, hE6⟩
  have hE7 := Ext.new w6 (.cells #[.int .i64 (k : Int), .slice P 64 d, .slice Q' 4 d'] 52)
  have hB7 := Blk.new w6 52 #[.int .i64 (k : Int), .slice P 64 d, .slice Q' 4 d']
  have hE67 := hE6.trans hE7
  have rS := rS4.ext hE67
  have rM := rM4.ext hE67
  have rR := rR4.ext hE67
  have o1 := o1.ext hE67
  have hEa := hE14.trans hE67
  have rPs := rPs.ext hE7
  have rQs := rQs.ext hE7
  clear rS4 rM4 rR4 hE14 hE67 hE6 hE7
  obtain ⟨PS, hPS⟩ : ∃ PS, PS = (List.range 64).map (partS (digestW M) S (k : Int)) := ⟨_, rfl⟩
  obtain ⟨QS, hQS⟩ : ∃ QS, QS = pathL S k := ⟨_, rfl⟩
  rw [← hPS] at rPs
  rw [← hQS] at rQs
  have HPS := Lib.hid hPS
  have HQS := Lib.hid hQS
  clear hPS hQS
  obtain ⟨w7, hw7⟩ : ∃ w7, w7 = w6.alloc (.cells #[.int .i64 (k : Int), .slice P 64 d, .slice Q' 4 d'] 52) := ⟨_, rfl⟩
  rw [← hw7] at rS rM rR o1 hEa rPs rQs hB7
  by_cases h0 : 0 ≤ index
  · by_cases h1 : index < 16
    · obtain rfl := Hkin.out h0 h1
      go_wp2_with fail
      rw [← hw7]
      clear hw7
      refine (ssign_any A1 B 32 m e' k S M _ rS rM (by omega) hk16).mono ?_
      rintro e w8 ⟨P8, d8, Q8, d8', rfl, rP8, rQ8, hE8⟩
      have hE9 := Ext.new w8 (.cells #[.int .i64 (k : Int), .slice P8 64 d8, .slice Q8 4 d8'] 52)
      have hB9 := Blk.new w8 52 #[.int .i64 (k : Int), .slice P8 64 d8, .slice Q8 4 d8']
      have hE79 := hE8.trans hE9
      have rS := rS.ext hE79
      have rM := rM.ext hE79
      have rR := rR.ext hE79
      have o1 := o1.ext hE79
      have hEa := hEa.trans hE79
      have rPs := rPs.ext hE79
      have rQs := rQs.ext hE79
      have hB7 := hB7.ext hE79
      clear hE8 hE9 hE79
      go_upto_region 6 with (fail)
      generalize w8.alloc (.cells #[.int .i64 (k : Int), .slice P8 64 d8, .slice Q8 4 d8'] 52) = w9 at *
      refine par_ext (n := 36) (by kernel_rfl) [.is (.int .i64 ((0 : Int))), .is (.bool (false)), .is (.bool (false)), .is (.agg #[.int .i64 (k : Int), .slice P 64 d, .slice Q' 4 d']), .is (.pointer (some ⟨g1, 0, none⟩)), .is (.int .i64 (((k : Nat) : Int))), .is (.slice (B) (m) (e')), .sg (k : Int) 64 4 PS QS, .is (.bool (true)), .is (.bool (false)), .is (.bool (false)), .is (.bool (false)), .is (.int .i64 ((0 : Int))), .is (.bool (true)), .is (.int .i64 (((k : Nat) : Int))), .is (.bool (true)), .is (.bool (true)), .is (.int .i64 (((k : Nat) : Int))), .is (.bool (true)), .is (.bool (true)), .is (.bool (false)), .is (.bool (false)), .is (.bool (false)), .is (.int .i64 ((0 : Int))), .is (.bool (false)), .is (.bool (false)), .is undef, .is undef, .is undef, .is undef, .is undef, .is undef, .is undef, .is undef, .is (.bool (false)), .is (.bool (false))] rfl ⟨?_, ?_, ?_, ?_, ?_, ?_, ?_, ?_, ?_, ?_, ?_, ?_, ?_, ?_, ?_, ?_, ?_, ?_, ?_, ?_, ?_, ?_, ?_, ?_, ?_, ?_, ?_, ?_, ?_, ?_, ?_, ?_, ?_, ?_, ?_, ?_, trivial⟩ ?_
      · refine stepE rfl fun sdn sa sw sE sd sk => ?_
        have h12 : sa.eval (.tmp 12) = .int .i64 ((0 : Int)) := sk.old 12 rfl
        exact Runs.move rfl h12 ⟨Ext.refl _, rfl⟩
      · refine stepE rfl fun sdn sa sw sE sd sk => ?_
        have h39 : sa.eval (.tmp 39) = .int .i64 ((0 : Int)) := sk.fact 0 39 rfl (sd 0 rfl)
        exact Runs.bin rfl h39 rfl (by rfl) (bin_neq _ _ _ _) ⟨Ext.refl _, congrArg Value.bool (by decide)⟩
      · refine stepE rfl fun sdn sa sw sE sd sk => ?_
        have h40 : sa.eval (.tmp 40) = .bool (false) := sk.fact 1 40 rfl (sd 1 rfl)
        exact Runs.move rfl h40 ⟨Ext.refl _, rfl⟩
      · refine stepY (j := 2) (d := 41) (b := false) rfl rfl rfl (fun v w h => h) fun sdn sa sw sE sd sk => ?_
        have h11 : sa.eval (.tmp 11) = .pointer (some ⟨w6.heap.size, 0, none⟩) := sk.old 11 rfl
        exact Runs.load rfl h11 (load_sig (hB7.ext sE)) ⟨Ext.refl _, rfl⟩
      · refine stepY (j := 2) (d := 41) (b := false) rfl rfl rfl (fun v w h => h) fun sdn sa sw sE sd sk => ?_
        have h9 : sa.eval (.tmp 9) = .pointer (some ⟨g1, 0, none⟩) := sk.old 9 rfl
        exact Runs.move rfl h9 ⟨Ext.refl _, rfl⟩
      · refine stepY (j := 2) (d := 41) (b := false) rfl rfl rfl (fun v w h => h) fun sdn sa sw sE sd sk => ?_
        have h10 : sa.eval (.tmp 10) = .int .i64 (((k : Nat) : Int)) := sk.old 10 rfl
        exact Runs.move rfl h10 ⟨Ext.refl _, rfl⟩
      · refine stepY (j := 2) (d := 41) (b := false) rfl rfl rfl (fun v w h => h) fun sdn sa sw sE sd sk => ?_
        have h2 : sa.eval (.tmp 2) = .slice (B) (m) (e') := sk.old 2 rfl
        exact Runs.move rfl h2 ⟨Ext.refl _, rfl⟩
      · refine stepY (j := 2) (d := 41) (b := false) rfl rfl rfl (fun v w h => h) fun sdn sa sw sE sd sk => ?_
        have h43 : sa.eval (.tmp 43) = .pointer (some ⟨g1, 0, none⟩) := sk.fact 4 43 rfl (sd 4 rfl)
        have h44 : sa.eval (.tmp 44) = .int .i64 (((k : Nat) : Int)) := sk.fact 5 44 rfl (sd 5 rfl)
        have h45 : sa.eval (.tmp 45) = .slice (B) (m) (e') := sk.fact 6 45 rfl (sd 6 rfl)
        refine Runs.call (f := 36) (vs := [.pointer (some ⟨g1, 0, none⟩), .int .i64 (((k : Nat) : Int)), .slice (B) (m) (e')]) rfl rfl rfl (by simp only [List.map_toArray, List.map_cons, List.map_nil, h43, h44, h45] <;> rfl) (ent36 _ _) ((rsign_any _ g1 _ _ _ k S M sw (o1.ext sE) (rM.ext sE) (by omega) (by omega)).mono ?_); rintro e w' ⟨P', d', Q', e', rfl, h1, h2, hx⟩; exact ⟨_, rfl, hx, P', d', Q', e', rfl, HPS.out.symm ▸ h1, HQS.out.symm ▸ h2⟩
      · refine stepY (j := 2) (d := 41) (b := false) rfl rfl rfl (fun v w h => h) fun sdn sa sw sE sd sk => ?_
        have h42 : sa.eval (.tmp 42) = .agg #[.int .i64 (k : Int), .slice P 64 d, .slice Q' 4 d'] := sk.fact 3 42 rfl (sd 3 rfl)
        obtain ⟨P46, d46, Q46, e46, h46, r46, q46⟩ := sk.fact 7 46 rfl (sd 7 rfl)
        refine Runs.call (f := 39) (vs := [.agg #[.int .i64 (k : Int), .slice P 64 d, .slice Q' 4 d'], .agg #[.int .i64 (k : Int), .slice P46 64 d46, .slice Q46 4 e46]]) rfl rfl rfl (by simp only [List.map_toArray, List.map_cons, List.map_nil, h42, h46] <;> rfl) (ent39 _ _) ((rsame_true _ _ _ _ _ _ _ _ _ _ _ _ _ _ _ sw (rPs.ext sE) (rQs.ext sE) r46 q46).mono ?_); rintro e w' ⟨rfl, hx⟩; exact ⟨_, rfl, hx, rfl⟩
      · refine stepY (j := 2) (d := 41) (b := false) rfl rfl rfl (fun v w h => h) fun sdn sa sw sE sd sk => ?_
        have h47 : sa.eval (.tmp 47) = .bool (true) := sk.fact 8 47 rfl (sd 8 rfl)
        exact Runs.un rfl h47 (by rfl) ⟨Ext.refl _, rfl⟩
      · refine stepE rfl fun sdn sa sw sE sd sk => ?_
        have h41 : sa.eval (.tmp 41) = .bool (false) := sk.fact 2 41 rfl (sd 2 rfl)
        have h48 : sa.eval (.tmp 48) = .bool (false) := sk.fact 9 48 rfl (sd 9 rfl)
        exact Runs.pick rfl h41 ⟨Ext.refl _, by first | exact h48 | simpa using h48⟩
      · refine stepE rfl fun sdn sa sw sE sd sk => ?_
        have h49 : sa.eval (.tmp 49) = .bool (false) := sk.fact 10 49 rfl (sd 10 rfl)
        exact Runs.move rfl h49 ⟨Ext.refl _, rfl⟩
      · refine stepY (j := 11) (d := 50) (b := false) rfl rfl rfl (fun v w h => h) fun sdn sa sw sE sd sk => ?_
        have h14 : sa.eval (.tmp 14) = .int .i64 ((0 : Int)) := sk.old 14 rfl
        exact Runs.move rfl h14 ⟨Ext.refl _, rfl⟩
      · refine stepY (j := 11) (d := 50) (b := false) rfl rfl rfl (fun v w h => h) fun sdn sa sw sE sd sk => ?_
        have h51 : sa.eval (.tmp 51) = .int .i64 ((0 : Int)) := sk.fact 12 51 rfl (sd 12 rfl)
        exact Runs.bin rfl h51 rfl (by rfl) (bin_eql _ _ _ _) ⟨Ext.refl _, congrArg Value.bool (by decide)⟩
      · refine stepY (j := 11) (d := 50) (b := false) rfl rfl rfl (fun v w h => h) fun sdn sa sw sE sd sk => ?_
        have h1 : sa.eval (.tmp 1) = .int .i64 (((k : Nat) : Int)) := sk.old 1 rfl
        exact Runs.move rfl h1 ⟨Ext.refl _, rfl⟩
      · refine stepY (j := 11) (d := 50) (b := false) rfl rfl rfl (fun v w h => h) fun sdn sa sw sE sd sk => ?_
        have h53 : sa.eval (.tmp 53) = .int .i64 (((k : Nat) : Int)) := sk.fact 14 53 rfl (sd 14 rfl)
        exact Runs.bin rfl h53 rfl (by rfl) (bin_geq _ _ _ _) ⟨Ext.refl _, congrArg Value.bool (decide_eq_true (by omega))⟩
      · refine stepY (j := 11) (d := 50) (b := false) rfl rfl rfl (fun v w h => h) fun sdn sa sw sE sd sk => ?_
        have h54 : sa.eval (.tmp 54) = .bool (true) := sk.fact 15 54 rfl (sd 15 rfl)
        exact Runs.move rfl h54 ⟨Ext.refl _, rfl⟩
      · refine stepY (j := 16) (d := 55) (b := true) rfl rfl rfl (fun v w h => h) fun sdn sa sw sE sd sk => ?_
        have h1 : sa.eval (.tmp 1) = .int .i64 (((k : Nat) : Int)) := sk.old 1 rfl
        exact Runs.move rfl h1 ⟨Ext.refl _, rfl⟩
      · refine stepY (j := 16) (d := 55) (b := true) rfl rfl rfl (fun v w h => h) fun sdn sa sw sE sd sk => ?_
        have h56 : sa.eval (.tmp 56) = .int .i64 (((k : Nat) : Int)) := sk.fact 17 56 rfl (sd 17 rfl)
        exact Runs.bin rfl h56 rfl (by rfl) (bin_lss _ _ _ _) ⟨Ext.refl _, congrArg Value.bool (decide_eq_true (by omega))⟩
      · refine stepY (j := 11) (d := 50) (b := false) rfl rfl rfl (fun v w h => h) fun sdn sa sw sE sd sk => ?_
        have h55 : sa.eval (.tmp 55) = .bool (true) := sk.fact 16 55 rfl (sd 16 rfl)
        have h57 : sa.eval (.tmp 57) = .bool (true) := sk.fact 18 57 rfl (sd 18 rfl)
        exact Runs.pick rfl h55 ⟨Ext.refl _, by first | exact h57 | simpa using h57⟩
      · refine stepY (j := 11) (d := 50) (b := false) rfl rfl rfl (fun v w h => h) fun sdn sa sw sE sd sk => ?_
        have h52 : sa.eval (.tmp 52) = .bool (true) := sk.fact 13 52 rfl (sd 13 rfl)
        have h58 : sa.eval (.tmp 58) = .bool (true) := sk.fact 19 58 rfl (sd 19 rfl)
        exact Runs.bin rfl h52 h58 (by rfl) (bin_neb _ _) ⟨Ext.refl _, congrArg Value.bool (by simp)⟩
      · refine stepE rfl fun sdn sa sw sE sd sk => ?_
        have h50 : sa.eval (.tmp 50) = .bool (false) := sk.fact 11 50 rfl (sd 11 rfl)
        have h59 : sa.eval (.tmp 59) = .bool (false) := sk.fact 20 59 rfl (sd 20 rfl)
        exact Runs.pick rfl h50 ⟨Ext.refl _, by first | exact h59 | simpa using h59⟩
      · refine stepE rfl fun sdn sa sw sE sd sk => ?_
        have h60 : sa.eval (.tmp 60) = .bool (false) := sk.fact 21 60 rfl (sd 21 rfl)
        exact Runs.move rfl h60 ⟨Ext.refl _, rfl⟩
      · refine stepY (j := 22) (d := 61) (b := false) rfl rfl rfl (fun v w h => h) fun sdn sa sw sE sd sk => ?_
        have h14 : sa.eval (.tmp 14) = .int .i64 ((0 : Int)) := sk.old 14 rfl
        exact Runs.move rfl h14 ⟨Ext.refl _, rfl⟩
      · refine stepY (j := 22) (d := 61) (b := false) rfl rfl rfl (fun v w h => h) fun sdn sa sw sE sd sk => ?_
        have h62 : sa.eval (.tmp 62) = .int .i64 ((0 : Int)) := sk.fact 23 62 rfl (sd 23 rfl)
        exact Runs.bin rfl h62 rfl (by rfl) (bin_neq _ _ _ _) ⟨Ext.refl _, congrArg Value.bool (by decide)⟩
      · refine stepY (j := 22) (d := 61) (b := false) rfl rfl rfl (fun v w h => h) fun sdn sa sw sE sd sk => ?_
        have h63 : sa.eval (.tmp 63) = .bool (false) := sk.fact 24 63 rfl (sd 24 rfl)
        exact Runs.move rfl h63 ⟨Ext.refl _, rfl⟩
      · exact stepN (j := 25) (d := 64) (b := false) rfl rfl rfl (fun v w h => h) fun w => rfl
      · exact stepN (j := 25) (d := 64) (b := false) rfl rfl rfl (fun v w h => h) fun w => rfl
      · exact stepN (j := 25) (d := 64) (b := false) rfl rfl rfl (fun v w h => h) fun w => rfl
      · exact stepU (j := 28) (d := 67) (b := false) rfl rfl rfl (fun v w h => h) fun w => rfl
      · exact stepU (j := 28) (d := 67) (b := false) rfl rfl rfl (fun v w h => h) fun w => rfl
      · exact stepU (j := 28) (d := 67) (b := false) rfl rfl rfl (fun v w h => h) fun w => rfl
      · exact stepU (j := 28) (d := 67) (b := false) rfl rfl rfl (fun v w h => h) fun w => rfl
      · exact stepN (j := 25) (d := 64) (b := false) rfl rfl rfl (fun v w h => h) fun w => rfl
      · refine stepY (j := 22) (d := 61) (b := false) rfl rfl rfl (fun v w h => h) fun sdn sa sw sE sd sk => ?_
        have h64 : sa.eval (.tmp 64) = .bool (false) := sk.fact 25 64 rfl (sd 25 rfl)
        exact Runs.pick rfl h64 ⟨Ext.refl _, rfl⟩
      · refine stepE rfl fun sdn sa sw sE sd sk => ?_
        have h61 : sa.eval (.tmp 61) = .bool (false) := sk.fact 22 61 rfl (sd 22 rfl)
        have h73 : sa.eval (.tmp 73) = .bool (false) := sk.fact 34 73 rfl (sd 34 rfl)
        exact Runs.pick rfl h61 ⟨Ext.refl _, by first | exact h73 | simpa using h73⟩
      intro vals w10 hE6 hv6
      have e0 : vals 0 = .int .i64 ((0 : Int)) := hv6 0 (by omega) 39 rfl
      have e1 : vals 1 = .bool (false) := hv6 1 (by omega) 40 rfl
      have e2 : vals 2 = .bool (false) := hv6 2 (by omega) 41 rfl
      have e3 : vals 3 = .agg #[.int .i64 (k : Int), .slice P 64 d, .slice Q' 4 d'] := hv6 3 (by omega) 42 rfl
      have e4 : vals 4 = .pointer (some ⟨g1, 0, none⟩) := hv6 4 (by omega) 43 rfl
      have e5 : vals 5 = .int .i64 (((k : Nat) : Int)) := hv6 5 (by omega) 44 rfl
      have e6 : vals 6 = .slice (B) (m) (e') := hv6 6 (by omega) 45 rfl
      obtain ⟨P46, d46, Q46, e46, e7, r46, q46⟩ := hv6 7 (by omega) 46 rfl
      have e8 : vals 8 = .bool (true) := hv6 8 (by omega) 47 rfl
      have e9 : vals 9 = .bool (false) := hv6 9 (by omega) 48 rfl
      have e10 : vals 10 = .bool (false) := hv6 10 (by omega) 49 rfl
      have e11 : vals 11 = .bool (false) := hv6 11 (by omega) 50 rfl
      have e12 : vals 12 = .int .i64 ((0 : Int)) := hv6 12 (by omega) 51 rfl
      have e13 : vals 13 = .bool (true) := hv6 13 (by omega) 52 rfl
      have e14 : vals 14 = .int .i64 (((k : Nat) : Int)) := hv6 14 (by omega) 53 rfl
      have e15 : vals 15 = .bool (true) := hv6 15 (by omega) 54 rfl
      have e16 : vals 16 = .bool (true) := hv6 16 (by omega) 55 rfl
      have e17 : vals 17 = .int .i64 (((k : Nat) : Int)) := hv6 17 (by omega) 56 rfl
      have e18 : vals 18 = .bool (true) := hv6 18 (by omega) 57 rfl
      have e19 : vals 19 = .bool (true) := hv6 19 (by omega) 58 rfl
      have e20 : vals 20 = .bool (false) := hv6 20 (by omega) 59 rfl
      have e21 : vals 21 = .bool (false) := hv6 21 (by omega) 60 rfl
      have e22 : vals 22 = .bool (false) := hv6 22 (by omega) 61 rfl
      have e23 : vals 23 = .int .i64 ((0 : Int)) := hv6 23 (by omega) 62 rfl
      have e24 : vals 24 = .bool (false) := hv6 24 (by omega) 63 rfl
      have e25 : vals 25 = .bool (false) := hv6 25 (by omega) 64 rfl
      have e34 : vals 34 = .bool (false) := hv6 34 (by omega) 73 rfl
      have e35 : vals 35 = .bool (false) := hv6 35 (by omega) 74 rfl
      simp only [putAll, Act.put, List.take_succ_cons, List.take_zero, List.drop_succ_cons, List.drop_zero, List.drop_nil, List.take_nil, Nat.reduceAdd, List.setIfInBounds_toArray, List.set_cons_succ, List.set_cons_zero, e0, e1, e2, e3, e4, e5, e6, e7, e8, e9, e10, e11, e12, e13, e14, e15, e16, e17, e18, e19, e20, e21, e22, e23, e24, e25, e34, e35]
      clear hv6 e0 e1 e2 e3 e4 e5 e6 e7 e8 e9 e10 e11 e12 e13 e14 e15 e16 e17 e18 e19 e20 e21 e22 e23 e24 e25 e34 e35
      have rS := rS.ext hE6
      have rM := rM.ext hE6
      have rR := rR.ext hE6
      have o1 := o1.ext hE6
      have rPs := rPs.ext hE6
      have rQs := rQs.ext hE6
      have hB7 := hB7.ext hE6
      have hEa := hEa.trans hE6
      clear hE6 hB9
      go_upto_region 8 with (fail)
      refine par_ext (n := 31) (by kernel_rfl) [.is (.slice (A1) (32) (32)), .rb (ownP S), .is (.string (str (ownP S))), .is (.pointer (some ⟨g1, 0, none⟩)), .rb (ownP S), .is (.string (str (ownP S))), .is (.bool (true)), .is (.bool (true)), .is (.pointer (some ⟨g1, 0, none⟩)), .rb (ownP S), .is (.slice (B) (m) (e')), .is (.agg #[.int .i64 (k : Int), .slice P 64 d, .slice Q' 4 d']), .is (.bool (true)), .is (.bool (true)), .is (.bool (true)), .is (.pointer (some ⟨g1, 0, none⟩)), .rb (ownP S), .is (.slice (D) (md) (ed)), .is (.agg #[.int .i64 (k : Int), .slice P 64 d, .slice Q' 4 d']), .is (.bool (true)), .is (.bool (true)), .is (.bool (true)), .is (.slice (D) (md) (ed)), .is (.slice (B) (m) (e')), .is (.agg #[.int .i64 (k : Int), .slice P 64 d, .slice Q' 4 d']), .is (.bool (true)), .is (.bool (true)), .is (.bool (true)), .is (.bool (true)), .is (.bool (true)), .is (.bool (true))] rfl ⟨?_, ?_, ?_, ?_, ?_, ?_, ?_, ?_, ?_, ?_, ?_, ?_, ?_, ?_, ?_, ?_, ?_, ?_, ?_, ?_, ?_, ?_, ?_, ?_, ?_, ?_, ?_, ?_, ?_, ?_, ?_, trivial⟩ ?_
      · refine stepE rfl fun sdn sa sw sE sd sk => ?_
        have h0 : sa.eval (.tmp 0) = .slice (A1) (32) (32) := sk.old 0 rfl
        exact Runs.move rfl h0 ⟨Ext.refl _, rfl⟩
      · refine stepE rfl fun sdn sa sw sE sd sk => ?_
        have h75 : sa.eval (.tmp 75) = .slice (A1) (32) (32) := sk.fact 0 75 rfl (sd 0 rfl)
        refine Runs.call (f := 31) (vs := [.slice (A1) (32) (32)]) rfl rfl rfl (by simp only [List.map_toArray, List.map_cons, List.map_nil, h75] <;> rfl) (ent31 _ _) ((spublic_any _ _ _ sw (rS.ext sE)).mono ?_); rintro e w' ⟨A', c', rfl, own, hx⟩; exact ⟨_, rfl, hx, A', 32, c', rfl, own.rb⟩
      · refine stepE rfl fun sdn sa sw sE sd sk => ?_
        obtain ⟨A76, n76, c76, h76, r76⟩ := sk.fact 1 76 rfl (sd 1 rfl)
        exact Runs.conv rfl h76 (run_str r76) ⟨Ext.refl _, rfl⟩
      · refine stepE rfl fun sdn sa sw sE sd sk => ?_
        have h9 : sa.eval (.tmp 9) = .pointer (some ⟨g1, 0, none⟩) := sk.old 9 rfl
        exact Runs.move rfl h9 ⟨Ext.refl _, rfl⟩
      · refine stepE rfl fun sdn sa sw sE sd sk => ?_
        have h78 : sa.eval (.tmp 78) = .pointer (some ⟨g1, 0, none⟩) := sk.fact 3 78 rfl (sd 3 rfl)
        refine Runs.call (f := 37) (vs := [.pointer (some ⟨g1, 0, none⟩)]) rfl rfl rfl (by simp only [List.map_toArray, List.map_cons, List.map_nil, h78] <;> rfl) (ent37 _ _) ((rpublic_any g1 _ S sw (o1.ext sE)).mono ?_); rintro e w' ⟨A', c', rfl, own, hx⟩; exact ⟨_, rfl, hx, A', 32, c', rfl, own⟩
      · refine stepE rfl fun sdn sa sw sE sd sk => ?_
        obtain ⟨A79, n79, c79, h79, r79⟩ := sk.fact 4 79 rfl (sd 4 rfl)
        exact Runs.conv rfl h79 (run_str r79) ⟨Ext.refl _, rfl⟩
      · refine stepE rfl fun sdn sa sw sE sd sk => ?_
        have h77 : sa.eval (.tmp 77) = .string (str (ownP S)) := sk.fact 2 77 rfl (sd 2 rfl)
        have h80 : sa.eval (.tmp 80) = .string (str (ownP S)) := sk.fact 5 80 rfl (sd 5 rfl)
        exact Runs.bin rfl h77 h80 (by rfl) (bin_eqs _ _ _) ⟨Ext.refl _, congrArg Value.bool (by simp)⟩
      · refine stepE rfl fun sdn sa sw sE sd sk => ?_
        have h81 : sa.eval (.tmp 81) = .bool (true) := sk.fact 6 81 rfl (sd 6 rfl)
        exact Runs.move rfl h81 ⟨Ext.refl _, rfl⟩
      · refine stepY (j := 7) (d := 82) (b := true) rfl rfl rfl (fun v w h => h) fun sdn sa sw sE sd sk => ?_
        have h9 : sa.eval (.tmp 9) = .pointer (some ⟨g1, 0, none⟩) := sk.old 9 rfl
        exact Runs.move rfl h9 ⟨Ext.refl _, rfl⟩
      · refine stepY (j := 7) (d := 82) (b := true) rfl rfl rfl (fun v w h => h) fun sdn sa sw sE sd sk => ?_
        have h83 : sa.eval (.tmp 83) = .pointer (some ⟨g1, 0, none⟩) := sk.fact 8 83 rfl (sd 8 rfl)
        refine Runs.call (f := 37) (vs := [.pointer (some ⟨g1, 0, none⟩)]) rfl rfl rfl (by simp only [List.map_toArray, List.map_cons, List.map_nil, h83] <;> rfl) (ent37 _ _) ((rpublic_any g1 _ S sw (o1.ext sE)).mono ?_); rintro e w' ⟨A', c', rfl, own, hx⟩; exact ⟨_, rfl, hx, A', 32, c', rfl, own⟩
      · refine stepY (j := 7) (d := 82) (b := true) rfl rfl rfl (fun v w h => h) fun sdn sa sw sE sd sk => ?_
        have h2 : sa.eval (.tmp 2) = .slice (B) (m) (e') := sk.old 2 rfl
        exact Runs.move rfl h2 ⟨Ext.refl _, rfl⟩
      · refine stepY (j := 7) (d := 82) (b := true) rfl rfl rfl (fun v w h => h) fun sdn sa sw sE sd sk => ?_
        have h11 : sa.eval (.tmp 11) = .pointer (some ⟨w6.heap.size, 0, none⟩) := sk.old 11 rfl
        exact Runs.load rfl h11 (load_sig (hB7.ext sE)) ⟨Ext.refl _, rfl⟩
      · refine stepY (j := 7) (d := 82) (b := true) rfl rfl rfl (fun v w h => h) fun sdn sa sw sE sd sk => ?_
        obtain ⟨A84, n84, c84, h84, r84⟩ := sk.fact 9 84 rfl (sd 9 rfl)
        have h85 : sa.eval (.tmp 85) = .slice (B) (m) (e') := sk.fact 10 85 rfl (sd 10 rfl)
        have h86 : sa.eval (.tmp 86) = .agg #[.int .i64 (k : Int), .slice P 64 d, .slice Q' 4 d'] := sk.fact 11 86 rfl (sd 11 rfl)
        refine Runs.call (f := 40) (vs := [.slice (A84) (n84) (c84), .slice (B) (m) (e'), .agg #[.int .i64 (k : Int), .slice P 64 d, .slice Q' 4 d']]) rfl rfl rfl (by simp only [List.map_toArray, List.map_cons, List.map_nil, h84, h85, h86] <;> rfl) (ent40 _ _) ((same5_any _ _ P Q' _ _ _ _ 64 d 4 d' (k : Int) _ _ PS QS sw r84 (rM.ext sE) (by omega) (rPs.ext sE) (rQs.ext sE)).mono ?_); rintro e w' ⟨rfl, hx⟩; exact ⟨_, rfl, hx, rfl⟩
      · refine stepE rfl fun sdn sa sw sE sd sk => ?_
        have h82 : sa.eval (.tmp 82) = .bool (true) := sk.fact 7 82 rfl (sd 7 rfl)
        have h87 : sa.eval (.tmp 87) = .bool (true) := sk.fact 12 87 rfl (sd 12 rfl)
        exact Runs.pick rfl h82 ⟨Ext.refl _, by first | exact h87 | simpa using h87⟩
      · refine stepE rfl fun sdn sa sw sE sd sk => ?_
        have h88 : sa.eval (.tmp 88) = .bool (true) := sk.fact 13 88 rfl (sd 13 rfl)
        exact Runs.move rfl h88 ⟨Ext.refl _, rfl⟩
      · refine stepY (j := 14) (d := 89) (b := true) rfl rfl rfl (fun v w h => h) fun sdn sa sw sE sd sk => ?_
        have h9 : sa.eval (.tmp 9) = .pointer (some ⟨g1, 0, none⟩) := sk.old 9 rfl
        exact Runs.move rfl h9 ⟨Ext.refl _, rfl⟩
      · refine stepY (j := 14) (d := 89) (b := true) rfl rfl rfl (fun v w h => h) fun sdn sa sw sE sd sk => ?_
        have h90 : sa.eval (.tmp 90) = .pointer (some ⟨g1, 0, none⟩) := sk.fact 15 90 rfl (sd 15 rfl)
        refine Runs.call (f := 37) (vs := [.pointer (some ⟨g1, 0, none⟩)]) rfl rfl rfl (by simp only [List.map_toArray, List.map_cons, List.map_nil, h90] <;> rfl) (ent37 _ _) ((rpublic_any g1 _ S sw (o1.ext sE)).mono ?_); rintro e w' ⟨A', c', rfl, own, hx⟩; exact ⟨_, rfl, hx, A', 32, c', rfl, own⟩
      · refine stepY (j := 14) (d := 89) (b := true) rfl rfl rfl (fun v w h => h) fun sdn sa sw sE sd sk => ?_
        have h3 : sa.eval (.tmp 3) = .slice (D) (md) (ed) := sk.old 3 rfl
        exact Runs.move rfl h3 ⟨Ext.refl _, rfl⟩
      · refine stepY (j := 14) (d := 89) (b := true) rfl rfl rfl (fun v w h => h) fun sdn sa sw sE sd sk => ?_
        have h11 : sa.eval (.tmp 11) = .pointer (some ⟨w6.heap.size, 0, none⟩) := sk.old 11 rfl
        exact Runs.load rfl h11 (load_sig (hB7.ext sE)) ⟨Ext.refl _, rfl⟩
      · refine stepY (j := 14) (d := 89) (b := true) rfl rfl rfl (fun v w h => h) fun sdn sa sw sE sd sk => ?_
        obtain ⟨A91, n91, c91, h91, r91⟩ := sk.fact 16 91 rfl (sd 16 rfl)
        have h92 : sa.eval (.tmp 92) = .slice (D) (md) (ed) := sk.fact 17 92 rfl (sd 17 rfl)
        have h93 : sa.eval (.tmp 93) = .agg #[.int .i64 (k : Int), .slice P 64 d, .slice Q' 4 d'] := sk.fact 18 93 rfl (sd 18 rfl)
        refine Runs.call (f := 40) (vs := [.slice (A91) (n91) (c91), .slice (D) (md) (ed), .agg #[.int .i64 (k : Int), .slice P 64 d, .slice Q' 4 d']]) rfl rfl rfl (by simp only [List.map_toArray, List.map_cons, List.map_nil, h91, h92, h93] <;> rfl) (ent40 _ _) ((same5_any _ _ P Q' _ _ _ _ 64 d 4 d' (k : Int) _ _ PS QS sw r91 (rR.ext sE) (by omega) (rPs.ext sE) (rQs.ext sE)).mono ?_); rintro e w' ⟨rfl, hx⟩; exact ⟨_, rfl, hx, rfl⟩
      · refine stepE rfl fun sdn sa sw sE sd sk => ?_
        have h89 : sa.eval (.tmp 89) = .bool (true) := sk.fact 14 89 rfl (sd 14 rfl)
        have h94 : sa.eval (.tmp 94) = .bool (true) := sk.fact 19 94 rfl (sd 19 rfl)
        exact Runs.pick rfl h89 ⟨Ext.refl _, by first | exact h94 | simpa using h94⟩
      · refine stepE rfl fun sdn sa sw sE sd sk => ?_
        have h95 : sa.eval (.tmp 95) = .bool (true) := sk.fact 20 95 rfl (sd 20 rfl)
        exact Runs.move rfl h95 ⟨Ext.refl _, rfl⟩
      · refine stepY (j := 21) (d := 96) (b := true) rfl rfl rfl (fun v w h => h) fun sdn sa sw sE sd sk => ?_
        have h3 : sa.eval (.tmp 3) = .slice (D) (md) (ed) := sk.old 3 rfl
        exact Runs.move rfl h3 ⟨Ext.refl _, rfl⟩
      · refine stepY (j := 21) (d := 96) (b := true) rfl rfl rfl (fun v w h => h) fun sdn sa sw sE sd sk => ?_
        have h2 : sa.eval (.tmp 2) = .slice (B) (m) (e') := sk.old 2 rfl
        exact Runs.move rfl h2 ⟨Ext.refl _, rfl⟩
      · refine stepY (j := 21) (d := 96) (b := true) rfl rfl rfl (fun v w h => h) fun sdn sa sw sE sd sk => ?_
        have h11 : sa.eval (.tmp 11) = .pointer (some ⟨w6.heap.size, 0, none⟩) := sk.old 11 rfl
        exact Runs.load rfl h11 (load_sig (hB7.ext sE)) ⟨Ext.refl _, rfl⟩
      · refine stepY (j := 21) (d := 96) (b := true) rfl rfl rfl (fun v w h => h) fun sdn sa sw sE sd sk => ?_
        have h97 : sa.eval (.tmp 97) = .slice (D) (md) (ed) := sk.fact 22 97 rfl (sd 22 rfl)
        have h98 : sa.eval (.tmp 98) = .slice (B) (m) (e') := sk.fact 23 98 rfl (sd 23 rfl)
        have h99 : sa.eval (.tmp 99) = .agg #[.int .i64 (k : Int), .slice P 64 d, .slice Q' 4 d'] := sk.fact 24 99 rfl (sd 24 rfl)
        refine Runs.call (f := 40) (vs := [.slice (D) (md) (ed), .slice (B) (m) (e'), .agg #[.int .i64 (k : Int), .slice P 64 d, .slice Q' 4 d']]) rfl rfl rfl (by simp only [List.map_toArray, List.map_cons, List.map_nil, h97, h98, h99] <;> rfl) (ent40 _ _) ((same5_any _ _ P Q' _ _ _ _ 64 d 4 d' (k : Int) _ _ PS QS sw (rR.ext sE) (rM.ext sE) (by omega) (rPs.ext sE) (rQs.ext sE)).mono ?_); rintro e w' ⟨rfl, hx⟩; exact ⟨_, rfl, hx, rfl⟩
      · refine stepE rfl fun sdn sa sw sE sd sk => ?_
        have h96 : sa.eval (.tmp 96) = .bool (true) := sk.fact 21 96 rfl (sd 21 rfl)
        have h100 : sa.eval (.tmp 100) = .bool (true) := sk.fact 25 100 rfl (sd 25 rfl)
        exact Runs.pick rfl h96 ⟨Ext.refl _, by first | exact h100 | simpa using h100⟩
      · refine stepE rfl fun sdn sa sw sE sd sk => ?_
        have h101 : sa.eval (.tmp 101) = .bool (true) := sk.fact 26 101 rfl (sd 26 rfl)
        exact Runs.move rfl h101 ⟨Ext.refl _, rfl⟩
      · refine stepY (j := 27) (d := 102) (b := true) rfl rfl rfl (fun v w h => h) fun sdn sa sw sE sd sk => ?_
        refine Runs.call (f := 34) (vs := []) rfl rfl rfl (by simp only [List.map_toArray, List.map_cons, List.map_nil] <;> rfl) (ent34 _ _) ((known5_any sw).mono ?_); rintro e w' ⟨rfl, hx⟩; exact ⟨_, rfl, hx, rfl⟩
      · refine stepE rfl fun sdn sa sw sE sd sk => ?_
        have h102 : sa.eval (.tmp 102) = .bool (true) := sk.fact 27 102 rfl (sd 27 rfl)
        have h103 : sa.eval (.tmp 103) = .bool (true) := sk.fact 28 103 rfl (sd 28 rfl)
        exact Runs.pick rfl h102 ⟨Ext.refl _, by first | exact h103 | simpa using h103⟩
      · refine stepE rfl fun sdn sa sw sE sd sk => ?_
        have h104 : sa.eval (.tmp 104) = .bool (true) := sk.fact 29 104 rfl (sd 29 rfl)
        exact Runs.assign rfl h104 ⟨Ext.refl _, rfl⟩
      intro vals W9 hE9 hv9
      have e0 : vals 0 = .slice (A1) (32) (32) := hv9 0 (by omega) 75 rfl
      obtain ⟨A76, n76, c76, e1, r76⟩ := hv9 1 (by omega) 76 rfl
      have e2 : vals 2 = .string (str (ownP S)) := hv9 2 (by omega) 77 rfl
      have e3 : vals 3 = .pointer (some ⟨g1, 0, none⟩) := hv9 3 (by omega) 78 rfl
      obtain ⟨A79, n79, c79, e4, r79⟩ := hv9 4 (by omega) 79 rfl
      have e5 : vals 5 = .string (str (ownP S)) := hv9 5 (by omega) 80 rfl
      have e6 : vals 6 = .bool (true) := hv9 6 (by omega) 81 rfl
      have e7 : vals 7 = .bool (true) := hv9 7 (by omega) 82 rfl
      have e8 : vals 8 = .pointer (some ⟨g1, 0, none⟩) := hv9 8 (by omega) 83 rfl
      obtain ⟨A84, n84, c84, e9, r84⟩ := hv9 9 (by omega) 84 rfl
      have e10 : vals 10 = .slice (B) (m) (e') := hv9 10 (by omega) 85 rfl
      have e11 : vals 11 = .agg #[.int .i64 (k : Int), .slice P 64 d, .slice Q' 4 d'] := hv9 11 (by omega) 86 rfl
      have e12 : vals 12 = .bool (true) := hv9 12 (by omega) 87 rfl
      have e13 : vals 13 = .bool (true) := hv9 13 (by omega) 88 rfl
      have e14 : vals 14 = .bool (true) := hv9 14 (by omega) 89 rfl
      have e15 : vals 15 = .pointer (some ⟨g1, 0, none⟩) := hv9 15 (by omega) 90 rfl
      obtain ⟨A91, n91, c91, e16, r91⟩ := hv9 16 (by omega) 91 rfl
      have e17 : vals 17 = .slice (D) (md) (ed) := hv9 17 (by omega) 92 rfl
      have e18 : vals 18 = .agg #[.int .i64 (k : Int), .slice P 64 d, .slice Q' 4 d'] := hv9 18 (by omega) 93 rfl
      have e19 : vals 19 = .bool (true) := hv9 19 (by omega) 94 rfl
      have e20 : vals 20 = .bool (true) := hv9 20 (by omega) 95 rfl
      have e21 : vals 21 = .bool (true) := hv9 21 (by omega) 96 rfl
      have e22 : vals 22 = .slice (D) (md) (ed) := hv9 22 (by omega) 97 rfl
      have e23 : vals 23 = .slice (B) (m) (e') := hv9 23 (by omega) 98 rfl
      have e24 : vals 24 = .agg #[.int .i64 (k : Int), .slice P 64 d, .slice Q' 4 d'] := hv9 24 (by omega) 99 rfl
      have e25 : vals 25 = .bool (true) := hv9 25 (by omega) 100 rfl
      have e26 : vals 26 = .bool (true) := hv9 26 (by omega) 101 rfl
      have e27 : vals 27 = .bool (true) := hv9 27 (by omega) 102 rfl
      have e28 : vals 28 = .bool (true) := hv9 28 (by omega) 103 rfl
      have e29 : vals 29 = .bool (true) := hv9 29 (by omega) 104 rfl
      have e30 : vals 30 = .bool (true) := hv9 30 (by omega) 8 rfl
      simp only [putAll, Act.put, List.take_succ_cons, List.take_zero, List.drop_succ_cons, List.drop_zero, List.drop_nil, List.take_nil, Nat.reduceAdd, List.setIfInBounds_toArray, List.set_cons_succ, List.set_cons_zero, e0, e1, e2, e3, e4, e5, e6, e7, e8, e9, e10, e11, e12, e13, e14, e15, e16, e17, e18, e19, e20, e21, e22, e23, e24, e25, e26, e27, e28, e29, e30]
      clear hv9 e0 e1 e2 e3 e4 e5 e6 e7 e8 e9 e10 e11 e12 e13 e14 e15 e16 e17 e18 e19 e20 e21 e22 e23 e24 e25 e26 e27 e28 e29 e30
      go_wp2_with fail
      go_ret
      exact ⟨rfl, hEa.trans hE9⟩
    · go_wp2_with fail
      rw [← hw7]
      clear hw7
      refine (ssign_used A1 B 32 m e' index _ (.inr (by omega))).mono ?_
      rintro e w8 ⟨rfl, hE8⟩
      have hE9 := Ext.new w8 (.cells #[.int .i64 0, .slice none 0 0, .slice none 0 0] 52)
      have hB9 := Blk.new w8 52 #[.int .i64 0, .slice none 0 0, .slice none 0 0]
      have hE79 := hE8.trans hE9
      have rS := rS.ext hE79
      have rM := rM.ext hE79
      have rR := rR.ext hE79
      have o1 := o1.ext hE79
      have hEa := hEa.trans hE79
      have rPs := rPs.ext hE79
      have rQs := rQs.ext hE79
      have hB7 := hB7.ext hE79
      clear hE8 hE9 hE79
      have y9 : (w8.alloc (.cells #[.int .i64 0, .slice none 0 0, .slice none 0 0] 52)).cell? ⟨w8.heap.size, 1, none⟩ = some (.slice none 0 0) := hB9.cell (i := 1) rfl
      go_upto_region 6 with (fail)
      generalize w8.alloc (.cells #[.int .i64 0, .slice none 0 0, .slice none 0 0] 52) = w9 at *
      refine par_ext (n := 36) (by kernel_rfl) [.is (.int .i64 ((0 : Int))), .is (.bool (false)), .is (.bool (false)), .is (.agg #[.int .i64 (k : Int), .slice P 64 d, .slice Q' 4 d']), .is (.pointer (some ⟨g1, 0, none⟩)), .is (.int .i64 (((k : Nat) : Int))), .is (.slice (B) (m) (e')), .sg (k : Int) 64 4 PS QS, .is (.bool (true)), .is (.bool (false)), .is (.bool (false)), .is (.bool (false)), .is (.int .i64 ((23 : Int))), .is (.bool (false)), .is (.int .i64 (index)), .is (.bool (true)), .is (.bool (true)), .is (.int .i64 (index)), .is (.bool (false)), .is (.bool (false)), .is (.bool (false)), .is (.bool (false)), .is (.bool (false)), .is (.int .i64 ((23 : Int))), .is (.bool (true)), .is (.bool (true)), .is (.int .i64 ((23 : Int))), .is (.bool (false)), .is (.bool (false)), .is (.pointer (some ⟨w8.heap.size, 1, none⟩)), .is (.slice (none) (0) (0)), .is (.int .i64 ((0 : Nat))), .is (.bool (false)), .is (.bool (false)), .is (.bool (false)), .is (.bool (false))] rfl ⟨?_, ?_, ?_, ?_, ?_, ?_, ?_, ?_, ?_, ?_, ?_, ?_, ?_, ?_, ?_, ?_, ?_, ?_, ?_, ?_, ?_, ?_, ?_, ?_, ?_, ?_, ?_, ?_, ?_, ?_, ?_, ?_, ?_, ?_, ?_, ?_, trivial⟩ ?_
      · refine stepE rfl fun sdn sa sw sE sd sk => ?_
        have h12 : sa.eval (.tmp 12) = .int .i64 ((0 : Int)) := sk.old 12 rfl
        exact Runs.move rfl h12 ⟨Ext.refl _, rfl⟩
      · refine stepE rfl fun sdn sa sw sE sd sk => ?_
        have h39 : sa.eval (.tmp 39) = .int .i64 ((0 : Int)) := sk.fact 0 39 rfl (sd 0 rfl)
        exact Runs.bin rfl h39 rfl (by rfl) (bin_neq _ _ _ _) ⟨Ext.refl _, congrArg Value.bool (by decide)⟩
      · refine stepE rfl fun sdn sa sw sE sd sk => ?_
        have h40 : sa.eval (.tmp 40) = .bool (false) := sk.fact 1 40 rfl (sd 1 rfl)
        exact Runs.move rfl h40 ⟨Ext.refl _, rfl⟩
      · refine stepY (j := 2) (d := 41) (b := false) rfl rfl rfl (fun v w h => h) fun sdn sa sw sE sd sk => ?_
        have h11 : sa.eval (.tmp 11) = .pointer (some ⟨w6.heap.size, 0, none⟩) := sk.old 11 rfl
        exact Runs.load rfl h11 (load_sig (hB7.ext sE)) ⟨Ext.refl _, rfl⟩
      · refine stepY (j := 2) (d := 41) (b := false) rfl rfl rfl (fun v w h => h) fun sdn sa sw sE sd sk => ?_
        have h9 : sa.eval (.tmp 9) = .pointer (some ⟨g1, 0, none⟩) := sk.old 9 rfl
        exact Runs.move rfl h9 ⟨Ext.refl _, rfl⟩
      · refine stepY (j := 2) (d := 41) (b := false) rfl rfl rfl (fun v w h => h) fun sdn sa sw sE sd sk => ?_
        have h10 : sa.eval (.tmp 10) = .int .i64 (((k : Nat) : Int)) := sk.old 10 rfl
        exact Runs.move rfl h10 ⟨Ext.refl _, rfl⟩
      · refine stepY (j := 2) (d := 41) (b := false) rfl rfl rfl (fun v w h => h) fun sdn sa sw sE sd sk => ?_
        have h2 : sa.eval (.tmp 2) = .slice (B) (m) (e') := sk.old 2 rfl
        exact Runs.move rfl h2 ⟨Ext.refl _, rfl⟩
      · refine stepY (j := 2) (d := 41) (b := false) rfl rfl rfl (fun v w h => h) fun sdn sa sw sE sd sk => ?_
        have h43 : sa.eval (.tmp 43) = .pointer (some ⟨g1, 0, none⟩) := sk.fact 4 43 rfl (sd 4 rfl)
        have h44 : sa.eval (.tmp 44) = .int .i64 (((k : Nat) : Int)) := sk.fact 5 44 rfl (sd 5 rfl)
        have h45 : sa.eval (.tmp 45) = .slice (B) (m) (e') := sk.fact 6 45 rfl (sd 6 rfl)
        refine Runs.call (f := 36) (vs := [.pointer (some ⟨g1, 0, none⟩), .int .i64 (((k : Nat) : Int)), .slice (B) (m) (e')]) rfl rfl rfl (by simp only [List.map_toArray, List.map_cons, List.map_nil, h43, h44, h45] <;> rfl) (ent36 _ _) ((rsign_any _ g1 _ _ _ k S M sw (o1.ext sE) (rM.ext sE) (by omega) (by omega)).mono ?_); rintro e w' ⟨P', d', Q', e', rfl, h1, h2, hx⟩; exact ⟨_, rfl, hx, P', d', Q', e', rfl, HPS.out.symm ▸ h1, HQS.out.symm ▸ h2⟩
      · refine stepY (j := 2) (d := 41) (b := false) rfl rfl rfl (fun v w h => h) fun sdn sa sw sE sd sk => ?_
        have h42 : sa.eval (.tmp 42) = .agg #[.int .i64 (k : Int), .slice P 64 d, .slice Q' 4 d'] := sk.fact 3 42 rfl (sd 3 rfl)
        obtain ⟨P46, d46, Q46, e46, h46, r46, q46⟩ := sk.fact 7 46 rfl (sd 7 rfl)
        refine Runs.call (f := 39) (vs := [.agg #[.int .i64 (k : Int), .slice P 64 d, .slice Q' 4 d'], .agg #[.int .i64 (k : Int), .slice P46 64 d46, .slice Q46 4 e46]]) rfl rfl rfl (by simp only [List.map_toArray, List.map_cons, List.map_nil, h42, h46] <;> rfl) (ent39 _ _) ((rsame_true _ _ _ _ _ _ _ _ _ _ _ _ _ _ _ sw (rPs.ext sE) (rQs.ext sE) r46 q46).mono ?_); rintro e w' ⟨rfl, hx⟩; exact ⟨_, rfl, hx, rfl⟩
      · refine stepY (j := 2) (d := 41) (b := false) rfl rfl rfl (fun v w h => h) fun sdn sa sw sE sd sk => ?_
        have h47 : sa.eval (.tmp 47) = .bool (true) := sk.fact 8 47 rfl (sd 8 rfl)
        exact Runs.un rfl h47 (by rfl) ⟨Ext.refl _, rfl⟩
      · refine stepE rfl fun sdn sa sw sE sd sk => ?_
        have h41 : sa.eval (.tmp 41) = .bool (false) := sk.fact 2 41 rfl (sd 2 rfl)
        have h48 : sa.eval (.tmp 48) = .bool (false) := sk.fact 9 48 rfl (sd 9 rfl)
        exact Runs.pick rfl h41 ⟨Ext.refl _, by first | exact h48 | simpa using h48⟩
      · refine stepE rfl fun sdn sa sw sE sd sk => ?_
        have h49 : sa.eval (.tmp 49) = .bool (false) := sk.fact 10 49 rfl (sd 10 rfl)
        exact Runs.move rfl h49 ⟨Ext.refl _, rfl⟩
      · refine stepY (j := 11) (d := 50) (b := false) rfl rfl rfl (fun v w h => h) fun sdn sa sw sE sd sk => ?_
        have h14 : sa.eval (.tmp 14) = .int .i64 ((23 : Int)) := sk.old 14 rfl
        exact Runs.move rfl h14 ⟨Ext.refl _, rfl⟩
      · refine stepY (j := 11) (d := 50) (b := false) rfl rfl rfl (fun v w h => h) fun sdn sa sw sE sd sk => ?_
        have h51 : sa.eval (.tmp 51) = .int .i64 ((23 : Int)) := sk.fact 12 51 rfl (sd 12 rfl)
        exact Runs.bin rfl h51 rfl (by rfl) (bin_eql _ _ _ _) ⟨Ext.refl _, congrArg Value.bool (by decide)⟩
      · refine stepY (j := 11) (d := 50) (b := false) rfl rfl rfl (fun v w h => h) fun sdn sa sw sE sd sk => ?_
        have h1 : sa.eval (.tmp 1) = .int .i64 (index) := sk.old 1 rfl
        exact Runs.move rfl h1 ⟨Ext.refl _, rfl⟩
      · refine stepY (j := 11) (d := 50) (b := false) rfl rfl rfl (fun v w h => h) fun sdn sa sw sE sd sk => ?_
        have h53 : sa.eval (.tmp 53) = .int .i64 (index) := sk.fact 14 53 rfl (sd 14 rfl)
        exact Runs.bin rfl h53 rfl (by rfl) (bin_geq _ _ _ _) ⟨Ext.refl _, congrArg Value.bool (decide_eq_true (by omega))⟩
      · refine stepY (j := 11) (d := 50) (b := false) rfl rfl rfl (fun v w h => h) fun sdn sa sw sE sd sk => ?_
        have h54 : sa.eval (.tmp 54) = .bool (true) := sk.fact 15 54 rfl (sd 15 rfl)
        exact Runs.move rfl h54 ⟨Ext.refl _, rfl⟩
      · refine stepY (j := 16) (d := 55) (b := true) rfl rfl rfl (fun v w h => h) fun sdn sa sw sE sd sk => ?_
        have h1 : sa.eval (.tmp 1) = .int .i64 (index) := sk.old 1 rfl
        exact Runs.move rfl h1 ⟨Ext.refl _, rfl⟩
      · refine stepY (j := 16) (d := 55) (b := true) rfl rfl rfl (fun v w h => h) fun sdn sa sw sE sd sk => ?_
        have h56 : sa.eval (.tmp 56) = .int .i64 (index) := sk.fact 17 56 rfl (sd 17 rfl)
        exact Runs.bin rfl h56 rfl (by rfl) (bin_lss _ _ _ _) ⟨Ext.refl _, congrArg Value.bool (decide_eq_false (by omega))⟩
      · refine stepY (j := 11) (d := 50) (b := false) rfl rfl rfl (fun v w h => h) fun sdn sa sw sE sd sk => ?_
        have h55 : sa.eval (.tmp 55) = .bool (true) := sk.fact 16 55 rfl (sd 16 rfl)
        have h57 : sa.eval (.tmp 57) = .bool (false) := sk.fact 18 57 rfl (sd 18 rfl)
        exact Runs.pick rfl h55 ⟨Ext.refl _, by first | exact h57 | simpa using h57⟩
      · refine stepY (j := 11) (d := 50) (b := false) rfl rfl rfl (fun v w h => h) fun sdn sa sw sE sd sk => ?_
        have h52 : sa.eval (.tmp 52) = .bool (false) := sk.fact 13 52 rfl (sd 13 rfl)
        have h58 : sa.eval (.tmp 58) = .bool (false) := sk.fact 19 58 rfl (sd 19 rfl)
        exact Runs.bin rfl h52 h58 (by rfl) (bin_neb _ _) ⟨Ext.refl _, congrArg Value.bool (by simp)⟩
      · refine stepE rfl fun sdn sa sw sE sd sk => ?_
        have h50 : sa.eval (.tmp 50) = .bool (false) := sk.fact 11 50 rfl (sd 11 rfl)
        have h59 : sa.eval (.tmp 59) = .bool (false) := sk.fact 20 59 rfl (sd 20 rfl)
        exact Runs.pick rfl h50 ⟨Ext.refl _, by first | exact h59 | simpa using h59⟩
      · refine stepE rfl fun sdn sa sw sE sd sk => ?_
        have h60 : sa.eval (.tmp 60) = .bool (false) := sk.fact 21 60 rfl (sd 21 rfl)
        exact Runs.move rfl h60 ⟨Ext.refl _, rfl⟩
      · refine stepY (j := 22) (d := 61) (b := false) rfl rfl rfl (fun v w h => h) fun sdn sa sw sE sd sk => ?_
        have h14 : sa.eval (.tmp 14) = .int .i64 ((23 : Int)) := sk.old 14 rfl
        exact Runs.move rfl h14 ⟨Ext.refl _, rfl⟩
      · refine stepY (j := 22) (d := 61) (b := false) rfl rfl rfl (fun v w h => h) fun sdn sa sw sE sd sk => ?_
        have h62 : sa.eval (.tmp 62) = .int .i64 ((23 : Int)) := sk.fact 23 62 rfl (sd 23 rfl)
        exact Runs.bin rfl h62 rfl (by rfl) (bin_neq _ _ _ _) ⟨Ext.refl _, congrArg Value.bool (by decide)⟩
      · refine stepY (j := 22) (d := 61) (b := false) rfl rfl rfl (fun v w h => h) fun sdn sa sw sE sd sk => ?_
        have h63 : sa.eval (.tmp 63) = .bool (true) := sk.fact 24 63 rfl (sd 24 rfl)
        exact Runs.move rfl h63 ⟨Ext.refl _, rfl⟩
      · refine stepY (j := 25) (d := 64) (b := true) rfl rfl rfl (fun v w h => h) fun sdn sa sw sE sd sk => ?_
        have h14 : sa.eval (.tmp 14) = .int .i64 ((23 : Int)) := sk.old 14 rfl
        exact Runs.move rfl h14 ⟨Ext.refl _, rfl⟩
      · refine stepY (j := 25) (d := 64) (b := true) rfl rfl rfl (fun v w h => h) fun sdn sa sw sE sd sk => ?_
        have h65 : sa.eval (.tmp 65) = .int .i64 ((23 : Int)) := sk.fact 26 65 rfl (sd 26 rfl)
        exact Runs.bin rfl h65 rfl (by rfl) (bin_neq _ _ _ _) ⟨Ext.refl _, congrArg Value.bool (by decide)⟩
      · refine stepY (j := 25) (d := 64) (b := true) rfl rfl rfl (fun v w h => h) fun sdn sa sw sE sd sk => ?_
        have h66 : sa.eval (.tmp 66) = .bool (false) := sk.fact 27 66 rfl (sd 27 rfl)
        exact Runs.move rfl h66 ⟨Ext.refl _, rfl⟩
      · refine stepY (j := 28) (d := 67) (b := false) rfl rfl rfl (fun v w h => h) fun sdn sa sw sE sd sk => ?_
        have h13 : sa.eval (.tmp 13) = .pointer (some ⟨w8.heap.size, 0, none⟩) := sk.old 13 rfl
        refine Runs.of_run (r := .pointer (some ⟨w8.heap.size, 1, none⟩)) (w' := sw) ?_ ⟨Ext.refl _, rfl⟩
        unfold execOp
        simp only [h13]
        go_simp
      · refine stepY (j := 28) (d := 67) (b := false) rfl rfl rfl (fun v w h => h) fun sdn sa sw sE sd sk => ?_
        have h68 : sa.eval (.tmp 68) = .pointer (some ⟨w8.heap.size, 1, none⟩) := sk.fact 29 68 rfl (sd 29 rfl)
        exact Runs.load rfl h68 (run_load1 Try.underlying50 rfl (sE.cell y9)) ⟨Ext.refl _, rfl⟩
      · refine stepY (j := 28) (d := 67) (b := false) rfl rfl rfl (fun v w h => h) fun sdn sa sw sE sd sk => ?_
        have h69 : sa.eval (.tmp 69) = .slice (none) (0) (0) := sk.fact 30 69 rfl (sd 30 rfl)
        exact Runs.len Try.underlying50 rfl h69 ⟨Ext.refl _, rfl⟩
      · refine stepY (j := 28) (d := 67) (b := false) rfl rfl rfl (fun v w h => h) fun sdn sa sw sE sd sk => ?_
        have h70 : sa.eval (.tmp 70) = .int .i64 ((0 : Nat)) := sk.fact 31 70 rfl (sd 31 rfl)
        exact Runs.bin rfl h70 rfl (by rfl) (bin_neq _ _ _ _) ⟨Ext.refl _, congrArg Value.bool (by decide)⟩
      · refine stepY (j := 25) (d := 64) (b := true) rfl rfl rfl (fun v w h => h) fun sdn sa sw sE sd sk => ?_
        have h67 : sa.eval (.tmp 67) = .bool (false) := sk.fact 28 67 rfl (sd 28 rfl)
        have h71 : sa.eval (.tmp 71) = .bool (false) := sk.fact 32 71 rfl (sd 32 rfl)
        exact Runs.pick rfl h67 ⟨Ext.refl _, by first | exact h71 | simpa using h71⟩
      · refine stepY (j := 22) (d := 61) (b := false) rfl rfl rfl (fun v w h => h) fun sdn sa sw sE sd sk => ?_
        have h64 : sa.eval (.tmp 64) = .bool (true) := sk.fact 25 64 rfl (sd 25 rfl)
        have h72 : sa.eval (.tmp 72) = .bool (false) := sk.fact 33 72 rfl (sd 33 rfl)
        exact Runs.pick rfl h64 ⟨Ext.refl _, by first | exact h72 | simpa using h72⟩
      · refine stepE rfl fun sdn sa sw sE sd sk => ?_
        have h61 : sa.eval (.tmp 61) = .bool (false) := sk.fact 22 61 rfl (sd 22 rfl)
        have h73 : sa.eval (.tmp 73) = .bool (false) := sk.fact 34 73 rfl (sd 34 rfl)
        exact Runs.pick rfl h61 ⟨Ext.refl _, by first | exact h73 | simpa using h73⟩
      intro vals w10 hE6 hv6
      have e0 : vals 0 = .int .i64 ((0 : Int)) := hv6 0 (by omega) 39 rfl
      have e1 : vals 1 = .bool (false) := hv6 1 (by omega) 40 rfl
      have e2 : vals 2 = .bool (false) := hv6 2 (by omega) 41 rfl
      have e3 : vals 3 = .agg #[.int .i64 (k : Int), .slice P 64 d, .slice Q' 4 d'] := hv6 3 (by omega) 42 rfl
      have e4 : vals 4 = .pointer (some ⟨g1, 0, none⟩) := hv6 4 (by omega) 43 rfl
      have e5 : vals 5 = .int .i64 (((k : Nat) : Int)) := hv6 5 (by omega) 44 rfl
      have e6 : vals 6 = .slice (B) (m) (e') := hv6 6 (by omega) 45 rfl
      obtain ⟨P46, d46, Q46, e46, e7, r46, q46⟩ := hv6 7 (by omega) 46 rfl
      have e8 : vals 8 = .bool (true) := hv6 8 (by omega) 47 rfl
      have e9 : vals 9 = .bool (false) := hv6 9 (by omega) 48 rfl
      have e10 : vals 10 = .bool (false) := hv6 10 (by omega) 49 rfl
      have e11 : vals 11 = .bool (false) := hv6 11 (by omega) 50 rfl
      have e12 : vals 12 = .int .i64 ((23 : Int)) := hv6 12 (by omega) 51 rfl
      have e13 : vals 13 = .bool (false) := hv6 13 (by omega) 52 rfl
      have e14 : vals 14 = .int .i64 (index) := hv6 14 (by omega) 53 rfl
      have e15 : vals 15 = .bool (true) := hv6 15 (by omega) 54 rfl
      have e16 : vals 16 = .bool (true) := hv6 16 (by omega) 55 rfl
      have e17 : vals 17 = .int .i64 (index) := hv6 17 (by omega) 56 rfl
      have e18 : vals 18 = .bool (false) := hv6 18 (by omega) 57 rfl
      have e19 : vals 19 = .bool (false) := hv6 19 (by omega) 58 rfl
      have e20 : vals 20 = .bool (false) := hv6 20 (by omega) 59 rfl
      have e21 : vals 21 = .bool (false) := hv6 21 (by omega) 60 rfl
      have e22 : vals 22 = .bool (false) := hv6 22 (by omega) 61 rfl
      have e23 : vals 23 = .int .i64 ((23 : Int)) := hv6 23 (by omega) 62 rfl
      have e24 : vals 24 = .bool (true) := hv6 24 (by omega) 63 rfl
      have e25 : vals 25 = .bool (true) := hv6 25 (by omega) 64 rfl
      have e26 : vals 26 = .int .i64 ((23 : Int)) := hv6 26 (by omega) 65 rfl
      have e27 : vals 27 = .bool (false) := hv6 27 (by omega) 66 rfl
      have e28 : vals 28 = .bool (false) := hv6 28 (by omega) 67 rfl
      have e29 : vals 29 = .pointer (some ⟨w8.heap.size, 1, none⟩) := hv6 29 (by omega) 68 rfl
      have e30 : vals 30 = .slice (none) (0) (0) := hv6 30 (by omega) 69 rfl
      have e31 : vals 31 = .int .i64 ((0 : Nat)) := hv6 31 (by omega) 70 rfl
      have e32 : vals 32 = .bool (false) := hv6 32 (by omega) 71 rfl
      have e33 : vals 33 = .bool (false) := hv6 33 (by omega) 72 rfl
      have e34 : vals 34 = .bool (false) := hv6 34 (by omega) 73 rfl
      have e35 : vals 35 = .bool (false) := hv6 35 (by omega) 74 rfl
      simp only [putAll, Act.put, List.take_succ_cons, List.take_zero, List.drop_succ_cons, List.drop_zero, List.drop_nil, List.take_nil, Nat.reduceAdd, List.setIfInBounds_toArray, List.set_cons_succ, List.set_cons_zero, e0, e1, e2, e3, e4, e5, e6, e7, e8, e9, e10, e11, e12, e13, e14, e15, e16, e17, e18, e19, e20, e21, e22, e23, e24, e25, e26, e27, e28, e29, e30, e31, e32, e33, e34, e35]
      clear hv6 e0 e1 e2 e3 e4 e5 e6 e7 e8 e9 e10 e11 e12 e13 e14 e15 e16 e17 e18 e19 e20 e21 e22 e23 e24 e25 e26 e27 e28 e29 e30 e31 e32 e33 e34 e35
      have rS := rS.ext hE6
      have rM := rM.ext hE6
      have rR := rR.ext hE6
      have o1 := o1.ext hE6
      have rPs := rPs.ext hE6
      have rQs := rQs.ext hE6
      have hB7 := hB7.ext hE6
      have hEa := hEa.trans hE6
      clear hE6 hB9
      go_upto_region 8 with (fail)
      refine par_ext (n := 31) (by kernel_rfl) [.is (.slice (A1) (32) (32)), .rb (ownP S), .is (.string (str (ownP S))), .is (.pointer (some ⟨g1, 0, none⟩)), .rb (ownP S), .is (.string (str (ownP S))), .is (.bool (true)), .is (.bool (true)), .is (.pointer (some ⟨g1, 0, none⟩)), .rb (ownP S), .is (.slice (B) (m) (e')), .is (.agg #[.int .i64 (k : Int), .slice P 64 d, .slice Q' 4 d']), .is (.bool (true)), .is (.bool (true)), .is (.bool (true)), .is (.pointer (some ⟨g1, 0, none⟩)), .rb (ownP S), .is (.slice (D) (md) (ed)), .is (.agg #[.int .i64 (k : Int), .slice P 64 d, .slice Q' 4 d']), .is (.bool (true)), .is (.bool (true)), .is (.bool (true)), .is (.slice (D) (md) (ed)), .is (.slice (B) (m) (e')), .is (.agg #[.int .i64 (k : Int), .slice P 64 d, .slice Q' 4 d']), .is (.bool (true)), .is (.bool (true)), .is (.bool (true)), .is (.bool (true)), .is (.bool (true)), .is (.bool (true))] rfl ⟨?_, ?_, ?_, ?_, ?_, ?_, ?_, ?_, ?_, ?_, ?_, ?_, ?_, ?_, ?_, ?_, ?_, ?_, ?_, ?_, ?_, ?_, ?_, ?_, ?_, ?_, ?_, ?_, ?_, ?_, ?_, trivial⟩ ?_
      · refine stepE rfl fun sdn sa sw sE sd sk => ?_
        have h0 : sa.eval (.tmp 0) = .slice (A1) (32) (32) := sk.old 0 rfl
        exact Runs.move rfl h0 ⟨Ext.refl _, rfl⟩
      · refine stepE rfl fun sdn sa sw sE sd sk => ?_
        have h75 : sa.eval (.tmp 75) = .slice (A1) (32) (32) := sk.fact 0 75 rfl (sd 0 rfl)
        refine Runs.call (f := 31) (vs := [.slice (A1) (32) (32)]) rfl rfl rfl (by simp only [List.map_toArray, List.map_cons, List.map_nil, h75] <;> rfl) (ent31 _ _) ((spublic_any _ _ _ sw (rS.ext sE)).mono ?_); rintro e w' ⟨A', c', rfl, own, hx⟩; exact ⟨_, rfl, hx, A', 32, c', rfl, own.rb⟩
      · refine stepE rfl fun sdn sa sw sE sd sk => ?_
        obtain ⟨A76, n76, c76, h76, r76⟩ := sk.fact 1 76 rfl (sd 1 rfl)
        exact Runs.conv rfl h76 (run_str r76) ⟨Ext.refl _, rfl⟩
      · refine stepE rfl fun sdn sa sw sE sd sk => ?_
        have h9 : sa.eval (.tmp 9) = .pointer (some ⟨g1, 0, none⟩) := sk.old 9 rfl
        exact Runs.move rfl h9 ⟨Ext.refl _, rfl⟩
      · refine stepE rfl fun sdn sa sw sE sd sk => ?_
        have h78 : sa.eval (.tmp 78) = .pointer (some ⟨g1, 0, none⟩) := sk.fact 3 78 rfl (sd 3 rfl)
        refine Runs.call (f := 37) (vs := [.pointer (some ⟨g1, 0, none⟩)]) rfl rfl rfl (by simp only [List.map_toArray, List.map_cons, List.map_nil, h78] <;> rfl) (ent37 _ _) ((rpublic_any g1 _ S sw (o1.ext sE)).mono ?_); rintro e w' ⟨A', c', rfl, own, hx⟩; exact ⟨_, rfl, hx, A', 32, c', rfl, own⟩
      · refine stepE rfl fun sdn sa sw sE sd sk => ?_
        obtain ⟨A79, n79, c79, h79, r79⟩ := sk.fact 4 79 rfl (sd 4 rfl)
        exact Runs.conv rfl h79 (run_str r79) ⟨Ext.refl _, rfl⟩
      · refine stepE rfl fun sdn sa sw sE sd sk => ?_
        have h77 : sa.eval (.tmp 77) = .string (str (ownP S)) := sk.fact 2 77 rfl (sd 2 rfl)
        have h80 : sa.eval (.tmp 80) = .string (str (ownP S)) := sk.fact 5 80 rfl (sd 5 rfl)
        exact Runs.bin rfl h77 h80 (by rfl) (bin_eqs _ _ _) ⟨Ext.refl _, congrArg Value.bool (by simp)⟩
      · refine stepE rfl fun sdn sa sw sE sd sk => ?_
        have h81 : sa.eval (.tmp 81) = .bool (true) := sk.fact 6 81 rfl (sd 6 rfl)
        exact Runs.move rfl h81 ⟨Ext.refl _, rfl⟩
      · refine stepY (j := 7) (d := 82) (b := true) rfl rfl rfl (fun v w h => h) fun sdn sa sw sE sd sk => ?_
        have h9 : sa.eval (.tmp 9) = .pointer (some ⟨g1, 0, none⟩) := sk.old 9 rfl
        exact Runs.move rfl h9 ⟨Ext.refl _, rfl⟩
      · refine stepY (j := 7) (d := 82) (b := true) rfl rfl rfl (fun v w h => h) fun sdn sa sw sE sd sk => ?_
        have h83 : sa.eval (.tmp 83) = .pointer (some ⟨g1, 0, none⟩) := sk.fact 8 83 rfl (sd 8 rfl)
        refine Runs.call (f := 37) (vs := [.pointer (some ⟨g1, 0, none⟩)]) rfl rfl rfl (by simp only [List.map_toArray, List.map_cons, List.map_nil, h83] <;> rfl) (ent37 _ _) ((rpublic_any g1 _ S sw (o1.ext sE)).mono ?_); rintro e w' ⟨A', c', rfl, own, hx⟩; exact ⟨_, rfl, hx, A', 32, c', rfl, own⟩
      · refine stepY (j := 7) (d := 82) (b := true) rfl rfl rfl (fun v w h => h) fun sdn sa sw sE sd sk => ?_
        have h2 : sa.eval (.tmp 2) = .slice (B) (m) (e') := sk.old 2 rfl
        exact Runs.move rfl h2 ⟨Ext.refl _, rfl⟩
      · refine stepY (j := 7) (d := 82) (b := true) rfl rfl rfl (fun v w h => h) fun sdn sa sw sE sd sk => ?_
        have h11 : sa.eval (.tmp 11) = .pointer (some ⟨w6.heap.size, 0, none⟩) := sk.old 11 rfl
        exact Runs.load rfl h11 (load_sig (hB7.ext sE)) ⟨Ext.refl _, rfl⟩
      · refine stepY (j := 7) (d := 82) (b := true) rfl rfl rfl (fun v w h => h) fun sdn sa sw sE sd sk => ?_
        obtain ⟨A84, n84, c84, h84, r84⟩ := sk.fact 9 84 rfl (sd 9 rfl)
        have h85 : sa.eval (.tmp 85) = .slice (B) (m) (e') := sk.fact 10 85 rfl (sd 10 rfl)
        have h86 : sa.eval (.tmp 86) = .agg #[.int .i64 (k : Int), .slice P 64 d, .slice Q' 4 d'] := sk.fact 11 86 rfl (sd 11 rfl)
        refine Runs.call (f := 40) (vs := [.slice (A84) (n84) (c84), .slice (B) (m) (e'), .agg #[.int .i64 (k : Int), .slice P 64 d, .slice Q' 4 d']]) rfl rfl rfl (by simp only [List.map_toArray, List.map_cons, List.map_nil, h84, h85, h86] <;> rfl) (ent40 _ _) ((same5_any _ _ P Q' _ _ _ _ 64 d 4 d' (k : Int) _ _ PS QS sw r84 (rM.ext sE) (by omega) (rPs.ext sE) (rQs.ext sE)).mono ?_); rintro e w' ⟨rfl, hx⟩; exact ⟨_, rfl, hx, rfl⟩
      · refine stepE rfl fun sdn sa sw sE sd sk => ?_
        have h82 : sa.eval (.tmp 82) = .bool (true) := sk.fact 7 82 rfl (sd 7 rfl)
        have h87 : sa.eval (.tmp 87) = .bool (true) := sk.fact 12 87 rfl (sd 12 rfl)
        exact Runs.pick rfl h82 ⟨Ext.refl _, by first | exact h87 | simpa using h87⟩
      · refine stepE rfl fun sdn sa sw sE sd sk => ?_
        have h88 : sa.eval (.tmp 88) = .bool (true) := sk.fact 13 88 rfl (sd 13 rfl)
        exact Runs.move rfl h88 ⟨Ext.refl _, rfl⟩
      · refine stepY (j := 14) (d := 89) (b := true) rfl rfl rfl (fun v w h => h) fun sdn sa sw sE sd sk => ?_
        have h9 : sa.eval (.tmp 9) = .pointer (some ⟨g1, 0, none⟩) := sk.old 9 rfl
        exact Runs.move rfl h9 ⟨Ext.refl _, rfl⟩
      · refine stepY (j := 14) (d := 89) (b := true) rfl rfl rfl (fun v w h => h) fun sdn sa sw sE sd sk => ?_
        have h90 : sa.eval (.tmp 90) = .pointer (some ⟨g1, 0, none⟩) := sk.fact 15 90 rfl (sd 15 rfl)
        refine Runs.call (f := 37) (vs := [.pointer (some ⟨g1, 0, none⟩)]) rfl rfl rfl (by simp only [List.map_toArray, List.map_cons, List.map_nil, h90] <;> rfl) (ent37 _ _) ((rpublic_any g1 _ S sw (o1.ext sE)).mono ?_); rintro e w' ⟨A', c', rfl, own, hx⟩; exact ⟨_, rfl, hx, A', 32, c', rfl, own⟩
      · refine stepY (j := 14) (d := 89) (b := true) rfl rfl rfl (fun v w h => h) fun sdn sa sw sE sd sk => ?_
        have h3 : sa.eval (.tmp 3) = .slice (D) (md) (ed) := sk.old 3 rfl
        exact Runs.move rfl h3 ⟨Ext.refl _, rfl⟩
      · refine stepY (j := 14) (d := 89) (b := true) rfl rfl rfl (fun v w h => h) fun sdn sa sw sE sd sk => ?_
        have h11 : sa.eval (.tmp 11) = .pointer (some ⟨w6.heap.size, 0, none⟩) := sk.old 11 rfl
        exact Runs.load rfl h11 (load_sig (hB7.ext sE)) ⟨Ext.refl _, rfl⟩
      · refine stepY (j := 14) (d := 89) (b := true) rfl rfl rfl (fun v w h => h) fun sdn sa sw sE sd sk => ?_
        obtain ⟨A91, n91, c91, h91, r91⟩ := sk.fact 16 91 rfl (sd 16 rfl)
        have h92 : sa.eval (.tmp 92) = .slice (D) (md) (ed) := sk.fact 17 92 rfl (sd 17 rfl)
        have h93 : sa.eval (.tmp 93) = .agg #[.int .i64 (k : Int), .slice P 64 d, .slice Q' 4 d'] := sk.fact 18 93 rfl (sd 18 rfl)
        refine Runs.call (f := 40) (vs := [.slice (A91) (n91) (c91), .slice (D) (md) (ed), .agg #[.int .i64 (k : Int), .slice P 64 d, .slice Q' 4 d']]) rfl rfl rfl (by simp only [List.map_toArray, List.map_cons, List.map_nil, h91, h92, h93] <;> rfl) (ent40 _ _) ((same5_any _ _ P Q' _ _ _ _ 64 d 4 d' (k : Int) _ _ PS QS sw r91 (rR.ext sE) (by omega) (rPs.ext sE) (rQs.ext sE)).mono ?_); rintro e w' ⟨rfl, hx⟩; exact ⟨_, rfl, hx, rfl⟩
      · refine stepE rfl fun sdn sa sw sE sd sk => ?_
        have h89 : sa.eval (.tmp 89) = .bool (true) := sk.fact 14 89 rfl (sd 14 rfl)
        have h94 : sa.eval (.tmp 94) = .bool (true) := sk.fact 19 94 rfl (sd 19 rfl)
        exact Runs.pick rfl h89 ⟨Ext.refl _, by first | exact h94 | simpa using h94⟩
      · refine stepE rfl fun sdn sa sw sE sd sk => ?_
        have h95 : sa.eval (.tmp 95) = .bool (true) := sk.fact 20 95 rfl (sd 20 rfl)
        exact Runs.move rfl h95 ⟨Ext.refl _, rfl⟩
      · refine stepY (j := 21) (d := 96) (b := true) rfl rfl rfl (fun v w h => h) fun sdn sa sw sE sd sk => ?_
        have h3 : sa.eval (.tmp 3) = .slice (D) (md) (ed) := sk.old 3 rfl
        exact Runs.move rfl h3 ⟨Ext.refl _, rfl⟩
      · refine stepY (j := 21) (d := 96) (b := true) rfl rfl rfl (fun v w h => h) fun sdn sa sw sE sd sk => ?_
        have h2 : sa.eval (.tmp 2) = .slice (B) (m) (e') := sk.old 2 rfl
        exact Runs.move rfl h2 ⟨Ext.refl _, rfl⟩
      · refine stepY (j := 21) (d := 96) (b := true) rfl rfl rfl (fun v w h => h) fun sdn sa sw sE sd sk => ?_
        have h11 : sa.eval (.tmp 11) = .pointer (some ⟨w6.heap.size, 0, none⟩) := sk.old 11 rfl
        exact Runs.load rfl h11 (load_sig (hB7.ext sE)) ⟨Ext.refl _, rfl⟩
      · refine stepY (j := 21) (d := 96) (b := true) rfl rfl rfl (fun v w h => h) fun sdn sa sw sE sd sk => ?_
        have h97 : sa.eval (.tmp 97) = .slice (D) (md) (ed) := sk.fact 22 97 rfl (sd 22 rfl)
        have h98 : sa.eval (.tmp 98) = .slice (B) (m) (e') := sk.fact 23 98 rfl (sd 23 rfl)
        have h99 : sa.eval (.tmp 99) = .agg #[.int .i64 (k : Int), .slice P 64 d, .slice Q' 4 d'] := sk.fact 24 99 rfl (sd 24 rfl)
        refine Runs.call (f := 40) (vs := [.slice (D) (md) (ed), .slice (B) (m) (e'), .agg #[.int .i64 (k : Int), .slice P 64 d, .slice Q' 4 d']]) rfl rfl rfl (by simp only [List.map_toArray, List.map_cons, List.map_nil, h97, h98, h99] <;> rfl) (ent40 _ _) ((same5_any _ _ P Q' _ _ _ _ 64 d 4 d' (k : Int) _ _ PS QS sw (rR.ext sE) (rM.ext sE) (by omega) (rPs.ext sE) (rQs.ext sE)).mono ?_); rintro e w' ⟨rfl, hx⟩; exact ⟨_, rfl, hx, rfl⟩
      · refine stepE rfl fun sdn sa sw sE sd sk => ?_
        have h96 : sa.eval (.tmp 96) = .bool (true) := sk.fact 21 96 rfl (sd 21 rfl)
        have h100 : sa.eval (.tmp 100) = .bool (true) := sk.fact 25 100 rfl (sd 25 rfl)
        exact Runs.pick rfl h96 ⟨Ext.refl _, by first | exact h100 | simpa using h100⟩
      · refine stepE rfl fun sdn sa sw sE sd sk => ?_
        have h101 : sa.eval (.tmp 101) = .bool (true) := sk.fact 26 101 rfl (sd 26 rfl)
        exact Runs.move rfl h101 ⟨Ext.refl _, rfl⟩
      · refine stepY (j := 27) (d := 102) (b := true) rfl rfl rfl (fun v w h => h) fun sdn sa sw sE sd sk => ?_
        refine Runs.call (f := 34) (vs := []) rfl rfl rfl (by simp only [List.map_toArray, List.map_cons, List.map_nil] <;> rfl) (ent34 _ _) ((known5_any sw).mono ?_); rintro e w' ⟨rfl, hx⟩; exact ⟨_, rfl, hx, rfl⟩
      · refine stepE rfl fun sdn sa sw sE sd sk => ?_
        have h102 : sa.eval (.tmp 102) = .bool (true) := sk.fact 27 102 rfl (sd 27 rfl)
        have h103 : sa.eval (.tmp 103) = .bool (true) := sk.fact 28 103 rfl (sd 28 rfl)
        exact Runs.pick rfl h102 ⟨Ext.refl _, by first | exact h103 | simpa using h103⟩
      · refine stepE rfl fun sdn sa sw sE sd sk => ?_
        have h104 : sa.eval (.tmp 104) = .bool (true) := sk.fact 29 104 rfl (sd 29 rfl)
        exact Runs.assign rfl h104 ⟨Ext.refl _, rfl⟩
      intro vals W9 hE9 hv9
      have e0 : vals 0 = .slice (A1) (32) (32) := hv9 0 (by omega) 75 rfl
      obtain ⟨A76, n76, c76, e1, r76⟩ := hv9 1 (by omega) 76 rfl
      have e2 : vals 2 = .string (str (ownP S)) := hv9 2 (by omega) 77 rfl
      have e3 : vals 3 = .pointer (some ⟨g1, 0, none⟩) := hv9 3 (by omega) 78 rfl
      obtain ⟨A79, n79, c79, e4, r79⟩ := hv9 4 (by omega) 79 rfl
      have e5 : vals 5 = .string (str (ownP S)) := hv9 5 (by omega) 80 rfl
      have e6 : vals 6 = .bool (true) := hv9 6 (by omega) 81 rfl
      have e7 : vals 7 = .bool (true) := hv9 7 (by omega) 82 rfl
      have e8 : vals 8 = .pointer (some ⟨g1, 0, none⟩) := hv9 8 (by omega) 83 rfl
      obtain ⟨A84, n84, c84, e9, r84⟩ := hv9 9 (by omega) 84 rfl
      have e10 : vals 10 = .slice (B) (m) (e') := hv9 10 (by omega) 85 rfl
      have e11 : vals 11 = .agg #[.int .i64 (k : Int), .slice P 64 d, .slice Q' 4 d'] := hv9 11 (by omega) 86 rfl
      have e12 : vals 12 = .bool (true) := hv9 12 (by omega) 87 rfl
      have e13 : vals 13 = .bool (true) := hv9 13 (by omega) 88 rfl
      have e14 : vals 14 = .bool (true) := hv9 14 (by omega) 89 rfl
      have e15 : vals 15 = .pointer (some ⟨g1, 0, none⟩) := hv9 15 (by omega) 90 rfl
      obtain ⟨A91, n91, c91, e16, r91⟩ := hv9 16 (by omega) 91 rfl
      have e17 : vals 17 = .slice (D) (md) (ed) := hv9 17 (by omega) 92 rfl
      have e18 : vals 18 = .agg #[.int .i64 (k : Int), .slice P 64 d, .slice Q' 4 d'] := hv9 18 (by omega) 93 rfl
      have e19 : vals 19 = .bool (true) := hv9 19 (by omega) 94 rfl
      have e20 : vals 20 = .bool (true) := hv9 20 (by omega) 95 rfl
      have e21 : vals 21 = .bool (true) := hv9 21 (by omega) 96 rfl
      have e22 : vals 22 = .slice (D) (md) (ed) := hv9 22 (by omega) 97 rfl
      have e23 : vals 23 = .slice (B) (m) (e') := hv9 23 (by omega) 98 rfl
      have e24 : vals 24 = .agg #[.int .i64 (k : Int), .slice P 64 d, .slice Q' 4 d'] := hv9 24 (by omega) 99 rfl
      have e25 : vals 25 = .bool (true) := hv9 25 (by omega) 100 rfl
      have e26 : vals 26 = .bool (true) := hv9 26 (by omega) 101 rfl
      have e27 : vals 27 = .bool (true) := hv9 27 (by omega) 102 rfl
      have e28 : vals 28 = .bool (true) := hv9 28 (by omega) 103 rfl
      have e29 : vals 29 = .bool (true) := hv9 29 (by omega) 104 rfl
      have e30 : vals 30 = .bool (true) := hv9 30 (by omega) 8 rfl
      simp only [putAll, Act.put, List.take_succ_cons, List.take_zero, List.drop_succ_cons, List.drop_zero, List.drop_nil, List.take_nil, Nat.reduceAdd, List.setIfInBounds_toArray, List.set_cons_succ, List.set_cons_zero, e0, e1, e2, e3, e4, e5, e6, e7, e8, e9, e10, e11, e12, e13, e14, e15, e16, e17, e18, e19, e20, e21, e22, e23, e24, e25, e26, e27, e28, e29, e30]
      clear hv9 e0 e1 e2 e3 e4 e5 e6 e7 e8 e9 e10 e11 e12 e13 e14 e15 e16 e17 e18 e19 e20 e21 e22 e23 e24 e25 e26 e27 e28 e29 e30
      go_wp2_with fail
      go_ret
      exact ⟨rfl, hEa.trans hE9⟩
  · go_wp2_with fail
    rw [← hw7]
    clear hw7
    refine (ssign_used A1 B 32 m e' index _ (.inl (by omega))).mono ?_
    rintro e w8 ⟨rfl, hE8⟩
    have hE9 := Ext.new w8 (.cells #[.int .i64 0, .slice none 0 0, .slice none 0 0] 52)
    have hB9 := Blk.new w8 52 #[.int .i64 0, .slice none 0 0, .slice none 0 0]
    have hE79 := hE8.trans hE9
    have rS := rS.ext hE79
    have rM := rM.ext hE79
    have rR := rR.ext hE79
    have o1 := o1.ext hE79
    have hEa := hEa.trans hE79
    have rPs := rPs.ext hE79
    have rQs := rQs.ext hE79
    have hB7 := hB7.ext hE79
    clear hE8 hE9 hE79
    have y9 : (w8.alloc (.cells #[.int .i64 0, .slice none 0 0, .slice none 0 0] 52)).cell? ⟨w8.heap.size, 1, none⟩ = some (.slice none 0 0) := hB9.cell (i := 1) rfl
    go_upto_region 6 with (fail)
    generalize w8.alloc (.cells #[.int .i64 0, .slice none 0 0, .slice none 0 0] 52) = w9 at *
    refine par_ext (n := 36) (by kernel_rfl) [.is (.int .i64 ((0 : Int))), .is (.bool (false)), .is (.bool (false)), .is (.agg #[.int .i64 (k : Int), .slice P 64 d, .slice Q' 4 d']), .is (.pointer (some ⟨g1, 0, none⟩)), .is (.int .i64 (((k : Nat) : Int))), .is (.slice (B) (m) (e')), .sg (k : Int) 64 4 PS QS, .is (.bool (true)), .is (.bool (false)), .is (.bool (false)), .is (.bool (false)), .is (.int .i64 ((23 : Int))), .is (.bool (false)), .is (.int .i64 (index)), .is (.bool (false)), .is (.bool (false)), .is undef, .is undef, .is (.bool (false)), .is (.bool (false)), .is (.bool (false)), .is (.bool (false)), .is (.int .i64 ((23 : Int))), .is (.bool (true)), .is (.bool (true)), .is (.int .i64 ((23 : Int))), .is (.bool (false)), .is (.bool (false)), .is (.pointer (some ⟨w8.heap.size, 1, none⟩)), .is (.slice (none) (0) (0)), .is (.int .i64 ((0 : Nat))), .is (.bool (false)), .is (.bool (false)), .is (.bool (false)), .is (.bool (false))] rfl ⟨?_, ?_, ?_, ?_, ?_, ?_, ?_, ?_, ?_, ?_, ?_, ?_, ?_, ?_, ?_, ?_, ?_, ?_, ?_, ?_, ?_, ?_, ?_, ?_, ?_, ?_, ?_, ?_, ?_, ?_, ?_, ?_, ?_, ?_, ?_, ?_, trivial⟩ ?_
    · refine stepE rfl fun sdn sa sw sE sd sk => ?_
      have h12 : sa.eval (.tmp 12) = .int .i64 ((0 : Int)) := sk.old 12 rfl
      exact Runs.move rfl h12 ⟨Ext.refl _, rfl⟩
    · refine stepE rfl fun sdn sa sw sE sd sk => ?_
      have h39 : sa.eval (.tmp 39) = .int .i64 ((0 : Int)) := sk.fact 0 39 rfl (sd 0 rfl)
      exact Runs.bin rfl h39 rfl (by rfl) (bin_neq _ _ _ _) ⟨Ext.refl _, congrArg Value.bool (by decide)⟩
    · refine stepE rfl fun sdn sa sw sE sd sk => ?_
      have h40 : sa.eval (.tmp 40) = .bool (false) := sk.fact 1 40 rfl (sd 1 rfl)
      exact Runs.move rfl h40 ⟨Ext.refl _, rfl⟩
    · refine stepY (j := 2) (d := 41) (b := false) rfl rfl rfl (fun v w h => h) fun sdn sa sw sE sd sk => ?_
      have h11 : sa.eval (.tmp 11) = .pointer (some ⟨w6.heap.size, 0, none⟩) := sk.old 11 rfl
      exact Runs.load rfl h11 (load_sig (hB7.ext sE)) ⟨Ext.refl _, rfl⟩
    · refine stepY (j := 2) (d := 41) (b := false) rfl rfl rfl (fun v w h => h) fun sdn sa sw sE sd sk => ?_
      have h9 : sa.eval (.tmp 9) = .pointer (some ⟨g1, 0, none⟩) := sk.old 9 rfl
      exact Runs.move rfl h9 ⟨Ext.refl _, rfl⟩
    · refine stepY (j := 2) (d := 41) (b := false) rfl rfl rfl (fun v w h => h) fun sdn sa sw sE sd sk => ?_
      have h10 : sa.eval (.tmp 10) = .int .i64 (((k : Nat) : Int)) := sk.old 10 rfl
      exact Runs.move rfl h10 ⟨Ext.refl _, rfl⟩
    · refine stepY (j := 2) (d := 41) (b := false) rfl rfl rfl (fun v w h => h) fun sdn sa sw sE sd sk => ?_
      have h2 : sa.eval (.tmp 2) = .slice (B) (m) (e') := sk.old 2 rfl
      exact Runs.move rfl h2 ⟨Ext.refl _, rfl⟩
    · refine stepY (j := 2) (d := 41) (b := false) rfl rfl rfl (fun v w h => h) fun sdn sa sw sE sd sk => ?_
      have h43 : sa.eval (.tmp 43) = .pointer (some ⟨g1, 0, none⟩) := sk.fact 4 43 rfl (sd 4 rfl)
      have h44 : sa.eval (.tmp 44) = .int .i64 (((k : Nat) : Int)) := sk.fact 5 44 rfl (sd 5 rfl)
      have h45 : sa.eval (.tmp 45) = .slice (B) (m) (e') := sk.fact 6 45 rfl (sd 6 rfl)
      refine Runs.call (f := 36) (vs := [.pointer (some ⟨g1, 0, none⟩), .int .i64 (((k : Nat) : Int)), .slice (B) (m) (e')]) rfl rfl rfl (by simp only [List.map_toArray, List.map_cons, List.map_nil, h43, h44, h45] <;> rfl) (ent36 _ _) ((rsign_any _ g1 _ _ _ k S M sw (o1.ext sE) (rM.ext sE) (by omega) (by omega)).mono ?_); rintro e w' ⟨P', d', Q', e', rfl, h1, h2, hx⟩; exact ⟨_, rfl, hx, P', d', Q', e', rfl, HPS.out.symm ▸ h1, HQS.out.symm ▸ h2⟩
    · refine stepY (j := 2) (d := 41) (b := false) rfl rfl rfl (fun v w h => h) fun sdn sa sw sE sd sk => ?_
      have h42 : sa.eval (.tmp 42) = .agg #[.int .i64 (k : Int), .slice P 64 d, .slice Q' 4 d'] := sk.fact 3 42 rfl (sd 3 rfl)
      obtain ⟨P46, d46, Q46, e46, h46, r46, q46⟩ := sk.fact 7 46 rfl (sd 7 rfl)
      refine Runs.call (f := 39) (vs := [.agg #[.int .i64 (k : Int), .slice P 64 d, .slice Q' 4 d'], .agg #[.int .i64 (k : Int), .slice P46 64 d46, .slice Q46 4 e46]]) rfl rfl rfl (by simp only [List.map_toArray, List.map_cons, List.map_nil, h42, h46] <;> rfl) (ent39 _ _) ((rsame_true _ _ _ _ _ _ _ _ _ _ _ _ _ _ _ sw (rPs.ext sE) (rQs.ext sE) r46 q46).mono ?_); rintro e w' ⟨rfl, hx⟩; exact ⟨_, rfl, hx, rfl⟩
    · refine stepY (j := 2) (d := 41) (b := false) rfl rfl rfl (fun v w h => h) fun sdn sa sw sE sd sk => ?_
      have h47 : sa.eval (.tmp 47) = .bool (true) := sk.fact 8 47 rfl (sd 8 rfl)
      exact Runs.un rfl h47 (by rfl) ⟨Ext.refl _, rfl⟩
    · refine stepE rfl fun sdn sa sw sE sd sk => ?_
      have h41 : sa.eval (.tmp 41) = .bool (false) := sk.fact 2 41 rfl (sd 2 rfl)
      have h48 : sa.eval (.tmp 48) = .bool (false) := sk.fact 9 48 rfl (sd 9 rfl)
      exact Runs.pick rfl h41 ⟨Ext.refl _, by first | exact h48 | simpa using h48⟩
    · refine stepE rfl fun sdn sa sw sE sd sk => ?_
      have h49 : sa.eval (.tmp 49) = .bool (false) := sk.fact 10 49 rfl (sd 10 rfl)
      exact Runs.move rfl h49 ⟨Ext.refl _, rfl⟩
    · refine stepY (j := 11) (d := 50) (b := false) rfl rfl rfl (fun v w h => h) fun sdn sa sw sE sd sk => ?_
      have h14 : sa.eval (.tmp 14) = .int .i64 ((23 : Int)) := sk.old 14 rfl
      exact Runs.move rfl h14 ⟨Ext.refl _, rfl⟩
    · refine stepY (j := 11) (d := 50) (b := false) rfl rfl rfl (fun v w h => h) fun sdn sa sw sE sd sk => ?_
      have h51 : sa.eval (.tmp 51) = .int .i64 ((23 : Int)) := sk.fact 12 51 rfl (sd 12 rfl)
      exact Runs.bin rfl h51 rfl (by rfl) (bin_eql _ _ _ _) ⟨Ext.refl _, congrArg Value.bool (by decide)⟩
    · refine stepY (j := 11) (d := 50) (b := false) rfl rfl rfl (fun v w h => h) fun sdn sa sw sE sd sk => ?_
      have h1 : sa.eval (.tmp 1) = .int .i64 (index) := sk.old 1 rfl
      exact Runs.move rfl h1 ⟨Ext.refl _, rfl⟩
    · refine stepY (j := 11) (d := 50) (b := false) rfl rfl rfl (fun v w h => h) fun sdn sa sw sE sd sk => ?_
      have h53 : sa.eval (.tmp 53) = .int .i64 (index) := sk.fact 14 53 rfl (sd 14 rfl)
      exact Runs.bin rfl h53 rfl (by rfl) (bin_geq _ _ _ _) ⟨Ext.refl _, congrArg Value.bool (decide_eq_false (by omega))⟩
    · refine stepY (j := 11) (d := 50) (b := false) rfl rfl rfl (fun v w h => h) fun sdn sa sw sE sd sk => ?_
      have h54 : sa.eval (.tmp 54) = .bool (false) := sk.fact 15 54 rfl (sd 15 rfl)
      exact Runs.move rfl h54 ⟨Ext.refl _, rfl⟩
    · exact stepN (j := 16) (d := 55) (b := false) rfl rfl rfl (fun v w h => h) fun w => rfl
    · exact stepN (j := 16) (d := 55) (b := false) rfl rfl rfl (fun v w h => h) fun w => rfl
    · refine stepY (j := 11) (d := 50) (b := false) rfl rfl rfl (fun v w h => h) fun sdn sa sw sE sd sk => ?_
      have h55 : sa.eval (.tmp 55) = .bool (false) := sk.fact 16 55 rfl (sd 16 rfl)
      exact Runs.pick rfl h55 ⟨Ext.refl _, rfl⟩
    · refine stepY (j := 11) (d := 50) (b := false) rfl rfl rfl (fun v w h => h) fun sdn sa sw sE sd sk => ?_
      have h52 : sa.eval (.tmp 52) = .bool (false) := sk.fact 13 52 rfl (sd 13 rfl)
      have h58 : sa.eval (.tmp 58) = .bool (false) := sk.fact 19 58 rfl (sd 19 rfl)
      exact Runs.bin rfl h52 h58 (by rfl) (bin_neb _ _) ⟨Ext.refl _, congrArg Value.bool (by simp)⟩
    · refine stepE rfl fun sdn sa sw sE sd sk => ?_
      have h50 : sa.eval (.tmp 50) = .bool (false) := sk.fact 11 50 rfl (sd 11 rfl)
      have h59 : sa.eval (.tmp 59) = .bool (false) := sk.fact 20 59 rfl (sd 20 rfl)
      exact Runs.pick rfl h50 ⟨Ext.refl _, by first | exact h59 | simpa using h59⟩
    · refine stepE rfl fun sdn sa sw sE sd sk => ?_
      have h60 : sa.eval (.tmp 60) = .bool (false) := sk.fact 21 60 rfl (sd 21 rfl)
      exact Runs.move rfl h60 ⟨Ext.refl _, rfl⟩
    · refine stepY (j := 22) (d := 61) (b := false) rfl rfl rfl (fun v w h => h) fun sdn sa sw sE sd sk => ?_
      have h14 : sa.eval (.tmp 14) = .int .i64 ((23 : Int)) := sk.old 14 rfl
      exact Runs.move rfl h14 ⟨Ext.refl _, rfl⟩
    · refine stepY (j := 22) (d := 61) (b := false) rfl rfl rfl (fun v w h => h) fun sdn sa sw sE sd sk => ?_
      have h62 : sa.eval (.tmp 62) = .int .i64 ((23 : Int)) := sk.fact 23 62 rfl (sd 23 rfl)
      exact Runs.bin rfl h62 rfl (by rfl) (bin_neq _ _ _ _) ⟨Ext.refl _, congrArg Value.bool (by decide)⟩
    · refine stepY (j := 22) (d := 61) (b := false) rfl rfl rfl (fun v w h => h) fun sdn sa sw sE sd sk => ?_
      have h63 : sa.eval (.tmp 63) = .bool (true) := sk.fact 24 63 rfl (sd 24 rfl)
      exact Runs.move rfl h63 ⟨Ext.refl _, rfl⟩
    · refine stepY (j := 25) (d := 64) (b := true) rfl rfl rfl (fun v w h => h) fun sdn sa sw sE sd sk => ?_
      have h14 : sa.eval (.tmp 14) = .int .i64 ((23 : Int)) := sk.old 14 rfl
      exact Runs.move rfl h14 ⟨Ext.refl _, rfl⟩
    · refine stepY (j := 25) (d := 64) (b := true) rfl rfl rfl (fun v w h => h) fun sdn sa sw sE sd sk => ?_
      have h65 : sa.eval (.tmp 65) = .int .i64 ((23 : Int)) := sk.fact 26 65 rfl (sd 26 rfl)
      exact Runs.bin rfl h65 rfl (by rfl) (bin_neq _ _ _ _) ⟨Ext.refl _, congrArg Value.bool (by decide)⟩
    · refine stepY (j := 25) (d := 64) (b := true) rfl rfl rfl (fun v w h => h) fun sdn sa sw sE sd sk => ?_
      have h66 : sa.eval (.tmp 66) = .bool (false) := sk.fact 27 66 rfl (sd 27 rfl)
      exact Runs.move rfl h66 ⟨Ext.refl _, rfl⟩
    · refine stepY (j := 28) (d := 67) (b := false) rfl rfl rfl (fun v w h => h) fun sdn sa sw sE sd sk => ?_
      have h13 : sa.eval (.tmp 13) = .pointer (some ⟨w8.heap.size, 0, none⟩) := sk.old 13 rfl
      refine Runs.of_run (r := .pointer (some ⟨w8.heap.size, 1, none⟩)) (w' := sw) ?_ ⟨Ext.refl _, rfl⟩
      unfold execOp
      simp only [h13]
      go_simp
    · refine stepY (j := 28) (d := 67) (b := false) rfl rfl rfl (fun v w h => h) fun sdn sa sw sE sd sk => ?_
      have h68 : sa.eval (.tmp 68) = .pointer (some ⟨w8.heap.size, 1, none⟩) := sk.fact 29 68 rfl (sd 29 rfl)
      exact Runs.load rfl h68 (run_load1 Try.underlying50 rfl (sE.cell y9)) ⟨Ext.refl _, rfl⟩
    · refine stepY (j := 28) (d := 67) (b := false) rfl rfl rfl (fun v w h => h) fun sdn sa sw sE sd sk => ?_
      have h69 : sa.eval (.tmp 69) = .slice (none) (0) (0) := sk.fact 30 69 rfl (sd 30 rfl)
      exact Runs.len Try.underlying50 rfl h69 ⟨Ext.refl _, rfl⟩
    · refine stepY (j := 28) (d := 67) (b := false) rfl rfl rfl (fun v w h => h) fun sdn sa sw sE sd sk => ?_
      have h70 : sa.eval (.tmp 70) = .int .i64 ((0 : Nat)) := sk.fact 31 70 rfl (sd 31 rfl)
      exact Runs.bin rfl h70 rfl (by rfl) (bin_neq _ _ _ _) ⟨Ext.refl _, congrArg Value.bool (by decide)⟩
    · refine stepY (j := 25) (d := 64) (b := true) rfl rfl rfl (fun v w h => h) fun sdn sa sw sE sd sk => ?_
      have h67 : sa.eval (.tmp 67) = .bool (false) := sk.fact 28 67 rfl (sd 28 rfl)
      have h71 : sa.eval (.tmp 71) = .bool (false) := sk.fact 32 71 rfl (sd 32 rfl)
      exact Runs.pick rfl h67 ⟨Ext.refl _, by first | exact h71 | simpa using h71⟩
    · refine stepY (j := 22) (d := 61) (b := false) rfl rfl rfl (fun v w h => h) fun sdn sa sw sE sd sk => ?_
      have h64 : sa.eval (.tmp 64) = .bool (true) := sk.fact 25 64 rfl (sd 25 rfl)
      have h72 : sa.eval (.tmp 72) = .bool (false) := sk.fact 33 72 rfl (sd 33 rfl)
      exact Runs.pick rfl h64 ⟨Ext.refl _, by first | exact h72 | simpa using h72⟩
    · refine stepE rfl fun sdn sa sw sE sd sk => ?_
      have h61 : sa.eval (.tmp 61) = .bool (false) := sk.fact 22 61 rfl (sd 22 rfl)
      have h73 : sa.eval (.tmp 73) = .bool (false) := sk.fact 34 73 rfl (sd 34 rfl)
      exact Runs.pick rfl h61 ⟨Ext.refl _, by first | exact h73 | simpa using h73⟩
    intro vals w10 hE6 hv6
    have e0 : vals 0 = .int .i64 ((0 : Int)) := hv6 0 (by omega) 39 rfl
    have e1 : vals 1 = .bool (false) := hv6 1 (by omega) 40 rfl
    have e2 : vals 2 = .bool (false) := hv6 2 (by omega) 41 rfl
    have e3 : vals 3 = .agg #[.int .i64 (k : Int), .slice P 64 d, .slice Q' 4 d'] := hv6 3 (by omega) 42 rfl
    have e4 : vals 4 = .pointer (some ⟨g1, 0, none⟩) := hv6 4 (by omega) 43 rfl
    have e5 : vals 5 = .int .i64 (((k : Nat) : Int)) := hv6 5 (by omega) 44 rfl
    have e6 : vals 6 = .slice (B) (m) (e') := hv6 6 (by omega) 45 rfl
    obtain ⟨P46, d46, Q46, e46, e7, r46, q46⟩ := hv6 7 (by omega) 46 rfl
    have e8 : vals 8 = .bool (true) := hv6 8 (by omega) 47 rfl
    have e9 : vals 9 = .bool (false) := hv6 9 (by omega) 48 rfl
    have e10 : vals 10 = .bool (false) := hv6 10 (by omega) 49 rfl
    have e11 : vals 11 = .bool (false) := hv6 11 (by omega) 50 rfl
    have e12 : vals 12 = .int .i64 ((23 : Int)) := hv6 12 (by omega) 51 rfl
    have e13 : vals 13 = .bool (false) := hv6 13 (by omega) 52 rfl
    have e14 : vals 14 = .int .i64 (index) := hv6 14 (by omega) 53 rfl
    have e15 : vals 15 = .bool (false) := hv6 15 (by omega) 54 rfl
    have e16 : vals 16 = .bool (false) := hv6 16 (by omega) 55 rfl
    have e19 : vals 19 = .bool (false) := hv6 19 (by omega) 58 rfl
    have e20 : vals 20 = .bool (false) := hv6 20 (by omega) 59 rfl
    have e21 : vals 21 = .bool (false) := hv6 21 (by omega) 60 rfl
    have e22 : vals 22 = .bool (false) := hv6 22 (by omega) 61 rfl
    have e23 : vals 23 = .int .i64 ((23 : Int)) := hv6 23 (by omega) 62 rfl
    have e24 : vals 24 = .bool (true) := hv6 24 (by omega) 63 rfl
    have e25 : vals 25 = .bool (true) := hv6 25 (by omega) 64 rfl
    have e26 : vals 26 = .int .i64 ((23 : Int)) := hv6 26 (by omega) 65 rfl
    have e27 : vals 27 = .bool (false) := hv6 27 (by omega) 66 rfl
    have e28 : vals 28 = .bool (false) := hv6 28 (by omega) 67 rfl
    have e29 : vals 29 = .pointer (some ⟨w8.heap.size, 1, none⟩) := hv6 29 (by omega) 68 rfl
    have e30 : vals 30 = .slice (none) (0) (0) := hv6 30 (by omega) 69 rfl
    have e31 : vals 31 = .int .i64 ((0 : Nat)) := hv6 31 (by omega) 70 rfl
    have e32 : vals 32 = .bool (false) := hv6 32 (by omega) 71 rfl
    have e33 : vals 33 = .bool (false) := hv6 33 (by omega) 72 rfl
    have e34 : vals 34 = .bool (false) := hv6 34 (by omega) 73 rfl
    have e35 : vals 35 = .bool (false) := hv6 35 (by omega) 74 rfl
    simp only [putAll, Act.put, List.take_succ_cons, List.take_zero, List.drop_succ_cons, List.drop_zero, List.drop_nil, List.take_nil, Nat.reduceAdd, List.setIfInBounds_toArray, List.set_cons_succ, List.set_cons_zero, e0, e1, e2, e3, e4, e5, e6, e7, e8, e9, e10, e11, e12, e13, e14, e15, e16, e19, e20, e21, e22, e23, e24, e25, e26, e27, e28, e29, e30, e31, e32, e33, e34, e35]
    clear hv6 e0 e1 e2 e3 e4 e5 e6 e7 e8 e9 e10 e11 e12 e13 e14 e15 e16 e19 e20 e21 e22 e23 e24 e25 e26 e27 e28 e29 e30 e31 e32 e33 e34 e35
    have rS := rS.ext hE6
    have rM := rM.ext hE6
    have rR := rR.ext hE6
    have o1 := o1.ext hE6
    have rPs := rPs.ext hE6
    have rQs := rQs.ext hE6
    have hB7 := hB7.ext hE6
    have hEa := hEa.trans hE6
    clear hE6 hB9
    go_upto_region 8 with (fail)
    refine par_ext (n := 31) (by kernel_rfl) [.is (.slice (A1) (32) (32)), .rb (ownP S), .is (.string (str (ownP S))), .is (.pointer (some ⟨g1, 0, none⟩)), .rb (ownP S), .is (.string (str (ownP S))), .is (.bool (true)), .is (.bool (true)), .is (.pointer (some ⟨g1, 0, none⟩)), .rb (ownP S), .is (.slice (B) (m) (e')), .is (.agg #[.int .i64 (k : Int), .slice P 64 d, .slice Q' 4 d']), .is (.bool (true)), .is (.bool (true)), .is (.bool (true)), .is (.pointer (some ⟨g1, 0, none⟩)), .rb (ownP S), .is (.slice (D) (md) (ed)), .is (.agg #[.int .i64 (k : Int), .slice P 64 d, .slice Q' 4 d']), .is (.bool (true)), .is (.bool (true)), .is (.bool (true)), .is (.slice (D) (md) (ed)), .is (.slice (B) (m) (e')), .is (.agg #[.int .i64 (k : Int), .slice P 64 d, .slice Q' 4 d']), .is (.bool (true)), .is (.bool (true)), .is (.bool (true)), .is (.bool (true)), .is (.bool (true)), .is (.bool (true))] rfl ⟨?_, ?_, ?_, ?_, ?_, ?_, ?_, ?_, ?_, ?_, ?_, ?_, ?_, ?_, ?_, ?_, ?_, ?_, ?_, ?_, ?_, ?_, ?_, ?_, ?_, ?_, ?_, ?_, ?_, ?_, ?_, trivial⟩ ?_
    · refine stepE rfl fun sdn sa sw sE sd sk => ?_
      have h0 : sa.eval (.tmp 0) = .slice (A1) (32) (32) := sk.old 0 rfl
      exact Runs.move rfl h0 ⟨Ext.refl _, rfl⟩
    · refine stepE rfl fun sdn sa sw sE sd sk => ?_
      have h75 : sa.eval (.tmp 75) = .slice (A1) (32) (32) := sk.fact 0 75 rfl (sd 0 rfl)
      refine Runs.call (f := 31) (vs := [.slice (A1) (32) (32)]) rfl rfl rfl (by simp only [List.map_toArray, List.map_cons, List.map_nil, h75] <;> rfl) (ent31 _ _) ((spublic_any _ _ _ sw (rS.ext sE)).mono ?_); rintro e w' ⟨A', c', rfl, own, hx⟩; exact ⟨_, rfl, hx, A', 32, c', rfl, own.rb⟩
    · refine stepE rfl fun sdn sa sw sE sd sk => ?_
      obtain ⟨A76, n76, c76, h76, r76⟩ := sk.fact 1 76 rfl (sd 1 rfl)
      exact Runs.conv rfl h76 (run_str r76) ⟨Ext.refl _, rfl⟩
    · refine stepE rfl fun sdn sa sw sE sd sk => ?_
      have h9 : sa.eval (.tmp 9) = .pointer (some ⟨g1, 0, none⟩) := sk.old 9 rfl
      exact Runs.move rfl h9 ⟨Ext.refl _, rfl⟩
    · refine stepE rfl fun sdn sa sw sE sd sk => ?_
      have h78 : sa.eval (.tmp 78) = .pointer (some ⟨g1, 0, none⟩) := sk.fact 3 78 rfl (sd 3 rfl)
      refine Runs.call (f := 37) (vs := [.pointer (some ⟨g1, 0, none⟩)]) rfl rfl rfl (by simp only [List.map_toArray, List.map_cons, List.map_nil, h78] <;> rfl) (ent37 _ _) ((rpublic_any g1 _ S sw (o1.ext sE)).mono ?_); rintro e w' ⟨A', c', rfl, own, hx⟩; exact ⟨_, rfl, hx, A', 32, c', rfl, own⟩
    · refine stepE rfl fun sdn sa sw sE sd sk => ?_
      obtain ⟨A79, n79, c79, h79, r79⟩ := sk.fact 4 79 rfl (sd 4 rfl)
      exact Runs.conv rfl h79 (run_str r79) ⟨Ext.refl _, rfl⟩
    · refine stepE rfl fun sdn sa sw sE sd sk => ?_
      have h77 : sa.eval (.tmp 77) = .string (str (ownP S)) := sk.fact 2 77 rfl (sd 2 rfl)
      have h80 : sa.eval (.tmp 80) = .string (str (ownP S)) := sk.fact 5 80 rfl (sd 5 rfl)
      exact Runs.bin rfl h77 h80 (by rfl) (bin_eqs _ _ _) ⟨Ext.refl _, congrArg Value.bool (by simp)⟩
    · refine stepE rfl fun sdn sa sw sE sd sk => ?_
      have h81 : sa.eval (.tmp 81) = .bool (true) := sk.fact 6 81 rfl (sd 6 rfl)
      exact Runs.move rfl h81 ⟨Ext.refl _, rfl⟩
    · refine stepY (j := 7) (d := 82) (b := true) rfl rfl rfl (fun v w h => h) fun sdn sa sw sE sd sk => ?_
      have h9 : sa.eval (.tmp 9) = .pointer (some ⟨g1, 0, none⟩) := sk.old 9 rfl
      exact Runs.move rfl h9 ⟨Ext.refl _, rfl⟩
    · refine stepY (j := 7) (d := 82) (b := true) rfl rfl rfl (fun v w h => h) fun sdn sa sw sE sd sk => ?_
      have h83 : sa.eval (.tmp 83) = .pointer (some ⟨g1, 0, none⟩) := sk.fact 8 83 rfl (sd 8 rfl)
      refine Runs.call (f := 37) (vs := [.pointer (some ⟨g1, 0, none⟩)]) rfl rfl rfl (by simp only [List.map_toArray, List.map_cons, List.map_nil, h83] <;> rfl) (ent37 _ _) ((rpublic_any g1 _ S sw (o1.ext sE)).mono ?_); rintro e w' ⟨A', c', rfl, own, hx⟩; exact ⟨_, rfl, hx, A', 32, c', rfl, own⟩
    · refine stepY (j := 7) (d := 82) (b := true) rfl rfl rfl (fun v w h => h) fun sdn sa sw sE sd sk => ?_
      have h2 : sa.eval (.tmp 2) = .slice (B) (m) (e') := sk.old 2 rfl
      exact Runs.move rfl h2 ⟨Ext.refl _, rfl⟩
    · refine stepY (j := 7) (d := 82) (b := true) rfl rfl rfl (fun v w h => h) fun sdn sa sw sE sd sk => ?_
      have h11 : sa.eval (.tmp 11) = .pointer (some ⟨w6.heap.size, 0, none⟩) := sk.old 11 rfl
      exact Runs.load rfl h11 (load_sig (hB7.ext sE)) ⟨Ext.refl _, rfl⟩
    · refine stepY (j := 7) (d := 82) (b := true) rfl rfl rfl (fun v w h => h) fun sdn sa sw sE sd sk => ?_
      obtain ⟨A84, n84, c84, h84, r84⟩ := sk.fact 9 84 rfl (sd 9 rfl)
      have h85 : sa.eval (.tmp 85) = .slice (B) (m) (e') := sk.fact 10 85 rfl (sd 10 rfl)
      have h86 : sa.eval (.tmp 86) = .agg #[.int .i64 (k : Int), .slice P 64 d, .slice Q' 4 d'] := sk.fact 11 86 rfl (sd 11 rfl)
      refine Runs.call (f := 40) (vs := [.slice (A84) (n84) (c84), .slice (B) (m) (e'), .agg #[.int .i64 (k : Int), .slice P 64 d, .slice Q' 4 d']]) rfl rfl rfl (by simp only [List.map_toArray, List.map_cons, List.map_nil, h84, h85, h86] <;> rfl) (ent40 _ _) ((same5_any _ _ P Q' _ _ _ _ 64 d 4 d' (k : Int) _ _ PS QS sw r84 (rM.ext sE) (by omega) (rPs.ext sE) (rQs.ext sE)).mono ?_); rintro e w' ⟨rfl, hx⟩; exact ⟨_, rfl, hx, rfl⟩
    · refine stepE rfl fun sdn sa sw sE sd sk => ?_
      have h82 : sa.eval (.tmp 82) = .bool (true) := sk.fact 7 82 rfl (sd 7 rfl)
      have h87 : sa.eval (.tmp 87) = .bool (true) := sk.fact 12 87 rfl (sd 12 rfl)
      exact Runs.pick rfl h82 ⟨Ext.refl _, by first | exact h87 | simpa using h87⟩
    · refine stepE rfl fun sdn sa sw sE sd sk => ?_
      have h88 : sa.eval (.tmp 88) = .bool (true) := sk.fact 13 88 rfl (sd 13 rfl)
      exact Runs.move rfl h88 ⟨Ext.refl _, rfl⟩
    · refine stepY (j := 14) (d := 89) (b := true) rfl rfl rfl (fun v w h => h) fun sdn sa sw sE sd sk => ?_
      have h9 : sa.eval (.tmp 9) = .pointer (some ⟨g1, 0, none⟩) := sk.old 9 rfl
      exact Runs.move rfl h9 ⟨Ext.refl _, rfl⟩
    · refine stepY (j := 14) (d := 89) (b := true) rfl rfl rfl (fun v w h => h) fun sdn sa sw sE sd sk => ?_
      have h90 : sa.eval (.tmp 90) = .pointer (some ⟨g1, 0, none⟩) := sk.fact 15 90 rfl (sd 15 rfl)
      refine Runs.call (f := 37) (vs := [.pointer (some ⟨g1, 0, none⟩)]) rfl rfl rfl (by simp only [List.map_toArray, List.map_cons, List.map_nil, h90] <;> rfl) (ent37 _ _) ((rpublic_any g1 _ S sw (o1.ext sE)).mono ?_); rintro e w' ⟨A', c', rfl, own, hx⟩; exact ⟨_, rfl, hx, A', 32, c', rfl, own⟩
    · refine stepY (j := 14) (d := 89) (b := true) rfl rfl rfl (fun v w h => h) fun sdn sa sw sE sd sk => ?_
      have h3 : sa.eval (.tmp 3) = .slice (D) (md) (ed) := sk.old 3 rfl
      exact Runs.move rfl h3 ⟨Ext.refl _, rfl⟩
    · refine stepY (j := 14) (d := 89) (b := true) rfl rfl rfl (fun v w h => h) fun sdn sa sw sE sd sk => ?_
      have h11 : sa.eval (.tmp 11) = .pointer (some ⟨w6.heap.size, 0, none⟩) := sk.old 11 rfl
      exact Runs.load rfl h11 (load_sig (hB7.ext sE)) ⟨Ext.refl _, rfl⟩
    · refine stepY (j := 14) (d := 89) (b := true) rfl rfl rfl (fun v w h => h) fun sdn sa sw sE sd sk => ?_
      obtain ⟨A91, n91, c91, h91, r91⟩ := sk.fact 16 91 rfl (sd 16 rfl)
      have h92 : sa.eval (.tmp 92) = .slice (D) (md) (ed) := sk.fact 17 92 rfl (sd 17 rfl)
      have h93 : sa.eval (.tmp 93) = .agg #[.int .i64 (k : Int), .slice P 64 d, .slice Q' 4 d'] := sk.fact 18 93 rfl (sd 18 rfl)
      refine Runs.call (f := 40) (vs := [.slice (A91) (n91) (c91), .slice (D) (md) (ed), .agg #[.int .i64 (k : Int), .slice P 64 d, .slice Q' 4 d']]) rfl rfl rfl (by simp only [List.map_toArray, List.map_cons, List.map_nil, h91, h92, h93] <;> rfl) (ent40 _ _) ((same5_any _ _ P Q' _ _ _ _ 64 d 4 d' (k : Int) _ _ PS QS sw r91 (rR.ext sE) (by omega) (rPs.ext sE) (rQs.ext sE)).mono ?_); rintro e w' ⟨rfl, hx⟩; exact ⟨_, rfl, hx, rfl⟩
    · refine stepE rfl fun sdn sa sw sE sd sk => ?_
      have h89 : sa.eval (.tmp 89) = .bool (true) := sk.fact 14 89 rfl (sd 14 rfl)
      have h94 : sa.eval (.tmp 94) = .bool (true) := sk.fact 19 94 rfl (sd 19 rfl)
      exact Runs.pick rfl h89 ⟨Ext.refl _, by first | exact h94 | simpa using h94⟩
    · refine stepE rfl fun sdn sa sw sE sd sk => ?_
      have h95 : sa.eval (.tmp 95) = .bool (true) := sk.fact 20 95 rfl (sd 20 rfl)
      exact Runs.move rfl h95 ⟨Ext.refl _, rfl⟩
    · refine stepY (j := 21) (d := 96) (b := true) rfl rfl rfl (fun v w h => h) fun sdn sa sw sE sd sk => ?_
      have h3 : sa.eval (.tmp 3) = .slice (D) (md) (ed) := sk.old 3 rfl
      exact Runs.move rfl h3 ⟨Ext.refl _, rfl⟩
    · refine stepY (j := 21) (d := 96) (b := true) rfl rfl rfl (fun v w h => h) fun sdn sa sw sE sd sk => ?_
      have h2 : sa.eval (.tmp 2) = .slice (B) (m) (e') := sk.old 2 rfl
      exact Runs.move rfl h2 ⟨Ext.refl _, rfl⟩
    · refine stepY (j := 21) (d := 96) (b := true) rfl rfl rfl (fun v w h => h) fun sdn sa sw sE sd sk => ?_
      have h11 : sa.eval (.tmp 11) = .pointer (some ⟨w6.heap.size, 0, none⟩) := sk.old 11 rfl
      exact Runs.load rfl h11 (load_sig (hB7.ext sE)) ⟨Ext.refl _, rfl⟩
    · refine stepY (j := 21) (d := 96) (b := true) rfl rfl rfl (fun v w h => h) fun sdn sa sw sE sd sk => ?_
      have h97 : sa.eval (.tmp 97) = .slice (D) (md) (ed) := sk.fact 22 97 rfl (sd 22 rfl)
      have h98 : sa.eval (.tmp 98) = .slice (B) (m) (e') := sk.fact 23 98 rfl (sd 23 rfl)
      have h99 : sa.eval (.tmp 99) = .agg #[.int .i64 (k : Int), .slice P 64 d, .slice Q' 4 d'] := sk.fact 24 99 rfl (sd 24 rfl)
      refine Runs.call (f := 40) (vs := [.slice (D) (md) (ed), .slice (B) (m) (e'), .agg #[.int .i64 (k : Int), .slice P 64 d, .slice Q' 4 d']]) rfl rfl rfl (by simp only [List.map_toArray, List.map_cons, List.map_nil, h97, h98, h99] <;> rfl) (ent40 _ _) ((same5_any _ _ P Q' _ _ _ _ 64 d 4 d' (k : Int) _ _ PS QS sw (rR.ext sE) (rM.ext sE) (by omega) (rPs.ext sE) (rQs.ext sE)).mono ?_); rintro e w' ⟨rfl, hx⟩; exact ⟨_, rfl, hx, rfl⟩
    · refine stepE rfl fun sdn sa sw sE sd sk => ?_
      have h96 : sa.eval (.tmp 96) = .bool (true) := sk.fact 21 96 rfl (sd 21 rfl)
      have h100 : sa.eval (.tmp 100) = .bool (true) := sk.fact 25 100 rfl (sd 25 rfl)
      exact Runs.pick rfl h96 ⟨Ext.refl _, by first | exact h100 | simpa using h100⟩
    · refine stepE rfl fun sdn sa sw sE sd sk => ?_
      have h101 : sa.eval (.tmp 101) = .bool (true) := sk.fact 26 101 rfl (sd 26 rfl)
      exact Runs.move rfl h101 ⟨Ext.refl _, rfl⟩
    · refine stepY (j := 27) (d := 102) (b := true) rfl rfl rfl (fun v w h => h) fun sdn sa sw sE sd sk => ?_
      refine Runs.call (f := 34) (vs := []) rfl rfl rfl (by simp only [List.map_toArray, List.map_cons, List.map_nil] <;> rfl) (ent34 _ _) ((known5_any sw).mono ?_); rintro e w' ⟨rfl, hx⟩; exact ⟨_, rfl, hx, rfl⟩
    · refine stepE rfl fun sdn sa sw sE sd sk => ?_
      have h102 : sa.eval (.tmp 102) = .bool (true) := sk.fact 27 102 rfl (sd 27 rfl)
      have h103 : sa.eval (.tmp 103) = .bool (true) := sk.fact 28 103 rfl (sd 28 rfl)
      exact Runs.pick rfl h102 ⟨Ext.refl _, by first | exact h103 | simpa using h103⟩
    · refine stepE rfl fun sdn sa sw sE sd sk => ?_
      have h104 : sa.eval (.tmp 104) = .bool (true) := sk.fact 29 104 rfl (sd 29 rfl)
      exact Runs.assign rfl h104 ⟨Ext.refl _, rfl⟩
    intro vals W9 hE9 hv9
    have e0 : vals 0 = .slice (A1) (32) (32) := hv9 0 (by omega) 75 rfl
    obtain ⟨A76, n76, c76, e1, r76⟩ := hv9 1 (by omega) 76 rfl
    have e2 : vals 2 = .string (str (ownP S)) := hv9 2 (by omega) 77 rfl
    have e3 : vals 3 = .pointer (some ⟨g1, 0, none⟩) := hv9 3 (by omega) 78 rfl
    obtain ⟨A79, n79, c79, e4, r79⟩ := hv9 4 (by omega) 79 rfl
    have e5 : vals 5 = .string (str (ownP S)) := hv9 5 (by omega) 80 rfl
    have e6 : vals 6 = .bool (true) := hv9 6 (by omega) 81 rfl
    have e7 : vals 7 = .bool (true) := hv9 7 (by omega) 82 rfl
    have e8 : vals 8 = .pointer (some ⟨g1, 0, none⟩) := hv9 8 (by omega) 83 rfl
    obtain ⟨A84, n84, c84, e9, r84⟩ := hv9 9 (by omega) 84 rfl
    have e10 : vals 10 = .slice (B) (m) (e') := hv9 10 (by omega) 85 rfl
    have e11 : vals 11 = .agg #[.int .i64 (k : Int), .slice P 64 d, .slice Q' 4 d'] := hv9 11 (by omega) 86 rfl
    have e12 : vals 12 = .bool (true) := hv9 12 (by omega) 87 rfl
    have e13 : vals 13 = .bool (true) := hv9 13 (by omega) 88 rfl
    have e14 : vals 14 = .bool (true) := hv9 14 (by omega) 89 rfl
    have e15 : vals 15 = .pointer (some ⟨g1, 0, none⟩) := hv9 15 (by omega) 90 rfl
    obtain ⟨A91, n91, c91, e16, r91⟩ := hv9 16 (by omega) 91 rfl
    have e17 : vals 17 = .slice (D) (md) (ed) := hv9 17 (by omega) 92 rfl
    have e18 : vals 18 = .agg #[.int .i64 (k : Int), .slice P 64 d, .slice Q' 4 d'] := hv9 18 (by omega) 93 rfl
    have e19 : vals 19 = .bool (true) := hv9 19 (by omega) 94 rfl
    have e20 : vals 20 = .bool (true) := hv9 20 (by omega) 95 rfl
    have e21 : vals 21 = .bool (true) := hv9 21 (by omega) 96 rfl
    have e22 : vals 22 = .slice (D) (md) (ed) := hv9 22 (by omega) 97 rfl
    have e23 : vals 23 = .slice (B) (m) (e') := hv9 23 (by omega) 98 rfl
    have e24 : vals 24 = .agg #[.int .i64 (k : Int), .slice P 64 d, .slice Q' 4 d'] := hv9 24 (by omega) 99 rfl
    have e25 : vals 25 = .bool (true) := hv9 25 (by omega) 100 rfl
    have e26 : vals 26 = .bool (true) := hv9 26 (by omega) 101 rfl
    have e27 : vals 27 = .bool (true) := hv9 27 (by omega) 102 rfl
    have e28 : vals 28 = .bool (true) := hv9 28 (by omega) 103 rfl
    have e29 : vals 29 = .bool (true) := hv9 29 (by omega) 104 rfl
    have e30 : vals 30 = .bool (true) := hv9 30 (by omega) 8 rfl
    simp only [putAll, Act.put, List.take_succ_cons, List.take_zero, List.drop_succ_cons, List.drop_zero, List.drop_nil, List.take_nil, Nat.reduceAdd, List.setIfInBounds_toArray, List.set_cons_succ, List.set_cons_zero, e0, e1, e2, e3, e4, e5, e6, e7, e8, e9, e10, e11, e12, e13, e14, e15, e16, e17, e18, e19, e20, e21, e22, e23, e24, e25, e26, e27, e28, e29, e30]
    clear hv9 e0 e1 e2 e3 e4 e5 e6 e7 e8 e9 e10 e11 e12 e13 e14 e15 e16 e17 e18 e19 e20 e21 e22 e23 e24 e25 e26 e27 e28 e29 e30
    go_wp2_with fail
    go_ret
    exact ⟨rfl, hEa.trans hE9⟩
end Go.Proofs.Ytmgnigofilkfmab
