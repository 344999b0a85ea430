/-
  law5.SignOthers, walked.
-/
import Derived.Test.YtmgnigofilkfmabOwner3
namespace Go.Proofs.Ytmgnigofilkfmab
set_option maxRecDepth 100000
open Go Go.RowKit
theorem climb_length (k : Nat) (t : List UInt8) (p : List (List UInt8)) (h : Nat) : (climb k t p (h + 1)).length = 32 := by
  show (climbB k h _ _).length = 32
  unfold climbB
  split <;> exact nodeV_length _ _
theorem verB_nil (M : List UInt8) (x : Int) (Ps Qs : List (List UInt8)) : verB [] M x Ps Qs = false := by
  unfold verB
  have h : ¬ climb x.toNat (rootV M Ps) Qs 4 = [] := by
    intro e
    have h1 := climb_length x.toNat (rootV M Ps) Qs 3
    rw [e] at h1
    cases h1
  simp [h]
set_option maxHeartbeats 8000000 in
theorem sothers_law (B D : Option Addr) (m e' md ed : Nat) (Q R : List UInt8) (key key2 index : Int) (w : World) (hq : RB w B m e' Q) (hq2 : RB w D md ed R) (hk0 : -9223372036854775808 ≤ key) (hk1 : key ≤ 9223372036854775807) (hl0 : -9223372036854775808 ≤ key2) (hl1 : key2 ≤ 9223372036854775807) (hi0 : -9223372036854775808 ≤ index) (hi1 : index ≤ 9223372036854775807) :
    Calls Try.prog 10 #[.int .i64 key, .int .i64 key2, .int .i64 index, .slice B m e', .slice D md ed] w fun e w' => e = .returned (.bool true) ∧ Ext w w' := by
  have hsd := seed_any key w hk0 hk1
  have Hsd := Lib.hid hsd
  have hsd2 := fun w' => seed_any key2 w' hl0 hl1
  have Hsd2 := Lib.hid hsd2
  obtain ⟨k, hk⟩ : ∃ k : Nat, within index 0 15 = k := ⟨_, (Int.toNat_of_nonneg (within_in index 0 15 (by omega)).1).symm⟩
  have hk16 : k < 16 := by have := (within_in index 0 15 (by omega)).2; omega
  have hwi := fun w' => within_any index 0 15 w' hi0 hi1 (by omega) (by omega) (by omega)
  rw [hk] at hwi
  have Hwi := Lib.hid hwi
  clear hsd hsd2 hwi hk
  go_enter Try.func10, Try.ntmps10
  go_wp2_with fail
  refine Hsd.out.mono ?_
  rintro e w1 ⟨A1, c1, rfl, own1, hE1⟩
  clear Hsd
  generalize seedL key = S1 at *
  go_wp2_with fail
  refine (rnew_any A1 c1 S1 w1 own1.rb).mono ?_
  rintro e w2 ⟨g1, rfl, o1, hE2⟩
  go_wp2_with fail
  refine (Hsd2.out w2).mono ?_
  rintro e w3 ⟨A2, c2, rfl, own2, hE3⟩
  clear Hsd2
  generalize seedL key2 = S2 at *
  go_wp2_with fail
  refine (rnew_any A2 c2 S2 w3 own2.rb).mono ?_
  rintro e w4 ⟨g2, rfl, o2, hE4⟩
  have hE24 := hE3.trans hE4
  have hE14 := (hE1.trans hE2).trans hE24
  have o1 := o1.ext hE24
  have e60 : ((60 : Nat) : Int) = 60 := rfl
  have hc1 := cut_any B m e' 60 Q w4 (hq.ext hE14) (by omega)
  have hc2 := cut_any D md ed 60 R w4 (hq2.ext hE14) (by omega)
  rw [e60] at hc1 hc2
  have Hc2 := Lib.hid hc2
  clear own1 own2 hE1 hE2 hE3 hE4 hE24 hc2 hq hq2
  go_wp2_with fail
  refine hc1.mono ?_
  rintro e w5 ⟨⟨rfl, rM⟩, rfl⟩
  clear hc1
  go_wp2_with fail
  refine Hc2.out.mono ?_
  rintro e w6 ⟨⟨rfl, rR⟩, rfl⟩
  clear Hc2 e60
  have hm1 : min m 60 ≤ 60 := by omega
  have hm2 : min md 60 ≤ 60 := by omega
  generalize min m 60 = m at *
  generalize min md 60 = md at *
  generalize Q.take 60 = M at *
  generalize R.take 60 = M2 at *
  go_wp2_with fail
  refine (Hwi.out _).mono ?_
  rintro e w7 ⟨rfl, rfl⟩
  clear Hwi
  go_wp2_with fail
  refine (rsign_any B g1 _ m e' k S1 M _ o1 rM (by omega) hk16).mono ?_
  rintro e w8 ⟨P, d, Q', d', rfl, rPs, rQs, hE8⟩
  have hE9 := Ext.new w8 (.cells #[.int .i64 (k : Int), .slice P 64 d, .slice Q' 4 d'] 52)
  have hB9 := Blk.new w8 52 #[.int .i64 (k : Int), .slice P 64 d, .slice Q' 4 d']
  have hE89 := hE8.trans hE9
  have rM := rM.ext hE89
  have rR := rR.ext hE89
  have o1 := o1.ext hE89
  have o2 := o2.ext hE89
  have rPs := rPs.ext hE9
  have rQs := rQs.ext hE9
  have hEa := hE14.trans hE89
  clear hE8 hE9 hE89 hE14
  have hv3 := verB_own S1 M k hk16
  obtain ⟨PS, hPS⟩ : ∃ PS, PS = (List.range 64).map (partS (digestW M) S1 (k : Int)) := ⟨_, rfl⟩
  obtain ⟨QS, hQS⟩ : ∃ QS, QS = pathL S1 k := ⟨_, rfl⟩
  rw [← hPS, ← hQS] at hv3
  rw [← hPS] at rPs
  rw [← hQS] at rQs
  clear hPS hQS
  obtain ⟨v1, hv1⟩ : ∃ v, verB (ownP S2) M (k : Int) PS QS = v := ⟨_, rfl⟩
  obtain ⟨v2, hv2⟩ : ∃ v, verB (ownP S1) M2 (k : Int) PS QS = v := ⟨_, rfl⟩
  have Hv1 := Lib.hid hv1
  have Hv2 := Lib.hid hv2
  have Hv3 := Lib.hid hv3
  have Hv4 := Lib.hid (verB_nil M (k : Int) PS QS)
  clear hv1 hv2 hv3
  go_upto_region 4 with (fail)
  generalize w8.alloc (.cells #[.int .i64 (k : Int), .slice P 64 d, .slice Q' 4 d'] 52) = w9 at *
  refine par_ext (n := 41) (by kernel_rfl) [.is (.pointer (some ⟨g2, 0, none⟩)), .rb (ownP S2), .is (.slice (B) (m) (e')), .is (.agg #[.int .i64 (k : Int), .slice P 64 d, .slice Q' 4 d']), .is (.bool (v1)), .is (.pointer (some ⟨g2, 0, none⟩)), .rb (ownP S2), .is (.slice (B) (m) (e')), .is (.agg #[.int .i64 (k : Int), .slice P 64 d, .slice Q' 4 d']), .is (.bool (v1)), .is (.bool (true)), .is (.bool (true)), .is (.pointer (some ⟨g1, 0, none⟩)), .rb (ownP S1), .is (.slice (D) (md) (ed)), .is (.agg #[.int .i64 (k : Int), .slice P 64 d, .slice Q' 4 d']), .is (.bool (v2)), .is (.pointer (some ⟨g1, 0, none⟩)), .rb (ownP S1), .is (.slice (D) (md) (ed)), .is (.agg #[.int .i64 (k : Int), .slice P 64 d, .slice Q' 4 d']), .is (.bool (v2)), .is (.bool (true)), .is (.bool (true)), .is (.bool (true)), .is (.pointer (some ⟨g1, 0, none⟩)), .rb (ownP S1), .is (.slice (B) (m) (e')), .is (.agg #[.int .i64 (k : Int), .slice P 64 d, .slice Q' 4 d']), .is (.bool (true)), .is (.bool (true)), .is (.bool (true)), .is (.slice (B) (m) (e')), .is (.agg #[.int .i64 (k : Int), .slice P 64 d, .slice Q' 4 d']), .is (.bool (false)), .is (.bool (true)), .is (.bool (true)), .is (.bool (true)), .is (.bool (true)), .is (.bool (true)), .is (.bool (true))] rfl ⟨?_, ?_, ?_, ?_, ?_, ?_, ?_, ?_, ?_, ?_, ?_, ?_, ?_, ?_, ?_, ?_, ?_, ?_, ?_, ?_, ?_, ?_, ?_, ?_, ?_, ?_, ?_, ?_, ?_, ?_, ?_, ?_, ?_, ?_, ?_, ?_, ?_, ?_, ?_, ?_, ?_, trivial⟩ ?_
  · refine stepE rfl fun sdn sa sw sE sd sk => ?_
    have h12 : sa.eval (.tmp 12) = .pointer (some ⟨g2, 0, none⟩) := sk.old 12 rfl
    exact Runs.move rfl h12 ⟨Ext.refl _, rfl⟩
  · refine stepE rfl fun sdn sa sw sE sd sk => ?_
    have h29 : sa.eval (.tmp 29) = .pointer (some ⟨g2, 0, none⟩) := sk.fact 0 29 rfl (sd 0 rfl)
    refine Runs.call (f := 37) (vs := [.pointer (some ⟨g2, 0, none⟩)]) rfl rfl rfl (by simp only [List.map_toArray, List.map_cons, List.map_nil, h29] <;> rfl) (ent37 _ _) ((rpublic_any g2 _ S2 sw (o2.ext sE)).mono ?_); rintro e w' ⟨A', c', rfl, own, hx⟩; exact ⟨_, rfl, hx, A', 32, c', rfl, own⟩
  · refine stepE rfl fun sdn sa sw sE sd sk => ?_
    have h3 : sa.eval (.tmp 3) = .slice (B) (m) (e') := sk.old 3 rfl
    exact Runs.move rfl h3 ⟨Ext.refl _, rfl⟩
  · refine stepE rfl fun sdn sa sw sE sd sk => ?_
    have h13 : sa.eval (.tmp 13) = .pointer (some ⟨w8.heap.size, 0, none⟩) := sk.old 13 rfl
    exact Runs.load rfl h13 (load_sig (hB9.ext sE)) ⟨Ext.refl _, rfl⟩
  · refine stepE rfl fun sdn sa sw sE sd sk => ?_
    obtain ⟨A30, n30, c30, h30, r30⟩ := sk.fact 1 30 rfl (sd 1 rfl)
    have h31 : sa.eval (.tmp 31) = .slice (B) (m) (e') := sk.fact 2 31 rfl (sd 2 rfl)
    have h32 : sa.eval (.tmp 32) = .agg #[.int .i64 (k : Int), .slice P 64 d, .slice Q' 4 d'] := sk.fact 3 32 rfl (sd 3 rfl)
    refine Runs.call (f := 33) (vs := [.slice (A30) (n30) (c30), .slice (B) (m) (e'), .agg #[.int .i64 (k : Int), .slice P 64 d, .slice Q' 4 d']]) rfl rfl rfl (by simp only [List.map_toArray, List.map_cons, List.map_nil, h30, h31, h32] <;> rfl) (ent33 _ _) ((sverify_any _ _ P Q' _ _ _ _ 64 d 4 d' (k : Int) _ M PS QS sw r30 (rM.ext sE) (by omega) (rPs.ext sE) (rQs.ext sE)).mono ?_); rintro e w' ⟨rfl, hx⟩; exact ⟨_, rfl, hx, congrArg Value.bool (Hv1.out)⟩
  · refine stepE rfl fun sdn sa sw sE sd sk => ?_
    have h12 : sa.eval (.tmp 12) = .pointer (some ⟨g2, 0, none⟩) := sk.old 12 rfl
    exact Runs.move rfl h12 ⟨Ext.refl _, rfl⟩
  · refine stepE rfl fun sdn sa sw sE sd sk => ?_
    have h34 : sa.eval (.tmp 34) = .pointer (some ⟨g2, 0, none⟩) := sk.fact 5 34 rfl (sd 5 rfl)
    refine Runs.call (f := 37) (vs := [.pointer (some ⟨g2, 0, none⟩)]) rfl rfl rfl (by simp only [List.map_toArray, List.map_cons, List.map_nil, h34] <;> rfl) (ent37 _ _) ((rpublic_any g2 _ S2 sw (o2.ext sE)).mono ?_); rintro e w' ⟨A', c', rfl, own, hx⟩; exact ⟨_, rfl, hx, A', 32, c', rfl, own⟩
  · refine stepE rfl fun sdn sa sw sE sd sk => ?_
    have h3 : sa.eval (.tmp 3) = .slice (B) (m) (e') := sk.old 3 rfl
    exact Runs.move rfl h3 ⟨Ext.refl _, rfl⟩
  · refine stepE rfl fun sdn sa sw sE sd sk => ?_
    have h13 : sa.eval (.tmp 13) = .pointer (some ⟨w8.heap.size, 0, none⟩) := sk.old 13 rfl
    exact Runs.load rfl h13 (load_sig (hB9.ext sE)) ⟨Ext.refl _, rfl⟩
  · refine stepE rfl fun sdn sa sw sE sd sk => ?_
    obtain ⟨A35, n35, c35, h35, r35⟩ := sk.fact 6 35 rfl (sd 6 rfl)
    have h36 : sa.eval (.tmp 36) = .slice (B) (m) (e') := sk.fact 7 36 rfl (sd 7 rfl)
    have h37 : sa.eval (.tmp 37) = .agg #[.int .i64 (k : Int), .slice P 64 d, .slice Q' 4 d'] := sk.fact 8 37 rfl (sd 8 rfl)
    refine Runs.call (f := 38) (vs := [.slice (A35) (n35) (c35), .slice (B) (m) (e'), .agg #[.int .i64 (k : Int), .slice P 64 d, .slice Q' 4 d']]) rfl rfl rfl (by simp only [List.map_toArray, List.map_cons, List.map_nil, h35, h36, h37] <;> rfl) (ent38 _ _) ((rverify_any _ _ P Q' _ _ _ _ 64 d 4 d' (k : Int) _ M PS QS sw r35 (rM.ext sE) (by omega) (rPs.ext sE) (rQs.ext sE)).mono ?_); rintro e w' ⟨rfl, hx⟩; exact ⟨_, rfl, hx, congrArg Value.bool (Hv1.out)⟩
  · refine stepE rfl fun sdn sa sw sE sd sk => ?_
    have h33 : sa.eval (.tmp 33) = .bool (v1) := sk.fact 4 33 rfl (sd 4 rfl)
    have h38 : sa.eval (.tmp 38) = .bool (v1) := sk.fact 9 38 rfl (sd 9 rfl)
    exact Runs.bin rfl h33 h38 (by rfl) (bin_eqb _ _) ⟨Ext.refl _, congrArg Value.bool (by simp)⟩
  · refine stepE rfl fun sdn sa sw sE sd sk => ?_
    have h39 : sa.eval (.tmp 39) = .bool (true) := sk.fact 10 39 rfl (sd 10 rfl)
    exact Runs.move rfl h39 ⟨Ext.refl _, rfl⟩
  · refine stepY (j := 11) (d := 40) (b := true) rfl rfl rfl (fun v w h => h) fun sdn sa sw sE sd sk => ?_
    have h11 : sa.eval (.tmp 11) = .pointer (some ⟨g1, 0, none⟩) := sk.old 11 rfl
    exact Runs.move rfl h11 ⟨Ext.refl _, rfl⟩
  · refine stepY (j := 11) (d := 40) (b := true) rfl rfl rfl (fun v w h => h) fun sdn sa sw sE sd sk => ?_
    have h41 : sa.eval (.tmp 41) = .pointer (some ⟨g1, 0, none⟩) := sk.fact 12 41 rfl (sd 12 rfl)
    refine Runs.call (f := 37) (vs := [.pointer (some ⟨g1, 0, none⟩)]) rfl rfl rfl (by simp only [List.map_toArray, List.map_cons, List.map_nil, h41] <;> rfl) (ent37 _ _) ((rpublic_any g1 _ S1 sw (o1.ext sE)).mono ?_); rintro e w' ⟨A', c', rfl, own, hx⟩; exact ⟨_, rfl, hx, A', 32, c', rfl, own⟩
  · refine stepY (j := 11) (d := 40) (b := true) rfl rfl rfl (fun v w h => h) fun sdn sa sw sE sd sk => ?_
    have h4 : sa.eval (.tmp 4) = .slice (D) (md) (ed) := sk.old 4 rfl
    exact Runs.move rfl h4 ⟨Ext.refl _, rfl⟩
  · refine stepY (j := 11) (d := 40) (b := true) rfl rfl rfl (fun v w h => h) fun sdn sa sw sE sd sk => ?_
    have h13 : sa.eval (.tmp 13) = .pointer (some ⟨w8.heap.size, 0, none⟩) := sk.old 13 rfl
    exact Runs.load rfl h13 (load_sig (hB9.ext sE)) ⟨Ext.refl _, rfl⟩
  · refine stepY (j := 11) (d := 40) (b := true) rfl rfl rfl (fun v w h => h) fun sdn sa sw sE sd sk => ?_
    obtain ⟨A42, n42, c42, h42, r42⟩ := sk.fact 13 42 rfl (sd 13 rfl)
    have h43 : sa.eval (.tmp 43) = .slice (D) (md) (ed) := sk.fact 14 43 rfl (sd 14 rfl)
    have h44 : sa.eval (.tmp 44) = .agg #[.int .i64 (k : Int), .slice P 64 d, .slice Q' 4 d'] := sk.fact 15 44 rfl (sd 15 rfl)
    refine Runs.call (f := 33) (vs := [.slice (A42) (n42) (c42), .slice (D) (md) (ed), .agg #[.int .i64 (k : Int), .slice P 64 d, .slice Q' 4 d']]) rfl rfl rfl (by simp only [List.map_toArray, List.map_cons, List.map_nil, h42, h43, h44] <;> rfl) (ent33 _ _) ((sverify_any _ _ P Q' _ _ _ _ 64 d 4 d' (k : Int) _ M2 PS QS sw r42 (rR.ext sE) (by omega) (rPs.ext sE) (rQs.ext sE)).mono ?_); rintro e w' ⟨rfl, hx⟩; exact ⟨_, rfl, hx, congrArg Value.bool (Hv2.out)⟩
  · refine stepY (j := 11) (d := 40) (b := true) rfl rfl rfl (fun v w h => h) fun sdn sa sw sE sd sk => ?_
    have h11 : sa.eval (.tmp 11) = .pointer (some ⟨g1, 0, none⟩) := sk.old 11 rfl
    exact Runs.move rfl h11 ⟨Ext.refl _, rfl⟩
  · refine stepY (j := 11) (d := 40) (b := true) rfl rfl rfl (fun v w h => h) fun sdn sa sw sE sd sk => ?_
    have h46 : sa.eval (.tmp 46) = .pointer (some ⟨g1, 0, none⟩) := sk.fact 17 46 rfl (sd 17 rfl)
    refine Runs.call (f := 37) (vs := [.pointer (some ⟨g1, 0, none⟩)]) rfl rfl rfl (by simp only [List.map_toArray, List.map_cons, List.map_nil, h46] <;> rfl) (ent37 _ _) ((rpublic_any g1 _ S1 sw (o1.ext sE)).mono ?_); rintro e w' ⟨A', c', rfl, own, hx⟩; exact ⟨_, rfl, hx, A', 32, c', rfl, own⟩
  · refine stepY (j := 11) (d := 40) (b := true) rfl rfl rfl (fun v w h => h) fun sdn sa sw sE sd sk => ?_
    have h4 : sa.eval (.tmp 4) = .slice (D) (md) (ed) := sk.old 4 rfl
    exact Runs.move rfl h4 ⟨Ext.refl _, rfl⟩
  · refine stepY (j := 11) (d := 40) (b := true) rfl rfl rfl (fun v w h => h) fun sdn sa sw sE sd sk => ?_
    have h13 : sa.eval (.tmp 13) = .pointer (some ⟨w8.heap.size, 0, none⟩) := sk.old 13 rfl
    exact Runs.load rfl h13 (load_sig (hB9.ext sE)) ⟨Ext.refl _, rfl⟩
  · refine stepY (j := 11) (d := 40) (b := true) rfl rfl rfl (fun v w h => h) fun sdn sa sw sE sd sk => ?_
    obtain ⟨A47, n47, c47, h47, r47⟩ := sk.fact 18 47 rfl (sd 18 rfl)
    have h48 : sa.eval (.tmp 48) = .slice (D) (md) (ed) := sk.fact 19 48 rfl (sd 19 rfl)
    have h49 : sa.eval (.tmp 49) = .agg #[.int .i64 (k : Int), .slice P 64 d, .slice Q' 4 d'] := sk.fact 20 49 rfl (sd 20 rfl)
    refine Runs.call (f := 38) (vs := [.slice (A47) (n47) (c47), .slice (D) (md) (ed), .agg #[.int .i64 (k : Int), .slice P 64 d, .slice Q' 4 d']]) rfl rfl rfl (by simp only [List.map_toArray, List.map_cons, List.map_nil, h47, h48, h49] <;> rfl) (ent38 _ _) ((rverify_any _ _ P Q' _ _ _ _ 64 d 4 d' (k : Int) _ M2 PS QS sw r47 (rR.ext sE) (by omega) (rPs.ext sE) (rQs.ext sE)).mono ?_); rintro e w' ⟨rfl, hx⟩; exact ⟨_, rfl, hx, congrArg Value.bool (Hv2.out)⟩
  · refine stepY (j := 11) (d := 40) (b := true) rfl rfl rfl (fun v w h => h) fun sdn sa sw sE sd sk => ?_
    have h45 : sa.eval (.tmp 45) = .bool (v2) := sk.fact 16 45 rfl (sd 16 rfl)
    have h50 : sa.eval (.tmp 50) = .bool (v2) := sk.fact 21 50 rfl (sd 21 rfl)
    exact Runs.bin rfl h45 h50 (by rfl) (bin_eqb _ _) ⟨Ext.refl _, congrArg Value.bool (by simp)⟩
  · refine stepE rfl fun sdn sa sw sE sd sk => ?_
    have h40 : sa.eval (.tmp 40) = .bool (true) := sk.fact 11 40 rfl (sd 11 rfl)
    have h51 : sa.eval (.tmp 51) = .bool (true) := sk.fact 22 51 rfl (sd 22 rfl)
    exact Runs.pick rfl h40 ⟨Ext.refl _, by first | exact h51 | simpa using h51⟩
  · refine stepE rfl fun sdn sa sw sE sd sk => ?_
    have h52 : sa.eval (.tmp 52) = .bool (true) := sk.fact 23 52 rfl (sd 23 rfl)
    exact Runs.move rfl h52 ⟨Ext.refl _, rfl⟩
  · refine stepY (j := 24) (d := 53) (b := true) rfl rfl rfl (fun v w h => h) fun sdn sa sw sE sd sk => ?_
    have h11 : sa.eval (.tmp 11) = .pointer (some ⟨g1, 0, none⟩) := sk.old 11 rfl
    exact Runs.move rfl h11 ⟨Ext.refl _, rfl⟩
  · refine stepY (j := 24) (d := 53) (b := true) rfl rfl rfl (fun v w h => h) fun sdn sa sw sE sd sk => ?_
    have h54 : sa.eval (.tmp 54) = .pointer (some ⟨g1, 0, none⟩) := sk.fact 25 54 rfl (sd 25 rfl)
    refine Runs.call (f := 37) (vs := [.pointer (some ⟨g1, 0, none⟩)]) rfl rfl rfl (by simp only [List.map_toArray, List.map_cons, List.map_nil, h54] <;> rfl) (ent37 _ _) ((rpublic_any g1 _ S1 sw (o1.ext sE)).mono ?_); rintro e w' ⟨A', c', rfl, own, hx⟩; exact ⟨_, rfl, hx, A', 32, c', rfl, own⟩
  · refine stepY (j := 24) (d := 53) (b := true) rfl rfl rfl (fun v w h => h) fun sdn sa sw sE sd sk => ?_
    have h3 : sa.eval (.tmp 3) = .slice (B) (m) (e') := sk.old 3 rfl
    exact Runs.move rfl h3 ⟨Ext.refl _, rfl⟩
  · refine stepY (j := 24) (d := 53) (b := true) rfl rfl rfl (fun v w h => h) fun sdn sa sw sE sd sk => ?_
    have h13 : sa.eval (.tmp 13) = .pointer (some ⟨w8.heap.size, 0, none⟩) := sk.old 13 rfl
    exact Runs.load rfl h13 (load_sig (hB9.ext sE)) ⟨Ext.refl _, rfl⟩
  · refine stepY (j := 24) (d := 53) (b := true) rfl rfl rfl (fun v w h => h) fun sdn sa sw sE sd sk => ?_
    obtain ⟨A55, n55, c55, h55, r55⟩ := sk.fact 26 55 rfl (sd 26 rfl)
    have h56 : sa.eval (.tmp 56) = .slice (B) (m) (e') := sk.fact 27 56 rfl (sd 27 rfl)
    have h57 : sa.eval (.tmp 57) = .agg #[.int .i64 (k : Int), .slice P 64 d, .slice Q' 4 d'] := sk.fact 28 57 rfl (sd 28 rfl)
    refine Runs.call (f := 33) (vs := [.slice (A55) (n55) (c55), .slice (B) (m) (e'), .agg #[.int .i64 (k : Int), .slice P 64 d, .slice Q' 4 d']]) rfl rfl rfl (by simp only [List.map_toArray, List.map_cons, List.map_nil, h55, h56, h57] <;> rfl) (ent33 _ _) ((sverify_any _ _ P Q' _ _ _ _ 64 d 4 d' (k : Int) _ M PS QS sw r55 (rM.ext sE) (by omega) (rPs.ext sE) (rQs.ext sE)).mono ?_); rintro e w' ⟨rfl, hx⟩; exact ⟨_, rfl, hx, congrArg Value.bool (Hv3.out)⟩
  · refine stepE rfl fun sdn sa sw sE sd sk => ?_
    have h53 : sa.eval (.tmp 53) = .bool (true) := sk.fact 24 53 rfl (sd 24 rfl)
    have h58 : sa.eval (.tmp 58) = .bool (true) := sk.fact 29 58 rfl (sd 29 rfl)
    exact Runs.pick rfl h53 ⟨Ext.refl _, by first | exact h58 | simpa using h58⟩
  · refine stepE rfl fun sdn sa sw sE sd sk => ?_
    have h59 : sa.eval (.tmp 59) = .bool (true) := sk.fact 30 59 rfl (sd 30 rfl)
    exact Runs.move rfl h59 ⟨Ext.refl _, rfl⟩
  · refine stepY (j := 31) (d := 60) (b := true) rfl rfl rfl (fun v w h => h) fun sdn sa sw sE sd sk => ?_
    have h3 : sa.eval (.tmp 3) = .slice (B) (m) (e') := sk.old 3 rfl
    exact Runs.move rfl h3 ⟨Ext.refl _, rfl⟩
  · refine stepY (j := 31) (d := 60) (b := true) rfl rfl rfl (fun v w h => h) fun sdn sa sw sE sd sk => ?_
    have h13 : sa.eval (.tmp 13) = .pointer (some ⟨w8.heap.size, 0, none⟩) := sk.old 13 rfl
    exact Runs.load rfl h13 (load_sig (hB9.ext sE)) ⟨Ext.refl _, rfl⟩
  · refine stepY (j := 31) (d := 60) (b := true) rfl rfl rfl (fun v w h => h) fun sdn sa sw sE sd sk => ?_
    have h61 : sa.eval (.tmp 61) = .slice (B) (m) (e') := sk.fact 32 61 rfl (sd 32 rfl)
    have h62 : sa.eval (.tmp 62) = .agg #[.int .i64 (k : Int), .slice P 64 d, .slice Q' 4 d'] := sk.fact 33 62 rfl (sd 33 rfl)
    refine Runs.call (f := 33) (vs := [.slice (none) (0) (0), .slice (B) (m) (e'), .agg #[.int .i64 (k : Int), .slice P 64 d, .slice Q' 4 d']]) rfl rfl rfl (by simp only [List.map_toArray, List.map_cons, List.map_nil, h61, h62] <;> rfl) (ent33 _ _) ((sverify_any _ _ P Q' _ _ _ _ 64 d 4 d' (k : Int) _ M PS QS sw (RB.nil_ _) (rM.ext sE) (by omega) (rPs.ext sE) (rQs.ext sE)).mono ?_); rintro e w' ⟨rfl, hx⟩; exact ⟨_, rfl, hx, congrArg Value.bool (Hv4.out)⟩
  · refine stepY (j := 31) (d := 60) (b := true) rfl rfl rfl (fun v w h => h) fun sdn sa sw sE sd sk => ?_
    have h63 : sa.eval (.tmp 63) = .bool (false) := sk.fact 34 63 rfl (sd 34 rfl)
    exact Runs.un rfl h63 (by rfl) ⟨Ext.refl _, rfl⟩
  · refine stepE rfl fun sdn sa sw sE sd sk => ?_
    have h60 : sa.eval (.tmp 60) = .bool (true) := sk.fact 31 60 rfl (sd 31 rfl)
    have h64 : sa.eval (.tmp 64) = .bool (true) := sk.fact 35 64 rfl (sd 35 rfl)
    exact Runs.pick rfl h60 ⟨Ext.refl _, by first | exact h64 | simpa using h64⟩
  · refine stepE rfl fun sdn sa sw sE sd sk => ?_
    have h65 : sa.eval (.tmp 65) = .bool (true) := sk.fact 36 65 rfl (sd 36 rfl)
    exact Runs.move rfl h65 ⟨Ext.refl _, rfl⟩
  · refine stepY (j := 37) (d := 66) (b := true) rfl rfl rfl (fun v w h => h) fun sdn sa sw sE sd sk => ?_
    refine Runs.call (f := 34) (vs := []) rfl rfl rfl (by simp only [List.map_toArray, List.map_cons, List.map_nil] <;> rfl) (ent34 _ _) ((known5_any sw).mono ?_); rintro e w' ⟨rfl, hx⟩; exact ⟨_, rfl, hx, rfl⟩
  · refine stepE rfl fun sdn sa sw sE sd sk => ?_
    have h66 : sa.eval (.tmp 66) = .bool (true) := sk.fact 37 66 rfl (sd 37 rfl)
    have h67 : sa.eval (.tmp 67) = .bool (true) := sk.fact 38 67 rfl (sd 38 rfl)
    exact Runs.pick rfl h66 ⟨Ext.refl _, by first | exact h67 | simpa using h67⟩
  · refine stepE rfl fun sdn sa sw sE sd sk => ?_
    have h68 : sa.eval (.tmp 68) = .bool (true) := sk.fact 39 68 rfl (sd 39 rfl)
    exact Runs.assign rfl h68 ⟨Ext.refl _, rfl⟩
  intro vals W9 hE hv
  have e0 : vals 0 = .pointer (some ⟨g2, 0, none⟩) := hv 0 (by omega) 29 rfl
  obtain ⟨A30, n30, c30, e1, r30⟩ := hv 1 (by omega) 30 rfl
  have e2 : vals 2 = .slice (B) (m) (e') := hv 2 (by omega) 31 rfl
  have e3 : vals 3 = .agg #[.int .i64 (k : Int), .slice P 64 d, .slice Q' 4 d'] := hv 3 (by omega) 32 rfl
  have e4 : vals 4 = .bool (v1) := hv 4 (by omega) 33 rfl
  have e5 : vals 5 = .pointer (some ⟨g2, 0, none⟩) := hv 5 (by omega) 34 rfl
  obtain ⟨A35, n35, c35, e6, r35⟩ := hv 6 (by omega) 35 rfl
  have e7 : vals 7 = .slice (B) (m) (e') := hv 7 (by omega) 36 rfl
  have e8 : vals 8 = .agg #[.int .i64 (k : Int), .slice P 64 d, .slice Q' 4 d'] := hv 8 (by omega) 37 rfl
  have e9 : vals 9 = .bool (v1) := hv 9 (by omega) 38 rfl
  have e10 : vals 10 = .bool (true) := hv 10 (by omega) 39 rfl
  have e11 : vals 11 = .bool (true) := hv 11 (by omega) 40 rfl
  have e12 : vals 12 = .pointer (some ⟨g1, 0, none⟩) := hv 12 (by omega) 41 rfl
  obtain ⟨A42, n42, c42, e13, r42⟩ := hv 13 (by omega) 42 rfl
  have e14 : vals 14 = .slice (D) (md) (ed) := hv 14 (by omega) 43 rfl
  have e15 : vals 15 = .agg #[.int .i64 (k : Int), .slice P 64 d, .slice Q' 4 d'] := hv 15 (by omega) 44 rfl
  have e16 : vals 16 = .bool (v2) := hv 16 (by omega) 45 rfl
  have e17 : vals 17 = .pointer (some ⟨g1, 0, none⟩) := hv 17 (by omega) 46 rfl
  obtain ⟨A47, n47, c47, e18, r47⟩ := hv 18 (by omega) 47 rfl
  have e19 : vals 19 = .slice (D) (md) (ed) := hv 19 (by omega) 48 rfl
  have e20 : vals 20 = .agg #[.int .i64 (k : Int), .slice P 64 d, .slice Q' 4 d'] := hv 20 (by omega) 49 rfl
  have e21 : vals 21 = .bool (v2) := hv 21 (by omega) 50 rfl
  have e22 : vals 22 = .bool (true) := hv 22 (by omega) 51 rfl
  have e23 : vals 23 = .bool (true) := hv 23 (by omega) 52 rfl
  have e24 : vals 24 = .bool (true) := hv 24 (by omega) 53 rfl
  have e25 : vals 25 = .pointer (some ⟨g1, 0, none⟩) := hv 25 (by omega) 54 rfl
  obtain ⟨A55, n55, c55, e26, r55⟩ := hv 26 (by omega) 55 rfl
  have e27 : vals 27 = .slice (B) (m) (e') := hv 27 (by omega) 56 rfl
  have e28 : vals 28 = .agg #[.int .i64 (k : Int), .slice P 64 d, .slice Q' 4 d'] := hv 28 (by omega) 57 rfl
  have e29 : vals 29 = .bool (true) := hv 29 (by omega) 58 rfl
  have e30 : vals 30 = .bool (true) := hv 30 (by omega) 59 rfl
  have e31 : vals 31 = .bool (true) := hv 31 (by omega) 60 rfl
  have e32 : vals 32 = .slice (B) (m) (e') := hv 32 (by omega) 61 rfl
  have e33 : vals 33 = .agg #[.int .i64 (k : Int), .slice P 64 d, .slice Q' 4 d'] := hv 33 (by omega) 62 rfl
  have e34 : vals 34 = .bool (false) := hv 34 (by omega) 63 rfl
  have e35 : vals 35 = .bool (true) := hv 35 (by omega) 64 rfl
  have e36 : vals 36 = .bool (true) := hv 36 (by omega) 65 rfl
  have e37 : vals 37 = .bool (true) := hv 37 (by omega) 66 rfl
  have e38 : vals 38 = .bool (true) := hv 38 (by omega) 67 rfl
  have e39 : vals 39 = .bool (true) := hv 39 (by omega) 68 rfl
  have e40 : vals 40 = .bool (true) := hv 40 (by omega) 10 rfl
  simp only [putAll, Act.put, List.take_succ_cons, List.take_zero, List.drop_succ_cons, List.drop_zero, List.drop_nil, List.take_nil, Nat.reduceAdd, List.setIfInBounds_toArray, List.set_cons_succ, List.set_cons_zero, e0, e1, e2, e3, e4, e5, e6, e7, e8, e9, e10, e11, e12, e13, e14, e15, e16, e17, e18, e19, e20, e21, e22, e23, e24, e25, e26, e27, e28, e29, e30, e31, e32, e33, e34, e35, e36, e37, e38, e39, e40]
  clear hv e0 e1 e2 e3 e4 e5 e6 e7 e8 e9 e10 e11 e12 e13 e14 e15 e16 e17 e18 e19 e20 e21 e22 e23 e24 e25 e26 e27 e28 e29 e30 e31 e32 e33 e34 e35 e36 e37 e38 e39 e40
  go_wp2_with fail
  go_ret
  exact ⟨rfl, hEa.trans hE⟩
end Go.Proofs.Ytmgnigofilkfmab
