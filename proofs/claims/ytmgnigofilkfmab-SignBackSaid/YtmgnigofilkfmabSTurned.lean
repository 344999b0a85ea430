/-
  law5.SignTurned, walked.
-/
import Derived.Test.YtmgnigofilkfmabEncG
import Derived.Test.YtmgnigofilkfmabTurnG
namespace Go.Proofs.Ytmgnigofilkfmab
set_option maxRecDepth 100000
open Go Go.RowKit
/-- a signature that is read, whatever it is -/
def MP.sgx : MP Ext := ⟨fun u w => ∃ x P n d Q m d' Ps Qs, u = .agg #[.int .i64 x, .slice P n d, .slice Q m d'] ∧ RBB w P n d Ps ∧ RBB w Q m d' Qs, fun _ _ _ e ⟨x, P, n, d, Q, m, d', Ps, Qs, h1, h2, h3⟩ => ⟨x, P, n, d, Q, m, d', Ps, Qs, h1, h2.ext e, h3.ext e⟩⟩
theorem partsS_32 (dg : UInt32) (S : List UInt8) (k : Int) : ∀ i, i < 64 → (lb ((List.range 64).map (partS dg S k)) i).length = 32 := by
  intro i hi
  rw [lb_range _ hi]
  exact partS_length _ _ _ _
theorem pathL_32 (S : List UInt8) {k : Nat} (hk : k < 16) : ∀ i, i < 4 → (lb (pathL S k) i).length = 32 := by
  intro i hi
  unfold pathL
  rw [lb_range _ hi]
  exact lb_lev_length S i _ (step_lt hk hi).1
set_option maxHeartbeats 16000000 in
theorem sturned_law (B : Option Addr) (m e' : Nat) (M0 : List UInt8) (n index how at' : Int) (t : UInt8) (xr : Int) (RP RQ : Option Addr) (np cp nq cq : Nat) (Rs Ts : List (List UInt8)) (w : World) (hq : RB w B m e' M0) (hRP : RBB w RP np cp Rs) (hRQ : RBB w RQ nq cq Ts)
    (hk0 : -9223372036854775808 ≤ n) (hk1 : n ≤ 9223372036854775807) (hi0 : -9223372036854775808 ≤ index) (hi1 : index ≤ 9223372036854775807) (hh0 : -9223372036854775808 ≤ how) (hh1 : how ≤ 9223372036854775807) (ha0 : -9223372036854775808 ≤ at') (ha1 : at' ≤ 9223372036854775807) :
    Calls Try.prog 12 #[.int .i64 n, .int .i64 index, .slice B m e', .int .i64 how, .int .i64 at', .int .u8 (u8i t), .agg #[.int .i64 xr, .slice RP np cp, .slice RQ nq cq]] w fun e w' => e = .returned (.bool true) ∧ Ext w w' := by
  have hsd := fun w' => seed_any n w' hk0 hk1
  have Hsd := Lib.hid hsd
  obtain ⟨k, hk⟩ : ∃ k : Nat, within index 0 15 = k := ⟨_, (Int.toNat_of_nonneg (within_in index 0 15 (by omega)).1).symm⟩
  have hk16 : k < 16 := by have := (within_in index 0 15 (by omega)).2; omega
  have hwi := fun w' => within_any index 0 15 w' hi0 hi1 (by omega) (by omega) (by omega)
  rw [hk] at hwi
  have Hwi := Lib.hid hwi
  obtain ⟨h', hh'⟩ : ∃ h', h' = within how 0 8 := ⟨_, rfl⟩
  have hwh := fun w' => within_any how 0 8 w' hh0 hh1 (by omega) (by omega) (by omega)
  have hin := within_in how 0 8 (by omega)
  rw [← hh'] at hwh hin
  have Hwh := Lib.hid hwh
  have hho : h' = 0 ∨ h' = 1 ∨ h' = 2 ∨ h' = 3 ∨ h' = 4 ∨ h' = 5 ∨ h' = 6 ∨ h' = 7 ∨ h' = 8 := by omega
  have Hho := Lib.hid hho
  have hcapP := hRP.room
  have hcapQ := hRQ.room
  have hmP := hRP.cap
  have hmQ := hRQ.cap
  unfold maxLen at hmP hmQ
  clear hsd hwi hk hwh hin hh' hho
  go_enter Try.func12, Try.ntmps12
  have hE0 := Ext.new w (.cells #[.int .i64 xr, .slice RP np cp, .slice RQ nq cq] 52)
  have hB0 := Blk.new w 52 #[.int .i64 xr, .slice RP np cp, .slice RQ nq cq]
  have hs0 : (w.alloc (.cells #[.int .i64 xr, .slice RP np cp, .slice RQ nq cq] 52)).heap.size = w.heap.size + 1 := World.size_alloc _ _
  have e100 : ((100 : Nat) : Int) = 100 := rfl
  have hc1 := cut_any B m e' 100 M0 _ (hq.ext hE0) (by omega)
  rw [e100] at hc1
  go_wp2_with fail
  refine hc1.mono ?_
  rintro e wz ⟨⟨rfl, rM⟩, rfl⟩
  clear hc1 hq e100
  have hm1 : min m 100 ≤ 100 := by omega
  generalize min m 100 = m at *
  generalize M0.take 100 = M at *
  go_wp2_with fail
  refine (Hsd.out _).mono ?_
  rintro e w1 ⟨A1, c1, rfl, own1, hE1⟩
  clear Hsd
  generalize seedL n = S at *
  go_wp2_with fail
  refine (rnew_any A1 c1 S w1 own1.rb).mono ?_
  rintro e w2 ⟨g1, rfl, o1, hE2⟩
  go_wp2_with fail
  refine (Hwi.out _).mono ?_
  rintro e wy ⟨rfl, rfl⟩
  clear Hwi
  have hE12 := hE1.trans hE2
  go_wp2_with fail
  refine (rsign_own B g1 _ m e' k S M w2 o1 (rM.ext hE12) (by omega) hk16).mono ?_
  rintro e w3 ⟨P, d, Q', d', rfl, oP, oQ, hE3⟩
  have hE4 := Ext.new w3 (.cells #[.int .i64 (k : Int), .slice P 64 d, .slice Q' 4 d'] 52)
  have hB4 := Blk.new w3 52 #[.int .i64 (k : Int), .slice P 64 d, .slice Q' 4 d']
  have hE34 := hE3.trans hE4
  have hE14 := hE12.trans hE34
  have hEa := hE0.trans hE14
  have hB := hB0.ext hE14
  have rM := rM.ext hE14
  have o1 := o1.ext hE34
  have oP := oP.ext hE4
  have oQ := oQ.ext hE4
  have hpl := partsS_32 (digestW M) S (k : Int)
  have hql := pathL_32 S hk16
  obtain ⟨PS, hPS⟩ : ∃ PS, PS = (List.range 64).map (partS (digestW M) S (k : Int)) := ⟨_, rfl⟩
  obtain ⟨QS, hQS⟩ : ∃ QS, QS = pathL S k := ⟨_, rfl⟩
  rw [← hPS] at oP hpl
  rw [← hQS] at oQ hql
  have Hpl := Lib.hid hpl
  have Hql := Lib.hid hql
  have hn43 : w3.heap.size ≠ w.heap.size := by
    have := hE0.size
    have := hE1.size
    have := hE2.size
    have := hE3.size
    rw [hs0] at *
    omega
  have y1 : (w3.alloc (.cells #[.int .i64 (k : Int), .slice P 64 d, .slice Q' 4 d'] 52)).cell? ⟨w.heap.size, 1, none⟩ = some (.slice RP np cp) := hB.cell (i := 1) rfl
  have y2 : (w3.alloc (.cells #[.int .i64 (k : Int), .slice P 64 d, .slice Q' 4 d'] 52)).cell? ⟨w.heap.size, 2, none⟩ = some (.slice RQ nq cq) := hB.cell (i := 2) rfl
  have f1 := hB.frozen 1
  have f2 := hB.frozen 2
  clear hPS hQS hpl hql hE34 hE12 hE3 hE4 hE2 hE1 own1 hB0 hE14 hE0 hs0
  have Hn43 := Lib.hid hn43
  clear hn43
  go_upto_region 4 with (fail)
  obtain ⟨w4, hw4⟩ : ∃ w4, w4 = w3.alloc (.cells #[.int .i64 (k : Int), .slice P 64 d, .slice Q' 4 d'] 52) := ⟨_, rfl⟩
  rw [← hw4] at hB4 hEa hB rM o1 oP oQ y1 y2 f1 f2 ⊢
  clear hw4
  by_cases hnp : np ≤ 70
  · have hnp' : ¬ ((70 : Int) < (np : Int)) := by omega
    by_cases hnq : nq ≤ 10
    · have hnq' : ¬ ((10 : Int) < (nq : Int)) := by omega
      have rRP := hRP.ext hEa
      have rRQ := hRQ.ext hEa
      go_upto_region 8 with (fail)
      refine par_ext (n := 21) (by kernel_rfl) [.is (.pointer (some ⟨g1, 0, none⟩)), .rb (ownP S), .is (.slice (B) (m) (e')), .is (.agg #[.int .i64 (k : Int), .slice P 64 d, .slice Q' 4 d']), .is (.int .i64 (how)), .is (.int .i64 (h')), .is (.int .i64 (at')), .is (.int .u8 (u8i (t))), .sgx, .is (.bool (true)), .is (.bool (true)), .is (.pointer (some ⟨g1, 0, none⟩)), .rb (ownP S), .is (.slice (B) (m) (e')), .is (.agg #[.int .i64 xr, .slice RP np cp, .slice RQ nq cq]), .is (.bool (true)), .is (.bool (true)), .is (.bool (true)), .is (.bool (true)), .is (.bool (true)), .is (.bool (true))] rfl ⟨?_, ?_, ?_, ?_, ?_, ?_, ?_, ?_, ?_, ?_, ?_, ?_, ?_, ?_, ?_, ?_, ?_, ?_, ?_, ?_, ?_, trivial⟩ ?_
      · refine stepE rfl fun sdn sa sw sE sd sk => ?_
        have h15 : sa.eval (.tmp 15) = .pointer (some ⟨g1, 0, none⟩) := sk.old 15 rfl
        exact Runs.move rfl h15 ⟨Ext.refl _, rfl⟩
      · refine stepE rfl fun sdn sa sw sE sd sk => ?_
        have h43 : sa.eval (.tmp 43) = .pointer (some ⟨g1, 0, none⟩) := sk.fact 0 43 rfl (sd 0 rfl)
        refine Runs.call (f := 37) (vs := [.pointer (some ⟨g1, 0, none⟩)]) rfl rfl rfl (by simp only [List.map_toArray, List.map_cons, List.map_nil, h43] <;> rfl) (ent37 _ _) ((rpublic_any g1 _ S sw (o1.ext sE)).mono ?_); rintro e w' ⟨A', c', rfl, own, hx⟩; exact ⟨_, rfl, hx, A', 32, c', rfl, own⟩
      · refine stepE rfl fun sdn sa sw sE sd sk => ?_
        have h2 : sa.eval (.tmp 2) = .slice (B) (m) (e') := sk.old 2 rfl
        exact Runs.move rfl h2 ⟨Ext.refl _, rfl⟩
      · refine stepE rfl fun sdn sa sw sE sd sk => ?_
        have h16 : sa.eval (.tmp 16) = .pointer (some ⟨w3.heap.size, 0, none⟩) := sk.old 16 rfl
        exact Runs.load rfl h16 (load_sig (hB4.ext sE)) ⟨Ext.refl _, rfl⟩
      · refine stepE rfl fun sdn sa sw sE sd sk => ?_
        have h3 : sa.eval (.tmp 3) = .int .i64 (how) := sk.old 3 rfl
        exact Runs.move rfl h3 ⟨Ext.refl _, rfl⟩
      · refine stepE rfl fun sdn sa sw sE sd sk => ?_
        have h47 : sa.eval (.tmp 47) = .int .i64 (how) := sk.fact 4 47 rfl (sd 4 rfl)
        refine Runs.call (f := 16) (vs := [.int .i64 (how), .int .i64 ((0 : Int)), .int .i64 ((8 : Int))]) rfl rfl rfl (by simp only [List.map_toArray, List.map_cons, List.map_nil, h47] <;> rfl) (ent16 _ _) ((Hwh.out sw).mono ?_); rintro e w' ⟨rfl, rfl⟩; exact ⟨_, rfl, Ext.refl _, rfl⟩
      · refine stepE rfl fun sdn sa sw sE sd sk => ?_
        have h4 : sa.eval (.tmp 4) = .int .i64 (at') := sk.old 4 rfl
        exact Runs.move rfl h4 ⟨Ext.refl _, rfl⟩
      · refine stepE rfl fun sdn sa sw sE sd sk => ?_
        have h5 : sa.eval (.tmp 5) = .int .u8 (u8i (t)) := sk.old 5 rfl
        exact Runs.move rfl h5 ⟨Ext.refl _, rfl⟩
      · refine stepE rfl fun sdn sa sw sE sd sk => ?_
        have h46 : sa.eval (.tmp 46) = .agg #[.int .i64 (k : Int), .slice P 64 d, .slice Q' 4 d'] := sk.fact 3 46 rfl (sd 3 rfl)
        have h48 : sa.eval (.tmp 48) = .int .i64 (h') := sk.fact 5 48 rfl (sd 5 rfl)
        have h49 : sa.eval (.tmp 49) = .int .i64 (at') := sk.fact 6 49 rfl (sd 6 rfl)
        have h50 : sa.eval (.tmp 50) = .int .u8 (u8i (t)) := sk.fact 7 50 rfl (sd 7 rfl)
        refine Runs.call (f := 41) (vs := [.agg #[.int .i64 (k : Int), .slice P 64 d, .slice Q' 4 d'], .int .i64 (h'), .int .i64 (at'), .int .u8 (u8i (t))]) rfl rfl rfl (by simp only [List.map_toArray, List.map_cons, List.map_nil, h46, h48, h49, h50] <;> rfl) (ent41 _ _) ((turned5_any _ at' h' _ _ _ _ t _ _ sw (oP.rbb.ext sE) (oQ.rbb.ext sE) Hpl.out Hql.out ha0 ha1 Hho.out).mono ?_); rintro e w' ⟨x', P', n', c', Q', m', d', Ps', Qs', rfl, h1, h2, _, hx⟩; exact ⟨_, rfl, hx, x', P', n', c', Q', m', d', Ps', Qs', rfl, h1, h2⟩
      · refine stepE rfl fun sdn sa sw sE sd sk => ?_
        obtain ⟨x51, P51, n51, d51, Q51, m51, e51, Ps51, Qs51, h51, r51, q51⟩ := sk.fact 8 51 rfl (sd 8 rfl)
        obtain ⟨A44, n44, c44, h44, r44⟩ := sk.fact 1 44 rfl (sd 1 rfl)
        have h45 : sa.eval (.tmp 45) = .slice (B) (m) (e') := sk.fact 2 45 rfl (sd 2 rfl)
        refine Runs.call (f := 40) (vs := [.slice (A44) (n44) (c44), .slice (B) (m) (e'), .agg #[.int .i64 x51, .slice P51 n51 d51, .slice Q51 m51 e51]]) rfl rfl rfl (by simp only [List.map_toArray, List.map_cons, List.map_nil, h44, h45, h51] <;> rfl) (ent40 _ _) ((same5_any _ _ P51 Q51 _ _ _ _ n51 d51 m51 e51 x51 _ _ Ps51 Qs51 sw r44 (rM.ext sE) (by omega) r51 q51).mono ?_); rintro e w' ⟨rfl, hx⟩; exact ⟨_, rfl, hx, rfl⟩
      · refine stepE rfl fun sdn sa sw sE sd sk => ?_
        have h52 : sa.eval (.tmp 52) = .bool (true) := sk.fact 9 52 rfl (sd 9 rfl)
        exact Runs.move rfl h52 ⟨Ext.refl _, rfl⟩
      · refine stepY (j := 10) (d := 53) (b := true) rfl rfl rfl (fun v w h => h) fun sdn sa sw sE sd sk => ?_
        have h15 : sa.eval (.tmp 15) = .pointer (some ⟨g1, 0, none⟩) := sk.old 15 rfl
        exact Runs.move rfl h15 ⟨Ext.refl _, rfl⟩
      · refine stepY (j := 10) (d := 53) (b := true) rfl rfl rfl (fun v w h => h) fun sdn sa sw sE sd sk => ?_
        have h54 : sa.eval (.tmp 54) = .pointer (some ⟨g1, 0, none⟩) := sk.fact 11 54 rfl (sd 11 rfl)
        refine Runs.call (f := 37) (vs := [.pointer (some ⟨g1, 0, none⟩)]) rfl rfl rfl (by simp only [List.map_toArray, List.map_cons, List.map_nil, h54] <;> rfl) (ent37 _ _) ((rpublic_any g1 _ S sw (o1.ext sE)).mono ?_); rintro e w' ⟨A', c', rfl, own, hx⟩; exact ⟨_, rfl, hx, A', 32, c', rfl, own⟩
      · refine stepY (j := 10) (d := 53) (b := true) rfl rfl rfl (fun v w h => h) fun sdn sa sw sE sd sk => ?_
        have h2 : sa.eval (.tmp 2) = .slice (B) (m) (e') := sk.old 2 rfl
        exact Runs.move rfl h2 ⟨Ext.refl _, rfl⟩
      · refine stepY (j := 10) (d := 53) (b := true) rfl rfl rfl (fun v w h => h) fun sdn sa sw sE sd sk => ?_
        have h13 : sa.eval (.tmp 13) = .pointer (some ⟨w.heap.size, 0, none⟩) := sk.old 13 rfl
        exact Runs.load rfl h13 (load_sig (hB.ext sE)) ⟨Ext.refl _, rfl⟩
      · refine stepY (j := 10) (d := 53) (b := true) rfl rfl rfl (fun v w h => h) fun sdn sa sw sE sd sk => ?_
        obtain ⟨A55, n55, c55, h55, r55⟩ := sk.fact 12 55 rfl (sd 12 rfl)
        have h56 : sa.eval (.tmp 56) = .slice (B) (m) (e') := sk.fact 13 56 rfl (sd 13 rfl)
        have h57 : sa.eval (.tmp 57) = .agg #[.int .i64 xr, .slice RP np cp, .slice RQ nq cq] := sk.fact 14 57 rfl (sd 14 rfl)
        refine Runs.call (f := 40) (vs := [.slice (A55) (n55) (c55), .slice (B) (m) (e'), .agg #[.int .i64 xr, .slice RP np cp, .slice RQ nq cq]]) rfl rfl rfl (by simp only [List.map_toArray, List.map_cons, List.map_nil, h55, h56, h57] <;> rfl) (ent40 _ _) ((same5_any _ _ RP RQ _ _ _ _ np cp nq cq xr _ _ Rs Ts sw r55 (rM.ext sE) (by omega) (rRP.ext sE) (rRQ.ext sE)).mono ?_); rintro e w' ⟨rfl, hx⟩; exact ⟨_, rfl, hx, rfl⟩
      · refine stepE rfl fun sdn sa sw sE sd sk => ?_
        have h53 : sa.eval (.tmp 53) = .bool (true) := sk.fact 10 53 rfl (sd 10 rfl)
        have h58 : sa.eval (.tmp 58) = .bool (true) := sk.fact 15 58 rfl (sd 15 rfl)
        exact Runs.pick rfl h53 ⟨Ext.refl _, by first | exact h58 | simpa using h58⟩
      · refine stepE rfl fun sdn sa sw sE sd sk => ?_
        have h59 : sa.eval (.tmp 59) = .bool (true) := sk.fact 16 59 rfl (sd 16 rfl)
        exact Runs.move rfl h59 ⟨Ext.refl _, rfl⟩
      · refine stepY (j := 17) (d := 60) (b := true) rfl rfl rfl (fun v w h => h) fun sdn sa sw sE sd sk => ?_
        refine Runs.call (f := 34) (vs := []) rfl rfl rfl (by simp only [List.map_toArray, List.map_cons, List.map_nil] <;> rfl) (ent34 _ _) ((known5_any sw).mono ?_); rintro e w' ⟨rfl, hx⟩; exact ⟨_, rfl, hx, rfl⟩
      · refine stepE rfl fun sdn sa sw sE sd sk => ?_
        have h60 : sa.eval (.tmp 60) = .bool (true) := sk.fact 17 60 rfl (sd 17 rfl)
        have h61 : sa.eval (.tmp 61) = .bool (true) := sk.fact 18 61 rfl (sd 18 rfl)
        exact Runs.pick rfl h60 ⟨Ext.refl _, by first | exact h61 | simpa using h61⟩
      · refine stepE rfl fun sdn sa sw sE sd sk => ?_
        have h62 : sa.eval (.tmp 62) = .bool (true) := sk.fact 19 62 rfl (sd 19 rfl)
        exact Runs.assign rfl h62 ⟨Ext.refl _, rfl⟩
      intro vals W9 hE9 hv9
      have e0 : vals 0 = .pointer (some ⟨g1, 0, none⟩) := hv9 0 (by omega) 43 rfl
      obtain ⟨A44, n44, c44, e1, r44⟩ := hv9 1 (by omega) 44 rfl
      have e2 : vals 2 = .slice (B) (m) (e') := hv9 2 (by omega) 45 rfl
      have e3 : vals 3 = .agg #[.int .i64 (k : Int), .slice P 64 d, .slice Q' 4 d'] := hv9 3 (by omega) 46 rfl
      have e4 : vals 4 = .int .i64 (how) := hv9 4 (by omega) 47 rfl
      have e5 : vals 5 = .int .i64 (h') := hv9 5 (by omega) 48 rfl
      have e6 : vals 6 = .int .i64 (at') := hv9 6 (by omega) 49 rfl
      have e7 : vals 7 = .int .u8 (u8i (t)) := hv9 7 (by omega) 50 rfl
      obtain ⟨x51, P51, n51, d51, Q51, m51, e51, Ps51, Qs51, e8, r51, q51⟩ := hv9 8 (by omega) 51 rfl
      have e9 : vals 9 = .bool (true) := hv9 9 (by omega) 52 rfl
      have e10 : vals 10 = .bool (true) := hv9 10 (by omega) 53 rfl
      have e11 : vals 11 = .pointer (some ⟨g1, 0, none⟩) := hv9 11 (by omega) 54 rfl
      obtain ⟨A55, n55, c55, e12, r55⟩ := hv9 12 (by omega) 55 rfl
      have e13 : vals 13 = .slice (B) (m) (e') := hv9 13 (by omega) 56 rfl
      have e14 : vals 14 = .agg #[.int .i64 xr, .slice RP np cp, .slice RQ nq cq] := hv9 14 (by omega) 57 rfl
      have e15 : vals 15 = .bool (true) := hv9 15 (by omega) 58 rfl
      have e16 : vals 16 = .bool (true) := hv9 16 (by omega) 59 rfl
      have e17 : vals 17 = .bool (true) := hv9 17 (by omega) 60 rfl
      have e18 : vals 18 = .bool (true) := hv9 18 (by omega) 61 rfl
      have e19 : vals 19 = .bool (true) := hv9 19 (by omega) 62 rfl
      have e20 : vals 20 = .bool (true) := hv9 20 (by omega) 14 rfl
      simp only [putAll, Act.put, List.take_succ_cons, List.take_zero, List.drop_succ_cons, List.drop_zero, List.drop_nil, List.take_nil, Nat.reduceAdd, List.setIfInBounds_toArray, List.set_cons_succ, List.set_cons_zero, e0, e1, e2, e3, e4, e5, e6, e7, e8, e9, e10, e11, e12, e13, e14, e15, e16, e17, e18, e19, e20]
      clear hv9 e0 e1 e2 e3 e4 e5 e6 e7 e8 e9 e10 e11 e12 e13 e14 e15 e16 e17 e18 e19 e20
      go_wp2_with fail
      go_ret
      exact ⟨rfl, hEa.trans hE9⟩
    · have hnq' : (10 : Int) < (nq : Int) := by omega
      have hnq2 : 10 ≤ nq := by omega
      go_upto_region 8 with (fail)
      have gs := grown_set w4 ⟨w.heap.size, 2, none⟩ (.slice RQ 10 cq)
      have hB4 := hB4.far (p := ⟨w.heap.size, 2, none⟩) Hn43.out (.slice RQ 10 cq)
      have o1 := o1.far hB (sig_no _ _ _ _ _ _ _) gs
      have oP := oP.far hB (by decide) (sig_no _ _ _ _ _ _ _) gs
      have oQ := oQ.far hB (by decide) (sig_no _ _ _ _ _ _ _) gs
      have rM := rM.grown gs (rM.apart5 hB (sig_no _ _ _ _ _ _ _))
      have hEa := hEa.set (p := ⟨w.heap.size, 2, none⟩) (Nat.le_refl _) (.slice RQ 10 cq)
      have hB := hB.set 2 (.slice RQ 10 cq)
      clear gs y1 y2 f1 f2
      generalize w4.setCell ⟨w.heap.size, 2, none⟩ (.slice RQ 10 cq) = w6 at *
      have rRP := hRP.ext hEa
      have rRQ := (hRQ.take hnq2).ext hEa
      go_upto_region 8 with (fail)
      refine par_ext (n := 21) (by kernel_rfl) [.is (.pointer (some ⟨g1, 0, none⟩)), .rb (ownP S), .is (.slice (B) (m) (e')), .is (.agg #[.int .i64 (k : Int), .slice P 64 d, .slice Q' 4 d']), .is (.int .i64 (how)), .is (.int .i64 (h')), .is (.int .i64 (at')), .is (.int .u8 (u8i (t))), .sgx, .is (.bool (true)), .is (.bool (true)), .is (.pointer (some ⟨g1, 0, none⟩)), .rb (ownP S), .is (.slice (B) (m) (e')), .is (.agg #[.int .i64 xr, .slice RP np cp, .slice RQ 10 cq]), .is (.bool (true)), .is (.bool (true)), .is (.bool (true)), .is (.bool (true)), .is (.bool (true)), .is (.bool (true))] rfl ⟨?_, ?_, ?_, ?_, ?_, ?_, ?_, ?_, ?_, ?_, ?_, ?_, ?_, ?_, ?_, ?_, ?_, ?_, ?_, ?_, ?_, trivial⟩ ?_
      · refine stepE rfl fun sdn sa sw sE sd sk => ?_
        have h15 : sa.eval (.tmp 15) = .pointer (some ⟨g1, 0, none⟩) := sk.old 15 rfl
        exact Runs.move rfl h15 ⟨Ext.refl _, rfl⟩
      · refine stepE rfl fun sdn sa sw sE sd sk => ?_
        have h43 : sa.eval (.tmp 43) = .pointer (some ⟨g1, 0, none⟩) := sk.fact 0 43 rfl (sd 0 rfl)
        refine Runs.call (f := 37) (vs := [.pointer (some ⟨g1, 0, none⟩)]) rfl rfl rfl (by simp only [List.map_toArray, List.map_cons, List.map_nil, h43] <;> rfl) (ent37 _ _) ((rpublic_any g1 _ S sw (o1.ext sE)).mono ?_); rintro e w' ⟨A', c', rfl, own, hx⟩; exact ⟨_, rfl, hx, A', 32, c', rfl, own⟩
      · refine stepE rfl fun sdn sa sw sE sd sk => ?_
        have h2 : sa.eval (.tmp 2) = .slice (B) (m) (e') := sk.old 2 rfl
        exact Runs.move rfl h2 ⟨Ext.refl _, rfl⟩
      · refine stepE rfl fun sdn sa sw sE sd sk => ?_
        have h16 : sa.eval (.tmp 16) = .pointer (some ⟨w3.heap.size, 0, none⟩) := sk.old 16 rfl
        exact Runs.load rfl h16 (load_sig (hB4.ext sE)) ⟨Ext.refl _, rfl⟩
      · refine stepE rfl fun sdn sa sw sE sd sk => ?_
        have h3 : sa.eval (.tmp 3) = .int .i64 (how) := sk.old 3 rfl
        exact Runs.move rfl h3 ⟨Ext.refl _, rfl⟩
      · refine stepE rfl fun sdn sa sw sE sd sk => ?_
        have h47 : sa.eval (.tmp 47) = .int .i64 (how) := sk.fact 4 47 rfl (sd 4 rfl)
        refine Runs.call (f := 16) (vs := [.int .i64 (how), .int .i64 ((0 : Int)), .int .i64 ((8 : Int))]) rfl rfl rfl (by simp only [List.map_toArray, List.map_cons, List.map_nil, h47] <;> rfl) (ent16 _ _) ((Hwh.out sw).mono ?_); rintro e w' ⟨rfl, rfl⟩; exact ⟨_, rfl, Ext.refl _, rfl⟩
      · refine stepE rfl fun sdn sa sw sE sd sk => ?_
        have h4 : sa.eval (.tmp 4) = .int .i64 (at') := sk.old 4 rfl
        exact Runs.move rfl h4 ⟨Ext.refl _, rfl⟩
      · refine stepE rfl fun sdn sa sw sE sd sk => ?_
        have h5 : sa.eval (.tmp 5) = .int .u8 (u8i (t)) := sk.old 5 rfl
        exact Runs.move rfl h5 ⟨Ext.refl _, rfl⟩
      · refine stepE rfl fun sdn sa sw sE sd sk => ?_
        have h46 : sa.eval (.tmp 46) = .agg #[.int .i64 (k : Int), .slice P 64 d, .slice Q' 4 d'] := sk.fact 3 46 rfl (sd 3 rfl)
        have h48 : sa.eval (.tmp 48) = .int .i64 (h') := sk.fact 5 48 rfl (sd 5 rfl)
        have h49 : sa.eval (.tmp 49) = .int .i64 (at') := sk.fact 6 49 rfl (sd 6 rfl)
        have h50 : sa.eval (.tmp 50) = .int .u8 (u8i (t)) := sk.fact 7 50 rfl (sd 7 rfl)
        refine Runs.call (f := 41) (vs := [.agg #[.int .i64 (k : Int), .slice P 64 d, .slice Q' 4 d'], .int .i64 (h'), .int .i64 (at'), .int .u8 (u8i (t))]) rfl rfl rfl (by simp only [List.map_toArray, List.map_cons, List.map_nil, h46, h48, h49, h50] <;> rfl) (ent41 _ _) ((turned5_any _ at' h' _ _ _ _ t _ _ sw (oP.rbb.ext sE) (oQ.rbb.ext sE) Hpl.out Hql.out ha0 ha1 Hho.out).mono ?_); rintro e w' ⟨x', P', n', c', Q', m', d', Ps', Qs', rfl, h1, h2, _, hx⟩; exact ⟨_, rfl, hx, x', P', n', c', Q', m', d', Ps', Qs', rfl, h1, h2⟩
      · refine stepE rfl fun sdn sa sw sE sd sk => ?_
        obtain ⟨x51, P51, n51, d51, Q51, m51, e51, Ps51, Qs51, h51, r51, q51⟩ := sk.fact 8 51 rfl (sd 8 rfl)
        obtain ⟨A44, n44, c44, h44, r44⟩ := sk.fact 1 44 rfl (sd 1 rfl)
        have h45 : sa.eval (.tmp 45) = .slice (B) (m) (e') := sk.fact 2 45 rfl (sd 2 rfl)
        refine Runs.call (f := 40) (vs := [.slice (A44) (n44) (c44), .slice (B) (m) (e'), .agg #[.int .i64 x51, .slice P51 n51 d51, .slice Q51 m51 e51]]) rfl rfl rfl (by simp only [List.map_toArray, List.map_cons, List.map_nil, h44, h45, h51] <;> rfl) (ent40 _ _) ((same5_any _ _ P51 Q51 _ _ _ _ n51 d51 m51 e51 x51 _ _ Ps51 Qs51 sw r44 (rM.ext sE) (by omega) r51 q51).mono ?_); rintro e w' ⟨rfl, hx⟩; exact ⟨_, rfl, hx, rfl⟩
      · refine stepE rfl fun sdn sa sw sE sd sk => ?_
        have h52 : sa.eval (.tmp 52) = .bool (true) := sk.fact 9 52 rfl (sd 9 rfl)
        exact Runs.move rfl h52 ⟨Ext.refl _, rfl⟩
      · refine stepY (j := 10) (d := 53) (b := true) rfl rfl rfl (fun v w h => h) fun sdn sa sw sE sd sk => ?_
        have h15 : sa.eval (.tmp 15) = .pointer (some ⟨g1, 0, none⟩) := sk.old 15 rfl
        exact Runs.move rfl h15 ⟨Ext.refl _, rfl⟩
      · refine stepY (j := 10) (d := 53) (b := true) rfl rfl rfl (fun v w h => h) fun sdn sa sw sE sd sk => ?_
        have h54 : sa.eval (.tmp 54) = .pointer (some ⟨g1, 0, none⟩) := sk.fact 11 54 rfl (sd 11 rfl)
        refine Runs.call (f := 37) (vs := [.pointer (some ⟨g1, 0, none⟩)]) rfl rfl rfl (by simp only [List.map_toArray, List.map_cons, List.map_nil, h54] <;> rfl) (ent37 _ _) ((rpublic_any g1 _ S sw (o1.ext sE)).mono ?_); rintro e w' ⟨A', c', rfl, own, hx⟩; exact ⟨_, rfl, hx, A', 32, c', rfl, own⟩
      · refine stepY (j := 10) (d := 53) (b := true) rfl rfl rfl (fun v w h => h) fun sdn sa sw sE sd sk => ?_
        have h2 : sa.eval (.tmp 2) = .slice (B) (m) (e') := sk.old 2 rfl
        exact Runs.move rfl h2 ⟨Ext.refl _, rfl⟩
      · refine stepY (j := 10) (d := 53) (b := true) rfl rfl rfl (fun v w h => h) fun sdn sa sw sE sd sk => ?_
        have h13 : sa.eval (.tmp 13) = .pointer (some ⟨w.heap.size, 0, none⟩) := sk.old 13 rfl
        exact Runs.load rfl h13 (load_sig (hB.ext sE)) ⟨Ext.refl _, rfl⟩
      · refine stepY (j := 10) (d := 53) (b := true) rfl rfl rfl (fun v w h => h) fun sdn sa sw sE sd sk => ?_
        obtain ⟨A55, n55, c55, h55, r55⟩ := sk.fact 12 55 rfl (sd 12 rfl)
        have h56 : sa.eval (.tmp 56) = .slice (B) (m) (e') := sk.fact 13 56 rfl (sd 13 rfl)
        have h57 : sa.eval (.tmp 57) = .agg #[.int .i64 xr, .slice RP np cp, .slice RQ 10 cq] := sk.fact 14 57 rfl (sd 14 rfl)
        refine Runs.call (f := 40) (vs := [.slice (A55) (n55) (c55), .slice (B) (m) (e'), .agg #[.int .i64 xr, .slice RP np cp, .slice RQ 10 cq]]) rfl rfl rfl (by simp only [List.map_toArray, List.map_cons, List.map_nil, h55, h56, h57] <;> rfl) (ent40 _ _) ((same5_any _ _ RP RQ _ _ _ _ np cp 10 cq xr _ _ Rs (Ts.take 10) sw r55 (rM.ext sE) (by omega) (rRP.ext sE) (rRQ.ext sE)).mono ?_); rintro e w' ⟨rfl, hx⟩; exact ⟨_, rfl, hx, rfl⟩
      · refine stepE rfl fun sdn sa sw sE sd sk => ?_
        have h53 : sa.eval (.tmp 53) = .bool (true) := sk.fact 10 53 rfl (sd 10 rfl)
        have h58 : sa.eval (.tmp 58) = .bool (true) := sk.fact 15 58 rfl (sd 15 rfl)
        exact Runs.pick rfl h53 ⟨Ext.refl _, by first | exact h58 | simpa using h58⟩
      · refine stepE rfl fun sdn sa sw sE sd sk => ?_
        have h59 : sa.eval (.tmp 59) = .bool (true) := sk.fact 16 59 rfl (sd 16 rfl)
        exact Runs.move rfl h59 ⟨Ext.refl _, rfl⟩
      · refine stepY (j := 17) (d := 60) (b := true) rfl rfl rfl (fun v w h => h) fun sdn sa sw sE sd sk => ?_
        refine Runs.call (f := 34) (vs := []) rfl rfl rfl (by simp only [List.map_toArray, List.map_cons, List.map_nil] <;> rfl) (ent34 _ _) ((known5_any sw).mono ?_); rintro e w' ⟨rfl, hx⟩; exact ⟨_, rfl, hx, rfl⟩
      · refine stepE rfl fun sdn sa sw sE sd sk => ?_
        have h60 : sa.eval (.tmp 60) = .bool (true) := sk.fact 17 60 rfl (sd 17 rfl)
        have h61 : sa.eval (.tmp 61) = .bool (true) := sk.fact 18 61 rfl (sd 18 rfl)
        exact Runs.pick rfl h60 ⟨Ext.refl _, by first | exact h61 | simpa using h61⟩
      · refine stepE rfl fun sdn sa sw sE sd sk => ?_
        have h62 : sa.eval (.tmp 62) = .bool (true) := sk.fact 19 62 rfl (sd 19 rfl)
        exact Runs.assign rfl h62 ⟨Ext.refl _, rfl⟩
      intro vals W9 hE9 hv9
      have e0 : vals 0 = .pointer (some ⟨g1, 0, none⟩) := hv9 0 (by omega) 43 rfl
      obtain ⟨A44, n44, c44, e1, r44⟩ := hv9 1 (by omega) 44 rfl
      have e2 : vals 2 = .slice (B) (m) (e') := hv9 2 (by omega) 45 rfl
      have e3 : vals 3 = .agg #[.int .i64 (k : Int), .slice P 64 d, .slice Q' 4 d'] := hv9 3 (by omega) 46 rfl
      have e4 : vals 4 = .int .i64 (how) := hv9 4 (by omega) 47 rfl
      have e5 : vals 5 = .int .i64 (h') := hv9 5 (by omega) 48 rfl
      have e6 : vals 6 = .int .i64 (at') := hv9 6 (by omega) 49 rfl
      have e7 : vals 7 = .int .u8 (u8i (t)) := hv9 7 (by omega) 50 rfl
      obtain ⟨x51, P51, n51, d51, Q51, m51, e51, Ps51, Qs51, e8, r51, q51⟩ := hv9 8 (by omega) 51 rfl
      have e9 : vals 9 = .bool (true) := hv9 9 (by omega) 52 rfl
      have e10 : vals 10 = .bool (true) := hv9 10 (by omega) 53 rfl
      have e11 : vals 11 = .pointer (some ⟨g1, 0, none⟩) := hv9 11 (by omega) 54 rfl
      obtain ⟨A55, n55, c55, e12, r55⟩ := hv9 12 (by omega) 55 rfl
      have e13 : vals 13 = .slice (B) (m) (e') := hv9 13 (by omega) 56 rfl
      have e14 : vals 14 = .agg #[.int .i64 xr, .slice RP np cp, .slice RQ 10 cq] := hv9 14 (by omega) 57 rfl
      have e15 : vals 15 = .bool (true) := hv9 15 (by omega) 58 rfl
      have e16 : vals 16 = .bool (true) := hv9 16 (by omega) 59 rfl
      have e17 : vals 17 = .bool (true) := hv9 17 (by omega) 60 rfl
      have e18 : vals 18 = .bool (true) := hv9 18 (by omega) 61 rfl
      have e19 : vals 19 = .bool (true) := hv9 19 (by omega) 62 rfl
      have e20 : vals 20 = .bool (true) := hv9 20 (by omega) 14 rfl
      simp only [putAll, Act.put, List.take_succ_cons, List.take_zero, List.drop_succ_cons, List.drop_zero, List.drop_nil, List.take_nil, Nat.reduceAdd, List.setIfInBounds_toArray, List.set_cons_succ, List.set_cons_zero, e0, e1, e2, e3, e4, e5, e6, e7, e8, e9, e10, e11, e12, e13, e14, e15, e16, e17, e18, e19, e20]
      clear hv9 e0 e1 e2 e3 e4 e5 e6 e7 e8 e9 e10 e11 e12 e13 e14 e15 e16 e17 e18 e19 e20
      go_wp2_with fail
      go_ret
      exact ⟨rfl, hEa.trans hE9⟩
  · have hnp' : (70 : Int) < (np : Int) := by omega
    have hnp2 : 70 ≤ np := by omega
    go_upto_region 6 with (fail)
    have z2 := (hB.set 1 (.slice RP 70 cp)).cell (i := 2) (v := .slice RQ nq cq) rfl
    have z3 := (hB.set 1 (.slice RP 70 cp)).frozen 2
    have gs := grown_set w4 ⟨w.heap.size, 1, none⟩ (.slice RP 70 cp)
    have hB4 := hB4.far (p := ⟨w.heap.size, 1, none⟩) Hn43.out (.slice RP 70 cp)
    have o1 := o1.far hB (sig_no _ _ _ _ _ _ _) gs
    have oP := oP.far hB (by decide) (sig_no _ _ _ _ _ _ _) gs
    have oQ := oQ.far hB (by decide) (sig_no _ _ _ _ _ _ _) gs
    have rM := rM.grown gs (rM.apart5 hB (sig_no _ _ _ _ _ _ _))
    have hEa := hEa.set (p := ⟨w.heap.size, 1, none⟩) (Nat.le_refl _) (.slice RP 70 cp)
    have hB := hB.set 1 (.slice RP 70 cp)
    clear gs y1 y2 f1 f2
    generalize w4.setCell ⟨w.heap.size, 1, none⟩ (.slice RP 70 cp) = w5 at *
    by_cases hnq : nq ≤ 10
    · have hnq' : ¬ ((10 : Int) < (nq : Int)) := by omega
      have rRP := (hRP.take hnp2).ext hEa
      have rRQ := hRQ.ext hEa
      go_upto_region 8 with (fail)
      refine par_ext (n := 21) (by kernel_rfl) [.is (.pointer (some ⟨g1, 0, none⟩)), .rb (ownP S), .is (.slice (B) (m) (e')), .is (.agg #[.int .i64 (k : Int), .slice P 64 d, .slice Q' 4 d']), .is (.int .i64 (how)), .is (.int .i64 (h')), .is (.int .i64 (at')), .is (.int .u8 (u8i (t))), .sgx, .is (.bool (true)), .is (.bool (true)), .is (.pointer (some ⟨g1, 0, none⟩)), .rb (ownP S), .is (.slice (B) (m) (e')), .is (.agg #[.int .i64 xr, .slice RP 70 cp, .slice RQ nq cq]), .is (.bool (true)), .is (.bool (true)), .is (.bool (true)), .is (.bool (true)), .is (.bool (true)), .is (.bool (true))] rfl ⟨?_, ?_, ?_, ?_, ?_, ?_, ?_, ?_, ?_, ?_, ?_, ?_, ?_, ?_, ?_, ?_, ?_, ?_, ?_, ?_, ?_, trivial⟩ ?_
      · refine stepE rfl fun sdn sa sw sE sd sk => ?_
        have h15 : sa.eval (.tmp 15) = .pointer (some ⟨g1, 0, none⟩) := sk.old 15 rfl
        exact Runs.move rfl h15 ⟨Ext.refl _, rfl⟩
      · refine stepE rfl fun sdn sa sw sE sd sk => ?_
        have h43 : sa.eval (.tmp 43) = .pointer (some ⟨g1, 0, none⟩) := sk.fact 0 43 rfl (sd 0 rfl)
        refine Runs.call (f := 37) (vs := [.pointer (some ⟨g1, 0, none⟩)]) rfl rfl rfl (by simp only [List.map_toArray, List.map_cons, List.map_nil, h43] <;> rfl) (ent37 _ _) ((rpublic_any g1 _ S sw (o1.ext sE)).mono ?_); rintro e w' ⟨A', c', rfl, own, hx⟩; exact ⟨_, rfl, hx, A', 32, c', rfl, own⟩
      · refine stepE rfl fun sdn sa sw sE sd sk => ?_
        have h2 : sa.eval (.tmp 2) = .slice (B) (m) (e') := sk.old 2 rfl
        exact Runs.move rfl h2 ⟨Ext.refl _, rfl⟩
      · refine stepE rfl fun sdn sa sw sE sd sk => ?_
        have h16 : sa.eval (.tmp 16) = .pointer (some ⟨w3.heap.size, 0, none⟩) := sk.old 16 rfl
        exact Runs.load rfl h16 (load_sig (hB4.ext sE)) ⟨Ext.refl _, rfl⟩
      · refine stepE rfl fun sdn sa sw sE sd sk => ?_
        have h3 : sa.eval (.tmp 3) = .int .i64 (how) := sk.old 3 rfl
        exact Runs.move rfl h3 ⟨Ext.refl _, rfl⟩
      · refine stepE rfl fun sdn sa sw sE sd sk => ?_
        have h47 : sa.eval (.tmp 47) = .int .i64 (how) := sk.fact 4 47 rfl (sd 4 rfl)
        refine Runs.call (f := 16) (vs := [.int .i64 (how), .int .i64 ((0 : Int)), .int .i64 ((8 : Int))]) rfl rfl rfl (by simp only [List.map_toArray, List.map_cons, List.map_nil, h47] <;> rfl) (ent16 _ _) ((Hwh.out sw).mono ?_); rintro e w' ⟨rfl, rfl⟩; exact ⟨_, rfl, Ext.refl _, rfl⟩
      · refine stepE rfl fun sdn sa sw sE sd sk => ?_
        have h4 : sa.eval (.tmp 4) = .int .i64 (at') := sk.old 4 rfl
        exact Runs.move rfl h4 ⟨Ext.refl _, rfl⟩
      · refine stepE rfl fun sdn sa sw sE sd sk => ?_
        have h5 : sa.eval (.tmp 5) = .int .u8 (u8i (t)) := sk.old 5 rfl
        exact Runs.move rfl h5 ⟨Ext.refl _, rfl⟩
      · refine stepE rfl fun sdn sa sw sE sd sk => ?_
        have h46 : sa.eval (.tmp 46) = .agg #[.int .i64 (k : Int), .slice P 64 d, .slice Q' 4 d'] := sk.fact 3 46 rfl (sd 3 rfl)
        have h48 : sa.eval (.tmp 48) = .int .i64 (h') := sk.fact 5 48 rfl (sd 5 rfl)
        have h49 : sa.eval (.tmp 49) = .int .i64 (at') := sk.fact 6 49 rfl (sd 6 rfl)
        have h50 : sa.eval (.tmp 50) = .int .u8 (u8i (t)) := sk.fact 7 50 rfl (sd 7 rfl)
        refine Runs.call (f := 41) (vs := [.agg #[.int .i64 (k : Int), .slice P 64 d, .slice Q' 4 d'], .int .i64 (h'), .int .i64 (at'), .int .u8 (u8i (t))]) rfl rfl rfl (by simp only [List.map_toArray, List.map_cons, List.map_nil, h46, h48, h49, h50] <;> rfl) (ent41 _ _) ((turned5_any _ at' h' _ _ _ _ t _ _ sw (oP.rbb.ext sE) (oQ.rbb.ext sE) Hpl.out Hql.out ha0 ha1 Hho.out).mono ?_); rintro e w' ⟨x', P', n', c', Q', m', d', Ps', Qs', rfl, h1, h2, _, hx⟩; exact ⟨_, rfl, hx, x', P', n', c', Q', m', d', Ps', Qs', rfl, h1, h2⟩
      · refine stepE rfl fun sdn sa sw sE sd sk => ?_
        obtain ⟨x51, P51, n51, d51, Q51, m51, e51, Ps51, Qs51, h51, r51, q51⟩ := sk.fact 8 51 rfl (sd 8 rfl)
        obtain ⟨A44, n44, c44, h44, r44⟩ := sk.fact 1 44 rfl (sd 1 rfl)
        have h45 : sa.eval (.tmp 45) = .slice (B) (m) (e') := sk.fact 2 45 rfl (sd 2 rfl)
        refine Runs.call (f := 40) (vs := [.slice (A44) (n44) (c44), .slice (B) (m) (e'), .agg #[.int .i64 x51, .slice P51 n51 d51, .slice Q51 m51 e51]]) rfl rfl rfl (by simp only [List.map_toArray, List.map_cons, List.map_nil, h44, h45, h51] <;> rfl) (ent40 _ _) ((same5_any _ _ P51 Q51 _ _ _ _ n51 d51 m51 e51 x51 _ _ Ps51 Qs51 sw r44 (rM.ext sE) (by omega) r51 q51).mono ?_); rintro e w' ⟨rfl, hx⟩; exact ⟨_, rfl, hx, rfl⟩
      · refine stepE rfl fun sdn sa sw sE sd sk => ?_
        have h52 : sa.eval (.tmp 52) = .bool (true) := sk.fact 9 52 rfl (sd 9 rfl)
        exact Runs.move rfl h52 ⟨Ext.refl _, rfl⟩
      · refine stepY (j := 10) (d := 53) (b := true) rfl rfl rfl (fun v w h => h) fun sdn sa sw sE sd sk => ?_
        have h15 : sa.eval (.tmp 15) = .pointer (some ⟨g1, 0, none⟩) := sk.old 15 rfl
        exact Runs.move rfl h15 ⟨Ext.refl _, rfl⟩
      · refine stepY (j := 10) (d := 53) (b := true) rfl rfl rfl (fun v w h => h) fun sdn sa sw sE sd sk => ?_
        have h54 : sa.eval (.tmp 54) = .pointer (some ⟨g1, 0, none⟩) := sk.fact 11 54 rfl (sd 11 rfl)
        refine Runs.call (f := 37) (vs := [.pointer (some ⟨g1, 0, none⟩)]) rfl rfl rfl (by simp only [List.map_toArray, List.map_cons, List.map_nil, h54] <;> rfl) (ent37 _ _) ((rpublic_any g1 _ S sw (o1.ext sE)).mono ?_); rintro e w' ⟨A', c', rfl, own, hx⟩; exact ⟨_, rfl, hx, A', 32, c', rfl, own⟩
      · refine stepY (j := 10) (d := 53) (b := true) rfl rfl rfl (fun v w h => h) fun sdn sa sw sE sd sk => ?_
        have h2 : sa.eval (.tmp 2) = .slice (B) (m) (e') := sk.old 2 rfl
        exact Runs.move rfl h2 ⟨Ext.refl _, rfl⟩
      · refine stepY (j := 10) (d := 53) (b := true) rfl rfl rfl (fun v w h => h) fun sdn sa sw sE sd sk => ?_
        have h13 : sa.eval (.tmp 13) = .pointer (some ⟨w.heap.size, 0, none⟩) := sk.old 13 rfl
        exact Runs.load rfl h13 (load_sig (hB.ext sE)) ⟨Ext.refl _, rfl⟩
      · refine stepY (j := 10) (d := 53) (b := true) rfl rfl rfl (fun v w h => h) fun sdn sa sw sE sd sk => ?_
        obtain ⟨A55, n55, c55, h55, r55⟩ := sk.fact 12 55 rfl (sd 12 rfl)
        have h56 : sa.eval (.tmp 56) = .slice (B) (m) (e') := sk.fact 13 56 rfl (sd 13 rfl)
        have h57 : sa.eval (.tmp 57) = .agg #[.int .i64 xr, .slice RP 70 cp, .slice RQ nq cq] := sk.fact 14 57 rfl (sd 14 rfl)
        refine Runs.call (f := 40) (vs := [.slice (A55) (n55) (c55), .slice (B) (m) (e'), .agg #[.int .i64 xr, .slice RP 70 cp, .slice RQ nq cq]]) rfl rfl rfl (by simp only [List.map_toArray, List.map_cons, List.map_nil, h55, h56, h57] <;> rfl) (ent40 _ _) ((same5_any _ _ RP RQ _ _ _ _ 70 cp nq cq xr _ _ (Rs.take 70) Ts sw r55 (rM.ext sE) (by omega) (rRP.ext sE) (rRQ.ext sE)).mono ?_); rintro e w' ⟨rfl, hx⟩; exact ⟨_, rfl, hx, rfl⟩
      · refine stepE rfl fun sdn sa sw sE sd sk => ?_
        have h53 : sa.eval (.tmp 53) = .bool (true) := sk.fact 10 53 rfl (sd 10 rfl)
        have h58 : sa.eval (.tmp 58) = .bool (true) := sk.fact 15 58 rfl (sd 15 rfl)
        exact Runs.pick rfl h53 ⟨Ext.refl _, by first | exact h58 | simpa using h58⟩
      · refine stepE rfl fun sdn sa sw sE sd sk => ?_
        have h59 : sa.eval (.tmp 59) = .bool (true) := sk.fact 16 59 rfl (sd 16 rfl)
        exact Runs.move rfl h59 ⟨Ext.refl _, rfl⟩
      · refine stepY (j := 17) (d := 60) (b := true) rfl rfl rfl (fun v w h => h) fun sdn sa sw sE sd sk => ?_
        refine Runs.call (f := 34) (vs := []) rfl rfl rfl (by simp only [List.map_toArray, List.map_cons, List.map_nil] <;> rfl) (ent34 _ _) ((known5_any sw).mono ?_); rintro e w' ⟨rfl, hx⟩; exact ⟨_, rfl, hx, rfl⟩
      · refine stepE rfl fun sdn sa sw sE sd sk => ?_
        have h60 : sa.eval (.tmp 60) = .bool (true) := sk.fact 17 60 rfl (sd 17 rfl)
        have h61 : sa.eval (.tmp 61) = .bool (true) := sk.fact 18 61 rfl (sd 18 rfl)
        exact Runs.pick rfl h60 ⟨Ext.refl _, by first | exact h61 | simpa using h61⟩
      · refine stepE rfl fun sdn sa sw sE sd sk => ?_
        have h62 : sa.eval (.tmp 62) = .bool (true) := sk.fact 19 62 rfl (sd 19 rfl)
        exact Runs.assign rfl h62 ⟨Ext.refl _, rfl⟩
      intro vals W9 hE9 hv9
      have e0 : vals 0 = .pointer (some ⟨g1, 0, none⟩) := hv9 0 (by omega) 43 rfl
      obtain ⟨A44, n44, c44, e1, r44⟩ := hv9 1 (by omega) 44 rfl
      have e2 : vals 2 = .slice (B) (m) (e') := hv9 2 (by omega) 45 rfl
      have e3 : vals 3 = .agg #[.int .i64 (k : Int), .slice P 64 d, .slice Q' 4 d'] := hv9 3 (by omega) 46 rfl
      have e4 : vals 4 = .int .i64 (how) := hv9 4 (by omega) 47 rfl
      have e5 : vals 5 = .int .i64 (h') := hv9 5 (by omega) 48 rfl
      have e6 : vals 6 = .int .i64 (at') := hv9 6 (by omega) 49 rfl
      have e7 : vals 7 = .int .u8 (u8i (t)) := hv9 7 (by omega) 50 rfl
      obtain ⟨x51, P51, n51, d51, Q51, m51, e51, Ps51, Qs51, e8, r51, q51⟩ := hv9 8 (by omega) 51 rfl
      have e9 : vals 9 = .bool (true) := hv9 9 (by omega) 52 rfl
      have e10 : vals 10 = .bool (true) := hv9 10 (by omega) 53 rfl
      have e11 : vals 11 = .pointer (some ⟨g1, 0, none⟩) := hv9 11 (by omega) 54 rfl
      obtain ⟨A55, n55, c55, e12, r55⟩ := hv9 12 (by omega) 55 rfl
      have e13 : vals 13 = .slice (B) (m) (e') := hv9 13 (by omega) 56 rfl
      have e14 : vals 14 = .agg #[.int .i64 xr, .slice RP 70 cp, .slice RQ nq cq] := hv9 14 (by omega) 57 rfl
      have e15 : vals 15 = .bool (true) := hv9 15 (by omega) 58 rfl
      have e16 : vals 16 = .bool (true) := hv9 16 (by omega) 59 rfl
      have e17 : vals 17 = .bool (true) := hv9 17 (by omega) 60 rfl
      have e18 : vals 18 = .bool (true) := hv9 18 (by omega) 61 rfl
      have e19 : vals 19 = .bool (true) := hv9 19 (by omega) 62 rfl
      have e20 : vals 20 = .bool (true) := hv9 20 (by omega) 14 rfl
      simp only [putAll, Act.put, List.take_succ_cons, List.take_zero, List.drop_succ_cons, List.drop_zero, List.drop_nil, List.take_nil, Nat.reduceAdd, List.setIfInBounds_toArray, List.set_cons_succ, List.set_cons_zero, e0, e1, e2, e3, e4, e5, e6, e7, e8, e9, e10, e11, e12, e13, e14, e15, e16, e17, e18, e19, e20]
      clear hv9 e0 e1 e2 e3 e4 e5 e6 e7 e8 e9 e10 e11 e12 e13 e14 e15 e16 e17 e18 e19 e20
      go_wp2_with fail
      go_ret
      exact ⟨rfl, hEa.trans hE9⟩
    · have hnq' : (10 : Int) < (nq : Int) := by omega
      have hnq2 : 10 ≤ nq := by omega
      go_upto_region 8 with (fail)
      have gs := grown_set w5 ⟨w.heap.size, 2, none⟩ (.slice RQ 10 cq)
      have hB4 := hB4.far (p := ⟨w.heap.size, 2, none⟩) Hn43.out (.slice RQ 10 cq)
      have o1 := o1.far hB (sig_no _ _ _ _ _ _ _) gs
      have oP := oP.far hB (by decide) (sig_no _ _ _ _ _ _ _) gs
      have oQ := oQ.far hB (by decide) (sig_no _ _ _ _ _ _ _) gs
      have rM := rM.grown gs (rM.apart5 hB (sig_no _ _ _ _ _ _ _))
      have hEa := hEa.set (p := ⟨w.heap.size, 2, none⟩) (Nat.le_refl _) (.slice RQ 10 cq)
      have hB := hB.set 2 (.slice RQ 10 cq)
      clear gs
      generalize w5.setCell ⟨w.heap.size, 2, none⟩ (.slice RQ 10 cq) = w6 at *
      have rRP := (hRP.take hnp2).ext hEa
      have rRQ := (hRQ.take hnq2).ext hEa
      go_upto_region 8 with (fail)
      refine par_ext (n := 21) (by kernel_rfl) [.is (.pointer (some ⟨g1, 0, none⟩)), .rb (ownP S), .is (.slice (B) (m) (e')), .is (.agg #[.int .i64 (k : Int), .slice P 64 d, .slice Q' 4 d']), .is (.int .i64 (how)), .is (.int .i64 (h')), .is (.int .i64 (at')), .is (.int .u8 (u8i (t))), .sgx, .is (.bool (true)), .is (.bool (true)), .is (.pointer (some ⟨g1, 0, none⟩)), .rb (ownP S), .is (.slice (B) (m) (e')), .is (.agg #[.int .i64 xr, .slice RP 70 cp, .slice RQ 10 cq]), .is (.bool (true)), .is (.bool (true)), .is (.bool (true)), .is (.bool (true)), .is (.bool (true)), .is (.bool (true))] rfl ⟨?_, ?_, ?_, ?_, ?_, ?_, ?_, ?_, ?_, ?_, ?_, ?_, ?_, ?_, ?_, ?_, ?_, ?_, ?_, ?_, ?_, trivial⟩ ?_
      · refine stepE rfl fun sdn sa sw sE sd sk => ?_
        have h15 : sa.eval (.tmp 15) = .pointer (some ⟨g1, 0, none⟩) := sk.old 15 rfl
        exact Runs.move rfl h15 ⟨Ext.refl _, rfl⟩
      · refine stepE rfl fun sdn sa sw sE sd sk => ?_
        have h43 : sa.eval (.tmp 43) = .pointer (some ⟨g1, 0, none⟩) := sk.fact 0 43 rfl (sd 0 rfl)
        refine Runs.call (f := 37) (vs := [.pointer (some ⟨g1, 0, none⟩)]) rfl rfl rfl (by simp only [List.map_toArray, List.map_cons, List.map_nil, h43] <;> rfl) (ent37 _ _) ((rpublic_any g1 _ S sw (o1.ext sE)).mono ?_); rintro e w' ⟨A', c', rfl, own, hx⟩; exact ⟨_, rfl, hx, A', 32, c', rfl, own⟩
      · refine stepE rfl fun sdn sa sw sE sd sk => ?_
        have h2 : sa.eval (.tmp 2) = .slice (B) (m) (e') := sk.old 2 rfl
        exact Runs.move rfl h2 ⟨Ext.refl _, rfl⟩
      · refine stepE rfl fun sdn sa sw sE sd sk => ?_
        have h16 : sa.eval (.tmp 16) = .pointer (some ⟨w3.heap.size, 0, none⟩) := sk.old 16 rfl
        exact Runs.load rfl h16 (load_sig (hB4.ext sE)) ⟨Ext.refl _, rfl⟩
      · refine stepE rfl fun sdn sa sw sE sd sk => ?_
        have h3 : sa.eval (.tmp 3) = .int .i64 (how) := sk.old 3 rfl
        exact Runs.move rfl h3 ⟨Ext.refl _, rfl⟩
      · refine stepE rfl fun sdn sa sw sE sd sk => ?_
        have h47 : sa.eval (.tmp 47) = .int .i64 (how) := sk.fact 4 47 rfl (sd 4 rfl)
        refine Runs.call (f := 16) (vs := [.int .i64 (how), .int .i64 ((0 : Int)), .int .i64 ((8 : Int))]) rfl rfl rfl (by simp only [List.map_toArray, List.map_cons, List.map_nil, h47] <;> rfl) (ent16 _ _) ((Hwh.out sw).mono ?_); rintro e w' ⟨rfl, rfl⟩; exact ⟨_, rfl, Ext.refl _, rfl⟩
      · refine stepE rfl fun sdn sa sw sE sd sk => ?_
        have h4 : sa.eval (.tmp 4) = .int .i64 (at') := sk.old 4 rfl
        exact Runs.move rfl h4 ⟨Ext.refl _, rfl⟩
      · refine stepE rfl fun sdn sa sw sE sd sk => ?_
        have h5 : sa.eval (.tmp 5) = .int .u8 (u8i (t)) := sk.old 5 rfl
        exact Runs.move rfl h5 ⟨Ext.refl _, rfl⟩
      · refine stepE rfl fun sdn sa sw sE sd sk => ?_
        have h46 : sa.eval (.tmp 46) = .agg #[.int .i64 (k : Int), .slice P 64 d, .slice Q' 4 d'] := sk.fact 3 46 rfl (sd 3 rfl)
        have h48 : sa.eval (.tmp 48) = .int .i64 (h') := sk.fact 5 48 rfl (sd 5 rfl)
        have h49 : sa.eval (.tmp 49) = .int .i64 (at') := sk.fact 6 49 rfl (sd 6 rfl)
        have h50 : sa.eval (.tmp 50) = .int .u8 (u8i (t)) := sk.fact 7 50 rfl (sd 7 rfl)
        refine Runs.call (f := 41) (vs := [.agg #[.int .i64 (k : Int), .slice P 64 d, .slice Q' 4 d'], .int .i64 (h'), .int .i64 (at'), .int .u8 (u8i (t))]) rfl rfl rfl (by simp only [List.map_toArray, List.map_cons, List.map_nil, h46, h48, h49, h50] <;> rfl) (ent41 _ _) ((turned5_any _ at' h' _ _ _ _ t _ _ sw (oP.rbb.ext sE) (oQ.rbb.ext sE) Hpl.out Hql.out ha0 ha1 Hho.out).mono ?_); rintro e w' ⟨x', P', n', c', Q', m', d', Ps', Qs', rfl, h1, h2, _, hx⟩; exact ⟨_, rfl, hx, x', P', n', c', Q', m', d', Ps', Qs', rfl, h1, h2⟩
      · refine stepE rfl fun sdn sa sw sE sd sk => ?_
        obtain ⟨x51, P51, n51, d51, Q51, m51, e51, Ps51, Qs51, h51, r51, q51⟩ := sk.fact 8 51 rfl (sd 8 rfl)
        obtain ⟨A44, n44, c44, h44, r44⟩ := sk.fact 1 44 rfl (sd 1 rfl)
        have h45 : sa.eval (.tmp 45) = .slice (B) (m) (e') := sk.fact 2 45 rfl (sd 2 rfl)
        refine Runs.call (f := 40) (vs := [.slice (A44) (n44) (c44), .slice (B) (m) (e'), .agg #[.int .i64 x51, .slice P51 n51 d51, .slice Q51 m51 e51]]) rfl rfl rfl (by simp only [List.map_toArray, List.map_cons, List.map_nil, h44, h45, h51] <;> rfl) (ent40 _ _) ((same5_any _ _ P51 Q51 _ _ _ _ n51 d51 m51 e51 x51 _ _ Ps51 Qs51 sw r44 (rM.ext sE) (by omega) r51 q51).mono ?_); rintro e w' ⟨rfl, hx⟩; exact ⟨_, rfl, hx, rfl⟩
      · refine stepE rfl fun sdn sa sw sE sd sk => ?_
        have h52 : sa.eval (.tmp 52) = .bool (true) := sk.fact 9 52 rfl (sd 9 rfl)
        exact Runs.move rfl h52 ⟨Ext.refl _, rfl⟩
      · refine stepY (j := 10) (d := 53) (b := true) rfl rfl rfl (fun v w h => h) fun sdn sa sw sE sd sk => ?_
        have h15 : sa.eval (.tmp 15) = .pointer (some ⟨g1, 0, none⟩) := sk.old 15 rfl
        exact Runs.move rfl h15 ⟨Ext.refl _, rfl⟩
      · refine stepY (j := 10) (d := 53) (b := true) rfl rfl rfl (fun v w h => h) fun sdn sa sw sE sd sk => ?_
        have h54 : sa.eval (.tmp 54) = .pointer (some ⟨g1, 0, none⟩) := sk.fact 11 54 rfl (sd 11 rfl)
        refine Runs.call (f := 37) (vs := [.pointer (some ⟨g1, 0, none⟩)]) rfl rfl rfl (by simp only [List.map_toArray, List.map_cons, List.map_nil, h54] <;> rfl) (ent37 _ _) ((rpublic_any g1 _ S sw (o1.ext sE)).mono ?_); rintro e w' ⟨A', c', rfl, own, hx⟩; exact ⟨_, rfl, hx, A', 32, c', rfl, own⟩
      · refine stepY (j := 10) (d := 53) (b := true) rfl rfl rfl (fun v w h => h) fun sdn sa sw sE sd sk => ?_
        have h2 : sa.eval (.tmp 2) = .slice (B) (m) (e') := sk.old 2 rfl
        exact Runs.move rfl h2 ⟨Ext.refl _, rfl⟩
      · refine stepY (j := 10) (d := 53) (b := true) rfl rfl rfl (fun v w h => h) fun sdn sa sw sE sd sk => ?_
        have h13 : sa.eval (.tmp 13) = .pointer (some ⟨w.heap.size, 0, none⟩) := sk.old 13 rfl
        exact Runs.load rfl h13 (load_sig (hB.ext sE)) ⟨Ext.refl _, rfl⟩
      · refine stepY (j := 10) (d := 53) (b := true) rfl rfl rfl (fun v w h => h) fun sdn sa sw sE sd sk => ?_
        obtain ⟨A55, n55, c55, h55, r55⟩ := sk.fact 12 55 rfl (sd 12 rfl)
        have h56 : sa.eval (.tmp 56) = .slice (B) (m) (e') := sk.fact 13 56 rfl (sd 13 rfl)
        have h57 : sa.eval (.tmp 57) = .agg #[.int .i64 xr, .slice RP 70 cp, .slice RQ 10 cq] := sk.fact 14 57 rfl (sd 14 rfl)
        refine Runs.call (f := 40) (vs := [.slice (A55) (n55) (c55), .slice (B) (m) (e'), .agg #[.int .i64 xr, .slice RP 70 cp, .slice RQ 10 cq]]) rfl rfl rfl (by simp only [List.map_toArray, List.map_cons, List.map_nil, h55, h56, h57] <;> rfl) (ent40 _ _) ((same5_any _ _ RP RQ _ _ _ _ 70 cp 10 cq xr _ _ (Rs.take 70) (Ts.take 10) sw r55 (rM.ext sE) (by omega) (rRP.ext sE) (rRQ.ext sE)).mono ?_); rintro e w' ⟨rfl, hx⟩; exact ⟨_, rfl, hx, rfl⟩
      · refine stepE rfl fun sdn sa sw sE sd sk => ?_
        have h53 : sa.eval (.tmp 53) = .bool (true) := sk.fact 10 53 rfl (sd 10 rfl)
        have h58 : sa.eval (.tmp 58) = .bool (true) := sk.fact 15 58 rfl (sd 15 rfl)
        exact Runs.pick rfl h53 ⟨Ext.refl _, by first | exact h58 | simpa using h58⟩
      · refine stepE rfl fun sdn sa sw sE sd sk => ?_
        have h59 : sa.eval (.tmp 59) = .bool (true) := sk.fact 16 59 rfl (sd 16 rfl)
        exact Runs.move rfl h59 ⟨Ext.refl _, rfl⟩
      · refine stepY (j := 17) (d := 60) (b := true) rfl rfl rfl (fun v w h => h) fun sdn sa sw sE sd sk => ?_
        refine Runs.call (f := 34) (vs := []) rfl rfl rfl (by simp only [List.map_toArray, List.map_cons, List.map_nil] <;> rfl) (ent34 _ _) ((known5_any sw).mono ?_); rintro e w' ⟨rfl, hx⟩; exact ⟨_, rfl, hx, rfl⟩
      · refine stepE rfl fun sdn sa sw sE sd sk => ?_
        have h60 : sa.eval (.tmp 60) = .bool (true) := sk.fact 17 60 rfl (sd 17 rfl)
        have h61 : sa.eval (.tmp 61) = .bool (true) := sk.fact 18 61 rfl (sd 18 rfl)
        exact Runs.pick rfl h60 ⟨Ext.refl _, by first | exact h61 | simpa using h61⟩
      · refine stepE rfl fun sdn sa sw sE sd sk => ?_
        have h62 : sa.eval (.tmp 62) = .bool (true) := sk.fact 19 62 rfl (sd 19 rfl)
        exact Runs.assign rfl h62 ⟨Ext.refl _, rfl⟩
      intro vals W9 hE9 hv9
      have e0 : vals 0 = .pointer (some ⟨g1, 0, none⟩) := hv9 0 (by omega) 43 rfl
      obtain ⟨A44, n44, c44, e1, r44⟩ := hv9 1 (by omega) 44 rfl
      have e2 : vals 2 = .slice (B) (m) (e') := hv9 2 (by omega) 45 rfl
      have e3 : vals 3 = .agg #[.int .i64 (k : Int), .slice P 64 d, .slice Q' 4 d'] := hv9 3 (by omega) 46 rfl
      have e4 : vals 4 = .int .i64 (how) := hv9 4 (by omega) 47 rfl
      have e5 : vals 5 = .int .i64 (h') := hv9 5 (by omega) 48 rfl
      have e6 : vals 6 = .int .i64 (at') := hv9 6 (by omega) 49 rfl
      have e7 : vals 7 = .int .u8 (u8i (t)) := hv9 7 (by omega) 50 rfl
      obtain ⟨x51, P51, n51, d51, Q51, m51, e51, Ps51, Qs51, e8, r51, q51⟩ := hv9 8 (by omega) 51 rfl
      have e9 : vals 9 = .bool (true) := hv9 9 (by omega) 52 rfl
      have e10 : vals 10 = .bool (true) := hv9 10 (by omega) 53 rfl
      have e11 : vals 11 = .pointer (some ⟨g1, 0, none⟩) := hv9 11 (by omega) 54 rfl
      obtain ⟨A55, n55, c55, e12, r55⟩ := hv9 12 (by omega) 55 rfl
      have e13 : vals 13 = .slice (B) (m) (e') := hv9 13 (by omega) 56 rfl
      have e14 : vals 14 = .agg #[.int .i64 xr, .slice RP 70 cp, .slice RQ 10 cq] := hv9 14 (by omega) 57 rfl
      have e15 : vals 15 = .bool (true) := hv9 15 (by omega) 58 rfl
      have e16 : vals 16 = .bool (true) := hv9 16 (by omega) 59 rfl
      have e17 : vals 17 = .bool (true) := hv9 17 (by omega) 60 rfl
      have e18 : vals 18 = .bool (true) := hv9 18 (by omega) 61 rfl
      have e19 : vals 19 = .bool (true) := hv9 19 (by omega) 62 rfl
      have e20 : vals 20 = .bool (true) := hv9 20 (by omega) 14 rfl
      simp only [putAll, Act.put, List.take_succ_cons, List.take_zero, List.drop_succ_cons, List.drop_zero, List.drop_nil, List.take_nil, Nat.reduceAdd, List.setIfInBounds_toArray, List.set_cons_succ, List.set_cons_zero, e0, e1, e2, e3, e4, e5, e6, e7, e8, e9, e10, e11, e12, e13, e14, e15, e16, e17, e18, e19, e20]
      clear hv9 e0 e1 e2 e3 e4 e5 e6 e7 e8 e9 e10 e11 e12 e13 e14 e15 e16 e17 e18 e19 e20
      go_wp2_with fail
      go_ret
      exact ⟨rfl, hEa.trans hE9⟩
end Go.Proofs.Ytmgnigofilkfmab
