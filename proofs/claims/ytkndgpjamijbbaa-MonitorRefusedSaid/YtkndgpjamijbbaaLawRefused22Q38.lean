/-
  MonitorRefused, walked.
-/
import Derived.Test.YtkndgpjamijbbaaLawRefused22Q37
namespace Go.Proofs.Ytkndgpjamijbbaa
set_option maxRecDepth 100000
open Go Go.RowKit
set_option maxHeartbeats 32000000 in
theorem refused22_any (n0 k0 : Int) (hn0 : inR n0) (hk0 : inR k0) (B0 : Option Addr) (m0 dM : Nat) (M0 : List UInt8) (w : World) (rM : RB w B0 m0 dM M0) :
    Calls Try.prog 11 #[.int .i64 n0, .int .i64 k0, .slice B0 m0 dM] w fun e w' => e = .returned (.bool true) ∧ Ext w w' := by
  obtain ⟨n, hn, hn2, hn20⟩ := within_nat2 n0 2 20 (by omega) (by omega)
  have hwn := fun w' => within_any n0 2 20 w' hn0.1 hn0.2 (by omega) (by omega) (by omega)
  rw [hn] at hwn
  have Hwn := Lib.hid hwn
  obtain ⟨k, hk, hkn2⟩ := within_nat k0 ((n : Int) - 2) (by omega)
  have hwi := fun w' => within_any k0 0 ((n : Int) - 2) w' hk0.1 hk0.2 (by omega) (by omega) (by omega)
  rw [hk] at hwi
  have Hwi := Lib.hid hwi
  have hits := fun w => items22_any n 0 w (by omega) (by omega)
  rw [show ((0 : Nat) : Int) = 0 from rfl] at hits
  have Hits := Lib.hid hits
  have hkn : k < n := by omega
  clear hn hwn hk hwi hits
  go_enter Try.func11, Try.ntmps11
  go_wp2_with fail
  refine (seed_any 0 w (by omega) (by omega)).mono ?_
  rintro e w1 ⟨A1, c1', rfl, own1, hEa⟩
  obtain ⟨S, hS⟩ : ∃ S, S = seedL 0 := ⟨_, rfl⟩
  rw [← hS] at own1
  clear hS
  have rS := own1.rb
  clear own1
  go_wp2_with fail
  refine (rnew_any A1 c1' S w1 rS).mono ?_
  rintro e w2 ⟨g1, rfl, o1, hE⟩
  replace hEa := hEa.trans hE
  clear hE rS
  go_wp2_with fail
  refine (rpublic_any g1 _ S w2 o1).mono ?_
  rintro e w3 ⟨A2, c2, rfl, rX, hE⟩
  replace o1 := o1.ext hE
  replace hEa := hEa.trans hE
  clear hE
  go_wp2_with fail
  refine (mnew_yes A2 c2 _ w3 rX).mono ?_
  rintro e w4 ⟨g, φ, rfl, hM, hE⟩
  have hφ : ∀ k, φ k → w3.heap.size ≤ k := fun k hk => (hM.lt hk).1
  have hw3 : w.heap.size ≤ w3.heap.size := hEa.size
  have kO : Keep φ (fun w => OwnR w w1.heap.size g1 S) w4 := Keep.old (fun w' e => o1.ext e) hE hφ
  have kM : Keep φ (fun w => RB w B0 m0 dM M0) w4 := Keep.old (w0 := w3) (fun w' e => (rM.ext hEa).ext e) hE hφ
  replace hEa := hEa.trans hE
  clear hE o1 rX hφ
  go_wp2_with fail
  refine (Hwn.out w4).mono ?_
  rintro e _ ⟨rfl, rfl⟩
  go_wp2_with fail
  refine (Hits.out w4).mono ?_
  rintro e w5 ⟨A3, c3, rfl, oA, hE⟩
  have kA : Keep φ (fun w => RBB w A3 n c3 (its22 n 0)) w5 := oA.rbb.keepS (hM.nob.ext hE) (fun _ k hk hp => by have := (oA.lt hk).1; have := (hM.lt hp).2; omega)
  replace hM := hM.ext hE
  replace kO := kO.ext hE
  replace kM := kM.ext hE
  replace hEa := hEa.trans hE
  clear hE oA Hits Hwn
  go_wp2_with fail
  refine (Hwi.out w5).mono ?_
  rintro e _ ⟨rfl, rfl⟩
  clear Hwi
  have rA := kA.self
  have hroomA := rA.room
  have hcapA := rA.cap
  unfold maxLen at hcapA
  have rAk := rA.fst (k := k) (by omega)
  rw [its22_take (by omega)] at rAk
  have kAk : Keep φ (fun w => RBB w A3 k c3 (its22 k 0)) w5 := kA.imp (fun w' r => by
    have h := r.fst (k := k) (by omega)
    rw [its22_take (by omega)] at h
    exact h)
  have o1 := kO.self
  go_upto_region 7 with (fail)
  refine par_ext (n := 9) (by kernel_rfl) [.is (.pointer (some ⟨g, 0, none⟩)), .is (.pointer (some ⟨g1, 0, none⟩)), .is (.slice (A3) (n) (c3)), .is (.int .i64 ((k : Int))), .is (.slice (A3) (k) (c3)), .sgd (w5.heap.size) S (rootL ((its22 k 0).map leafH)) k (k % 16), .is (.slice (A3) (n) (c3)), .is (.int .i64 ((k : Int))), .is (.slice (A3) (k) (c3))] rfl ⟨?_, ?_, ?_, ?_, ?_, ?_, ?_, ?_, ?_, trivial⟩ ?_
  · refine stepE rfl fun sdn sa sw sE sd sk => ?_
    have h8 : sa.eval (.tmp 8) = .pointer (some ⟨g, 0, none⟩) := sk.old 8 rfl
    exact Runs.move rfl h8 ⟨Ext.refl _, rfl⟩
  · refine stepE rfl fun sdn sa sw sE sd sk => ?_
    have h7 : sa.eval (.tmp 7) = .pointer (some ⟨g1, 0, none⟩) := sk.old 7 rfl
    exact Runs.move rfl h7 ⟨Ext.refl _, rfl⟩
  · refine stepE rfl fun sdn sa sw sE sd sk => ?_
    have h10 : sa.eval (.tmp 10) = .slice (A3) (n) (c3) := sk.old 10 rfl
    exact Runs.move rfl h10 ⟨Ext.refl _, rfl⟩
  · refine stepE rfl fun sdn sa sw sE sd sk => ?_
    have h11 : sa.eval (.tmp 11) = .int .i64 ((k : Int)) := sk.old 11 rfl
    exact Runs.move rfl h11 ⟨Ext.refl _, rfl⟩
  · refine stepE rfl fun sdn sa sw sE sd sk => ?_
    have h40 : sa.eval (.tmp 40) = .slice (A3) (n) (c3) := sk.fact 2 40 rfl (sd 2 rfl)
    have h41 : sa.eval (.tmp 41) = .int .i64 ((k : Int)) := sk.fact 3 41 rfl (sd 3 rfl)
    exact Runs.slice rfl h40 (by simp only [Option.map_some, Option.map_none, h41]; exact run_cut_h Try.underlying23 infZZ_eq k (by first | rfl | omega) (by omega)) ⟨Ext.refl _, rfl⟩
  · refine stepE rfl fun sdn sa sw sE sd sk => ?_
    have h39 : sa.eval (.tmp 39) = .pointer (some ⟨g1, 0, none⟩) := sk.fact 1 39 rfl (sd 1 rfl)
    have h42 : sa.eval (.tmp 42) = .slice (A3) (k) (c3) := sk.fact 4 42 rfl (sd 4 rfl)
    refine Runs.call (f := 38) (vs := [.pointer (some ⟨g1, 0, none⟩), .slice (A3) (k) (c3)]) rfl rfl rfl (by simp only [List.map_toArray, List.map_cons, List.map_nil, h39, h42] <;> rfl) (ent38 _ _) ((signed22_any _ _ S _ _ _ _ sw (o1.ext sE) (rAk.ext sE) (by omega) its22_small).mono ?_); rintro e w' ⟨B', d', P', d1', Q', d2', rfl, h1, hx⟩; exact ⟨_, rfl, hx, B', d', P', d1', Q', d2', rfl, h1.base_ sE.size⟩
  · refine stepE rfl fun sdn sa sw sE sd sk => ?_
    have h10 : sa.eval (.tmp 10) = .slice (A3) (n) (c3) := sk.old 10 rfl
    exact Runs.move rfl h10 ⟨Ext.refl _, rfl⟩
  · refine stepE rfl fun sdn sa sw sE sd sk => ?_
    have h11 : sa.eval (.tmp 11) = .int .i64 ((k : Int)) := sk.old 11 rfl
    exact Runs.move rfl h11 ⟨Ext.refl _, rfl⟩
  · refine stepE rfl fun sdn sa sw sE sd sk => ?_
    have h44 : sa.eval (.tmp 44) = .slice (A3) (n) (c3) := sk.fact 6 44 rfl (sd 6 rfl)
    have h45 : sa.eval (.tmp 45) = .int .i64 ((k : Int)) := sk.fact 7 45 rfl (sd 7 rfl)
    exact Runs.slice rfl h44 (by simp only [Option.map_some, Option.map_none, h45]; exact run_cut_h Try.underlying23 infZZ_eq k (by first | rfl | omega) (by omega)) ⟨Ext.refl _, rfl⟩
  intro vals W7 hE7 hv7
  have e0 : vals 0 = .pointer (some ⟨g, 0, none⟩) := hv7 0 (by omega) 38 rfl
  have e1 : vals 1 = .pointer (some ⟨g1, 0, none⟩) := hv7 1 (by omega) 39 rfl
  have e2 : vals 2 = .slice (A3) (n) (c3) := hv7 2 (by omega) 40 rfl
  have e3 : vals 3 = .int .i64 ((k : Int)) := hv7 3 (by omega) 41 rfl
  have e4 : vals 4 = .slice (A3) (k) (c3) := hv7 4 (by omega) 42 rfl
  obtain ⟨B43, d43, P43, c43, Q43, e43, e5, sg43⟩ := hv7 5 (by omega) 43 rfl
  have e6 : vals 6 = .slice (A3) (n) (c3) := hv7 6 (by omega) 44 rfl
  have e7 : vals 7 = .int .i64 ((k : Int)) := hv7 7 (by omega) 45 rfl
  have e8 : vals 8 = .slice (A3) (k) (c3) := hv7 8 (by omega) 46 rfl
  simp only [putAll, Act.put, List.take_succ_cons, List.take_zero, List.drop_succ_cons, List.drop_zero, List.drop_nil, List.take_nil, Nat.reduceAdd, List.setIfInBounds_toArray, List.set_cons_succ, List.set_cons_zero, e0, e1, e2, e3, e4, e5, e6, e7, e8]
  clear hv7 e0 e1 e2 e3 e4 e5 e6 e7 e8
  have hb : ∀ q, φ q → q < w5.heap.size := fun q hq => (hM.lt hq).2
  replace hM := hM.ext hE7
  replace kO := kO.ext hE7
  replace kM := kM.ext hE7
  replace kA := kA.ext hE7
  replace kAk := kAk.ext hE7
  replace hEa := hEa.trans hE7
  clear hE7 rA rAk o1
  have hf := feed_sgd W7 _ g φ _ hM w5.heap.size k (k % 16) B43 P43 Q43 A3 d43 c43 e43 k c3 S _ _ sg43 hb kAk its22_small (Nat.zero_le _)
  obtain ⟨hg, s1, hg1, hlog, hit, hal⟩ := feed_grow (s := newM (ownP S)) (S := S) (a := 0) (n := k) (which := 0) rfl rfl (Nat.zero_le _) (by omega)
  rw [List.drop_zero] at hg hg1
  rw [hg, hg1] at hf
  have Hf := Lib.hid hf
  clear hf sg43 hb hg hg1 kAk
  go_wp2_with fail
  refine Hf.out.mono ?_
  intro e w7 hp
  obtain ⟨φ7, rfl, hM7, u7, h7, hEb⟩ := hp.go hM hEa hw3
  replace kO := kO.move u7 h7
  replace kA := kA.move u7 h7
  replace kM := kM.move u7 h7
  clear Hf hp hM hEa u7 h7
  have hs := signed22_any g1 _ S A3 n c3 _ w7 kO.self kA.self (by omega) its22_small
  obtain ⟨q16, hq⟩ : ∃ q, q = n % 16 := ⟨_, rfl⟩
  rw [← hq] at hs
  have Hq := Lib.hid hq
  clear hq
  have Hs := Lib.hid hs
  clear hs
  go_wp2_with fail
  refine Hs.out.mono ?_
  rintro e w8 ⟨B, d, P, d1, Q, d2, rfl, sg, hE⟩
  have hb7 : ∀ q, φ7 q → q < w7.heap.size := fun q hq => (hM7.lt hq).2
  replace hM7 := hM7.ext hE
  replace kO := kO.ext hE
  replace kA := kA.ext hE
  replace kM := kM.ext hE
  replace hEb := hEb.trans hE
  clear hE Hs
  have hEn := Ext.new w8 (.cells #[.int .i64 (n : Int), .slice B 32 d, .int .i64 (q16 : Int), .slice P 64 d1, .slice Q 4 d2] 69)
  have hBs := Blk.new w8 69 #[.int .i64 (n : Int), .slice B 32 d, .int .i64 (q16 : Int), .slice P 64 d1, .slice Q 4 d2]
  have hlt7 : ∀ q, φ7 q → q < w8.heap.size := fun q hq => (hM7.lt hq).2
  replace hM7 := hM7.ext hEn
  replace kO := kO.ext hEn
  replace kA := kA.ext hEn
  replace kM := kM.ext hEn
  replace sg := sg.ext hEn
  replace hEb := hEb.trans hEn
  clear hEn
  go_upto_region 10 with (fail)
  generalize w8.alloc (.cells #[.int .i64 (n : Int), .slice B 32 d, .int .i64 (q16 : Int), .slice P 64 d1, .slice Q 4 d2] 69) = W9 at *
  obtain ⟨gs, hgs'⟩ : ∃ gs, gs = w8.heap.size := ⟨_, rfl⟩
  rw [← hgs'] at hBs hlt7 ⊢
  clear hgs'
  replace hlt7 : ∀ q, φ7 q → q < W9.heap.size := fun q hq => (hM7.lt hq).2
  have rA := kA.self
  have rM9 := kM.self
  have rA1 := rA.snd (k := k + 1) (by omega)
  have rA0 := rA.snd (k := k) (by omega)
  have kA1 := kA.imp (fun w' r => r.snd (k := k + 1) (by omega))
  have rR := sg.1
  have hal7 : s1.al.length ≤ 100000 := by rw [hal]; exact Nat.zero_le _
  have hlk : s1.its.length = k := by rw [hit, its22_len]
  have rM := rM9
  have hSt18 : ∀ zj zm, ([.is (.pointer (some ⟨g, 0, none⟩)), .is (.agg #[.int .i64 ((n : Int)), .slice (B) (32) (d), .int .i64 ((q16 : Int)), .slice (P) (64) (d1), .slice (Q) (4) (d2)]), .is (.slice (A3) (n) (c3)), .is (.int .i64 ((k : Int))), .is (.int .i64 ((k : Int) + (1 : Int))), .is (.slice (if c3 = (k + 1) then A3 else A3.map (·.add ((k + 1) * 1))) (n - (k + 1)) (c3 - (k + 1))), .is (.int .i64 ((31 : Int))), .is (.bool (false)), .is (.bool (false)), .is (.pointer (some ⟨g, 0, none⟩)), .is (.agg #[.int .i64 ((n : Int)), .slice (B) (32) (d), .int .i64 ((q16 : Int)), .slice (P) (64) (d1), .slice (Q) (4) (d2)]), .obp0 (W9.heap.size), .is (.slice (A3) (n) (c3)), .is (.int .i64 ((k : Int))), .is (.slice (if c3 = k then A3 else A3.map (·.add (k * 1))) (n - k) (c3 - k)), .obp (W9.heap.size) (n - k) ((its22 n 0).drop k), .is (.slice (B0) (m0) (dM)), .obp (W9.heap.size) (1) ([M0]), .obp (W9.heap.size) (n - k + 1) ((its22 n 0).drop k ++ [M0]), .is (.int .i64 ((31 : Int))), .is (.bool (false)), .is (.bool (false)), .is (.bool (false)), .is (.pointer (some ⟨g, 0, none⟩)), .is (.agg #[.int .i64 ((n : Int)), .slice (B) (32) (d), .int .i64 ((q16 : Int)), .slice (P) (64) (d1), .slice (Q) (4) (d2)]), .is (.int .i64 ((31 : Int))), .is (.bool (false)), .is (.bool (false)), .is (.bool (false)), .is (.pointer (some ⟨g, 0, none⟩)), .is (.int .i64 ((k : Int))), .is (.int .i64 ((k : Int))), .is (.bool (false)), .is (.bool (false))] : List (MP Ext))[zj]? = some zm → zj ≠ 18 → ([(19, 18), (20, 18), (21, 18), (22, 18), (23, 18), (24, 18), (25, 18), (26, 18), (27, 18), (28, 18), (29, 18), (30, 18), (31, 18), (32, 18), (33, 18)] : List (Nat × Nat)).contains (zj, 18) = false → ApROK W9.heap.size (n - k) zm := by
    intro j m hm h7 h12
    rcases j with _ | _ | _ | _ | _ | _ | _ | _ | _ | _ | _ | _ | _ | _ | _ | _ | _ | _ | _ | _ | _ | _ | _ | _ | _ | _ | _ | _ | _ | _ | _ | _ | _ | _ | j
    · injection hm with hm; subst hm; exact aprok_is _ _ _
    · injection hm with hm; subst hm; exact aprok_is _ _ _
    · injection hm with hm; subst hm; exact aprok_is _ _ _
    · injection hm with hm; subst hm; exact aprok_is _ _ _
    · injection hm with hm; subst hm; exact aprok_is _ _ _
    · injection hm with hm; subst hm; exact aprok_is _ _ _
    · injection hm with hm; subst hm; exact aprok_is _ _ _
    · injection hm with hm; subst hm; exact aprok_is _ _ _
    · injection hm with hm; subst hm; exact aprok_is _ _ _
    · injection hm with hm; subst hm; exact aprok_is _ _ _
    · injection hm with hm; subst hm; exact aprok_is _ _ _
    · injection hm with hm; subst hm; exact aprok_obp0 _ _ _
    · injection hm with hm; subst hm; exact aprok_is _ _ _
    · injection hm with hm; subst hm; exact aprok_is _ _ _
    · injection hm with hm; subst hm; exact aprok_is _ _ _
    · injection hm with hm; subst hm; exact aprok_obp (Nat.le_refl _) _
    · injection hm with hm; subst hm; exact aprok_is _ _ _
    · injection hm with hm; subst hm; exact aprok_obp (by omega) _
    · exact absurd rfl h7
    · exact absurd h12 (by decide)
    · exact absurd h12 (by decide)
    · exact absurd h12 (by decide)
    · exact absurd h12 (by decide)
    · exact absurd h12 (by decide)
    · exact absurd h12 (by decide)
    · exact absurd h12 (by decide)
    · exact absurd h12 (by decide)
    · exact absurd h12 (by decide)
    · exact absurd h12 (by decide)
    · exact absurd h12 (by decide)
    · exact absurd h12 (by decide)
    · exact absurd h12 (by decide)
    · exact absurd h12 (by decide)
    · exact absurd h12 (by decide)
    · simp at hm
  refine par_ap (n := 34) [(19, 18), (20, 18), (21, 18), (22, 18), (23, 18), (24, 18), (25, 18), (26, 18), (27, 18), (28, 18), (29, 18), (30, 18), (31, 18), (32, 18), (33, 18)] (by kernel_rfl) [.is (.pointer (some ⟨g, 0, none⟩)), .is (.agg #[.int .i64 ((n : Int)), .slice (B) (32) (d), .int .i64 ((q16 : Int)), .slice (P) (64) (d1), .slice (Q) (4) (d2)]), .is (.slice (A3) (n) (c3)), .is (.int .i64 ((k : Int))), .is (.int .i64 ((k : Int) + (1 : Int))), .is (.slice (if c3 = (k + 1) then A3 else A3.map (·.add ((k + 1) * 1))) (n - (k + 1)) (c3 - (k + 1))), .is (.int .i64 ((31 : Int))), .is (.bool (false)), .is (.bool (false)), .is (.pointer (some ⟨g, 0, none⟩)), .is (.agg #[.int .i64 ((n : Int)), .slice (B) (32) (d), .int .i64 ((q16 : Int)), .slice (P) (64) (d1), .slice (Q) (4) (d2)]), .obp0 (W9.heap.size), .is (.slice (A3) (n) (c3)), .is (.int .i64 ((k : Int))), .is (.slice (if c3 = k then A3 else A3.map (·.add (k * 1))) (n - k) (c3 - k)), .obp (W9.heap.size) (n - k) ((its22 n 0).drop k), .is (.slice (B0) (m0) (dM)), .obp (W9.heap.size) (1) ([M0]), .obp (W9.heap.size) (n - k + 1) ((its22 n 0).drop k ++ [M0]), .is (.int .i64 ((31 : Int))), .is (.bool (false)), .is (.bool (false)), .is (.bool (false)), .is (.pointer (some ⟨g, 0, none⟩)), .is (.agg #[.int .i64 ((n : Int)), .slice (B) (32) (d), .int .i64 ((q16 : Int)), .slice (P) (64) (d1), .slice (Q) (4) (d2)]), .is (.int .i64 ((31 : Int))), .is (.bool (false)), .is (.bool (false)), .is (.bool (false)), .is (.pointer (some ⟨g, 0, none⟩)), .is (.int .i64 ((k : Int))), .is (.int .i64 ((k : Int))), .is (.bool (false)), .is (.bool (false))] rfl ⟨?_, ?_, ?_, ?_, ?_, ?_, ?_, ?_, ?_, ?_, ?_, ?_, ?_, ?_, ?_, ?_, ?_, ?_, ?_, ?_, ?_, ?_, ?_, ?_, ?_, ?_, ?_, ?_, ?_, ?_, ?_, ?_, ?_, ?_, trivial⟩ ?_
  · refine stepEP rfl (by decide) fun sdn sa sw sE sd sk => ?_
    have h8 : sa.eval (.tmp 8) = .pointer (some ⟨g, 0, none⟩) := sk.old 8 rfl
    exact Runs.move rfl h8 ⟨Ext.refl _, rfl⟩
  · refine stepEP rfl (by decide) fun sdn sa sw sE sd sk => ?_
    have h12 : sa.eval (.tmp 12) = .pointer (some ⟨gs, 0, none⟩) := sk.old 12 rfl
    exact Runs.load rfl h12 (load_part (hBs.ext sE) 0 (vs := [.int .i64 ((n : Int)), .slice (B) (32) (d), .int .i64 ((q16 : Int)), .slice (P) (64) (d1), .slice (Q) (4) (d2)]) rfl Try.underlying69 rfl (by kernel_rfl)) ⟨Ext.refl _, rfl⟩
  · refine stepEP rfl (by decide) fun sdn sa sw sE sd sk => ?_
    have h10 : sa.eval (.tmp 10) = .slice (A3) (n) (c3) := sk.old 10 rfl
    exact Runs.move rfl h10 ⟨Ext.refl _, rfl⟩
  · refine stepEP rfl (by decide) fun sdn sa sw sE sd sk => ?_
    have h11 : sa.eval (.tmp 11) = .int .i64 ((k : Int)) := sk.old 11 rfl
    exact Runs.move rfl h11 ⟨Ext.refl _, rfl⟩
  · refine stepEP rfl (by decide) fun sdn sa sw sE sd sk => ?_
    have h55 : sa.eval (.tmp 55) = .int .i64 ((k : Int)) := sk.fact 3 55 rfl (sd 3 rfl)
    exact Runs.bin rfl h55 rfl (eqGuard_bin rfl) (bin_add64 _ _ _ (by omega) (by omega)) ⟨Ext.refl _, rfl⟩
  · refine stepEP rfl (by decide) fun sdn sa sw sE sd sk => ?_
    have h54 : sa.eval (.tmp 54) = .slice (A3) (n) (c3) := sk.fact 2 54 rfl (sd 2 rfl)
    have h56 : sa.eval (.tmp 56) = .int .i64 ((k : Int) + (1 : Int)) := sk.fact 4 56 rfl (sd 4 rfl)
    exact Runs.slice rfl h54 (by simp only [Option.map_some, Option.map_none, h56]; exact run_cut_l Try.underlying23 infZZ_eq infZZ_size (k + 1) (by first | rfl | omega) (by omega)) ⟨Ext.refl _, rfl⟩
  · refine stepEP rfl (by decide) fun sdn sa sw sE sd sk => ?_
    have h52 : sa.eval (.tmp 52) = .pointer (some ⟨g, 0, none⟩) := sk.fact 0 52 rfl (sd 0 rfl)
    have h53 : sa.eval (.tmp 53) = .agg #[.int .i64 ((n : Int)), .slice (B) (32) (d), .int .i64 ((q16 : Int)), .slice (P) (64) (d1), .slice (Q) (4) (d2)] := sk.fact 1 53 rfl (sd 1 rfl)
    have h57 : sa.eval (.tmp 57) = .slice (if c3 = (k + 1) then A3 else A3.map (·.add ((k + 1) * 1))) (n - (k + 1)) (c3 - (k + 1)) := sk.fact 5 57 rfl (sd 5 rfl)
    refine Runs.call (f := 37) (vs := [.pointer (some ⟨g, 0, none⟩), .agg #[.int .i64 ((n : Int)), .slice (B) (32) (d), .int .i64 ((q16 : Int)), .slice (P) (64) (d1), .slice (Q) (4) (d2)], .slice (if c3 = (k + 1) then A3 else A3.map (·.add ((k + 1) * 1))) (n - (k + 1)) (c3 - (k + 1))]) rfl rfl rfl (by simp only [List.map_toArray, List.map_cons, List.map_nil, h52, h53, h57] <;> rfl) (ent37 _ _) ((feed_sgd_no sw _ g _ _ (hM7.ext sE) _ n k q16 Hq.out _ _ _ _ _ _ _ _ _ S _ (sg.ext sE) hb7 (kA1.ext sE) hlog hit hkn (by omega) (fun h => by omega) (.inl (by omega)) hal7).mono ?_); rintro e w' ⟨rfl, hx⟩; exact ⟨_, rfl, hx, rfl⟩
  · refine stepEP rfl (by decide) fun sdn sa sw sE sd sk => ?_
    have h58 : sa.eval (.tmp 58) = .int .i64 ((31 : Int)) := sk.fact 6 58 rfl (sd 6 rfl)
    exact Runs.bin rfl h58 rfl (by rfl) (bin_neq _ _ _ _) ⟨Ext.refl _, congrArg Value.bool (by decide)⟩
  · refine stepEP rfl (by decide) fun sdn sa sw sE sd sk => ?_
    have h59 : sa.eval (.tmp 59) = .bool (false) := sk.fact 7 59 rfl (sd 7 rfl)
    exact Runs.move rfl h59 ⟨Ext.refl _, rfl⟩
  · refine stepYP (j := 8) (d := 60) (b := false) rfl rfl rfl (fun v w h => h) (by decide) fun sdn sa sw sE sd sk => ?_
    have h8 : sa.eval (.tmp 8) = .pointer (some ⟨g, 0, none⟩) := sk.old 8 rfl
    exact Runs.move rfl h8 ⟨Ext.refl _, rfl⟩
  · refine stepYP (j := 8) (d := 60) (b := false) rfl rfl rfl (fun v w h => h) (by decide) fun sdn sa sw sE sd sk => ?_
    have h12 : sa.eval (.tmp 12) = .pointer (some ⟨gs, 0, none⟩) := sk.old 12 rfl
    exact Runs.load rfl h12 (load_part (hBs.ext sE) 0 (vs := [.int .i64 ((n : Int)), .slice (B) (32) (d), .int .i64 ((q16 : Int)), .slice (P) (64) (d1), .slice (Q) (4) (d2)]) rfl Try.underlying69 rfl (by kernel_rfl)) ⟨Ext.refl _, rfl⟩
  · refine stepYP (j := 8) (d := 60) (b := false) rfl rfl rfl (fun v w h => h) (by decide) fun sdn sa sw sE sd sk => ?_
    exact Runs.lit0r rfl rfl (fun w1 e1 o1 => ⟨e1, _, rfl, o1.base_ sE.size⟩)
  · refine stepYP (j := 8) (d := 60) (b := false) rfl rfl rfl (fun v w h => h) (by decide) fun sdn sa sw sE sd sk => ?_
    have h10 : sa.eval (.tmp 10) = .slice (A3) (n) (c3) := sk.old 10 rfl
    exact Runs.move rfl h10 ⟨Ext.refl _, rfl⟩
  · refine stepYP (j := 8) (d := 60) (b := false) rfl rfl rfl (fun v w h => h) (by decide) fun sdn sa sw sE sd sk => ?_
    have h11 : sa.eval (.tmp 11) = .int .i64 ((k : Int)) := sk.old 11 rfl
    exact Runs.move rfl h11 ⟨Ext.refl _, rfl⟩
  · refine stepYP (j := 8) (d := 60) (b := false) rfl rfl rfl (fun v w h => h) (by decide) fun sdn sa sw sE sd sk => ?_
    have h64 : sa.eval (.tmp 64) = .slice (A3) (n) (c3) := sk.fact 12 64 rfl (sd 12 rfl)
    have h65 : sa.eval (.tmp 65) = .int .i64 ((k : Int)) := sk.fact 13 65 rfl (sd 13 rfl)
    exact Runs.slice rfl h64 (by simp only [Option.map_some, Option.map_none, h65]; exact run_cut_l Try.underlying23 infZZ_eq infZZ_size k (by first | rfl | omega) (by omega)) ⟨Ext.refl _, rfl⟩
  · refine stepYP (j := 8) (d := 60) (b := false) rfl rfl rfl (fun v w h => h) (by decide) fun sdn sa sw sE sd sk => ?_
    obtain ⟨A63, h63, o63⟩ := sk.fact 11 63 rfl (sd 11 rfl)
    have h66 : sa.eval (.tmp 66) = .slice (if c3 = k then A3 else A3.map (·.add (k * 1))) (n - k) (c3 - k) := sk.fact 14 66 rfl (sd 14 rfl)
    exact Runs.appbp rfl h63 h66 o63 (rA0.ext sE) sE.size (by omega) (fun A' c' w' o1 _ e1 => ⟨e1 (by omega), _, _, (by first | rfl | (congr 1; omega)), (show OBP w' (W9.heap.size) A' (n - k) c' ((its22 n 0).drop k) from by simpa using o1)⟩)
  · refine stepYP (j := 8) (d := 60) (b := false) rfl rfl rfl (fun v w h => h) (by decide) fun sdn sa sw sE sd sk => ?_
    have h2 : sa.eval (.tmp 2) = .slice (B0) (m0) (dM) := sk.old 2 rfl
    exact Runs.move rfl h2 ⟨Ext.refl _, rfl⟩
  · refine stepYP (j := 8) (d := 60) (b := false) rfl rfl rfl (fun v w h => h) (by decide) fun sdn sa sw sE sd sk => ?_
    have h68 : sa.eval (.tmp 68) = .slice (B0) (m0) (dM) := sk.fact 16 68 rfl (sd 16 rfl)
    exact Runs.lit1r rfl h68 (rM.ext sE) (fun w1 e1 o1 => ⟨e1, _, _, rfl, o1.base_ sE.size⟩)
  · refine stepRY (n := (n - k)) (j := 8) (d := 60) (b := false) rfl rfl rfl (fun v w h => h) (by decide) hSt18 fun sdn sa sw sE sd sk => ?_
    obtain ⟨A67, c67, h67, o67⟩ := sk.fact 15 67 rfl (sd 15 rfl)
    obtain ⟨A69, c69, h69, o69⟩ := sk.fact 17 69 rfl (sd 17 rfl)
    exact Runs.appbp rfl h67 h69 o67 o69.rbb sE.size (by omega) (fun A' c' w' o1 e1 _ => ⟨e1, _, _, rfl, o1⟩)
  · refine stepYP (j := 8) (d := 60) (b := false) rfl rfl rfl (fun v w h => h) (by decide) fun sdn sa sw sE sd sk => ?_
    have h61 : sa.eval (.tmp 61) = .pointer (some ⟨g, 0, none⟩) := sk.fact 9 61 rfl (sd 9 rfl)
    have h62 : sa.eval (.tmp 62) = .agg #[.int .i64 ((n : Int)), .slice (B) (32) (d), .int .i64 ((q16 : Int)), .slice (P) (64) (d1), .slice (Q) (4) (d2)] := sk.fact 10 62 rfl (sd 10 rfl)
    obtain ⟨A70, c70, h70, o70⟩ := sk.fact 18 70 rfl (sd 18 rfl)
    refine Runs.call (f := 37) (vs := [.pointer (some ⟨g, 0, none⟩), .agg #[.int .i64 ((n : Int)), .slice (B) (32) (d), .int .i64 ((q16 : Int)), .slice (P) (64) (d1), .slice (Q) (4) (d2)], .slice (A70) (n - k + 1) (c70)]) rfl rfl rfl (by simp only [List.map_toArray, List.map_cons, List.map_nil, h61, h62, h70] <;> rfl) (ent37 _ _) ((feed_sgd_no sw _ g _ _ (hM7.ext sE) _ n k q16 Hq.out _ _ _ _ _ _ _ _ _ S _ (sg.ext sE) hb7 (o70.rbb.keepS (hM7.nob.ext sE) (fun _ q hq hp => by have := (o70.lt hq).1; have := hlt7 q hp; omega)) hlog hit hkn (by omega) (fun h => by omega) (.inl (by omega)) hal7).mono ?_); rintro e w' ⟨rfl, hx⟩; exact ⟨_, rfl, hx, rfl⟩
  · refine stepYP (j := 8) (d := 60) (b := false) rfl rfl rfl (fun v w h => h) (by decide) fun sdn sa sw sE sd sk => ?_
    have h71 : sa.eval (.tmp 71) = .int .i64 ((31 : Int)) := sk.fact 19 71 rfl (sd 19 rfl)
    exact Runs.bin rfl h71 rfl (by rfl) (bin_neq _ _ _ _) ⟨Ext.refl _, congrArg Value.bool (by decide)⟩
  · refine stepEP rfl (by decide) fun sdn sa sw sE sd sk => ?_
    have h60 : sa.eval (.tmp 60) = .bool (false) := sk.fact 8 60 rfl (sd 8 rfl)
    have h72 : sa.eval (.tmp 72) = .bool (false) := sk.fact 20 72 rfl (sd 20 rfl)
    exact Runs.pick rfl h60 ⟨Ext.refl _, by first | exact h72 | simpa using h72⟩
  · refine stepEP rfl (by decide) fun sdn sa sw sE sd sk => ?_
    have h73 : sa.eval (.tmp 73) = .bool (false) := sk.fact 21 73 rfl (sd 21 rfl)
    exact Runs.move rfl h73 ⟨Ext.refl _, rfl⟩
  · refine stepYP (j := 22) (d := 74) (b := false) rfl rfl rfl (fun v w h => h) (by decide) fun sdn sa sw sE sd sk => ?_
    have h8 : sa.eval (.tmp 8) = .pointer (some ⟨g, 0, none⟩) := sk.old 8 rfl
    exact Runs.move rfl h8 ⟨Ext.refl _, rfl⟩
  · refine stepYP (j := 22) (d := 74) (b := false) rfl rfl rfl (fun v w h => h) (by decide) fun sdn sa sw sE sd sk => ?_
    have h12 : sa.eval (.tmp 12) = .pointer (some ⟨gs, 0, none⟩) := sk.old 12 rfl
    exact Runs.load rfl h12 (load_part (hBs.ext sE) 0 (vs := [.int .i64 ((n : Int)), .slice (B) (32) (d), .int .i64 ((q16 : Int)), .slice (P) (64) (d1), .slice (Q) (4) (d2)]) rfl Try.underlying69 rfl (by kernel_rfl)) ⟨Ext.refl _, rfl⟩
  · refine stepYP (j := 22) (d := 74) (b := false) rfl rfl rfl (fun v w h => h) (by decide) fun sdn sa sw sE sd sk => ?_
    have h75 : sa.eval (.tmp 75) = .pointer (some ⟨g, 0, none⟩) := sk.fact 23 75 rfl (sd 23 rfl)
    have h76 : sa.eval (.tmp 76) = .agg #[.int .i64 ((n : Int)), .slice (B) (32) (d), .int .i64 ((q16 : Int)), .slice (P) (64) (d1), .slice (Q) (4) (d2)] := sk.fact 24 76 rfl (sd 24 rfl)
    refine Runs.call (f := 37) (vs := [.pointer (some ⟨g, 0, none⟩), .agg #[.int .i64 ((n : Int)), .slice (B) (32) (d), .int .i64 ((q16 : Int)), .slice (P) (64) (d1), .slice (Q) (4) (d2)], .slice (none) (0) (0)]) rfl rfl rfl (by simp only [List.map_toArray, List.map_cons, List.map_nil, h75, h76] <;> rfl) (ent37 _ _) ((feed_sgd_no sw _ g _ _ (hM7.ext sE) _ n k q16 Hq.out _ _ _ _ _ _ _ _ _ S _ (sg.ext sE) hb7 (fun w u => RBB.nil_ _) hlog hit hkn (by omega) (fun h => by omega) (.inl (by omega)) hal7).mono ?_); rintro e w' ⟨rfl, hx⟩; exact ⟨_, rfl, hx, rfl⟩
  · refine stepYP (j := 22) (d := 74) (b := false) rfl rfl rfl (fun v w h => h) (by decide) fun sdn sa sw sE sd sk => ?_
    have h77 : sa.eval (.tmp 77) = .int .i64 ((31 : Int)) := sk.fact 25 77 rfl (sd 25 rfl)
    exact Runs.bin rfl h77 rfl (by rfl) (bin_neq _ _ _ _) ⟨Ext.refl _, congrArg Value.bool (by decide)⟩
  · refine stepEP rfl (by decide) fun sdn sa sw sE sd sk => ?_
    have h74 : sa.eval (.tmp 74) = .bool (false) := sk.fact 22 74 rfl (sd 22 rfl)
    have h78 : sa.eval (.tmp 78) = .bool (false) := sk.fact 26 78 rfl (sd 26 rfl)
    exact Runs.pick rfl h74 ⟨Ext.refl _, by first | exact h78 | simpa using h78⟩
  · refine stepEP rfl (by decide) fun sdn sa sw sE sd sk => ?_
    have h79 : sa.eval (.tmp 79) = .bool (false) := sk.fact 27 79 rfl (sd 27 rfl)
    exact Runs.move rfl h79 ⟨Ext.refl _, rfl⟩
  · refine stepYP (j := 28) (d := 80) (b := false) rfl rfl rfl (fun v w h => h) (by decide) fun sdn sa sw sE sd sk => ?_
    have h8 : sa.eval (.tmp 8) = .pointer (some ⟨g, 0, none⟩) := sk.old 8 rfl
    exact Runs.move rfl h8 ⟨Ext.refl _, rfl⟩
  · refine stepYP (j := 28) (d := 80) (b := false) rfl rfl rfl (fun v w h => h) (by decide) fun sdn sa sw sE sd sk => ?_
    have h81 : sa.eval (.tmp 81) = .pointer (some ⟨g, 0, none⟩) := sk.fact 29 81 rfl (sd 29 rfl)
    refine Runs.call (f := 43) (vs := [.pointer (some ⟨g, 0, none⟩)]) rfl rfl rfl (by simp only [List.map_toArray, List.map_cons, List.map_nil, h81] <;> rfl) (ent43 _ _) ((msize_k sw _ g _ _ _ (hM7.ext sE) hlk).mono ?_); rintro e w' ⟨rfl, rfl⟩; exact ⟨_, rfl, Ext.refl _, rfl⟩
  · refine stepYP (j := 28) (d := 80) (b := false) rfl rfl rfl (fun v w h => h) (by decide) fun sdn sa sw sE sd sk => ?_
    have h11 : sa.eval (.tmp 11) = .int .i64 ((k : Int)) := sk.old 11 rfl
    exact Runs.move rfl h11 ⟨Ext.refl _, rfl⟩
  · refine stepYP (j := 28) (d := 80) (b := false) rfl rfl rfl (fun v w h => h) (by decide) fun sdn sa sw sE sd sk => ?_
    have h82 : sa.eval (.tmp 82) = .int .i64 ((k : Int)) := sk.fact 30 82 rfl (sd 30 rfl)
    have h83 : sa.eval (.tmp 83) = .int .i64 ((k : Int)) := sk.fact 31 83 rfl (sd 31 rfl)
    exact Runs.bin rfl h82 h83 (by rfl) (bin_neq _ _ _ _) ⟨Ext.refl _, congrArg Value.bool (by simp)⟩
  · refine stepEP rfl (by decide) fun sdn sa sw sE sd sk => ?_
    have h80 : sa.eval (.tmp 80) = .bool (false) := sk.fact 28 80 rfl (sd 28 rfl)
    have h84 : sa.eval (.tmp 84) = .bool (false) := sk.fact 32 84 rfl (sd 32 rfl)
    exact Runs.pick rfl h80 ⟨Ext.refl _, by first | exact h84 | simpa using h84⟩
  intro vals W10 hE10 hv10
  have e0 : vals 0 = .pointer (some ⟨g, 0, none⟩) := hv10 0 (by omega) 52 rfl
  have e1 : vals 1 = .agg #[.int .i64 ((n : Int)), .slice (B) (32) (d), .int .i64 ((q16 : Int)), .slice (P) (64) (d1), .slice (Q) (4) (d2)] := hv10 1 (by omega) 53 rfl
  have e2 : vals 2 = .slice (A3) (n) (c3) := hv10 2 (by omega) 54 rfl
  have e3 : vals 3 = .int .i64 ((k : Int)) := hv10 3 (by omega) 55 rfl
  have e4 : vals 4 = .int .i64 ((k : Int) + (1 : Int)) := hv10 4 (by omega) 56 rfl
  have e5 : vals 5 = .slice (if c3 = (k + 1) then A3 else A3.map (·.add ((k + 1) * 1))) (n - (k + 1)) (c3 - (k + 1)) := hv10 5 (by omega) 57 rfl
  have e6 : vals 6 = .int .i64 ((31 : Int)) := hv10 6 (by omega) 58 rfl
  have e7 : vals 7 = .bool (false) := hv10 7 (by omega) 59 rfl
  have e8 : vals 8 = .bool (false) := hv10 8 (by omega) 60 rfl
  have e9 : vals 9 = .pointer (some ⟨g, 0, none⟩) := hv10 9 (by omega) 61 rfl
  have e10 : vals 10 = .agg #[.int .i64 ((n : Int)), .slice (B) (32) (d), .int .i64 ((q16 : Int)), .slice (P) (64) (d1), .slice (Q) (4) (d2)] := hv10 10 (by omega) 62 rfl
  obtain ⟨A63, e11, o63⟩ := hv10 11 (by omega) 63 rfl
  have e12 : vals 12 = .slice (A3) (n) (c3) := hv10 12 (by omega) 64 rfl
  have e13 : vals 13 = .int .i64 ((k : Int)) := hv10 13 (by omega) 65 rfl
  have e14 : vals 14 = .slice (if c3 = k then A3 else A3.map (·.add (k * 1))) (n - k) (c3 - k) := hv10 14 (by omega) 66 rfl
  obtain ⟨A67, c67, e15, o67⟩ := hv10 15 (by omega) 67 rfl
  have e16 : vals 16 = .slice (B0) (m0) (dM) := hv10 16 (by omega) 68 rfl
  obtain ⟨A69, c69, e17, o69⟩ := hv10 17 (by omega) 69 rfl
  obtain ⟨A70, c70, e18, o70⟩ := hv10 18 (by omega) 70 rfl
  have e19 : vals 19 = .int .i64 ((31 : Int)) := hv10 19 (by omega) 71 rfl
  have e20 : vals 20 = .bool (false) := hv10 20 (by omega) 72 rfl
  have e21 : vals 21 = .bool (false) := hv10 21 (by omega) 73 rfl
  have e22 : vals 22 = .bool (false) := hv10 22 (by omega) 74 rfl
  have e23 : vals 23 = .pointer (some ⟨g, 0, none⟩) := hv10 23 (by omega) 75 rfl
  have e24 : vals 24 = .agg #[.int .i64 ((n : Int)), .slice (B) (32) (d), .int .i64 ((q16 : Int)), .slice (P) (64) (d1), .slice (Q) (4) (d2)] := hv10 24 (by omega) 76 rfl
  have e25 : vals 25 = .int .i64 ((31 : Int)) := hv10 25 (by omega) 77 rfl
  have e26 : vals 26 = .bool (false) := hv10 26 (by omega) 78 rfl
  have e27 : vals 27 = .bool (false) := hv10 27 (by omega) 79 rfl
  have e28 : vals 28 = .bool (false) := hv10 28 (by omega) 80 rfl
  have e29 : vals 29 = .pointer (some ⟨g, 0, none⟩) := hv10 29 (by omega) 81 rfl
  have e30 : vals 30 = .int .i64 ((k : Int)) := hv10 30 (by omega) 82 rfl
  have e31 : vals 31 = .int .i64 ((k : Int)) := hv10 31 (by omega) 83 rfl
  have e32 : vals 32 = .bool (false) := hv10 32 (by omega) 84 rfl
  have e33 : vals 33 = .bool (false) := hv10 33 (by omega) 85 rfl
  simp only [putAll, Act.put, List.take_succ_cons, List.take_zero, List.drop_succ_cons, List.drop_zero, List.drop_nil, List.take_nil, Nat.reduceAdd, List.setIfInBounds_toArray, List.set_cons_succ, List.set_cons_zero, e0, e1, e2, e3, e4, e5, e6, e7, e8, e9, e10, e11, e12, e13, e14, e15, e16, e17, e18, e19, e20, e21, e22, e23, e24, e25, e26, e27, e28, e29, e30, e31, e32, e33]
  clear hv10 e0 e1 e2 e3 e4 e5 e6 e7 e8 e9 e10 e11 e12 e13 e14 e15 e16 e17 e18 e19 e20 e21 e22 e23 e24 e25 e26 e27 e28 e29 e30 e31 e32 e33
  replace hM7 := hM7.ext hE10
  replace kO := kO.ext hE10
  replace kA := kA.ext hE10
  replace kM := kM.ext hE10
  replace sg := sg.ext hE10
  replace hBs := hBs.ext hE10
  replace hEb := hEb.trans hE10
  have hlt10 : ∀ q, φ7 q → q < W10.heap.size := fun q hq => (hM7.lt hq).2
  clear hE10 rA rA0 rA1 rM9 rM kA1
  go_upto_region 12 with (fail)
  have rA := kA.self
  have rA0 := rA.snd2 (k := k) (by omega)
  have hEl := Ext.new W10 (.cells #[] 22)
  have own0 := OBP.lit0 W10
  go_wp2_with (refine appbp0_law rfl rfl rfl rfl own0 (rA0.ext hEl) hEl.size (by omega) ?_; intro AX cX w11 oX eX)
  have eX2 := hEl.trans eX
  have oX2 := oX.base_ (b' := W10.heap.size) (Nat.le_refl _)
  have rM11 := kM.self.ext eX2
  obtain ⟨gX, rfl⟩ : ∃ gX, AX = some ⟨gX, 0, none⟩ := by
    obtain ⟨vs, h1, _⟩ := oX2
    obtain ⟨g', h2, _⟩ := h1.at_ (by omega) (by decide)
    exact ⟨g', h2⟩
  have hgX := oX2.lt (k := gX) rfl
  have hcu := cut_z B0 m0 dM 50 M0 50 rfl w11 rM11 (by omega)
  have Hcu := Lib.hid hcu
  obtain ⟨cs, hBX, hcs, _⟩ := (oX2.set_ (RB.nil_ w11) 0 (by omega)).2
  have hrX := oX2.rbb.room
  obtain ⟨v0, hv0⟩ : ∃ v0, cs[0]? = some v0 := ⟨_, Array.getElem?_eq_getElem (show 0 < cs.size by omega)⟩
  have fX := hBX.frozen 0
  have xX := hBX.cell (i := 0) hv0
  have h0nk : (0 : Int) < ((n - k : Nat) : Int) := by omega
  clear hcu hv0 own0 oX
  go_wp2_with fail
  refine Hcu.out.mono ?_
  rintro e w' ⟨⟨rfl, rC⟩, rfl⟩
  have oX3 := (oX2.set_ rC 0 (by omega)).1
  have gs3 := grown_set w11 ⟨gX, 0, none⟩ (.slice B0 (min m0 50) dM)
  have eX3 : Ext W10 (w11.setCell ⟨gX, 0, none⟩ (.slice B0 (min m0 50) dM)) := eX2.then_grown gs3 (by intro q hq; cases hq; exact hgX.1)
  clear Hcu
  go_upto_region 14 with (fail)
  generalize w11.setCell ⟨gX, 0, none⟩ (.slice B0 (min m0 50) dM) = w12 at *
  replace hM7 := hM7.ext eX3
  replace kO := kO.ext eX3
  replace kA := kA.ext eX3
  replace kM := kM.ext eX3
  replace sg := sg.ext eX3
  replace hBs := hBs.ext eX3
  replace hEb := hEb.trans eX3
  clear gs3 fX xX hBX hEl eX eX2 rM11 rC oX2 rA rA0
  have rA := kA.self
  have rAk := rA.fst (k := k) (by omega)
  rw [its22_take (by omega)] at rAk
  have hEl2 := Ext.new w12 (.cells #[] 22)
  have own2 := OBP.lit0 w12
  have rAk2 := rAk.ext hEl2
  go_wp2_with (first | (refine appbp0_law rfl rfl rfl rfl own2 rAk2 hEl2.size (by omega) ?_; intro AY cY w13 oY eY; have oX5 := oX3.ext (hEl2.trans eY); have hs13 := (hEl2.trans eY).size) | (refine appbp_law rfl rfl rfl rfl oY oX5.rbb hs13 (by omega) ?_; intro AZ cZ w14 oZ aZ eZ))
  have eZ2 : Ext w12 w14 := aZ.ext_ (hEl2.trans eY) (Nat.le_refl _)
  replace hM7 := hM7.ext eZ2
  replace kO := kO.ext eZ2
  replace kA := kA.ext eZ2
  replace kM := kM.ext eZ2
  replace sg := sg.ext eZ2
  replace hBs := hBs.ext eZ2
  replace oX3 := oX3.ext eZ2
  replace hEb := hEb.trans eZ2
  clear aZ eZ eY own2 rAk2 oX5 hEl2 rA rAk hs13 oY
  have rY := oZ.rbb
  have hlY : ∀ a ∈ its22 k 0 ++ ((its22 n 0).drop k).set 0 (M0.take 50), a.length ≤ 1000000 := fun a ha => by
    rcases List.mem_append.1 ha with h | h
    · exact its22_small a h
    · rcases List.mem_or_eq_of_mem_set h with h | rfl
      · exact its22_small a (List.mem_of_mem_drop h)
      · rw [List.length_take]; omega
  have rR := sg.1
  go_upto_region 15 with (fail)
  clear oZ
  have hlX : ∀ a ∈ ((its22 n 0).drop k).set 0 (M0.take 50), a.length ≤ 1000000 := fun a ha => hlY a (List.mem_append_right _ ha)
  have kX := oX3.rbb.keepS hM7.nob (fun _ q hq hp => by have := (oX3.lt hq).1; have := hlt10 q hp; omega)
  by_cases c15 : rootL ((its22 k 0 ++ ((its22 n 0).drop k).set 0 (M0.take 50)).map leafH) = rootL ((its22 n 0).map leafH)
  · have c15s := c15
    simp only [List.map_append, List.map_set, List.map_drop] at c15s
    have C15 := Lib.hid c15
    clear c15
    refine par_ext (n := 10) (by kernel_rfl) [.is (.slice (AZ) (k + (n - k)) (cZ)), .rws (k + (n - k)) ((its22 k 0 ++ ((its22 n 0).drop k).set 0 (M0.take 50)).map leafH), .rk (32) (rootL ((its22 k 0 ++ ((its22 n 0).drop k).set 0 (M0.take 50)).map leafH)), .is (.string (str (rootL ((its22 k 0 ++ ((its22 n 0).drop k).set 0 (M0.take 50)).map leafH)))), .is (.pointer (some ⟨gs, 0, none⟩)), .is (.pointer (some ⟨gs, 1, none⟩)), .is (.slice (B) (32) (d)), .is (.string (str (rootL ((its22 n 0).map leafH)))), .is (.bool (true)), .is (.bool (true))] rfl ⟨?_, ?_, ?_, ?_, ?_, ?_, ?_, ?_, ?_, ?_, trivial⟩ ?_
    · refine stepE rfl fun sdn sa sw sE sd sk => ?_
      have h14 : sa.eval (.tmp 14) = .slice (AZ) (k + (n - k)) (cZ) := sk.old 14 rfl
      exact Runs.move rfl h14 ⟨Ext.refl _, rfl⟩
    · refine stepE rfl fun sdn sa sw sE sd sk => ?_
      have h102 : sa.eval (.tmp 102) = .slice (AZ) (k + (n - k)) (cZ) := sk.fact 0 102 rfl (sd 0 rfl)
      refine Runs.call (f := 20) (vs := [.slice (AZ) (k + (n - k)) (cZ)]) rfl rfl rfl (by simp only [List.map_toArray, List.map_cons, List.map_nil, h102] <;> rfl) (ent20 _ _) ((r6leaves_any _ _ _ _ sw (rY.ext sE) (by omega) hlY).mono ?_); rintro e w' ⟨P', d', rfl, own, hx⟩; exact ⟨_, rfl, hx, _, _, rfl, own.rbb⟩
    · refine stepE rfl fun sdn sa sw sE sd sk => ?_
      obtain ⟨A103, c103, h103, r103⟩ := sk.fact 1 103 rfl (sd 1 rfl)
      refine Runs.call (f := 19) (vs := [.slice (A103) (k + (n - k)) (c103)]) rfl rfl rfl (by simp only [List.map_toArray, List.map_cons, List.map_nil, h103] <;> rfl) (ent19 _ _) ((r6root_any _ _ _ _ sw (by omega) r103 (leaf_len _)).mono ?_); rintro e w' ⟨A', c', rfl, own, hx⟩; exact ⟨_, rfl, hx, _, _, rfl, own⟩
    · refine stepE rfl fun sdn sa sw sE sd sk => ?_
      obtain ⟨A104, c104, h104, r104⟩ := sk.fact 2 104 rfl (sd 2 rfl)
      exact Runs.conv rfl h104 (run_str r104) ⟨Ext.refl _, rfl⟩
    · refine stepE rfl fun sdn sa sw sE sd sk => ?_
      have h12 : sa.eval (.tmp 12) = .pointer (some ⟨gs, 0, none⟩) := sk.old 12 rfl
      refine Runs.of_run (r := .pointer (some ⟨gs, 0, none⟩)) (w' := sw) ?_ ⟨Ext.refl _, rfl⟩
      unfold execOp
      simp only [h12]
      go_simp
    · refine stepE rfl fun sdn sa sw sE sd sk => ?_
      have h106 : sa.eval (.tmp 106) = .pointer (some ⟨gs, 0, none⟩) := sk.fact 4 106 rfl (sd 4 rfl)
      refine Runs.of_run (r := .pointer (some ⟨gs, 1, none⟩)) (w' := sw) ?_ ⟨Ext.refl _, rfl⟩
      unfold execOp
      simp only [h106]
      go_simp
    · refine stepE rfl fun sdn sa sw sE sd sk => ?_
      have h107 : sa.eval (.tmp 107) = .pointer (some ⟨gs, 1, none⟩) := sk.fact 5 107 rfl (sd 5 rfl)
      exact Runs.load rfl h107 (run_load1 Try.underlying22 rfl ((hBs.ext sE).cell (i := 1) rfl)) ⟨Ext.refl _, rfl⟩
    · refine stepE rfl fun sdn sa sw sE sd sk => ?_
      have h108 : sa.eval (.tmp 108) = .slice (B) (32) (d) := sk.fact 6 108 rfl (sd 6 rfl)
      exact Runs.conv rfl h108 (run_str (rR.ext sE)) ⟨Ext.refl _, rfl⟩
    · refine stepE rfl fun sdn sa sw sE sd sk => ?_
      have h105 : sa.eval (.tmp 105) = .string (str (rootL ((its22 k 0 ++ ((its22 n 0).drop k).set 0 (M0.take 50)).map leafH))) := sk.fact 3 105 rfl (sd 3 rfl)
      have h109 : sa.eval (.tmp 109) = .string (str (rootL ((its22 n 0).map leafH))) := sk.fact 7 109 rfl (sd 7 rfl)
      exact Runs.bin rfl h105 h109 (by rfl) (bin_eqs _ _ _) ⟨Ext.refl _, congrArg Value.bool (by simp [c15s])⟩
    · refine stepE rfl fun sdn sa sw sE sd sk => ?_
      have h110 : sa.eval (.tmp 110) = .bool (true) := sk.fact 8 110 rfl (sd 8 rfl)
      exact Runs.assign rfl h110 ⟨Ext.refl _, rfl⟩
    intro vals W15 hE15 hv15
    have e0 : vals 0 = .slice (AZ) (k + (n - k)) (cZ) := hv15 0 (by omega) 102 rfl
    obtain ⟨A103, c103, e1, r103⟩ := hv15 1 (by omega) 103 rfl
    obtain ⟨A104, c104, e2, r104⟩ := hv15 2 (by omega) 104 rfl
    have e3 : vals 3 = .string (str (rootL ((its22 k 0 ++ ((its22 n 0).drop k).set 0 (M0.take 50)).map leafH))) := hv15 3 (by omega) 105 rfl
    have e4 : vals 4 = .pointer (some ⟨gs, 0, none⟩) := hv15 4 (by omega) 106 rfl
    have e5 : vals 5 = .pointer (some ⟨gs, 1, none⟩) := hv15 5 (by omega) 107 rfl
    have e6 : vals 6 = .slice (B) (32) (d) := hv15 6 (by omega) 108 rfl
    have e7 : vals 7 = .string (str (rootL ((its22 n 0).map leafH))) := hv15 7 (by omega) 109 rfl
    have e8 : vals 8 = .bool (true) := hv15 8 (by omega) 110 rfl
    have e9 : vals 9 = .bool (true) := hv15 9 (by omega) 15 rfl
    simp only [putAll, Act.put, List.take_succ_cons, List.take_zero, List.drop_succ_cons, List.drop_zero, List.drop_nil, List.take_nil, Nat.reduceAdd, List.setIfInBounds_toArray, List.set_cons_succ, List.set_cons_zero, e0, e1, e2, e3, e4, e5, e6, e7, e8, e9]
    clear hv15 e0 e1 e2 e3 e4 e5 e6 e7 e8 e9
    replace hM7 := hM7.ext hE15
    replace sg := sg.ext hE15
    replace hBs := hBs.ext hE15
    replace kX := kX.ext hE15
    replace hEb := hEb.trans hE15
    clear hE15 rY c15s kO kA kM
    obtain ⟨s16, hlog16, hit16, hal16, hf⟩ := feed_sgd_fit W15 _ g φ7 s1 hM7 _ n k q16 Hq.out B P Q _ d d1 d2 _ _ S _ sg hb7 kX hlog hit hkn (by omega) hlX ⟨rfl, C15.out⟩ hal7
    have Hf := Lib.hid hf
    clear hf
    have z0 := hBs.cell (i := 0) (v := .int .i64 (n : Int)) rfl
    have z1 := hBs.cell (i := 1) (v := .slice B 32 d) rfl
    have z2 := hBs.cell (i := 2) (v := .int .i64 (q16 : Int)) rfl
    have z3 := hBs.cell (i := 3) (v := .slice P 64 d1) rfl
    have z4 := hBs.cell (i := 4) (v := .slice Q 4 d2) rfl
    go_wp2_with fail
    refine Hf.out.mono ?_
    clear Hf z0 z1 z2 z3 z4
    intro e w16 hp
    obtain ⟨φ9, rfl, hM16, u9, h9, hEc⟩ := hp.go hM7 hEb hw3
    have hal16' : s16.al = [] := by rw [hal16, hal]; rfl
    have hln : s16.its.length = n := by rw [hit16, List.length_append, List.length_set, List.length_drop, its22_len, its22_len]; omega
    clear hp u9 h9 hM7 hEb kX sg hBs oX3
    go_upto_region 18 with (fail)
    refine par_ext (n := 27) (by kernel_rfl) [.is (.bool (true)), .is (.bool (true)), .is undef, .is undef, .is undef, .is undef, .is undef, .is undef, .is undef, .is (.bool (true)), .is (.bool (true)), .is (.pointer (some ⟨g, 0, none⟩)), .is (.int .i64 ((n : Int))), .is (.slice (A3) (n) (c3)), .is (.int .i64 ((n : Nat))), .is (.bool (true)), .is (.bool (true)), .is (.bool (true)), .is (.pointer (some ⟨g, 0, none⟩)), .rk (0) ([]), .is (.int .i64 ((0 : Nat))), .is (.bool (true)), .is (.bool (true)), .is (.bool (true)), .is (.bool (true)), .is (.bool (true)), .is (.bool (true))] rfl ⟨?_, ?_, ?_, ?_, ?_, ?_, ?_, ?_, ?_, ?_, ?_, ?_, ?_, ?_, ?_, ?_, ?_, ?_, ?_, ?_, ?_, ?_, ?_, ?_, ?_, ?_, ?_, trivial⟩ ?_
    · refine stepE rfl fun sdn sa sw sE sd sk => ?_
      have h15 : sa.eval (.tmp 15) = .bool (true) := sk.old 15 rfl
      exact Runs.move rfl h15 ⟨Ext.refl _, rfl⟩
    · refine stepE rfl fun sdn sa sw sE sd sk => ?_
      have h118 : sa.eval (.tmp 118) = .bool (true) := sk.fact 0 118 rfl (sd 0 rfl)
      exact Runs.move rfl h118 ⟨Ext.refl _, rfl⟩
    · exact stepN (j := 1) (d := 119) (b := true) rfl rfl rfl (fun v w h => h) fun w => rfl
    · exact stepN (j := 1) (d := 119) (b := true) rfl rfl rfl (fun v w h => h) fun w => rfl
    · exact stepN (j := 1) (d := 119) (b := true) rfl rfl rfl (fun v w h => h) fun w => rfl
    · exact stepN (j := 1) (d := 119) (b := true) rfl rfl rfl (fun v w h => h) fun w => rfl
    · exact stepN (j := 1) (d := 119) (b := true) rfl rfl rfl (fun v w h => h) fun w => rfl
    · exact stepN (j := 1) (d := 119) (b := true) rfl rfl rfl (fun v w h => h) fun w => rfl
    · exact stepN (j := 1) (d := 119) (b := true) rfl rfl rfl (fun v w h => h) fun w => rfl
    · refine stepE rfl fun sdn sa sw sE sd sk => ?_
      have h119 : sa.eval (.tmp 119) = .bool (true) := sk.fact 1 119 rfl (sd 1 rfl)
      exact Runs.pick rfl h119 ⟨Ext.refl _, rfl⟩
    · refine stepE rfl fun sdn sa sw sE sd sk => ?_
      have h127 : sa.eval (.tmp 127) = .bool (true) := sk.fact 9 127 rfl (sd 9 rfl)
      exact Runs.move rfl h127 ⟨Ext.refl _, rfl⟩
    · refine stepY (j := 10) (d := 128) (b := true) rfl rfl rfl (fun v w h => h) fun sdn sa sw sE sd sk => ?_
      have h8 : sa.eval (.tmp 8) = .pointer (some ⟨g, 0, none⟩) := sk.old 8 rfl
      exact Runs.move rfl h8 ⟨Ext.refl _, rfl⟩
    · refine stepY (j := 10) (d := 128) (b := true) rfl rfl rfl (fun v w h => h) fun sdn sa sw sE sd sk => ?_
      have h129 : sa.eval (.tmp 129) = .pointer (some ⟨g, 0, none⟩) := sk.fact 11 129 rfl (sd 11 rfl)
      refine Runs.call (f := 43) (vs := [.pointer (some ⟨g, 0, none⟩)]) rfl rfl rfl (by simp only [List.map_toArray, List.map_cons, List.map_nil, h129] <;> rfl) (ent43 _ _) ((msize_k sw _ g _ _ _ (hM16.ext sE) hln).mono ?_); rintro e w' ⟨rfl, rfl⟩; exact ⟨_, rfl, Ext.refl _, rfl⟩
    · refine stepY (j := 10) (d := 128) (b := true) rfl rfl rfl (fun v w h => h) fun sdn sa sw sE sd sk => ?_
      have h10 : sa.eval (.tmp 10) = .slice (A3) (n) (c3) := sk.old 10 rfl
      exact Runs.move rfl h10 ⟨Ext.refl _, rfl⟩
    · refine stepY (j := 10) (d := 128) (b := true) rfl rfl rfl (fun v w h => h) fun sdn sa sw sE sd sk => ?_
      have h131 : sa.eval (.tmp 131) = .slice (A3) (n) (c3) := sk.fact 13 131 rfl (sd 13 rfl)
      exact Runs.len Try.underlying23 rfl h131 ⟨Ext.refl _, rfl⟩
    · refine stepY (j := 10) (d := 128) (b := true) rfl rfl rfl (fun v w h => h) fun sdn sa sw sE sd sk => ?_
      have h130 : sa.eval (.tmp 130) = .int .i64 ((n : Int)) := sk.fact 12 130 rfl (sd 12 rfl)
      have h132 : sa.eval (.tmp 132) = .int .i64 ((n : Nat)) := sk.fact 14 132 rfl (sd 14 rfl)
      exact Runs.bin rfl h130 h132 (by rfl) (bin_eql _ _ _ _) ⟨Ext.refl _, congrArg Value.bool (by simp)⟩
    · refine stepE rfl fun sdn sa sw sE sd sk => ?_
      have h128 : sa.eval (.tmp 128) = .bool (true) := sk.fact 10 128 rfl (sd 10 rfl)
      have h133 : sa.eval (.tmp 133) = .bool (true) := sk.fact 15 133 rfl (sd 15 rfl)
      exact Runs.pick rfl h128 ⟨Ext.refl _, by first | exact h133 | simpa using h133⟩
    · refine stepE rfl fun sdn sa sw sE sd sk => ?_
      have h134 : sa.eval (.tmp 134) = .bool (true) := sk.fact 16 134 rfl (sd 16 rfl)
      exact Runs.move rfl h134 ⟨Ext.refl _, rfl⟩
    · refine stepY (j := 17) (d := 135) (b := true) rfl rfl rfl (fun v w h => h) fun sdn sa sw sE sd sk => ?_
      have h8 : sa.eval (.tmp 8) = .pointer (some ⟨g, 0, none⟩) := sk.old 8 rfl
      exact Runs.move rfl h8 ⟨Ext.refl _, rfl⟩
    · refine stepY (j := 17) (d := 135) (b := true) rfl rfl rfl (fun v w h => h) fun sdn sa sw sE sd sk => ?_
      have h136 : sa.eval (.tmp 136) = .pointer (some ⟨g, 0, none⟩) := sk.fact 18 136 rfl (sd 18 rfl)
      refine Runs.call (f := 41) (vs := [.pointer (some ⟨g, 0, none⟩)]) rfl rfl rfl (by simp only [List.map_toArray, List.map_cons, List.map_nil, h136] <;> rfl) (ent41 _ _) ((malarms_0 sw _ g _ _ (hM16.ext sE) hal16').mono ?_); rintro e w' ⟨B', d', rfl, rB, hx⟩; exact ⟨_, rfl, hx, B', d', rfl, rB⟩
    · refine stepY (j := 17) (d := 135) (b := true) rfl rfl rfl (fun v w h => h) fun sdn sa sw sE sd sk => ?_
      obtain ⟨A137, c137, h137, r137⟩ := sk.fact 19 137 rfl (sd 19 rfl)
      exact Runs.len Try.underlying72 rfl h137 ⟨Ext.refl _, rfl⟩
    · refine stepY (j := 17) (d := 135) (b := true) rfl rfl rfl (fun v w h => h) fun sdn sa sw sE sd sk => ?_
      have h138 : sa.eval (.tmp 138) = .int .i64 ((0 : Nat)) := sk.fact 20 138 rfl (sd 20 rfl)
      exact Runs.bin rfl h138 rfl (by rfl) (bin_eql _ _ _ _) ⟨Ext.refl _, congrArg Value.bool (by decide)⟩
    · refine stepE rfl fun sdn sa sw sE sd sk => ?_
      have h135 : sa.eval (.tmp 135) = .bool (true) := sk.fact 17 135 rfl (sd 17 rfl)
      have h139 : sa.eval (.tmp 139) = .bool (true) := sk.fact 21 139 rfl (sd 21 rfl)
      exact Runs.pick rfl h135 ⟨Ext.refl _, by first | exact h139 | simpa using h139⟩
    · refine stepE rfl fun sdn sa sw sE sd sk => ?_
      have h140 : sa.eval (.tmp 140) = .bool (true) := sk.fact 22 140 rfl (sd 22 rfl)
      exact Runs.move rfl h140 ⟨Ext.refl _, rfl⟩
    · refine stepY (j := 23) (d := 141) (b := true) rfl rfl rfl (fun v w h => h) fun sdn sa sw sE sd sk => ?_
      refine Runs.call (f := 42) (vs := []) rfl rfl rfl (by simp only [List.map_toArray, List.map_cons, List.map_nil] <;> rfl) (ent42 _ _) ((known22_any sw).mono ?_); rintro e w' ⟨rfl, hx⟩; exact ⟨_, rfl, hx, rfl⟩
    · refine stepE rfl fun sdn sa sw sE sd sk => ?_
      have h141 : sa.eval (.tmp 141) = .bool (true) := sk.fact 23 141 rfl (sd 23 rfl)
      have h142 : sa.eval (.tmp 142) = .bool (true) := sk.fact 24 142 rfl (sd 24 rfl)
      exact Runs.pick rfl h141 ⟨Ext.refl _, by first | exact h142 | simpa using h142⟩
    · refine stepE rfl fun sdn sa sw sE sd sk => ?_
      have h143 : sa.eval (.tmp 143) = .bool (true) := sk.fact 25 143 rfl (sd 25 rfl)
      exact Runs.assign rfl h143 ⟨Ext.refl _, rfl⟩
    intro vals W18 hE18 hv18
    have e0 : vals 0 = .bool (true) := hv18 0 (by omega) 118 rfl
    have e1 : vals 1 = .bool (true) := hv18 1 (by omega) 119 rfl
    have e9 : vals 9 = .bool (true) := hv18 9 (by omega) 127 rfl
    have e10 : vals 10 = .bool (true) := hv18 10 (by omega) 128 rfl
    have e11 : vals 11 = .pointer (some ⟨g, 0, none⟩) := hv18 11 (by omega) 129 rfl
    have e12 : vals 12 = .int .i64 ((n : Int)) := hv18 12 (by omega) 130 rfl
    have e13 : vals 13 = .slice (A3) (n) (c3) := hv18 13 (by omega) 131 rfl
    have e14 : vals 14 = .int .i64 ((n : Nat)) := hv18 14 (by omega) 132 rfl
    have e15 : vals 15 = .bool (true) := hv18 15 (by omega) 133 rfl
    have e16 : vals 16 = .bool (true) := hv18 16 (by omega) 134 rfl
    have e17 : vals 17 = .bool (true) := hv18 17 (by omega) 135 rfl
    have e18 : vals 18 = .pointer (some ⟨g, 0, none⟩) := hv18 18 (by omega) 136 rfl
    obtain ⟨A137, c137, e19, r137⟩ := hv18 19 (by omega) 137 rfl
    have e20 : vals 20 = .int .i64 ((0 : Nat)) := hv18 20 (by omega) 138 rfl
    have e21 : vals 21 = .bool (true) := hv18 21 (by omega) 139 rfl
    have e22 : vals 22 = .bool (true) := hv18 22 (by omega) 140 rfl
    have e23 : vals 23 = .bool (true) := hv18 23 (by omega) 141 rfl
    have e24 : vals 24 = .bool (true) := hv18 24 (by omega) 142 rfl
    have e25 : vals 25 = .bool (true) := hv18 25 (by omega) 143 rfl
    have e26 : vals 26 = .bool (true) := hv18 26 (by omega) 6 rfl
    simp only [putAll, Act.put, List.take_succ_cons, List.take_zero, List.drop_succ_cons, List.drop_zero, List.drop_nil, List.take_nil, Nat.reduceAdd, List.setIfInBounds_toArray, List.set_cons_succ, List.set_cons_zero, e0, e1, e9, e10, e11, e12, e13, e14, e15, e16, e17, e18, e19, e20, e21, e22, e23, e24, e25, e26]
    clear hv18 e0 e1 e9 e10 e11 e12 e13 e14 e15 e16 e17 e18 e19 e20 e21 e22 e23 e24 e25 e26
    go_wp2_with fail
    go_ret
    exact ⟨rfl, hEc.trans hE18⟩
  · have c15s := c15
    simp only [List.map_append, List.map_set, List.map_drop] at c15s
    have C15 := Lib.hid c15
    clear c15
    refine par_ext (n := 10) (by kernel_rfl) [.is (.slice (AZ) (k + (n - k)) (cZ)), .rws (k + (n - k)) ((its22 k 0 ++ ((its22 n 0).drop k).set 0 (M0.take 50)).map leafH), .rk (32) (rootL ((its22 k 0 ++ ((its22 n 0).drop k).set 0 (M0.take 50)).map leafH)), .is (.string (str (rootL ((its22 k 0 ++ ((its22 n 0).drop k).set 0 (M0.take 50)).map leafH)))), .is (.pointer (some ⟨gs, 0, none⟩)), .is (.pointer (some ⟨gs, 1, none⟩)), .is (.slice (B) (32) (d)), .is (.string (str (rootL ((its22 n 0).map leafH)))), .is (.bool (false)), .is (.bool (false))] rfl ⟨?_, ?_, ?_, ?_, ?_, ?_, ?_, ?_, ?_, ?_, trivial⟩ ?_
    · refine stepE rfl fun sdn sa sw sE sd sk => ?_
      have h14 : sa.eval (.tmp 14) = .slice (AZ) (k + (n - k)) (cZ) := sk.old 14 rfl
      exact Runs.move rfl h14 ⟨Ext.refl _, rfl⟩
    · refine stepE rfl fun sdn sa sw sE sd sk => ?_
      have h102 : sa.eval (.tmp 102) = .slice (AZ) (k + (n - k)) (cZ) := sk.fact 0 102 rfl (sd 0 rfl)
      refine Runs.call (f := 20) (vs := [.slice (AZ) (k + (n - k)) (cZ)]) rfl rfl rfl (by simp only [List.map_toArray, List.map_cons, List.map_nil, h102] <;> rfl) (ent20 _ _) ((r6leaves_any _ _ _ _ sw (rY.ext sE) (by omega) hlY).mono ?_); rintro e w' ⟨P', d', rfl, own, hx⟩; exact ⟨_, rfl, hx, _, _, rfl, own.rbb⟩
    · refine stepE rfl fun sdn sa sw sE sd sk => ?_
      obtain ⟨A103, c103, h103, r103⟩ := sk.fact 1 103 rfl (sd 1 rfl)
      refine Runs.call (f := 19) (vs := [.slice (A103) (k + (n - k)) (c103)]) rfl rfl rfl (by simp only [List.map_toArray, List.map_cons, List.map_nil, h103] <;> rfl) (ent19 _ _) ((r6root_any _ _ _ _ sw (by omega) r103 (leaf_len _)).mono ?_); rintro e w' ⟨A', c', rfl, own, hx⟩; exact ⟨_, rfl, hx, _, _, rfl, own⟩
    · refine stepE rfl fun sdn sa sw sE sd sk => ?_
      obtain ⟨A104, c104, h104, r104⟩ := sk.fact 2 104 rfl (sd 2 rfl)
      exact Runs.conv rfl h104 (run_str r104) ⟨Ext.refl _, rfl⟩
    · refine stepE rfl fun sdn sa sw sE sd sk => ?_
      have h12 : sa.eval (.tmp 12) = .pointer (some ⟨gs, 0, none⟩) := sk.old 12 rfl
      refine Runs.of_run (r := .pointer (some ⟨gs, 0, none⟩)) (w' := sw) ?_ ⟨Ext.refl _, rfl⟩
      unfold execOp
      simp only [h12]
      go_simp
    · refine stepE rfl fun sdn sa sw sE sd sk => ?_
      have h106 : sa.eval (.tmp 106) = .pointer (some ⟨gs, 0, none⟩) := sk.fact 4 106 rfl (sd 4 rfl)
      refine Runs.of_run (r := .pointer (some ⟨gs, 1, none⟩)) (w' := sw) ?_ ⟨Ext.refl _, rfl⟩
      unfold execOp
      simp only [h106]
      go_simp
    · refine stepE rfl fun sdn sa sw sE sd sk => ?_
      have h107 : sa.eval (.tmp 107) = .pointer (some ⟨gs, 1, none⟩) := sk.fact 5 107 rfl (sd 5 rfl)
      exact Runs.load rfl h107 (run_load1 Try.underlying22 rfl ((hBs.ext sE).cell (i := 1) rfl)) ⟨Ext.refl _, rfl⟩
    · refine stepE rfl fun sdn sa sw sE sd sk => ?_
      have h108 : sa.eval (.tmp 108) = .slice (B) (32) (d) := sk.fact 6 108 rfl (sd 6 rfl)
      exact Runs.conv rfl h108 (run_str (rR.ext sE)) ⟨Ext.refl _, rfl⟩
    · refine stepE rfl fun sdn sa sw sE sd sk => ?_
      have h105 : sa.eval (.tmp 105) = .string (str (rootL ((its22 k 0 ++ ((its22 n 0).drop k).set 0 (M0.take 50)).map leafH))) := sk.fact 3 105 rfl (sd 3 rfl)
      have h109 : sa.eval (.tmp 109) = .string (str (rootL ((its22 n 0).map leafH))) := sk.fact 7 109 rfl (sd 7 rfl)
      exact Runs.bin rfl h105 h109 (by rfl) (bin_eqs _ _ _) ⟨Ext.refl _, congrArg Value.bool (by simp [c15s])⟩
    · refine stepE rfl fun sdn sa sw sE sd sk => ?_
      have h110 : sa.eval (.tmp 110) = .bool (false) := sk.fact 8 110 rfl (sd 8 rfl)
      exact Runs.assign rfl h110 ⟨Ext.refl _, rfl⟩
    intro vals W15 hE15 hv15
    have e0 : vals 0 = .slice (AZ) (k + (n - k)) (cZ) := hv15 0 (by omega) 102 rfl
    obtain ⟨A103, c103, e1, r103⟩ := hv15 1 (by omega) 103 rfl
    obtain ⟨A104, c104, e2, r104⟩ := hv15 2 (by omega) 104 rfl
    have e3 : vals 3 = .string (str (rootL ((its22 k 0 ++ ((its22 n 0).drop k).set 0 (M0.take 50)).map leafH))) := hv15 3 (by omega) 105 rfl
    have e4 : vals 4 = .pointer (some ⟨gs, 0, none⟩) := hv15 4 (by omega) 106 rfl
    have e5 : vals 5 = .pointer (some ⟨gs, 1, none⟩) := hv15 5 (by omega) 107 rfl
    have e6 : vals 6 = .slice (B) (32) (d) := hv15 6 (by omega) 108 rfl
    have e7 : vals 7 = .string (str (rootL ((its22 n 0).map leafH))) := hv15 7 (by omega) 109 rfl
    have e8 : vals 8 = .bool (false) := hv15 8 (by omega) 110 rfl
    have e9 : vals 9 = .bool (false) := hv15 9 (by omega) 15 rfl
    simp only [putAll, Act.put, List.take_succ_cons, List.take_zero, List.drop_succ_cons, List.drop_zero, List.drop_nil, List.take_nil, Nat.reduceAdd, List.setIfInBounds_toArray, List.set_cons_succ, List.set_cons_zero, e0, e1, e2, e3, e4, e5, e6, e7, e8, e9]
    clear hv15 e0 e1 e2 e3 e4 e5 e6 e7 e8 e9
    replace hM7 := hM7.ext hE15
    replace sg := sg.ext hE15
    replace hBs := hBs.ext hE15
    replace kX := kX.ext hE15
    replace kA := kA.ext hE15
    replace hEb := hEb.trans hE15
    clear hE15 rY c15s kO kM
    have hf := feed_sgd_no W15 _ g φ7 s1 hM7 _ n k q16 Hq.out B P Q _ d d1 d2 _ _ S _ sg hb7 kX hlog hit hkn (by omega) (fun _ => hlX) (.inr C15.out) hal7
    have Hf := Lib.hid hf
    clear hf
    have z0 := hBs.cell (i := 0) (v := .int .i64 (n : Int)) rfl
    have z1 := hBs.cell (i := 1) (v := .slice B 32 d) rfl
    have z2 := hBs.cell (i := 2) (v := .int .i64 (q16 : Int)) rfl
    have z3 := hBs.cell (i := 3) (v := .slice P 64 d1) rfl
    have z4 := hBs.cell (i := 4) (v := .slice Q 4 d2) rfl
    go_wp2_with fail
    refine Hf.out.mono ?_
    clear Hf z0 z1 z2 z3 z4
    rintro e w16 ⟨rfl, hE⟩
    replace hM7 := hM7.ext hE
    replace sg := sg.ext hE
    replace hBs := hBs.ext hE
    replace kA := kA.ext hE
    replace hEb := hEb.trans hE
    clear hE kX oX3
    go_upto_region 18 with (fail)
    refine seg_start (by kernel_rfl) ?_
    have hEd : Ext w16 w16.drew := (Ext.refl _).drew
    replace hM7 := hM7.ext hEd
    replace sg := sg.ext hEd
    replace hBs := hBs.ext hEd
    replace kA := kA.ext hEd
    replace hEb := hEb.trans hEd
    clear hEd
    generalize w16.drew = W16 at *
    have rA := kA.self
    have rA0 := rA.snd (k := k) (by omega)
    have rR := sg.1
    have kA0 := kA.imp (fun w' r => r.snd (k := k) (by omega))
    refine seg_ext (m := 0) (n := 7) (by kernel_rfl) [.is (.bool (false)), .is (.bool (false)), .is (.pointer (some ⟨g, 0, none⟩)), .is (.agg #[.int .i64 ((n : Int)), .slice (B) (32) (d), .int .i64 ((q16 : Int)), .slice (P) (64) (d1), .slice (Q) (4) (d2)]), .is (.slice (A3) (n) (c3)), .is (.int .i64 ((k : Int))), .is (.slice (if c3 = k then A3 else A3.map (·.add (k * 1))) (n - k) (c3 - k))] rfl ?_ ⟨?_, ?_, ?_, ?_, ?_, ?_, ?_, trivial⟩ ?_
    · exact fun j d hd hj => absurd hj (Nat.not_lt_zero _)
    · refine stepE rfl fun sdn sa sw sE sd sk => ?_
      have h15 : sa.eval (.tmp 15) = .bool (false) := sk.old 15 rfl
      exact Runs.move rfl h15 ⟨Ext.refl _, rfl⟩
    · refine stepE rfl fun sdn sa sw sE sd sk => ?_
      have h118 : sa.eval (.tmp 118) = .bool (false) := sk.fact 0 118 rfl (sd 0 rfl)
      exact Runs.move rfl h118 ⟨Ext.refl _, rfl⟩
    · refine stepY (j := 1) (d := 119) (b := false) rfl rfl rfl (fun v w h => h) fun sdn sa sw sE sd sk => ?_
      have h8 : sa.eval (.tmp 8) = .pointer (some ⟨g, 0, none⟩) := sk.old 8 rfl
      exact Runs.move rfl h8 ⟨Ext.refl _, rfl⟩
    · refine stepY (j := 1) (d := 119) (b := false) rfl rfl rfl (fun v w h => h) fun sdn sa sw sE sd sk => ?_
      have h12 : sa.eval (.tmp 12) = .pointer (some ⟨gs, 0, none⟩) := sk.old 12 rfl
      exact Runs.load rfl h12 (load_part (hBs.ext sE) 0 (vs := [.int .i64 ((n : Int)), .slice (B) (32) (d), .int .i64 ((q16 : Int)), .slice (P) (64) (d1), .slice (Q) (4) (d2)]) rfl Try.underlying69 rfl (by kernel_rfl)) ⟨Ext.refl _, rfl⟩
    · refine stepY (j := 1) (d := 119) (b := false) rfl rfl rfl (fun v w h => h) fun sdn sa sw sE sd sk => ?_
      have h10 : sa.eval (.tmp 10) = .slice (A3) (n) (c3) := sk.old 10 rfl
      exact Runs.move rfl h10 ⟨Ext.refl _, rfl⟩
    · refine stepY (j := 1) (d := 119) (b := false) rfl rfl rfl (fun v w h => h) fun sdn sa sw sE sd sk => ?_
      have h11 : sa.eval (.tmp 11) = .int .i64 ((k : Int)) := sk.old 11 rfl
      exact Runs.move rfl h11 ⟨Ext.refl _, rfl⟩
    · refine stepY (j := 1) (d := 119) (b := false) rfl rfl rfl (fun v w h => h) fun sdn sa sw sE sd sk => ?_
      have h122 : sa.eval (.tmp 122) = .slice (A3) (n) (c3) := sk.fact 4 122 rfl (sd 4 rfl)
      have h123 : sa.eval (.tmp 123) = .int .i64 ((k : Int)) := sk.fact 5 123 rfl (sd 5 rfl)
      exact Runs.slice rfl h122 (by simp only [Option.map_some, Option.map_none, h123]; exact run_cut_l Try.underlying23 infZZ_eq infZZ_size k (by first | rfl | omega) (by omega)) ⟨Ext.refl _, rfl⟩
    intro vals W18 hE18 hv18
    have e0 : vals 0 = .bool (false) := hv18 0 (by omega) 118 rfl
    have e1 : vals 1 = .bool (false) := hv18 1 (by omega) 119 rfl
    have e2 : vals 2 = .pointer (some ⟨g, 0, none⟩) := hv18 2 (by omega) 120 rfl
    have e3 : vals 3 = .agg #[.int .i64 ((n : Int)), .slice (B) (32) (d), .int .i64 ((q16 : Int)), .slice (P) (64) (d1), .slice (Q) (4) (d2)] := hv18 3 (by omega) 121 rfl
    have e4 : vals 4 = .slice (A3) (n) (c3) := hv18 4 (by omega) 122 rfl
    have e5 : vals 5 = .int .i64 ((k : Int)) := hv18 5 (by omega) 123 rfl
    have e6 : vals 6 = .slice (if c3 = k then A3 else A3.map (·.add (k * 1))) (n - k) (c3 - k) := hv18 6 (by omega) 124 rfl
    simp only [putAll, Act.put, List.take_succ_cons, List.take_zero, List.drop_succ_cons, List.drop_zero, List.drop_nil, List.take_nil, Nat.reduceAdd, List.setIfInBounds_toArray, List.set_cons_succ, List.set_cons_zero, e0, e1, e2, e3, e4, e5, e6]
    clear hv18 e0 e1 e2 e3 e4 e5 e6
    replace hM7 := hM7.ext hE18
    replace sg := sg.ext hE18
    replace hBs := hBs.ext hE18
    replace kA0 := kA0.ext hE18
    replace hEb := hEb.trans hE18
    clear hE18 rA rA0 rR kA
    have hcat : its22 k 0 ++ (its22 n 0).drop k = its22 n 0 := by
      have h := its22_take (n := n) (a := k) (which := 0) (by omega)
      rw [← h, List.take_append_drop]
    obtain ⟨s19, hlog19, hit19, hal19, hf⟩ := feed_sgd_fit W18 _ g φ7 s1 hM7 _ n k q16 Hq.out B P Q _ d d1 d2 _ _ S _ sg hb7 kA0 hlog hit hkn (by omega) (fun a ha => its22_small a (List.mem_of_mem_drop ha)) ⟨rfl, by rw [hcat]⟩ hal7
    rw [hcat] at hit19
    have hln : s19.its.length = n := by rw [hit19, its22_len]
    replace hal19 : s19.al = [] := by rw [hal19, hal]; rfl
    have Hf := Lib.hid hf
    clear hf hcat
    refine seg_one (n := 7) (o := _) (G := fun v w' => v = .int .i64 0 ∧ FeedP W18 w3.heap.size φ7 g s19 0 (.returned v) w') (by kernel_rfl) rfl rfl ?_ ?_
    · refine Runs.call (f := 37) (vs := [.pointer (some ⟨g, 0, none⟩), .agg #[.int .i64 (n : Int), .slice B 32 d, .int .i64 (q16 : Int), .slice P 64 d1, .slice Q 4 d2], .slice (if c3 = k then A3 else A3.map (·.add (k * 1))) (n - k) (c3 - k)]) rfl rfl rfl (by simp only [List.map_toArray, List.map_cons, List.map_nil] <;> rfl) (ent37 _ _) ?_
      exact Hf.out.mono fun e w' hp => ⟨_, hp.1, rfl, by rw [← hp.1]; exact hp⟩
    rintro v w19 ⟨rfl, hp⟩
    obtain ⟨φ9, -, hM19, u9, h9, hEc⟩ := hp.go hM7 hEb hw3
    simp only [Act.put, List.setIfInBounds_toArray, List.set_cons_succ, List.set_cons_zero]
    clear Hf hp u9 h9 hM7 hEb kA0 sg hBs
    refine seg_ext (m := 8) (n := 27) (by kernel_rfl) [.any, .is (.bool (false)), .any, .any, .any, .any, .any, .any, .is (.bool (true)), .is (.bool (true)), .is (.bool (true)), .is (.pointer (some ⟨g, 0, none⟩)), .is (.int .i64 ((n : Int))), .is (.slice (A3) (n) (c3)), .is (.int .i64 ((n : Nat))), .is (.bool (true)), .is (.bool (true)), .is (.bool (true)), .is (.pointer (some ⟨g, 0, none⟩)), .rk (0) ([]), .is (.int .i64 ((0 : Nat))), .is (.bool (true)), .is (.bool (true)), .is (.bool (true)), .is (.bool (true)), .is (.bool (true)), .is (.bool (true))] rfl ?_ ⟨?_, ?_, ?_, ?_, ?_, ?_, ?_, ?_, ?_, ?_, ?_, ?_, ?_, ?_, ?_, ?_, ?_, ?_, ?_, trivial⟩ ?_
    · intro j d hd hj
      rcases j with _ | _ | _ | _ | _ | _ | _ | _ | j
      · trivial
      · cases hd; rfl
      · trivial
      · trivial
      · trivial
      · trivial
      · trivial
      · trivial
      · omega
    · refine stepY (j := 1) (d := 119) (b := false) rfl rfl rfl (fun v w h => h) fun sdn sa sw sE sd sk => ?_
      have h125 : sa.eval (.tmp 125) = .int .i64 ((0 : Int)) := sk.old 125 rfl
      exact Runs.bin rfl h125 rfl (by rfl) (bin_eql _ _ _ _) ⟨Ext.refl _, congrArg Value.bool (by decide)⟩
    · refine stepE rfl fun sdn sa sw sE sd sk => ?_
      have h119 : sa.eval (.tmp 119) = .bool (false) := sk.old 119 rfl
      have h126 : sa.eval (.tmp 126) = .bool (true) := sk.fact 8 126 rfl (sd 8 rfl)
      exact Runs.pick rfl h119 ⟨Ext.refl _, by first | exact h126 | simpa using h126⟩
    · refine stepE rfl fun sdn sa sw sE sd sk => ?_
      have h127 : sa.eval (.tmp 127) = .bool (true) := sk.fact 9 127 rfl (sd 9 rfl)
      exact Runs.move rfl h127 ⟨Ext.refl _, rfl⟩
    · refine stepY (j := 10) (d := 128) (b := true) rfl rfl rfl (fun v w h => h) fun sdn sa sw sE sd sk => ?_
      have h8 : sa.eval (.tmp 8) = .pointer (some ⟨g, 0, none⟩) := sk.old 8 rfl
      exact Runs.move rfl h8 ⟨Ext.refl _, rfl⟩
    · refine stepY (j := 10) (d := 128) (b := true) rfl rfl rfl (fun v w h => h) fun sdn sa sw sE sd sk => ?_
      have h129 : sa.eval (.tmp 129) = .pointer (some ⟨g, 0, none⟩) := sk.fact 11 129 rfl (sd 11 rfl)
      refine Runs.call (f := 43) (vs := [.pointer (some ⟨g, 0, none⟩)]) rfl rfl rfl (by simp only [List.map_toArray, List.map_cons, List.map_nil, h129] <;> rfl) (ent43 _ _) ((msize_k sw _ g _ _ _ (hM19.ext sE) hln).mono ?_); rintro e w' ⟨rfl, rfl⟩; exact ⟨_, rfl, Ext.refl _, rfl⟩
    · refine stepY (j := 10) (d := 128) (b := true) rfl rfl rfl (fun v w h => h) fun sdn sa sw sE sd sk => ?_
      have h10 : sa.eval (.tmp 10) = .slice (A3) (n) (c3) := sk.old 10 rfl
      exact Runs.move rfl h10 ⟨Ext.refl _, rfl⟩
    · refine stepY (j := 10) (d := 128) (b := true) rfl rfl rfl (fun v w h => h) fun sdn sa sw sE sd sk => ?_
      have h131 : sa.eval (.tmp 131) = .slice (A3) (n) (c3) := sk.fact 13 131 rfl (sd 13 rfl)
      exact Runs.len Try.underlying23 rfl h131 ⟨Ext.refl _, rfl⟩
    · refine stepY (j := 10) (d := 128) (b := true) rfl rfl rfl (fun v w h => h) fun sdn sa sw sE sd sk => ?_
      have h130 : sa.eval (.tmp 130) = .int .i64 ((n : Int)) := sk.fact 12 130 rfl (sd 12 rfl)
      have h132 : sa.eval (.tmp 132) = .int .i64 ((n : Nat)) := sk.fact 14 132 rfl (sd 14 rfl)
      exact Runs.bin rfl h130 h132 (by rfl) (bin_eql _ _ _ _) ⟨Ext.refl _, congrArg Value.bool (by simp)⟩
    · refine stepE rfl fun sdn sa sw sE sd sk => ?_
      have h128 : sa.eval (.tmp 128) = .bool (true) := sk.fact 10 128 rfl (sd 10 rfl)
      have h133 : sa.eval (.tmp 133) = .bool (true) := sk.fact 15 133 rfl (sd 15 rfl)
      exact Runs.pick rfl h128 ⟨Ext.refl _, by first | exact h133 | simpa using h133⟩
    · refine stepE rfl fun sdn sa sw sE sd sk => ?_
      have h134 : sa.eval (.tmp 134) = .bool (true) := sk.fact 16 134 rfl (sd 16 rfl)
      exact Runs.move rfl h134 ⟨Ext.refl _, rfl⟩
    · refine stepY (j := 17) (d := 135) (b := true) rfl rfl rfl (fun v w h => h) fun sdn sa sw sE sd sk => ?_
      have h8 : sa.eval (.tmp 8) = .pointer (some ⟨g, 0, none⟩) := sk.old 8 rfl
      exact Runs.move rfl h8 ⟨Ext.refl _, rfl⟩
    · refine stepY (j := 17) (d := 135) (b := true) rfl rfl rfl (fun v w h => h) fun sdn sa sw sE sd sk => ?_
      have h136 : sa.eval (.tmp 136) = .pointer (some ⟨g, 0, none⟩) := sk.fact 18 136 rfl (sd 18 rfl)
      refine Runs.call (f := 41) (vs := [.pointer (some ⟨g, 0, none⟩)]) rfl rfl rfl (by simp only [List.map_toArray, List.map_cons, List.map_nil, h136] <;> rfl) (ent41 _ _) ((malarms_0 sw _ g _ _ (hM19.ext sE) hal19).mono ?_); rintro e w' ⟨B', d', rfl, rB, hx⟩; exact ⟨_, rfl, hx, B', d', rfl, rB⟩
    · refine stepY (j := 17) (d := 135) (b := true) rfl rfl rfl (fun v w h => h) fun sdn sa sw sE sd sk => ?_
      obtain ⟨A137, c137, h137, r137⟩ := sk.fact 19 137 rfl (sd 19 rfl)
      exact Runs.len Try.underlying72 rfl h137 ⟨Ext.refl _, rfl⟩
    · refine stepY (j := 17) (d := 135) (b := true) rfl rfl rfl (fun v w h => h) fun sdn sa sw sE sd sk => ?_
      have h138 : sa.eval (.tmp 138) = .int .i64 ((0 : Nat)) := sk.fact 20 138 rfl (sd 20 rfl)
      exact Runs.bin rfl h138 rfl (by rfl) (bin_eql _ _ _ _) ⟨Ext.refl _, congrArg Value.bool (by decide)⟩
    · refine stepE rfl fun sdn sa sw sE sd sk => ?_
      have h135 : sa.eval (.tmp 135) = .bool (true) := sk.fact 17 135 rfl (sd 17 rfl)
      have h139 : sa.eval (.tmp 139) = .bool (true) := sk.fact 21 139 rfl (sd 21 rfl)
      exact Runs.pick rfl h135 ⟨Ext.refl _, by first | exact h139 | simpa using h139⟩
    · refine stepE rfl fun sdn sa sw sE sd sk => ?_
      have h140 : sa.eval (.tmp 140) = .bool (true) := sk.fact 22 140 rfl (sd 22 rfl)
      exact Runs.move rfl h140 ⟨Ext.refl _, rfl⟩
    · refine stepY (j := 23) (d := 141) (b := true) rfl rfl rfl (fun v w h => h) fun sdn sa sw sE sd sk => ?_
      refine Runs.call (f := 42) (vs := []) rfl rfl rfl (by simp only [List.map_toArray, List.map_cons, List.map_nil] <;> rfl) (ent42 _ _) ((known22_any sw).mono ?_); rintro e w' ⟨rfl, hx⟩; exact ⟨_, rfl, hx, rfl⟩
    · refine stepE rfl fun sdn sa sw sE sd sk => ?_
      have h141 : sa.eval (.tmp 141) = .bool (true) := sk.fact 23 141 rfl (sd 23 rfl)
      have h142 : sa.eval (.tmp 142) = .bool (true) := sk.fact 24 142 rfl (sd 24 rfl)
      exact Runs.pick rfl h141 ⟨Ext.refl _, by first | exact h142 | simpa using h142⟩
    · refine stepE rfl fun sdn sa sw sE sd sk => ?_
      have h143 : sa.eval (.tmp 143) = .bool (true) := sk.fact 25 143 rfl (sd 25 rfl)
      exact Runs.assign rfl h143 ⟨Ext.refl _, rfl⟩
    intro vals W20 hE20 hv20
    have e8 : vals 8 = .bool (true) := hv20 8 (by omega) 126 rfl
    have e9 : vals 9 = .bool (true) := hv20 9 (by omega) 127 rfl
    have e10 : vals 10 = .bool (true) := hv20 10 (by omega) 128 rfl
    have e11 : vals 11 = .pointer (some ⟨g, 0, none⟩) := hv20 11 (by omega) 129 rfl
    have e12 : vals 12 = .int .i64 ((n : Int)) := hv20 12 (by omega) 130 rfl
    have e13 : vals 13 = .slice (A3) (n) (c3) := hv20 13 (by omega) 131 rfl
    have e14 : vals 14 = .int .i64 ((n : Nat)) := hv20 14 (by omega) 132 rfl
    have e15 : vals 15 = .bool (true) := hv20 15 (by omega) 133 rfl
    have e16 : vals 16 = .bool (true) := hv20 16 (by omega) 134 rfl
    have e17 : vals 17 = .bool (true) := hv20 17 (by omega) 135 rfl
    have e18 : vals 18 = .pointer (some ⟨g, 0, none⟩) := hv20 18 (by omega) 136 rfl
    obtain ⟨A137, c137, e19, r137⟩ := hv20 19 (by omega) 137 rfl
    have e20 : vals 20 = .int .i64 ((0 : Nat)) := hv20 20 (by omega) 138 rfl
    have e21 : vals 21 = .bool (true) := hv20 21 (by omega) 139 rfl
    have e22 : vals 22 = .bool (true) := hv20 22 (by omega) 140 rfl
    have e23 : vals 23 = .bool (true) := hv20 23 (by omega) 141 rfl
    have e24 : vals 24 = .bool (true) := hv20 24 (by omega) 142 rfl
    have e25 : vals 25 = .bool (true) := hv20 25 (by omega) 143 rfl
    have e26 : vals 26 = .bool (true) := hv20 26 (by omega) 6 rfl
    simp only [putAll, Act.put, List.take_succ_cons, List.take_zero, List.drop_succ_cons, List.drop_zero, List.drop_nil, List.take_nil, Nat.reduceAdd, List.setIfInBounds_toArray, List.set_cons_succ, List.set_cons_zero, e8, e9, e10, e11, e12, e13, e14, e15, e16, e17, e18, e19, e20, e21, e22, e23, e24, e25, e26]
    clear hv20 e8 e9 e10 e11 e12 e13 e14 e15 e16 e17 e18 e19 e20 e21 e22 e23 e24 e25 e26
    refine seg_end rfl ?_
    go_wp2_with fail
    go_ret
    exact ⟨rfl, hEc.trans hE20⟩
end Go.Proofs.Ytkndgpjamijbbaa
