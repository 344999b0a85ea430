/-
  MonitorForks, walked.
-/
import Derived.Test.YtkndgpjamijbbaaLawForks22Q37
import Derived.Test.YtkndgpjamijbbaaLawForks22Q33
import Derived.Test.YtkndgpjamijbbaaLawForks22Q25
namespace Go.Proofs.Ytkndgpjamijbbaa
set_option maxRecDepth 100000
open Go Go.RowKit
theorem its22_take {a n which : Nat} (h : a ≤ n) : (its22 n which).take a = its22 a which := by
  unfold its22
  rw [← List.map_take, List.take_range, Nat.min_eq_left h]
theorem feed_grow {s : MSt} {S : List UInt8} {a n which : Nat} (h : s.log = ownP S) (hi : s.its = its22 a which) (han : a ≤ n) (hn : n ≤ 256) :
    feedE s ((n : Nat) : Int) (rootL ((its22 n which).map leafH)) ((n % 16 : Nat) : Int) (sigP S (bodyC checkL ((n : Nat) : Int) (rootL ((its22 n which).map leafH))) (n % 16)) (pathL S (n % 16)) ((its22 n which).drop a) = 0 ∧
    ∃ s', feedS s ((n : Nat) : Int) (rootL ((its22 n which).map leafH)) ((n % 16 : Nat) : Int) (sigP S (bodyC checkL ((n : Nat) : Int) (rootL ((its22 n which).map leafH))) (n % 16)) (pathL S (n % 16)) ((its22 n which).drop a) = s' ∧ s'.log = ownP S ∧ s'.its = its22 n which ∧ s'.al = s.al := by
  have hc : cverB s.log ((n : Nat) : Int) (rootL ((its22 n which).map leafH)) ((n % 16 : Nat) : Int) (sigP S (bodyC checkL ((n : Nat) : Int) (rootL ((its22 n which).map leafH))) (n % 16)) (pathL S (n % 16)) = true := by
    rw [h]
    exact cverB_own S _ _ _ (Nat.mod_lt _ (by omega)) (rightC_nat hn (rootL_len (leaf_len _)))
  have hl : s.its.length = a := by rw [hi, its22_len]
  have hd : ((its22 n which).drop a).length = n - a := by rw [List.length_drop, its22_len]
  have hcat : its22 a which ++ (its22 n which).drop a = its22 n which := by rw [← its22_take han, List.take_append_drop]
  by_cases e : n ≤ a
  · obtain rfl : a = n := by omega
    have hf := feed_0 (s := s) hc (by omega) (by rw [hd]; omega) (by rw [hi, List.take_of_length_le (by rw [List.length_map, its22_len]; exact Nat.le_refl _)])
    exact ⟨hf.1, s, hf.2, h, hi, rfl⟩
  · have hf := feed_ok (s := s) hc (by omega) (by rw [hd, hl]; omega) (by rw [hi, hcat])
    exact ⟨hf.1, _, hf.2, h, by show s.its ++ _ = _; rw [hi, hcat], rfl⟩
theorem within_nat (x hi : Int) (h0 : 0 ≤ hi) : ∃ n : Nat, within x 0 hi = (n : Int) ∧ (n : Int) ≤ hi := by
  have h := within_in x 0 hi h0
  exact ⟨(within x 0 hi).toNat, (Int.toNat_of_nonneg h.1).symm, by rw [Int.toNat_of_nonneg h.1]; exact h.2⟩
theorem rsign_own3 (B : Option Addr) (g b m e' : Nat) (S M : List UInt8) (w : World) (ho : OwnR w b g S) (hm : RB w B m e' M) (hmn : m ≤ 140737488355000) :
    Calls Try.prog 25 #[.pointer (some ⟨g, 0, none⟩), .int .i64 3, .slice B m e'] w fun e w' => ∃ P d Q d', e = .returned (.agg #[.int .i64 3, .slice P 64 d, .slice Q 4 d']) ∧ OBC w' w.heap.size P 64 d (sigP S M 3) ∧ OBC w' w.heap.size Q 4 d' (pathL S 3) ∧ Ext w w' := by
  obtain ⟨k, hk⟩ : ∃ k : Nat, k = 3 := ⟨3, rfl⟩
  have h := rsign_own B g b m e' k S M w ho hm hmn (by omega)
  have e : ((k : Nat) : Int) = 3 := by rw [hk]; rfl
  unfold sigP
  rw [← hk, ← e]
  exact h
theorem feed_sgd3 (w : World) (base g : Nat) (φ : Nat → Prop) (s : MSt) (hM : MonR w base φ g s) (b n : Nat) (B P Q A : Option Addr) (d d1 d2 m c : Nat) (S R : List UInt8) (ITS : List (List UInt8)) (hS : Sgd w b S R n 3 B d P d1 Q d2) (hb : ∀ q, φ q → q < b) (kI : Keep φ (fun w => RBB w A m c ITS) w) (hits : ∀ a ∈ ITS, a.length ≤ 1000000) (hal : s.al.length ≤ 100000) (r : Int) (s' : MSt)
    (hr : ∀ k : Nat, k = 3 → feedE s n R k (sigP S (bodyC checkL (n : Int) R) k) (pathL S k) ITS = r ∧ feedS s n R k (sigP S (bodyC checkL (n : Int) R) k) (pathL S k) ITS = s') :
    Calls Try.prog 37 #[.pointer (some ⟨g, 0, none⟩), .agg #[.int .i64 (n : Int), .slice B 32 d, .int .i64 3, .slice P 64 d1, .slice Q 4 d2], .slice A m c] w fun e w' => FeedP w base φ g s' r e w' := by
  obtain ⟨k, hk⟩ : ∃ k : Nat, k = 3 := ⟨3, rfl⟩
  have h := feed_sgd w base g φ s hM b n k B P Q A d d1 d2 m c S R ITS (by rw [hk]; exact hS) hb kI hits hal
  rw [(hr k hk).1, (hr k hk).2] at h
  have e : ((k : Nat) : Int) = 3 := by rw [hk]; rfl
  rw [e] at h
  exact h
set_option maxHeartbeats 16000000 in
theorem forks22_any (n0 k0 : Int) (hn0 : inR n0) (hk0 : inR k0) (B0 : Option Addr) (m0 e0 : Nat) (M0 : List UInt8) (w : World) (rM : RB w B0 m0 e0 M0) :
    Calls Try.prog 9 #[.int .i64 n0, .int .i64 k0, .slice B0 m0 e0] w fun e w' => e = .returned (.bool true) ∧ Ext w w' := by
  obtain ⟨n, hn, hn20⟩ := within_nat n0 20 (by omega)
  have hwn := fun w' => within_any n0 0 20 w' hn0.1 hn0.2 (by omega) (by omega) (by omega)
  rw [hn] at hwn
  have Hwn := Lib.hid hwn
  obtain ⟨i, hi, hin⟩ := within_nat k0 (n : Int) (by omega)
  have hwi := fun w' => within_any k0 0 (n : Int) w' hk0.1 hk0.2 (by omega) (by omega) (by omega)
  rw [hi] at hwi
  have Hwi := Lib.hid hwi
  have hits := fun w => items22_any n 0 w (by omega) (by omega)
  rw [show ((0 : Nat) : Int) = 0 from rfl] at hits
  have Hits := Lib.hid hits
  clear hn hwn hi hwi hits
  go_enter Try.func9, Try.ntmps9
  go_wp2_with fail
  refine (seed_any 0 w (by omega) (by omega)).mono ?_
  rintro e w1 ⟨A1, c1', rfl, own1, hEa⟩
  obtain ⟨S, hS⟩ : ∃ S, S = seedL 0 := ⟨_, rfl⟩
  rw [← hS] at own1
  clear hS
  have rS := own1.rb
  clear own1
  go_wp2_with fail
  refine (rnew_any A1 c1' S w1 rS).mono ?_
  rintro e w2 ⟨g1, rfl, o1, hE⟩
  replace hEa := hEa.trans hE
  clear hE rS
  go_wp2_with fail
  refine (rpublic_any g1 _ S w2 o1).mono ?_
  rintro e w3 ⟨A2, c2, rfl, rX, hE⟩
  replace o1 := o1.ext hE
  replace hEa := hEa.trans hE
  clear hE
  go_wp2_with fail
  refine (mnew_yes A2 c2 _ w3 rX).mono ?_
  rintro e w4 ⟨g, φ, rfl, hM, hE⟩
  have hφ : ∀ k, φ k → w3.heap.size ≤ k := fun k hk => (hM.lt hk).1
  have hw3 : w.heap.size ≤ w3.heap.size := hEa.size
  have kO : Keep φ (fun w => OwnR w w1.heap.size g1 S) w4 := Keep.old (fun w' e => o1.ext e) hE hφ
  replace hEa := hEa.trans hE
  clear hE o1 rX hφ
  go_wp2_with fail
  refine (Hwn.out w4).mono ?_
  rintro e _ ⟨rfl, rfl⟩
  go_wp2_with fail
  refine (Hits.out w4).mono ?_
  rintro e w5 ⟨A3, c3, rfl, oA, hE⟩
  have kA : Keep φ (fun w => RBB w A3 n c3 (its22 n 0)) w5 := oA.rbb.keepS (hM.nob.ext hE) (fun _ k hk hp => by have := (oA.lt hk).1; have := (hM.lt hp).2; omega)
  replace hM := hM.ext hE
  replace kO := kO.ext hE
  replace hEa := hEa.trans hE
  clear hE oA Hits Hwn
  have hs := signed22_any g1 _ S A3 n c3 _ w5 kO.self kA.self (by omega) its22_small
  have Hs := Lib.hid hs
  clear hs
  go_wp2_with fail
  refine Hs.out.mono ?_
  rintro e w6 ⟨B, d, P, d1, Q, d2, rfl, sg, hE⟩
  have hb : ∀ q, φ q → q < w5.heap.size := fun q hq => (hM.lt hq).2
  replace hM := hM.ext hE
  replace kO := kO.ext hE
  replace kA := kA.ext hE
  replace hEa := hEa.trans hE
  clear hE Hs
  have hf := feed_sgd w6 _ g φ _ hM w5.heap.size n (n % 16) B P Q A3 d d1 d2 n c3 S _ _ sg hb kA its22_small (Nat.zero_le _)
  obtain ⟨hg, s1, hg1, hlog, hit, hal⟩ := feed_grow (s := newM (ownP S)) (S := S) (a := 0) (n := n) (which := 0) rfl rfl (Nat.zero_le _) (by omega)
  rw [List.drop_zero] at hg hg1
  rw [hg, hg1] at hf
  have Hf := Lib.hid hf
  clear hf sg hb hg hg1
  go_wp2_with fail
  refine Hf.out.mono ?_
  intro e w7 hp
  obtain ⟨φ7, rfl, hM7, u7, h7, hEb⟩ := hp.go hM hEa hw3
  replace kO := kO.move u7 h7
  replace kA := kA.move u7 h7
  clear Hf hp hM hEa u7 h7
  go_wp2_with fail
  refine (Hwi.out w7).mono ?_
  rintro e _ ⟨rfl, rfl⟩
  clear Hwi
  have hz := sized_any B0 m0 e0 32 M0 w7 (rM.ext hEb) (by omega)
  rw [show ((32 : Nat) : Int) = 32 from rfl] at hz
  have Hz := Lib.hid hz
  clear hz
  go_wp2_with fail
  refine Hz.out.mono ?_
  rintro e w8 ⟨rfl, ownR, hE⟩
  obtain ⟨Rt, hRt⟩ : ∃ Rt, Rt = sizedL M0 32 := ⟨_, rfl⟩
  rw [← hRt] at ownR
  have hRl : Rt.length = 32 := by rw [hRt, sizedL_length]
  clear hRt Hz
  have rR := ownR.rb
  replace hM7 := hM7.ext hE
  replace kO := kO.ext hE
  replace kA := kA.ext hE
  replace hEb := hEb.trans hE
  clear hE ownR
  obtain ⟨B5, hB5⟩ : ∃ B5, B5 = (some ⟨w7.heap.size, 0, none⟩ : Option Addr) := ⟨_, rfl⟩
  rw [← hB5] at rR ⊢
  clear hB5
  have hgc : ∀ q, φ7 q → q < w8.heap.size := fun q hq => (hM7.lt hq).2
  have hEn := Ext.new w8 (.cells #[.int .i64 (i : Int), .slice B5 32 32] 54)
  have hBc := Blk.new w8 54 #[.int .i64 (i : Int), .slice B5 32 32]
  replace hM7 := hM7.ext hEn
  replace kO := kO.ext hEn
  replace kA := kA.ext hEn
  replace rR := rR.ext hEn
  replace hEb := hEb.trans hEn
  clear hEn
  go_upto_region 10 with (fail)
  generalize w8.alloc (.cells #[.int .i64 (i : Int), .slice B5 32 32] 54) = w9 at *
  generalize w8.heap.size = gc at *
  have o1 := kO.self
  refine par_ext (n := 7) (by kernel_rfl) [.is (.pointer (some ⟨g, 0, none⟩)), .is (.agg #[.int .i64 ((i : Int)), .slice (B5) (32) (32)]), .is (.pointer (some ⟨g1, 0, none⟩)), .is (.agg #[.int .i64 ((i : Int)), .slice (B5) (32) (32)]), .rb (bodyC checkL (i : Int) Rt), .sgo (w9.heap.size) ((3 : Int)) (64) (sigP S (bodyC checkL (i : Int) Rt) 3) (4) (pathL S 3), .sg5 (w9.heap.size) ((i : Int)) (B5) (32) (32) (3) (64) (sigP S (bodyC checkL (i : Int) Rt) 3) (4) (pathL S 3)] rfl ⟨?_, ?_, ?_, ?_, ?_, ?_, ?_, trivial⟩ ?_
  · refine stepE rfl fun sdn sa sw sE sd sk => ?_
    have h8 : sa.eval (.tmp 8) = .pointer (some ⟨g, 0, none⟩) := sk.old 8 rfl
    exact Runs.move rfl h8 ⟨Ext.refl _, rfl⟩
  · refine stepE rfl fun sdn sa sw sE sd sk => ?_
    have h12 : sa.eval (.tmp 12) = .pointer (some ⟨gc, 0, none⟩) := sk.old 12 rfl
    exact Runs.load rfl h12 (load_part (hBc.ext sE) 0 (vs := [.int .i64 ((i : Int)), .slice (B5) (32) (32)]) rfl Try.underlying54 rfl (by kernel_rfl)) ⟨Ext.refl _, rfl⟩
  · refine stepE rfl fun sdn sa sw sE sd sk => ?_
    have h7 : sa.eval (.tmp 7) = .pointer (some ⟨g1, 0, none⟩) := sk.old 7 rfl
    exact Runs.move rfl h7 ⟨Ext.refl _, rfl⟩
  · refine stepE rfl fun sdn sa sw sE sd sk => ?_
    have h12 : sa.eval (.tmp 12) = .pointer (some ⟨gc, 0, none⟩) := sk.old 12 rfl
    exact Runs.load rfl h12 (load_part (hBc.ext sE) 0 (vs := [.int .i64 ((i : Int)), .slice (B5) (32) (32)]) rfl Try.underlying54 rfl (by kernel_rfl)) ⟨Ext.refl _, rfl⟩
  · refine stepE rfl fun sdn sa sw sE sd sk => ?_
    have h50 : sa.eval (.tmp 50) = .agg #[.int .i64 ((i : Int)), .slice (B5) (32) (32)] := sk.fact 3 50 rfl (sd 3 rfl)
    refine Runs.call (f := 40) (vs := [.agg #[.int .i64 ((i : Int)), .slice (B5) (32) (32)]]) rfl rfl rfl (by simp only [List.map_toArray, List.map_cons, List.map_nil, h50] <;> rfl) (ent40 _ _) ((rbody_any _ _ _ _ _ sw (rR.ext sE)).mono ?_); rintro e w' ⟨A', n', c', rfl, own, hx⟩; exact ⟨_, rfl, hx, A', n', c', rfl, own⟩
  · refine stepE rfl fun sdn sa sw sE sd sk => ?_
    have h49 : sa.eval (.tmp 49) = .pointer (some ⟨g1, 0, none⟩) := sk.fact 2 49 rfl (sd 2 rfl)
    obtain ⟨A51, n51, c51, h51, r51⟩ := sk.fact 4 51 rfl (sd 4 rfl)
    refine Runs.call (f := 25) (vs := [.pointer (some ⟨g1, 0, none⟩), .int .i64 ((3 : Int)), .slice (A51) (n51) (c51)]) rfl rfl rfl (by simp only [List.map_toArray, List.map_cons, List.map_nil, h49, h51] <;> rfl) (ent25 _ _) ((rsign_own3 _ _ _ _ _ S (bodyC checkL (i : Int) Rt) sw (o1.ext sE) r51 (by rw [← RB.len r51]; exact Nat.le_trans lenW (by decide))).mono ?_); rintro e w' ⟨P, d, Q, d', rfl, h1, h2, hx⟩; exact ⟨_, rfl, hx, _, _, _, _, rfl, h1.base_ sE.size, h2.base_ sE.size⟩
  · refine stepE rfl fun sdn sa sw sE sd sk => ?_
    have h48 : sa.eval (.tmp 48) = .agg #[.int .i64 ((i : Int)), .slice (B5) (32) (32)] := sk.fact 1 48 rfl (sd 1 rfl)
    obtain ⟨P52, c52, Q52, d52, h52, o52, p52⟩ := sk.fact 5 52 rfl (sd 5 rfl)
    refine Runs.of_run (r := .agg #[.int .i64 ((i : Int)), .slice (B5) (32) (32), .int .i64 (3), .slice P52 64 c52, .slice Q52 4 d52]) (w' := sw) ?_ ⟨Ext.refl _, _, _, _, _, rfl, o52, p52⟩
    unfold execOp
    simp only [List.map_toArray, List.map_cons, List.map_nil, h48, h52]
    go_simp
  intro vals W10 hE10 hv10
  have e0 : vals 0 = .pointer (some ⟨g, 0, none⟩) := hv10 0 (by omega) 47 rfl
  have e1 : vals 1 = .agg #[.int .i64 ((i : Int)), .slice (B5) (32) (32)] := hv10 1 (by omega) 48 rfl
  have e2 : vals 2 = .pointer (some ⟨g1, 0, none⟩) := hv10 2 (by omega) 49 rfl
  have e3 : vals 3 = .agg #[.int .i64 ((i : Int)), .slice (B5) (32) (32)] := hv10 3 (by omega) 50 rfl
  obtain ⟨A51, n51, c51, e4, r51⟩ := hv10 4 (by omega) 51 rfl
  obtain ⟨P52, c52, Q52, d52, e5, o52, p52⟩ := hv10 5 (by omega) 52 rfl
  obtain ⟨P53, c53, Q53, d53, e6, o53, p53⟩ := hv10 6 (by omega) 53 rfl
  simp only [putAll, Act.put, List.take_succ_cons, List.take_zero, List.drop_succ_cons, List.drop_zero, List.drop_nil, List.take_nil, Nat.reduceAdd, List.setIfInBounds_toArray, List.set_cons_succ, List.set_cons_zero, e0, e1, e2, e3, e4, e5, e6]
  clear hv10 e0 e1 e2 e3 e4 e5 e6
  have hb : ∀ q, φ7 q → q < w9.heap.size := fun q hq => (hM7.lt hq).2
  have kB : Keep φ7 (fun w => Blk w gc 54 #[.int .i64 (i : Int), .slice B5 32 32]) W10 := fun w' u => (hBc.ext hE10).upd u (fun h => by have := hgc _ h; omega)
  have kR : Keep φ7 (fun w => RB w B5 32 32 Rt) W10 := (rR.ext hE10).keepS (hM7.nob.ext hE10)
  replace hM7 := hM7.ext hE10
  replace kO := kO.ext hE10
  replace kA := kA.ext hE10
  replace rR := rR.ext hE10
  replace hEb := hEb.trans hE10
  clear hE10 o1 hBc
  have hc : ∀ k : Nat, k = 3 → cverB s1.log ((i : Nat) : Int) Rt (k : Int) (sigP S (bodyC checkL ((i : Nat) : Int) Rt) k) (pathL S k) = true := fun k hk => by
    rw [hlog]
    exact cverB_own S Rt _ k (by omega) (rightC_nat (by omega) hRl)
  have hle : i ≤ s1.its.length := by rw [hit, its22_len]; omega
  by_cases c9 : Rt = rootL (((its22 n 0).take i).map leafH)
  · obtain ⟨s10, hs10⟩ : ∃ s10, s10 = s1 := ⟨_, rfl⟩
    have hr10 : ∀ k : Nat, k = 3 → feedE s1 ((i : Nat) : Int) Rt k (sigP S (bodyC checkL (i : Int) Rt) k) (pathL S k) [] = 0 ∧ feedS s1 ((i : Nat) : Int) Rt k (sigP S (bodyC checkL (i : Int) Rt) k) (pathL S k) [] = s10 := fun k hk => by
      rw [hs10]
      exact feed_0 (hc k hk) hle rfl (by rw [hit, ← List.map_take]; exact c9.symm)
    have hal10 : s10.al = [] := by rw [hs10, hal]; rfl
    have C9 := Lib.hid c9
    clear hs10 hc c9
    have hf := feed_sgd3 W10 _ g φ7 _ hM7 w9.heap.size i B5 P53 Q53 none 32 c53 d53 0 0 S Rt [] ⟨rR, o53, p53⟩ hb (fun w' u => RBB.nil_ _) (fun a ha => by cases ha) (by rw [hal]; exact Nat.zero_le _) 0 s10 hr10
    have Hf := Lib.hid hf
    clear hf hb hr10 o52 p52 o53 p53 rR r51 hgc
    go_wp2_with fail
    refine Hf.out.mono ?_
    intro e w11 hp
    obtain ⟨φ9, rfl, hM9, u9, h9, hEc⟩ := hp.go hM7 hEb hw3
    replace kO := kO.move u9 h9
    replace kA := kA.move u9 h9
    replace kB := kB.move u9 h9
    replace kR := kR.move u9 h9
    clear Hf hp hM7 hEb u9 h9
    have hl := malarms_any w11 _ g φ9 _ hM9 (by rw [hal10]; simp)
    rw [hal10] at hl
    have Hl := Lib.hid hl
    clear hl
    go_wp2_with fail
    refine Hl.out.mono ?_
    rintro e w12 ⟨B1, d1, rfl, own, hE⟩
    replace hM9 := hM9.ext hE
    replace kO := kO.ext hE
    replace kA := kA.ext hE
    replace kB := kB.ext hE
    replace kR := kR.ext hE
    replace hEc := hEc.trans hE
    clear hE Hl
    go_upto_region 12 with (fail)
    have hBc := kB.self
    have rR := kR.self
    have rA := kA.self
    have hroom := rA.room
    have hcap := rA.cap
    unfold maxLen at hcap
    have rAi := rA.fst (k := i) (by omega)
    have hlI : ∀ a ∈ (its22 n 0).take i, a.length ≤ 1000000 := fun a ha => its22_small a (List.mem_of_mem_take ha)
    refine par_ext (n := 10) (by kernel_rfl) [.is (.pointer (some ⟨gc, 1, none⟩)), .is (.slice (B5) (32) (32)), .is (.string (str (Rt))), .is (.slice (A3) (n) (c3)), .is (.int .i64 ((i : Int))), .is (.slice (A3) (i) (c3)), .rws (i) (((its22 n 0).take i).map leafH), .rk (32) (rootL (((its22 n 0).take i).map leafH)), .is (.string (str (rootL (((its22 n 0).take i).map leafH)))), .is (.bool (true))] rfl ⟨?_, ?_, ?_, ?_, ?_, ?_, ?_, ?_, ?_, ?_, trivial⟩ ?_
    · refine stepE rfl fun sdn sa sw sE sd sk => ?_
      have h12 : sa.eval (.tmp 12) = .pointer (some ⟨gc, 0, none⟩) := sk.old 12 rfl
      refine Runs.of_run (r := .pointer (some ⟨gc, 1, none⟩)) (w' := sw) ?_ ⟨Ext.refl _, rfl⟩
      unfold execOp
      simp only [h12]
      go_simp
    · refine stepE rfl fun sdn sa sw sE sd sk => ?_
      have h57 : sa.eval (.tmp 57) = .pointer (some ⟨gc, 1, none⟩) := sk.fact 0 57 rfl (sd 0 rfl)
      exact Runs.load rfl h57 (run_load1 Try.underlying22 rfl ((hBc.ext sE).cell (i := 1) rfl)) ⟨Ext.refl _, rfl⟩
    · refine stepE rfl fun sdn sa sw sE sd sk => ?_
      have h58 : sa.eval (.tmp 58) = .slice (B5) (32) (32) := sk.fact 1 58 rfl (sd 1 rfl)
      exact Runs.conv rfl h58 (run_str (rR.ext sE)) ⟨Ext.refl _, rfl⟩
    · refine stepE rfl fun sdn sa sw sE sd sk => ?_
      have h10 : sa.eval (.tmp 10) = .slice (A3) (n) (c3) := sk.old 10 rfl
      exact Runs.move rfl h10 ⟨Ext.refl _, rfl⟩
    · refine stepE rfl fun sdn sa sw sE sd sk => ?_
      have h11 : sa.eval (.tmp 11) = .int .i64 ((i : Int)) := sk.old 11 rfl
      exact Runs.move rfl h11 ⟨Ext.refl _, rfl⟩
    · refine stepE rfl fun sdn sa sw sE sd sk => ?_
      have h60 : sa.eval (.tmp 60) = .slice (A3) (n) (c3) := sk.fact 3 60 rfl (sd 3 rfl)
      have h61 : sa.eval (.tmp 61) = .int .i64 ((i : Int)) := sk.fact 4 61 rfl (sd 4 rfl)
      exact Runs.slice rfl h60 (by simp only [Option.map_some, Option.map_none, h61]; exact run_cut_h Try.underlying23 infZZ_eq i (by first | rfl | omega) (by omega)) ⟨Ext.refl _, rfl⟩
    · refine stepE rfl fun sdn sa sw sE sd sk => ?_
      have h62 : sa.eval (.tmp 62) = .slice (A3) (i) (c3) := sk.fact 5 62 rfl (sd 5 rfl)
      refine Runs.call (f := 20) (vs := [.slice (A3) (i) (c3)]) rfl rfl rfl (by simp only [List.map_toArray, List.map_cons, List.map_nil, h62] <;> rfl) (ent20 _ _) ((r6leaves_any _ _ _ _ sw (rAi.ext sE) (by omega) hlI).mono ?_); rintro e w' ⟨P', d', rfl, own, hx⟩; exact ⟨_, rfl, hx, _, _, rfl, own.rbb⟩
    · refine stepE rfl fun sdn sa sw sE sd sk => ?_
      obtain ⟨A63, c63, h63, r63⟩ := sk.fact 6 63 rfl (sd 6 rfl)
      refine Runs.call (f := 19) (vs := [.slice (A63) (i) (c63)]) rfl rfl rfl (by simp only [List.map_toArray, List.map_cons, List.map_nil, h63] <;> rfl) (ent19 _ _) ((r6root_any _ _ _ _ sw (by omega) r63 (leaf_len _)).mono ?_); rintro e w' ⟨A', c', rfl, own, hx⟩; exact ⟨_, rfl, hx, _, _, rfl, own⟩
    · refine stepE rfl fun sdn sa sw sE sd sk => ?_
      obtain ⟨A64, c64, h64, r64⟩ := sk.fact 7 64 rfl (sd 7 rfl)
      exact Runs.conv rfl h64 (run_str r64) ⟨Ext.refl _, rfl⟩
    · refine stepE rfl fun sdn sa sw sE sd sk => ?_
      have h59 : sa.eval (.tmp 59) = .string (str (Rt)) := sk.fact 2 59 rfl (sd 2 rfl)
      have h65 : sa.eval (.tmp 65) = .string (str (rootL (((its22 n 0).take i).map leafH))) := sk.fact 8 65 rfl (sd 8 rfl)
      exact Runs.bin rfl h59 h65 (by rfl) (bin_eqs _ _ _) ⟨Ext.refl _, congrArg Value.bool (by simp [C9.out])⟩
    intro vals W12 hE12 hv12
    have e0 : vals 0 = .pointer (some ⟨gc, 1, none⟩) := hv12 0 (by omega) 57 rfl
    have e1 : vals 1 = .slice (B5) (32) (32) := hv12 1 (by omega) 58 rfl
    have e2 : vals 2 = .string (str (Rt)) := hv12 2 (by omega) 59 rfl
    have e3 : vals 3 = .slice (A3) (n) (c3) := hv12 3 (by omega) 60 rfl
    have e4 : vals 4 = .int .i64 ((i : Int)) := hv12 4 (by omega) 61 rfl
    have e5 : vals 5 = .slice (A3) (i) (c3) := hv12 5 (by omega) 62 rfl
    obtain ⟨A63, c63, e6, r63⟩ := hv12 6 (by omega) 63 rfl
    obtain ⟨A64, c64, e7, r64⟩ := hv12 7 (by omega) 64 rfl
    have e8 : vals 8 = .string (str (rootL (((its22 n 0).take i).map leafH))) := hv12 8 (by omega) 65 rfl
    have e9 : vals 9 = .bool (true) := hv12 9 (by omega) 66 rfl
    simp only [putAll, Act.put, List.take_succ_cons, List.take_zero, List.drop_succ_cons, List.drop_zero, List.drop_nil, List.take_nil, Nat.reduceAdd, List.setIfInBounds_toArray, List.set_cons_succ, List.set_cons_zero, e0, e1, e2, e3, e4, e5, e6, e7, e8, e9]
    clear hv12 e0 e1 e2 e3 e4 e5 e6 e7 e8 e9
    clear hBc rR rA rAi kB kR
    replace hM9 := hM9.ext hE12
    replace kO := kO.ext hE12
    replace kA := kA.ext hE12
    replace hEc := hEc.trans hE12
    clear own
    go_wp2_with fail
    refine (known22_any _).mono ?_
    rintro e w14 ⟨rfl, hE⟩
    go_wp2_with fail
    go_ret
    exact ⟨rfl, hEc.trans hE⟩
  · obtain ⟨s10, hs10⟩ : ∃ s10, s10 = { s1 with al := s1.al ++ [(1, ((i : Nat) : Int))] } := ⟨_, rfl⟩
    have hr10 : ∀ k : Nat, k = 3 → feedE s1 ((i : Nat) : Int) Rt k (sigP S (bodyC checkL (i : Int) Rt) k) (pathL S k) [] = 34 ∧ feedS s1 ((i : Nat) : Int) Rt k (sigP S (bodyC checkL (i : Int) Rt) k) (pathL S k) [] = s10 := fun k hk => by
      rw [hs10]
      exact feed_34 (hc k hk) hle rfl (by rw [hit, ← List.map_take]; exact fun h => c9 h.symm)
    have hal10 : s10.al = [(1, ((i : Nat) : Int))] := by rw [hs10]; show s1.al ++ _ = _; rw [hal]; rfl
    have hlog10 : s10.log = ownP S := by rw [hs10]; exact hlog
    have hit10 : s10.its = its22 n 0 := by rw [hs10]; exact hit
    have C9 := Lib.hid c9
    clear hs10 hc c9
    have hf := feed_sgd3 W10 _ g φ7 _ hM7 w9.heap.size i B5 P53 Q53 none 32 c53 d53 0 0 S Rt [] ⟨rR, o53, p53⟩ hb (fun w' u => RBB.nil_ _) (fun a ha => by cases ha) (by rw [hal]; exact Nat.zero_le _) 34 s10 hr10
    have Hf := Lib.hid hf
    clear hf hb hr10 o52 p52 o53 p53 rR r51 hgc
    go_wp2_with fail
    refine Hf.out.mono ?_
    intro e w11 hp
    obtain ⟨φ9, rfl, hM9, u9, h9, hEc⟩ := hp.go hM7 hEb hw3
    replace kO := kO.move u9 h9
    replace kA := kA.move u9 h9
    replace kB := kB.move u9 h9
    replace kR := kR.move u9 h9
    clear Hf hp hM7 hEb u9 h9
    have hl := malarms_any w11 _ g φ9 _ hM9 (by rw [hal10]; simp)
    rw [hal10] at hl
    have Hl := Lib.hid hl
    clear hl
    go_wp2_with fail
    refine Hl.out.mono ?_
    rintro e w12 ⟨B1, d1, rfl, own, hE⟩
    replace hM9 := hM9.ext hE
    replace kO := kO.ext hE
    replace kA := kA.ext hE
    replace kB := kB.ext hE
    replace kR := kR.ext hE
    replace hEc := hEc.trans hE
    clear hE Hl
    go_upto_region 12 with (fail)
    have hBc := kB.self
    have rR := kR.self
    have rA := kA.self
    have hroom := rA.room
    have hcap := rA.cap
    unfold maxLen at hcap
    have rAi := rA.fst (k := i) (by omega)
    have hlI : ∀ a ∈ (its22 n 0).take i, a.length ≤ 1000000 := fun a ha => its22_small a (List.mem_of_mem_take ha)
    refine par_ext (n := 10) (by kernel_rfl) [.is (.pointer (some ⟨gc, 1, none⟩)), .is (.slice (B5) (32) (32)), .is (.string (str (Rt))), .is (.slice (A3) (n) (c3)), .is (.int .i64 ((i : Int))), .is (.slice (A3) (i) (c3)), .rws (i) (((its22 n 0).take i).map leafH), .rk (32) (rootL (((its22 n 0).take i).map leafH)), .is (.string (str (rootL (((its22 n 0).take i).map leafH)))), .is (.bool (false))] rfl ⟨?_, ?_, ?_, ?_, ?_, ?_, ?_, ?_, ?_, ?_, trivial⟩ ?_
    · refine stepE rfl fun sdn sa sw sE sd sk => ?_
      have h12 : sa.eval (.tmp 12) = .pointer (some ⟨gc, 0, none⟩) := sk.old 12 rfl
      refine Runs.of_run (r := .pointer (some ⟨gc, 1, none⟩)) (w' := sw) ?_ ⟨Ext.refl _, rfl⟩
      unfold execOp
      simp only [h12]
      go_simp
    · refine stepE rfl fun sdn sa sw sE sd sk => ?_
      have h57 : sa.eval (.tmp 57) = .pointer (some ⟨gc, 1, none⟩) := sk.fact 0 57 rfl (sd 0 rfl)
      exact Runs.load rfl h57 (run_load1 Try.underlying22 rfl ((hBc.ext sE).cell (i := 1) rfl)) ⟨Ext.refl _, rfl⟩
    · refine stepE rfl fun sdn sa sw sE sd sk => ?_
      have h58 : sa.eval (.tmp 58) = .slice (B5) (32) (32) := sk.fact 1 58 rfl (sd 1 rfl)
      exact Runs.conv rfl h58 (run_str (rR.ext sE)) ⟨Ext.refl _, rfl⟩
    · refine stepE rfl fun sdn sa sw sE sd sk => ?_
      have h10 : sa.eval (.tmp 10) = .slice (A3) (n) (c3) := sk.old 10 rfl
      exact Runs.move rfl h10 ⟨Ext.refl _, rfl⟩
    · refine stepE rfl fun sdn sa sw sE sd sk => ?_
      have h11 : sa.eval (.tmp 11) = .int .i64 ((i : Int)) := sk.old 11 rfl
      exact Runs.move rfl h11 ⟨Ext.refl _, rfl⟩
    · refine stepE rfl fun sdn sa sw sE sd sk => ?_
      have h60 : sa.eval (.tmp 60) = .slice (A3) (n) (c3) := sk.fact 3 60 rfl (sd 3 rfl)
      have h61 : sa.eval (.tmp 61) = .int .i64 ((i : Int)) := sk.fact 4 61 rfl (sd 4 rfl)
      exact Runs.slice rfl h60 (by simp only [Option.map_some, Option.map_none, h61]; exact run_cut_h Try.underlying23 infZZ_eq i (by first | rfl | omega) (by omega)) ⟨Ext.refl _, rfl⟩
    · refine stepE rfl fun sdn sa sw sE sd sk => ?_
      have h62 : sa.eval (.tmp 62) = .slice (A3) (i) (c3) := sk.fact 5 62 rfl (sd 5 rfl)
      refine Runs.call (f := 20) (vs := [.slice (A3) (i) (c3)]) rfl rfl rfl (by simp only [List.map_toArray, List.map_cons, List.map_nil, h62] <;> rfl) (ent20 _ _) ((r6leaves_any _ _ _ _ sw (rAi.ext sE) (by omega) hlI).mono ?_); rintro e w' ⟨P', d', rfl, own, hx⟩; exact ⟨_, rfl, hx, _, _, rfl, own.rbb⟩
    · refine stepE rfl fun sdn sa sw sE sd sk => ?_
      obtain ⟨A63, c63, h63, r63⟩ := sk.fact 6 63 rfl (sd 6 rfl)
      refine Runs.call (f := 19) (vs := [.slice (A63) (i) (c63)]) rfl rfl rfl (by simp only [List.map_toArray, List.map_cons, List.map_nil, h63] <;> rfl) (ent19 _ _) ((r6root_any _ _ _ _ sw (by omega) r63 (leaf_len _)).mono ?_); rintro e w' ⟨A', c', rfl, own, hx⟩; exact ⟨_, rfl, hx, _, _, rfl, own⟩
    · refine stepE rfl fun sdn sa sw sE sd sk => ?_
      obtain ⟨A64, c64, h64, r64⟩ := sk.fact 7 64 rfl (sd 7 rfl)
      exact Runs.conv rfl h64 (run_str r64) ⟨Ext.refl _, rfl⟩
    · refine stepE rfl fun sdn sa sw sE sd sk => ?_
      have h59 : sa.eval (.tmp 59) = .string (str (Rt)) := sk.fact 2 59 rfl (sd 2 rfl)
      have h65 : sa.eval (.tmp 65) = .string (str (rootL (((its22 n 0).take i).map leafH))) := sk.fact 8 65 rfl (sd 8 rfl)
      exact Runs.bin rfl h59 h65 (by rfl) (bin_eqs _ _ _) ⟨Ext.refl _, congrArg Value.bool (by simp [(by have h := C9.out; simp only [List.map_take] at h; exact h)])⟩
    intro vals W12 hE12 hv12
    have e0 : vals 0 = .pointer (some ⟨gc, 1, none⟩) := hv12 0 (by omega) 57 rfl
    have e1 : vals 1 = .slice (B5) (32) (32) := hv12 1 (by omega) 58 rfl
    have e2 : vals 2 = .string (str (Rt)) := hv12 2 (by omega) 59 rfl
    have e3 : vals 3 = .slice (A3) (n) (c3) := hv12 3 (by omega) 60 rfl
    have e4 : vals 4 = .int .i64 ((i : Int)) := hv12 4 (by omega) 61 rfl
    have e5 : vals 5 = .slice (A3) (i) (c3) := hv12 5 (by omega) 62 rfl
    obtain ⟨A63, c63, e6, r63⟩ := hv12 6 (by omega) 63 rfl
    obtain ⟨A64, c64, e7, r64⟩ := hv12 7 (by omega) 64 rfl
    have e8 : vals 8 = .string (str (rootL (((its22 n 0).take i).map leafH))) := hv12 8 (by omega) 65 rfl
    have e9 : vals 9 = .bool (false) := hv12 9 (by omega) 66 rfl
    simp only [putAll, Act.put, List.take_succ_cons, List.take_zero, List.drop_succ_cons, List.drop_zero, List.drop_nil, List.take_nil, Nat.reduceAdd, List.setIfInBounds_toArray, List.set_cons_succ, List.set_cons_zero, e0, e1, e2, e3, e4, e5, e6, e7, e8, e9]
    clear hv12 e0 e1 e2 e3 e4 e5 e6 e7 e8 e9
    clear hBc rR rA rAi kB kR
    replace hM9 := hM9.ext hE12
    replace kO := kO.ext hE12
    replace kA := kA.ext hE12
    replace hEc := hEc.trans hE12
    obtain ⟨q1, rfl, hcq⟩ := own.at_ (show 0 < 1 by decide) (by decide)
    have hroom2 := own.room
    have y0 := hE12.cell (hcq 0 (.int .i64 1) rfl)
    have y1 := hE12.cell (hcq 1 (.int .i64 (i : Int)) rfl)
    clear hcq own
    have hsz := msize_any W12 _ g φ9 _ hM9
    rw [hit10, its22_len] at hsz
    have Hsz := Lib.hid hsz
    clear hsz
    go_wp2_with fail
    refine Hsz.out.mono ?_
    rintro e w' ⟨rfl, he⟩
    obtain rfl := he.symm
    clear Hsz
    have hs := signed22_any g1 _ S A3 n c3 _ W12 kO.self kA.self (by omega) its22_small
    have Hs := Lib.hid hs
    clear hs
    go_wp2_with fail
    refine Hs.out.mono ?_
    rintro e w13 ⟨B, d, P, d1, Q, d2, rfl, sg, hE⟩
    have hb : ∀ q, φ9 q → q < W12.heap.size := fun q hq => (hM9.lt hq).2
    replace hM9 := hM9.ext hE
    replace kO := kO.ext hE
    replace kA := kA.ext hE
    replace hEc := hEc.trans hE
    clear hE Hs
    have hf := feed_sgd w13 _ g φ9 _ hM9 W12.heap.size n (n % 16) B P Q none d d1 d2 0 0 S _ [] sg hb (fun w' u => RBB.nil_ _) (fun a ha => by cases ha) (by rw [hal10]; simp)
    obtain ⟨hg, s2, hg1, _⟩ := feed_grow (s := s10) (S := S) (a := n) (n := n) (which := 0) hlog10 hit10 (Nat.le_refl _) (by omega)
    rw [List.drop_of_length_le (by rw [its22_len]; exact Nat.le_refl _)] at hg hg1
    rw [hg, hg1] at hf
    have Hf := Lib.hid hf
    clear hf sg hb hg hg1
    go_wp2_with fail
    refine Hf.out.mono ?_
    intro e w14 hp
    obtain ⟨φ10, rfl, hM10, u10, h10, hEd⟩ := hp.go hM9 hEc hw3
    clear Hf hp hM9 hEc u10 h10
    go_wp2_with fail
    refine (known22_any _).mono ?_
    rintro e w15 ⟨rfl, hE⟩
    go_wp2_with fail
    go_ret
    exact ⟨rfl, hEd.trans hE⟩
end Go.Proofs.Ytkndgpjamijbbaa
