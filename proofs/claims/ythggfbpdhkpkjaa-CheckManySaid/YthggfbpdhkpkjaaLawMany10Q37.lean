/-
  law10's signed: where what it returns lies.
-/
import Derived.Test.YthggfbpdhkpkjaaLawMany10Q35
import Derived.Test.YthggfbpdhkpkjaaLawMany10Q36
namespace Go.Proofs.Ythggfbpdhkpkjaa
set_option maxRecDepth 100000
open Go Go.RowKit
def MP.sgF (bs : Nat) (S M : List UInt8) (k : Nat) : MP Ext := ⟨fun u w => ∃ P d Q e, u = .agg #[.int .i64 (k : Int), .slice P 64 d, .slice Q 4 e] ∧ RBBP w (fun j => bs ≤ j) P 64 d (sigP S M k) ∧ RBBP w (fun j => bs ≤ j) Q 4 e (pathL S k), fun _ _ _ e ⟨P, d, Q, e', h1, h2, h3⟩ => ⟨P, d, Q, e', h1, h2.ext e, h3.ext e⟩⟩
def MP.sdF (bs : Nat) (S M : List UInt8) (k : Nat) (x : Int) (B : Option Addr) (d0 : Nat) : MP Ext := ⟨fun u w => ∃ P d Q e, u = .agg #[.int .i64 x, .slice B 32 d0, .int .i64 (k : Int), .slice P 64 d, .slice Q 4 e] ∧ RBBP w (fun j => bs ≤ j) P 64 d (sigP S M k) ∧ RBBP w (fun j => bs ≤ j) Q 4 e (pathL S k), fun _ _ _ e ⟨P, d, Q, e', h1, h2, h3⟩ => ⟨P, d, Q, e', h1, h2.ext e, h3.ext e⟩⟩
theorem RBBP.set5 {w : World} {φ : Nat → Prop} {A : Option Addr} {n c : Nat} {L : List (List UInt8)} (h : RBBP w φ A n c L) (hn : 3 ≤ n) {g : Nat} {t : TypeId} {x k : Int} {A0 P Q : Option Addr} {n0 c0 np cp nq cq : Nat} (hB : Blk w g t (sgdC x A0 n0 c0 k P np cp Q nq cq))
    (x' k' : Int) (A1 P1 Q1 : Option Addr) (n1 c1 np1 cp1 nq1 cq1 : Nat) : RBBP (((((w.setCell ⟨g, 0, none⟩ (.int .i64 x')).setCell ⟨g, 1, none⟩ (.slice A1 n1 c1)).setCell ⟨g, 2, none⟩ (.int .i64 k')).setCell ⟨g, 3, none⟩ (.slice P1 np1 cp1)).setCell ⟨g, 4, none⟩ (.slice Q1 nq1 cq1)) φ A n c L := by
  have b0 : Blk (w.setCell ⟨g, 0, none⟩ (.int .i64 x')) g t (sgdC x' A0 n0 c0 k P np cp Q nq cq) := hB.set 0 _
  have b1 : Blk _ g t (sgdC x' A1 n1 c1 k P np cp Q nq cq) := b0.set 1 (.slice A1 n1 c1)
  have b2 : Blk _ g t (sgdC x' A1 n1 c1 k' P np cp Q nq cq) := b1.set 2 (.int .i64 k')
  have b3 : Blk _ g t (sgdC x' A1 n1 c1 k' P1 np1 cp1 Q nq cq) := b2.set 3 (.slice P1 np1 cp1)
  have h0 := h.away hB (sgd_no _ _ _ _ _ _ _ _ _ _ _) (grown_set w ⟨g, 0, none⟩ (.int .i64 x')) (fun _ => h.rbb.apart_sgd hn hB)
  have h1 := h0.away b0 (sgd_no _ _ _ _ _ _ _ _ _ _ _) (grown_set _ ⟨g, 1, none⟩ (.slice A1 n1 c1)) (fun _ => h0.rbb.apart_sgd hn b0)
  have h2 := h1.away b1 (sgd_no _ _ _ _ _ _ _ _ _ _ _) (grown_set _ ⟨g, 2, none⟩ (.int .i64 k')) (fun _ => h1.rbb.apart_sgd hn b1)
  have h3 := h2.away b2 (sgd_no _ _ _ _ _ _ _ _ _ _ _) (grown_set _ ⟨g, 3, none⟩ (.slice P1 np1 cp1)) (fun _ => h2.rbb.apart_sgd hn b2)
  exact h3.away b3 (sgd_no _ _ _ _ _ _ _ _ _ _ _) (grown_set _ ⟨g, 4, none⟩ (.slice Q1 nq1 cq1)) (fun _ => h3.rbb.apart_sgd hn b3)
set_option maxHeartbeats 8000000 in
theorem signed_e (n index size root : Int) (w : World) (hn0 : -9223372036854775808 ≤ n) (hn1 : n ≤ 9223372036854775807) (hi0 : -9223372036854775808 ≤ index) (hi1 : index ≤ 9223372036854775807) (hs0 : -9223372036854775808 ≤ size) (hs1 : size ≤ 9223372036854775807) (hr0 : -9223372036854775808 ≤ root) (hr1 : root ≤ 9223372036854775807) :
    Calls Try.prog 22 #[.int .i64 n, .int .i64 index, .int .i64 size, .int .i64 root] w fun e w' => ∃ k : Nat, k = within index 0 15 ∧ k < 16 ∧ ∃ B d P d1 Q d2 X cx, e = .returned (.tuple #[.agg #[.int .i64 (within size 0 256), .slice B 32 d, .int .i64 (k : Int), .slice P 64 d1, .slice Q 4 d2], .slice X 32 cx]) ∧
      RB w' B 32 d (khash root) ∧ (∀ j, blk B = some j → w.heap.size ≤ j) ∧ RBBP w' (fun j => w.heap.size ≤ j) P 64 d1 (sigP (seedL n) (bodyC checkL (within size 0 256) (khash root)) k) ∧ RBBP w' (fun j => w.heap.size ≤ j) Q 4 d2 (pathL (seedL n) k) ∧ Ext w w' := by
  obtain ⟨k, hk⟩ : ∃ k : Nat, within index 0 15 = k := ⟨_, (Int.toNat_of_nonneg (within_in index 0 15 (by omega)).1).symm⟩
  have hk16 : k < 16 := by have := (within_in index 0 15 (by omega)).2; omega
  have hwi := fun w' => within_any index 0 15 w' hi0 hi1 (by omega) (by omega) (by omega)
  rw [hk] at hwi
  have Hwi := Lib.hid hwi
  have hws := fun w' => within_any size 0 256 w' hs0 hs1 (by omega) (by omega) (by omega)
  have Hws := Lib.hid hws
  have Hk := Lib.hid hk
  have hhs := fun w' => hash_any root w' hr0 hr1
  have Hhs := Lib.hid hhs
  have hsd := fun w' => seed_any n w' hn0 hn1
  have Hsd := Lib.hid hsd
  have hEa := Ext.new w (.cells #[.int .i64 0, .slice none 0 0, .int .i64 0, .slice none 0 0, .slice none 0 0] 41)
  have hB0 := Blk.new w 41 #[.int .i64 0, .slice none 0 0, .int .i64 0, .slice none 0 0, .slice none 0 0]
  clear hwi hk hws hhs hsd
  go_enter Try.func22, Try.ntmps22
  go_wp2_with fail
  generalize w.alloc (.cells #[.int .i64 0, .slice none 0 0, .int .i64 0, .slice none 0 0, .slice none 0 0] 41) = w0 at *
  refine (Hsd.out w0).mono ?_
  rintro e w1 ⟨A1, c1, rfl, own1, hE⟩
  obtain ⟨S, hS⟩ : ∃ S, S = seedL n := ⟨_, rfl⟩
  rw [← hS] at own1
  have rS := own1.rb
  have HS := Lib.hid hS
  replace hB0 := hB0.ext hE
  replace hEa := hEa.trans hE
  clear own1 hE hS Hsd
  go_wp2_with fail
  have hbsO : w.heap.size ≤ w1.heap.size := hEa.size
  refine (rnew_any A1 c1 S w1 rS).mono ?_
  rintro e w2 ⟨g1, rfl, o1, hE⟩
  replace hB0 := hB0.ext hE
  replace hEa := hEa.trans hE
  clear hE rS
  go_wp2_with fail
  refine (Hws.out w2).mono ?_
  rintro e _ ⟨rfl, rfl⟩
  generalize hx : within size 0 256 = x at *
  have Hx := Lib.hid hx
  clear hx
  go_wp2_with fail
  have hbs2 : w.heap.size ≤ w2.heap.size := hEa.size
  refine (Hhs.out w2).mono ?_
  rintro e w3 ⟨B, d, rfl, own, hE⟩
  replace hB0 := hB0.ext hE
  replace o1 := o1.ext hE
  replace hEa := hEa.trans hE
  obtain ⟨R, hR⟩ : ∃ R, R = khash root := ⟨_, rfl⟩
  rw [← hR] at own
  have HR := Lib.hid hR
  have rR := own.rb
  have hbB : ∀ j, blk B = some j → w.heap.size ≤ j := fun j hj => Nat.le_trans hbs2 (own.lt hj).1
  have hEn := Ext.new w3 (.cells #[.int .i64 x, .slice B 32 d] 24)
  have hBc := Blk.new w3 24 #[.int .i64 x, .slice B 32 d]
  replace hB0 := hB0.ext hEn
  replace o1 := o1.ext hEn
  replace rR := rR.ext hEn
  replace hEa := hEa.trans hEn
  clear hE hEn own Hws Hhs hR
  go_upto_region 3 with (fail)
  generalize w3.alloc (.cells #[.int .i64 x, .slice B 32 d] 24) = w4 at *
  generalize w3.heap.size = gc at *
  have hbs4 : w.heap.size ≤ w4.heap.size := hEa.size
  obtain ⟨bs, hbs⟩ : ∃ bs, bs = w.heap.size := ⟨_, rfl⟩
  rw [← hbs] at hbs4 hbsO
  refine par_ext (n := 10) (by kernel_rfl) [.is (.agg #[.int .i64 (x), .slice (B) (32) (d)]), .is (.pointer (some ⟨g1, 0, none⟩)), .is (.int .i64 (index)), .is (.int .i64 (((k : Nat) : Int))), .is (.agg #[.int .i64 (x), .slice (B) (32) (d)]), .rb (bodyC checkL x R), .sgF bs S (bodyC checkL x R) k, .sdF bs S (bodyC checkL x R) k x B d, .is (.pointer (some ⟨g1, 0, none⟩)), .rk (32) (ownP S)] rfl ⟨?_, ?_, ?_, ?_, ?_, ?_, ?_, ?_, ?_, ?_, trivial⟩ ?_
  · refine stepE rfl fun sdn sa sw sE sd sk => ?_
    have h11 : sa.eval (.tmp 11) = .pointer (some ⟨gc, 0, none⟩) := sk.old 11 rfl
    exact Runs.load rfl h11 (load_part (hBc.ext sE) 0 (vs := [.int .i64 (x), .slice (B) (32) (d)]) rfl Try.underlying24 rfl (by kernel_rfl)) ⟨Ext.refl _, rfl⟩
  · refine stepE rfl fun sdn sa sw sE sd sk => ?_
    have h10 : sa.eval (.tmp 10) = .pointer (some ⟨g1, 0, none⟩) := sk.old 10 rfl
    exact Runs.move rfl h10 ⟨Ext.refl _, rfl⟩
  · refine stepE rfl fun sdn sa sw sE sd sk => ?_
    have h1 : sa.eval (.tmp 1) = .int .i64 (index) := sk.old 1 rfl
    exact Runs.move rfl h1 ⟨Ext.refl _, rfl⟩
  · refine stepE rfl fun sdn sa sw sE sd sk => ?_
    have h22 : sa.eval (.tmp 22) = .int .i64 (index) := sk.fact 2 22 rfl (sd 2 rfl)
    refine Runs.call (f := 15) (vs := [.int .i64 (index), .int .i64 ((0 : Int)), .int .i64 ((15 : Int))]) rfl rfl rfl (by simp only [List.map_toArray, List.map_cons, List.map_nil, h22] <;> rfl) (ent15 _ _) ((Hwi.out sw).mono ?_); rintro e w' ⟨rfl, rfl⟩; exact ⟨_, rfl, Ext.refl _, rfl⟩
  · refine stepE rfl fun sdn sa sw sE sd sk => ?_
    have h11 : sa.eval (.tmp 11) = .pointer (some ⟨gc, 0, none⟩) := sk.old 11 rfl
    exact Runs.load rfl h11 (load_part (hBc.ext sE) 0 (vs := [.int .i64 (x), .slice (B) (32) (d)]) rfl Try.underlying24 rfl (by kernel_rfl)) ⟨Ext.refl _, rfl⟩
  · refine stepE rfl fun sdn sa sw sE sd sk => ?_
    have h24 : sa.eval (.tmp 24) = .agg #[.int .i64 (x), .slice (B) (32) (d)] := sk.fact 4 24 rfl (sd 4 rfl)
    refine Runs.call (f := 55) (vs := [.agg #[.int .i64 (x), .slice (B) (32) (d)]]) rfl rfl rfl (by simp only [List.map_toArray, List.map_cons, List.map_nil, h24] <;> rfl) (ent55 _ _) ((rbody_any _ _ _ _ _ sw (rR.ext sE)).mono ?_); rintro e w' ⟨A', n', c', rfl, own, hx⟩; exact ⟨_, rfl, hx, A', n', c', rfl, own⟩
  · refine stepE rfl fun sdn sa sw sE sd sk => ?_
    have h21 : sa.eval (.tmp 21) = .pointer (some ⟨g1, 0, none⟩) := sk.fact 1 21 rfl (sd 1 rfl)
    have h23 : sa.eval (.tmp 23) = .int .i64 (((k : Nat) : Int)) := sk.fact 3 23 rfl (sd 3 rfl)
    obtain ⟨A25, n25, c25, h25, r25⟩ := sk.fact 5 25 rfl (sd 5 rfl)
    refine Runs.call (f := 54) (vs := [.pointer (some ⟨g1, 0, none⟩), .int .i64 (((k : Nat) : Int)), .slice (A25) (n25) (c25)]) rfl rfl rfl (by simp only [List.map_toArray, List.map_cons, List.map_nil, h21, h23, h25] <;> rfl) (ent54 _ _) ((rsign_e _ _ _ _ _ k S (bodyC checkL x R) sw (o1.ext sE) r25 (by rw [← RB.len r25]; exact Nat.le_trans lenW (by decide)) hk16).mono ?_); rintro e w' ⟨P, d1, Q, d2, rfl, h1, h2, hx⟩; exact ⟨_, rfl, hx, P, d1, Q, d2, rfl, (h1.lower (Nat.le_trans hbs4 sE.size) (Nat.le_trans hbs4 sE.size)).rbbp (Nat.le_refl _), (h2.lower (Nat.le_trans hbs4 sE.size) hbsO).rbbp (Nat.le_refl _)⟩
  · refine stepE rfl fun sdn sa sw sE sd sk => ?_
    have h20 : sa.eval (.tmp 20) = .agg #[.int .i64 (x), .slice (B) (32) (d)] := sk.fact 0 20 rfl (sd 0 rfl)
    obtain ⟨P26, d26, Q26, e26, h26, rp26, rq26⟩ := sk.fact 6 26 rfl (sd 6 rfl)
    refine Runs.of_run (r := .agg #[.int .i64 (x), .slice (B) (32) (d), .int .i64 ((k : Int)), .slice (P26) (64) (d26), .slice (Q26) (4) (e26)]) (w' := sw) ?_ ⟨Ext.refl _, _, _, _, _, rfl, rp26, rq26⟩
    unfold execOp
    simp only [List.map_toArray, List.map_cons, List.map_nil, h20, h26]
    go_simp
  · refine stepE rfl fun sdn sa sw sE sd sk => ?_
    have h10 : sa.eval (.tmp 10) = .pointer (some ⟨g1, 0, none⟩) := sk.old 10 rfl
    exact Runs.move rfl h10 ⟨Ext.refl _, rfl⟩
  · refine stepE rfl fun sdn sa sw sE sd sk => ?_
    have h28 : sa.eval (.tmp 28) = .pointer (some ⟨g1, 0, none⟩) := sk.fact 8 28 rfl (sd 8 rfl)
    refine Runs.call (f := 68) (vs := [.pointer (some ⟨g1, 0, none⟩)]) rfl rfl rfl (by simp only [List.map_toArray, List.map_cons, List.map_nil, h28] <;> rfl) (ent68 _ _) ((rpublic_any _ _ _ sw (o1.ext sE)).mono ?_); rintro e w' ⟨A', c', rfl, own, hx⟩; exact ⟨_, rfl, hx, A', c', rfl, own⟩
  intro vals W3 hE3 hv3
  have e0 : vals 0 = .agg #[.int .i64 (x), .slice (B) (32) (d)] := hv3 0 (by omega) 20 rfl
  have e1 : vals 1 = .pointer (some ⟨g1, 0, none⟩) := hv3 1 (by omega) 21 rfl
  have e2 : vals 2 = .int .i64 (index) := hv3 2 (by omega) 22 rfl
  have e3 : vals 3 = .int .i64 (((k : Nat) : Int)) := hv3 3 (by omega) 23 rfl
  have e4 : vals 4 = .agg #[.int .i64 (x), .slice (B) (32) (d)] := hv3 4 (by omega) 24 rfl
  obtain ⟨A25, n25, c25, e5, r25⟩ := hv3 5 (by omega) 25 rfl
  obtain ⟨P26, d26, Q26, e26, e6, rp26, rq26⟩ := hv3 6 (by omega) 26 rfl
  obtain ⟨P27, d27, Q27, e27, e7, rp27, rq27⟩ := hv3 7 (by omega) 27 rfl
  have e8 : vals 8 = .pointer (some ⟨g1, 0, none⟩) := hv3 8 (by omega) 28 rfl
  obtain ⟨A29, c29, e9, r29⟩ := hv3 9 (by omega) 29 rfl
  simp only [putAll, Act.put, List.take_succ_cons, List.take_zero, List.drop_succ_cons, List.drop_zero, List.drop_nil, List.take_nil, Nat.reduceAdd, List.setIfInBounds_toArray, List.set_cons_succ, List.set_cons_zero, e0, e1, e2, e3, e4, e5, e6, e7, e8, e9]
  clear hv3 e0 e1 e2 e3 e4 e5 e6 e7 e8 e9
  replace hB0 := hB0.ext hE3
  replace rR := rR.ext hE3
  replace hEa := hEa.trans hE3
  clear hE3
  have fhB00 := hB0.frozen 0
  have fhB01 := hB0.frozen 1
  have fhB02 := hB0.frozen 2
  have fhB03 := hB0.frozen 3
  have fhB04 := hB0.frozen 4
  have xhB00 := hB0.cell (i := 0) rfl
  have xhB01 := hB0.cell (i := 1) rfl
  have xhB02 := hB0.cell (i := 2) rfl
  have xhB03 := hB0.cell (i := 3) rfl
  have xhB04 := hB0.cell (i := 4) rfl
  go_wp2_with fail
  refine bodyPost_ret (results_sig rfl _ _ w.heap.size _ _ _ rfl (setall5 hB0 _ _ _ _ _) Try.underlying41 rfl rfl) rfl ?_
  subst hbs
  rw [Hx.out, ← HR.out, ← HS.out]
  exact ⟨k, Hk.out.symm, hk16, _, _, _, _, _, _, _, _, rfl, rR.set5 hB0 _ _ _ _ _ _ _ _ _ _ _, hbB, rp27.set5 (by omega) hB0 _ _ _ _ _ _ _ _ _ _ _, rq27.set5 (by omega) hB0 _ _ _ _ _ _ _ _ _ _ _, ext5 hEa (Nat.le_refl _) _ _ _ _ _⟩
end Go.Proofs.Ythggfbpdhkpkjaa
