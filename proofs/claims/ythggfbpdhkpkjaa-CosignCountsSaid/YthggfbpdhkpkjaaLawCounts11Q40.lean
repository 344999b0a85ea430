/-
  law11's made, walked (under way).
-/
import Derived.Test.YthggfbpdhkpkjaaLawCounts11Q33
import Derived.Test.YthggfbpdhkpkjaaLawCounts11Q39
namespace Go.Proofs.Ythggfbpdhkpkjaa
set_option maxRecDepth 100000
open Go Go.RowKit
theorem run_idx_sl4 {P : Program} {w : World} {t e : TypeId} {i0 : TypeInfo} (ht : P.underlying t = some (.slice e)) (hi : P.info? e = some i0) (hs : i0.size = 4) {ad : Addr} {n c : Nat} {k : IntKind} {i : Int} (j : Nat) (hj : i = (j : Int)) (h1 : j < n) :
    (Instr.indexAt t (.slice (some ad) n c) (.int k i)).run P w = .ok (.pointer (some (ad.add (j * 4)))) w := by
  subst hj
  have := run_idx_sl (P := P) (w := w) ht hi hs (ad := ad) (n := n) (c := c) (k := k) (i := (j : Int)) (by omega) (by omega)
  simpa using this
noncomputable def infD : TypeInfo := (Try.prog.info? 131).getD default
theorem infD_eq : Try.prog.info? 131 = some infD := by kernel_rfl
theorem infD_size : infD.size = 4 := by kernel_rfl
noncomputable def infC : TypeInfo := (Try.prog.info? 69).getD default
theorem infC_eq : Try.prog.info? 69 = some infC := by kernel_rfl
theorem infC_size : infC.size = 4 := by kernel_rfl
structure DRec where
  who : Int
  said : Int
  ix : Int
  ot : Bool
def dz : DRec := ⟨0, 0, 0, false⟩
def dr_ (ds : List DRec) (j : Nat) : DRec := ds.getD j dz
def inR (x : Int) : Prop := -9223372036854775808 ≤ x ∧ x ≤ 9223372036854775807
/-- a slice of draws that is read -/
structure RDS (w : World) (A : Option Addr) (n c : Nat) (ds : List DRec) : Prop where
  len : ds.length = n
  room : n ≤ c
  cap : c ≤ maxLen
  cells : 0 < n → ∃ ad, A = some ad ∧ ∀ j, j < n → w.cell? (ad.add (j * 4)) = some (.int .i64 (dr_ ds j).who) ∧ w.cell? ((ad.add (j * 4)).add 1) = some (.int .i64 (dr_ ds j).said) ∧
    w.cell? ((ad.add (j * 4)).add 2) = some (.int .i64 (dr_ ds j).ix) ∧ w.cell? ((ad.add (j * 4)).add 3) = some (.bool (dr_ ds j).ot) ∧ inR (dr_ ds j).who ∧ inR (dr_ ds j).said ∧ inR (dr_ ds j).ix
theorem RDS.ext {w w' : World} {A : Option Addr} {n c : Nat} {ds : List DRec} (h : RDS w A n c ds) (e : Ext w w') : RDS w' A n c ds :=
  ⟨h.len, h.room, h.cap, fun hn => by
    obtain ⟨ad, ha, hc⟩ := h.cells hn
    refine ⟨ad, ha, fun j hj => ?_⟩
    obtain ⟨h1, h2, h3, h4, h5⟩ := hc j hj
    exact ⟨e.cell h1, e.cell h2, e.cell h3, e.cell h4, h5⟩⟩
theorem lenK {x : Int} {R : List UInt8} : (bodyC cosignL x R).length ≤ 1000000 := Nat.le_trans (bodyC_len _ _ _) (by decide)
def MadeI (w : World) (m : Nat) (x : Int) (B : Option Addr) (nb d : Nat) (i o : Value) (wr : World) : Prop :=
  ∃ (k cO : Nat) (O : Option Addr) (vs : List CV) (gs : List CSig), k ≤ m ∧ i = .int .i64 k ∧ o = .slice O k cO ∧ OCS wr w.heap.size O k cO vs gs ∧ Blk wr w.heap.size 24 #[.int .i64 x, .slice B nb d] ∧ Ext w wr
set_option maxHeartbeats 8000000 in
theorem made_any (L : Option Addr) (n c : Nat) (ds : List DRec) (A : Option Addr) (q cA base : Nat) (Ss : List (List UInt8)) (x : Int) (B : Option Addr) (nb d : Nat) (R : List UInt8) (w : World) (hL : RDS w L n c ds) (oA : OwO w base A q cA Ss) (hq0 : 1 ≤ q) (hq1 : q ≤ 4) (rR : RB w B nb d R) :
    Calls Try.prog 48 #[.slice L n c, .slice A q cA, .agg #[.int .i64 x, .slice B nb d]] w fun e w' => ∃ A' m' c' vs gs, e = .returned (.slice A' m' c') ∧ m' ≤ 6 ∧ OCS w' w.heap.size A' m' c' vs gs ∧ Ext w w' := by
  have hl := hL.len
  have hcap := hL.cap
  have hroom := hL.room
  unfold maxLen at hcap
  go_enter Try.func48, Try.ntmps48
  go_wp2_with fail
  have hE0 := Ext.new w (.cells #[.int .i64 x, .slice B nb d] 24)
  have hB5 := Blk.new w 24 #[.int .i64 x, .slice B nb d]
  go_loopw [8, 7] (fun i o wr => MadeI w (min n 6) x B nb d i o wr) (fun i _ _ => min n 6 - (intOf i).toNat)
  case atStart => exact ⟨0, 0, none, [], [], by omega, rfl, rfl, OCS.none_ _ _, hB5, hE0⟩
  case round =>
    clear hB5 hE0
    obtain ⟨k, cO, O, vs, gs, hk, rfl, rfl, own, hB5, hEr⟩ := hrel
    by_cases hlt : k < min n 6
    · have hki : (k : Int) < (n : Int) := by omega
      have hk6 : (k : Int) < 6 := by omega
      have hkn : k < n := by omega
      obtain ⟨ad, rfl, hcl⟩ := (hL.ext hEr).cells (by omega)
      obtain ⟨q0, q1, q2, q3, i0, i1, i2⟩ := hcl k hkn
      clear hcl
      generalize (dr_ ds k).who = who at *
      generalize (dr_ ds k).said = said at *
      generalize (dr_ ds k).ix = ix at *
      generalize (dr_ ds k).ot = ot at *
      have hEn := Ext.new wr (.cells #[.int .i64 x, .slice B nb d] 24)
      have hB9 := Blk.new wr 24 #[.int .i64 x, .slice B nb d]
      have z0 := hB5.cell (i := 0) (v := .int .i64 x) rfl
      have z1 := hB5.cell (i := 1) (v := .slice B nb d) rfl
      have oA1 := (oA.ext hEr).ext hEn
      have rR1 := (rR.ext hEr).ext hEn
      have q01 := hEn.cell q0
      have q11 := hEn.cell q1
      have q21 := hEn.cell q2
      have q31 : (wr.alloc (.cells #[.int .i64 x, .slice B nb d] 24)).cell? ⟨(ad.add (k * 4)).block, (ad.add (k * 4)).off + 3, none⟩ = some (.bool ot) := hEn.cell q3
      clear q3
      obtain ⟨wi, hwi⟩ : ∃ wi, wi = within who 0 ((q : Int) - 1) := ⟨_, rfl⟩
      have hwr := within_in who 0 ((q : Int) - 1) (by omega)
      rw [← hwi] at hwr
      obtain ⟨j, hj⟩ : ∃ j : Nat, wi = (j : Int) := ⟨wi.toNat, (Int.toNat_of_nonneg hwr.1).symm⟩
      have hj1 : j < q := by omega
      have Hw := Lib.hid (show within who 0 ((q : Int) - 1) = (j : Int) by rw [← hwi, hj])
      obtain ⟨kk, hkk⟩ : ∃ kk : Nat, within ix 0 15 = (kk : Int) := ⟨(within ix 0 15).toNat, (Int.toNat_of_nonneg (within_in ix 0 15 (by omega)).1).symm⟩
      have hkk1 : kk < 16 := by have := (within_in ix 0 15 (by omega)).2; omega
      have Hk := Lib.hid hkk
      clear hwi hwr hj hkk
      cases ot with
      | false =>
        go_wp2_with fail
        generalize (wr.alloc (.cells #[.int .i64 x, .slice B nb d] 24)) = w1 at *
        obtain ⟨g9, hg9⟩ : ∃ g9, g9 = wr.heap.size := ⟨_, rfl⟩
        rw [← hg9] at hB9 ⊢
        have hge : wr.heap.size ≤ g9 := by omega
        clear hg9 z0 z1 q31 q0 q1 q2
        refine (within_any who 0 ((q : Int) - 1) w1 i0.1 i0.2 (by omega) (by omega) (by omega)).mono ?_
        rintro e w2 ⟨rfl, rfl⟩
        rw [Hw.out]
        clear Hw i0
        go_upto_region 9 with (fail)
        obtain ⟨gA, gO, bO, BO, rfl, hcO0, oS⟩ := oA1.cell (j := j) hj1
        have hcO : w1.cell? ((⟨gA, 0, none⟩ : Addr).add j) = some (.pointer (some ⟨gO, 0, none⟩)) := by rw [add_plain]; exact hcO0
        obtain ⟨Sd, hSd⟩ : ∃ Sd, Sd = lb Ss j := ⟨_, rfl⟩
        rw [← hSd] at oS
        have rO := oS.own
        have hroomO := oA1.room
        clear hSd oS hcO0
        refine par_ext (n := 16) (by kernel_rfl) [.is (.int .i64 ((j : Int))), .is (.slice ((some ⟨gA, 0, none⟩)) (q) (cA)), .is (.int .i64 ((j : Int))), .is (.pointer (some ((⟨gA, 0, none⟩ : Addr).add (j)))), .is (.pointer (some ⟨gO, 0, none⟩)), .is (.slice ((some ad)) (n) (c)), .is (.int .i64 ((k : Int))), .is (.pointer (some (ad.add (k * 4)))), .is (.pointer (some ((ad.add (k * 4)).add 2))), .is (.int .i64 (ix)), .is (.int .i64 ((kk : Int))), .is (.agg #[.int .i64 (x), .slice (B) (nb) (d)]), .rb (bodyC cosignL x R), .ag [.val (.int .i64 ((kk : Int))), .bb (64) (sigP Sd (bodyC cosignL x R) kk), .bb (4) (pathL Sd kk)], .ag [.val (.int .i64 ((j : Int))), .val (.int .i64 ((kk : Int))), .bb (64) (sigP Sd (bodyC cosignL x R) kk), .bb (4) (pathL Sd kk)], .bk (w1.heap.size) 69 #[.int .i64 ((0 : Int)), .int .i64 ((0 : Int)), .slice (none) (0) (0), .slice (none) (0) (0)]] rfl ⟨?_, ?_, ?_, ?_, ?_, ?_, ?_, ?_, ?_, ?_, ?_, ?_, ?_, ?_, ?_, ?_, trivial⟩ ?_
        · refine stepE rfl fun sdn sa sw sE sd sk => ?_
          have h10 : sa.eval (.tmp 10) = .int .i64 ((j : Int)) := sk.old 10 rfl
          exact Runs.move rfl h10 ⟨Ext.refl _, rfl⟩
        · refine stepE rfl fun sdn sa sw sE sd sk => ?_
          have h1 : sa.eval (.tmp 1) = .slice ((some ⟨gA, 0, none⟩)) (q) (cA) := sk.old 1 rfl
          exact Runs.move rfl h1 ⟨Ext.refl _, rfl⟩
        · refine stepE rfl fun sdn sa sw sE sd sk => ?_
          have h10 : sa.eval (.tmp 10) = .int .i64 ((j : Int)) := sk.old 10 rfl
          exact Runs.move rfl h10 ⟨Ext.refl _, rfl⟩
        · refine stepE rfl fun sdn sa sw sE sd sk => ?_
          have h40 : sa.eval (.tmp 40) = .slice ((some ⟨gA, 0, none⟩)) (q) (cA) := sk.fact 1 40 rfl (sd 1 rfl)
          have h41 : sa.eval (.tmp 41) = .int .i64 ((j : Int)) := sk.fact 2 41 rfl (sd 2 rfl)
          exact Runs.idx rfl h40 h41 (run_idx_sl1 Try.underlying65 infO_eq infO_size (j) (by omega) (by omega)) ⟨Ext.refl _, rfl⟩
        · refine stepE rfl fun sdn sa sw sE sd sk => ?_
          have h42 : sa.eval (.tmp 42) = .pointer (some ((⟨gA, 0, none⟩ : Addr).add (j))) := sk.fact 3 42 rfl (sd 3 rfl)
          exact Runs.load rfl h42 (run_load1 Try.underlying75 rfl (sE.cell hcO)) ⟨Ext.refl _, rfl⟩
        · refine stepE rfl fun sdn sa sw sE sd sk => ?_
          have h0 : sa.eval (.tmp 0) = .slice ((some ad)) (n) (c) := sk.old 0 rfl
          exact Runs.move rfl h0 ⟨Ext.refl _, rfl⟩
        · refine stepE rfl fun sdn sa sw sE sd sk => ?_
          have h8 : sa.eval (.tmp 8) = .int .i64 ((k : Int)) := sk.old 8 rfl
          exact Runs.move rfl h8 ⟨Ext.refl _, rfl⟩
        · refine stepE rfl fun sdn sa sw sE sd sk => ?_
          have h44 : sa.eval (.tmp 44) = .slice ((some ad)) (n) (c) := sk.fact 5 44 rfl (sd 5 rfl)
          have h45 : sa.eval (.tmp 45) = .int .i64 ((k : Int)) := sk.fact 6 45 rfl (sd 6 rfl)
          exact Runs.idx rfl h44 h45 (run_idx_sl4 Try.underlying82 infD_eq infD_size (k) (by omega) (by omega)) ⟨Ext.refl _, rfl⟩
        · refine stepE rfl fun sdn sa sw sE sd sk => ?_
          have h46 : sa.eval (.tmp 46) = .pointer (some (ad.add (k * 4))) := sk.fact 7 46 rfl (sd 7 rfl)
          refine Runs.of_run (r := .pointer (some ((ad.add (k * 4)).add 2))) (w' := sw) ?_ ⟨Ext.refl _, rfl⟩
          unfold execOp
          simp only [h46]
          go_simp
        · refine stepE rfl fun sdn sa sw sE sd sk => ?_
          have h47 : sa.eval (.tmp 47) = .pointer (some ((ad.add (k * 4)).add 2)) := sk.fact 8 47 rfl (sd 8 rfl)
          exact Runs.load rfl h47 (run_load1 Try.underlying3 rfl (sE.cell q21)) ⟨Ext.refl _, rfl⟩
        · refine stepE rfl fun sdn sa sw sE sd sk => ?_
          have h48 : sa.eval (.tmp 48) = .int .i64 (ix) := sk.fact 9 48 rfl (sd 9 rfl)
          refine Runs.call (f := 15) (vs := [.int .i64 (ix), .int .i64 ((0 : Int)), .int .i64 ((15 : Int))]) rfl rfl rfl (by simp only [List.map_toArray, List.map_cons, List.map_nil, h48] <;> rfl) (ent15 _ _) ((within_any ix 0 15 sw i2.1 i2.2 (by omega) (by omega) (by omega)).mono ?_); rintro e w' ⟨rfl, rfl⟩; exact ⟨_, rfl, Ext.refl _, congrArg (Value.int .i64) Hk.out⟩
        · refine stepE rfl fun sdn sa sw sE sd sk => ?_
          have h9 : sa.eval (.tmp 9) = .pointer (some ⟨g9, 0, none⟩) := sk.old 9 rfl
          exact Runs.load rfl h9 (load_part (hB9.ext sE) 0 (vs := [.int .i64 (x), .slice (B) (nb) (d)]) rfl Try.underlying24 rfl (by kernel_rfl)) ⟨Ext.refl _, rfl⟩
        · refine stepE rfl fun sdn sa sw sE sd sk => ?_
          have h50 : sa.eval (.tmp 50) = .agg #[.int .i64 (x), .slice (B) (nb) (d)] := sk.fact 11 50 rfl (sd 11 rfl)
          refine Runs.call (f := 46) (vs := [.agg #[.int .i64 (x), .slice (B) (nb) (d)]]) rfl rfl rfl (by simp only [List.map_toArray, List.map_cons, List.map_nil, h50] <;> rfl) (ent46 _ _) ((rcos_any _ _ _ _ _ sw (rR1.ext sE)).mono ?_); rintro e w' ⟨A', n', c', rfl, own, hx⟩; exact ⟨_, rfl, hx, A', n', c', rfl, own⟩
        · refine stepE rfl fun sdn sa sw sE sd sk => ?_
          have h43 : sa.eval (.tmp 43) = .pointer (some ⟨gO, 0, none⟩) := sk.fact 4 43 rfl (sd 4 rfl)
          have h49 : sa.eval (.tmp 49) = .int .i64 ((kk : Int)) := sk.fact 10 49 rfl (sd 10 rfl)
          obtain ⟨A51, n51, c51, h51, r51⟩ := sk.fact 12 51 rfl (sd 12 rfl)
          refine Runs.call (f := 54) (vs := [.pointer (some ⟨gO, 0, none⟩), .int .i64 ((kk : Int)), .slice (A51) (n51) (c51)]) rfl rfl rfl (by simp only [List.map_toArray, List.map_cons, List.map_nil, h43, h49, h51] <;> rfl) (ent54 _ _) ((rsign_len _ _ _ _ _ kk _ _ sw (rO.ext sE) r51 lenK (by omega)).mono ?_); rintro e w' ⟨P, d, Q, d', rfl, h1, h2, hx⟩; exact ⟨_, rfl, hx, P, d, h1, Q, d', h2, rfl⟩
        · refine stepE rfl fun sdn sa sw sE sd sk => ?_
          have h39 : sa.eval (.tmp 39) = .int .i64 ((j : Int)) := sk.fact 0 39 rfl (sd 0 rfl)
          obtain ⟨A52x0, c52x0, r52x0, A52x1, c52x1, r52x1, h52⟩ := sk.fact 13 52 rfl (sd 13 rfl)
          replace h52 : sa.eval (.tmp 52) = .agg #[.int .i64 ((kk : Int)), .slice (A52x0) (64) (c52x0), .slice (A52x1) (4) (c52x1)] := h52
          refine Runs.of_run (r := .agg #[.int .i64 ((j : Int)), .int .i64 ((kk : Int)), .slice (A52x0) (64) (c52x0), .slice (A52x1) (4) (c52x1)]) (w' := sw) ?_ ⟨Ext.refl _, ⟨_, _, r52x0, _, _, r52x1, rfl⟩⟩
          unfold execOp
          simp only [List.map_toArray, List.map_cons, List.map_nil, h39, h52]
          go_simp
        · refine stepE rfl fun sdn sa sw sE sd sk => ?_
          refine Runs.of_run (r := .pointer (some ⟨sw.heap.size, 0, none⟩)) (w' := sw.alloc (.cells #[.int .i64 ((0 : Int)), .int .i64 ((0 : Int)), .slice (none) (0) (0), .slice (none) (0) (0)] 69)) ?_ ⟨Ext.new _ _, _, rfl, Blk.new _ _ _, sE.size⟩
          unfold execOp
          go_simp
        intro vals W9 hE9 hv9
        have e0 : vals 0 = .int .i64 ((j : Int)) := hv9 0 (by omega) 39 rfl
        have e1 : vals 1 = .slice ((some ⟨gA, 0, none⟩)) (q) (cA) := hv9 1 (by omega) 40 rfl
        have e2 : vals 2 = .int .i64 ((j : Int)) := hv9 2 (by omega) 41 rfl
        have e3 : vals 3 = .pointer (some ((⟨gA, 0, none⟩ : Addr).add (j))) := hv9 3 (by omega) 42 rfl
        have e4 : vals 4 = .pointer (some ⟨gO, 0, none⟩) := hv9 4 (by omega) 43 rfl
        have e5 : vals 5 = .slice ((some ad)) (n) (c) := hv9 5 (by omega) 44 rfl
        have e6 : vals 6 = .int .i64 ((k : Int)) := hv9 6 (by omega) 45 rfl
        have e7 : vals 7 = .pointer (some (ad.add (k * 4))) := hv9 7 (by omega) 46 rfl
        have e8 : vals 8 = .pointer (some ((ad.add (k * 4)).add 2)) := hv9 8 (by omega) 47 rfl
        have e9 : vals 9 = .int .i64 (ix) := hv9 9 (by omega) 48 rfl
        have e10 : vals 10 = .int .i64 ((kk : Int)) := hv9 10 (by omega) 49 rfl
        have e11 : vals 11 = .agg #[.int .i64 (x), .slice (B) (nb) (d)] := hv9 11 (by omega) 50 rfl
        obtain ⟨A51, n51, c51, e12, r51⟩ := hv9 12 (by omega) 51 rfl
        obtain ⟨A52x0, c52x0, r52x0, A52x1, c52x1, r52x1, e13⟩ := hv9 13 (by omega) 52 rfl
        replace e13 : vals 13 = .agg #[.int .i64 ((kk : Int)), .slice (A52x0) (64) (c52x0), .slice (A52x1) (4) (c52x1)] := e13
        obtain ⟨A53x0, c53x0, r53x0, A53x1, c53x1, r53x1, e14⟩ := hv9 14 (by omega) 53 rfl
        replace e14 : vals 14 = .agg #[.int .i64 ((j : Int)), .int .i64 ((kk : Int)), .slice (A53x0) (64) (c53x0), .slice (A53x1) (4) (c53x1)] := e14
        obtain ⟨g11, e15, hb11, gb11⟩ := hv9 15 (by omega) 11 rfl
        simp only [putAll, Act.put, List.take_succ_cons, List.take_zero, List.drop_succ_cons, List.drop_zero, List.drop_nil, List.take_nil, Nat.reduceAdd, List.setIfInBounds_toArray, List.set_cons_succ, List.set_cons_zero, e0, e1, e2, e3, e4, e5, e6, e7, e8, e9, e10, e11, e12, e13, e14, e15]
        clear hv9 e0 e1 e2 e3 e4 e5 e6 e7 e8 e9 e10 e11 e12 e13 e14 e15
        have fhb110 := hb11.frozen 0
        have fhb111 := hb11.frozen 1
        have fhb112 := hb11.frozen 2
        have fhb113 := hb11.frozen 3
        have xhb110 := hb11.cell (i := 0) rfl
        have xhb111 := hb11.cell (i := 1) rfl
        have xhb112 := hb11.cell (i := 2) rfl
        have xhb113 := hb11.cell (i := 3) rfl
        go_upto_region 10 with (fail)
        have rP := r53x0.set4 (by omega) hb11 (j : Int) (kk : Int) A53x0 A53x1 64 c53x0 4 c53x1
        have rQ := r53x1.set4 (by omega) hb11 (j : Int) (kk : Int) A53x0 A53x1 64 c53x0 4 c53x1
        have hB11 := setall4 hb11 (.int .i64 (j : Int)) (.int .i64 (kk : Int)) (.slice A53x0 64 c53x0) (.slice A53x1 4 c53x1)
        have hEs := ext4 hE9 gb11 (.int .i64 (j : Int)) (.int .i64 (kk : Int)) (.slice A53x0 64 c53x0) (.slice A53x1 4 c53x1)
        generalize (((W9.setCell ⟨g11, 0, none⟩ (.int .i64 (j : Int))).setCell ⟨g11, 1, none⟩ (.int .i64 (kk : Int))).setCell ⟨g11, 2, none⟩ (.slice A53x0 64 c53x0)).setCell ⟨g11, 3, none⟩ (.slice A53x1 4 c53x1) = w9 at *
        have hEw := hEn.trans hEs
        have hge11 : wr.heap.size ≤ g11 := Nat.le_trans hEn.size gb11
        have q19 : w9.cell? ⟨(ad.add (k * 4)).block, (ad.add (k * 4)).off + 1, none⟩ = some (.int .i64 said) := hEs.cell q11
        clear r52x0 r52x1 r53x0 r53x1 hb11 gb11 hE9 hEs q21 q11 hB9 rO hcO oA1 Hk i1 i2
        by_cases hs : said.tmod 4 = 0
        · have fs := hB11.frozen 0
          have xs := hB11.cell (i := 0) (v := .int .i64 (j : Int)) rfl
          go_upto_region 12 with (fail)
          have hB12 : Blk (w9.setCell ⟨g11, 0, none⟩ (.int .i64 said)) g11 69 #[.int .i64 said, .int .i64 (kk : Int), .slice A53x0 64 c53x0, .slice A53x1 4 c53x1] := hB11.set 0 _
          have rP2 := rP.away hB11 (nou8 rfl) (grown_set w9 ⟨g11, 0, none⟩ (.int .i64 said)) (fun _ => rP.apart3 hB11 (no3 rfl) (by omega))
          have rQ2 := rQ.away hB11 (nou8 rfl) (grown_set w9 ⟨g11, 0, none⟩ (.int .i64 said)) (fun _ => rQ.apart3 hB11 (no3 rfl) (by omega))
          have hEw2 := hEw.set (p := ⟨g11, 0, none⟩) hge11 (.int .i64 said)
          generalize w9.setCell ⟨g11, 0, none⟩ (.int .i64 said) = wq at *
          clear hB11 rP rQ hEw fs xs q19 hs
          have v0 := hB12.cell (i := 0) (v := .int .i64 said) rfl
          have v1 := hB12.cell (i := 1) (v := .int .i64 (kk : Int)) rfl
          have v2 := hB12.cell (i := 2) (v := .slice A53x0 64 c53x0) rfl
          have v3 := hB12.cell (i := 3) (v := .slice A53x1 4 c53x1) rfl
          have hEx := Ext.new wq (.cells #[.int .i64 said, .int .i64 (kk : Int), .slice A53x0 64 c53x0, .slice A53x1 4 c53x1] 69)
          have hBx := Blk.new wq 69 #[.int .i64 said, .int .i64 (kk : Int), .slice A53x0 64 c53x0, .slice A53x1 4 c53x1]
          have one := RCV.one hBx (rP2.ext hEx) (rQ2.ext hEx)
          have hEz := hEw2.trans hEx
          have own2 := own.ext hEz
          have hB52 := hB5.ext hEz
          have hEq := hEr.trans hEz
          go_wp2_with (refine appcs_law rfl rfl rfl rfl own2 one hEq.size (by omega) (by omega) ?_; intro O5 c5 w5 own5 g5)
          have hB55 := hB52.grown g5 (fun e => own2.ne_blk hB52 (by decide) e.symm)
          have hE5 := hEq.then_grown g5 (fun b hb => (own2.lt hb).1)
          go_roundw
          case rel => exact ⟨k + 1, c5, O5, _, _, by omega, by go_num, rfl, own5, hB55, hE5⟩
          case measure => simp [intOf]; omega
        · go_upto_region 12 with (fail)
          clear q19 hs
          have hw9 : w9 = w9 := rfl
          have v0 := hB11.cell (i := 0) (v := .int .i64 (j : Int)) rfl
          have v1 := hB11.cell (i := 1) (v := .int .i64 (kk : Int)) rfl
          have v2 := hB11.cell (i := 2) (v := .slice A53x0 64 c53x0) rfl
          have v3 := hB11.cell (i := 3) (v := .slice A53x1 4 c53x1) rfl
          have hEx := Ext.new w9 (.cells #[.int .i64 (j : Int), .int .i64 (kk : Int), .slice A53x0 64 c53x0, .slice A53x1 4 c53x1] 69)
          have hBx := Blk.new w9 69 #[.int .i64 (j : Int), .int .i64 (kk : Int), .slice A53x0 64 c53x0, .slice A53x1 4 c53x1]
          have one := RCV.one hBx (rP.ext hEx) (rQ.ext hEx)
          have hEz := hEw.trans hEx
          have own2 := own.ext hEz
          have hB52 := hB5.ext hEz
          have hEq := hEr.trans hEz
          go_wp2_with (refine appcs_law rfl rfl rfl rfl own2 one hEq.size (by omega) (by omega) ?_; intro O5 c5 w5 own5 g5)
          have hB55 := hB52.grown g5 (fun e => own2.ne_blk hB52 (by decide) e.symm)
          have hE5 := hEq.then_grown g5 (fun b hb => (own2.lt hb).1)
          go_roundw
          case rel => exact ⟨k + 1, c5, O5, _, _, by omega, by go_num, rfl, own5, hB55, hE5⟩
          case measure => simp [intOf]; omega
      | true =>
        go_wp2_with fail
        clear rR1
        refine (hash_any 77 _ (by omega) (by omega)).mono ?_
        rintro e w2 ⟨B2, d2, rfl, oR, hE⟩
        have rR0 := oR.rb
        replace hB9 := hB9.ext hE
        replace hEn := hEn.trans hE
        obtain ⟨g9, hg9⟩ : ∃ g9, g9 = wr.heap.size := ⟨_, rfl⟩
        rw [← hg9] at hB9 ⊢
        have hge : wr.heap.size ≤ g9 := by omega
        clear hg9 z0 z1 q31 oR
        have fhB90 := hB9.frozen 0
        have fhB91 := hB9.frozen 1
        have xhB90 := hB9.cell (i := 0) rfl
        have xhB91 := hB9.cell (i := 1) rfl
        have gs := grown_set w2 ⟨g9, 1, none⟩ (.slice B2 32 d2)
        have hB9' : Blk (w2.setCell ⟨g9, 1, none⟩ (.slice B2 32 d2)) g9 24 #[.int .i64 x, .slice B2 32 d2] := hB9.set 1 _
        have rR1 := rR0.grown gs (rR0.apart5 hB9 (nou8 rfl))
        have hEn2 := hEn.set (p := ⟨g9, 1, none⟩) hge (.slice B2 32 d2)
        clear q01 q11 q21 oA1
        have q01 := hEn2.cell q0
        have q11 := hEn2.cell q1
        have q21 := hEn2.cell q2
        have oA1 := (oA.ext hEr).ext hEn2
        clear q0 q1 q2
        go_wp2_with fail
        clear fhB90 xhB90 fhB91 xhB91
        clear hB9 hEn gs rR0 hE
        generalize w2.setCell ⟨g9, 1, none⟩ (.slice B2 32 d2) = w1 at *
        have hB9 := hB9'
        have hEn := hEn2
        clear hB9' hEn2
        refine (within_any who 0 ((q : Int) - 1) w1 i0.1 i0.2 (by omega) (by omega) (by omega)).mono ?_
        rintro e w2 ⟨rfl, rfl⟩
        rw [Hw.out]
        clear Hw i0
        go_upto_region 9 with (fail)
        obtain ⟨gA, gO, bO, BO, rfl, hcO0, oS⟩ := oA1.cell (j := j) hj1
        have hcO : w1.cell? ((⟨gA, 0, none⟩ : Addr).add j) = some (.pointer (some ⟨gO, 0, none⟩)) := by rw [add_plain]; exact hcO0
        obtain ⟨Sd, hSd⟩ : ∃ Sd, Sd = lb Ss j := ⟨_, rfl⟩
        rw [← hSd] at oS
        have rO := oS.own
        have hroomO := oA1.room
        clear hSd oS hcO0
        refine par_ext (n := 16) (by kernel_rfl) [.is (.int .i64 ((j : Int))), .is (.slice ((some ⟨gA, 0, none⟩)) (q) (cA)), .is (.int .i64 ((j : Int))), .is (.pointer (some ((⟨gA, 0, none⟩ : Addr).add (j)))), .is (.pointer (some ⟨gO, 0, none⟩)), .is (.slice ((some ad)) (n) (c)), .is (.int .i64 ((k : Int))), .is (.pointer (some (ad.add (k * 4)))), .is (.pointer (some ((ad.add (k * 4)).add 2))), .is (.int .i64 (ix)), .is (.int .i64 ((kk : Int))), .is (.agg #[.int .i64 (x), .slice (B2) (32) (d2)]), .rb (bodyC cosignL x (khash 77)), .ag [.val (.int .i64 ((kk : Int))), .bb (64) (sigP Sd (bodyC cosignL x (khash 77)) kk), .bb (4) (pathL Sd kk)], .ag [.val (.int .i64 ((j : Int))), .val (.int .i64 ((kk : Int))), .bb (64) (sigP Sd (bodyC cosignL x (khash 77)) kk), .bb (4) (pathL Sd kk)], .bk (w1.heap.size) 69 #[.int .i64 ((0 : Int)), .int .i64 ((0 : Int)), .slice (none) (0) (0), .slice (none) (0) (0)]] rfl ⟨?_, ?_, ?_, ?_, ?_, ?_, ?_, ?_, ?_, ?_, ?_, ?_, ?_, ?_, ?_, ?_, trivial⟩ ?_
        · refine stepE rfl fun sdn sa sw sE sd sk => ?_
          have h10 : sa.eval (.tmp 10) = .int .i64 ((j : Int)) := sk.old 10 rfl
          exact Runs.move rfl h10 ⟨Ext.refl _, rfl⟩
        · refine stepE rfl fun sdn sa sw sE sd sk => ?_
          have h1 : sa.eval (.tmp 1) = .slice ((some ⟨gA, 0, none⟩)) (q) (cA) := sk.old 1 rfl
          exact Runs.move rfl h1 ⟨Ext.refl _, rfl⟩
        · refine stepE rfl fun sdn sa sw sE sd sk => ?_
          have h10 : sa.eval (.tmp 10) = .int .i64 ((j : Int)) := sk.old 10 rfl
          exact Runs.move rfl h10 ⟨Ext.refl _, rfl⟩
        · refine stepE rfl fun sdn sa sw sE sd sk => ?_
          have h40 : sa.eval (.tmp 40) = .slice ((some ⟨gA, 0, none⟩)) (q) (cA) := sk.fact 1 40 rfl (sd 1 rfl)
          have h41 : sa.eval (.tmp 41) = .int .i64 ((j : Int)) := sk.fact 2 41 rfl (sd 2 rfl)
          exact Runs.idx rfl h40 h41 (run_idx_sl1 Try.underlying65 infO_eq infO_size (j) (by omega) (by omega)) ⟨Ext.refl _, rfl⟩
        · refine stepE rfl fun sdn sa sw sE sd sk => ?_
          have h42 : sa.eval (.tmp 42) = .pointer (some ((⟨gA, 0, none⟩ : Addr).add (j))) := sk.fact 3 42 rfl (sd 3 rfl)
          exact Runs.load rfl h42 (run_load1 Try.underlying75 rfl (sE.cell hcO)) ⟨Ext.refl _, rfl⟩
        · refine stepE rfl fun sdn sa sw sE sd sk => ?_
          have h0 : sa.eval (.tmp 0) = .slice ((some ad)) (n) (c) := sk.old 0 rfl
          exact Runs.move rfl h0 ⟨Ext.refl _, rfl⟩
        · refine stepE rfl fun sdn sa sw sE sd sk => ?_
          have h8 : sa.eval (.tmp 8) = .int .i64 ((k : Int)) := sk.old 8 rfl
          exact Runs.move rfl h8 ⟨Ext.refl _, rfl⟩
        · refine stepE rfl fun sdn sa sw sE sd sk => ?_
          have h44 : sa.eval (.tmp 44) = .slice ((some ad)) (n) (c) := sk.fact 5 44 rfl (sd 5 rfl)
          have h45 : sa.eval (.tmp 45) = .int .i64 ((k : Int)) := sk.fact 6 45 rfl (sd 6 rfl)
          exact Runs.idx rfl h44 h45 (run_idx_sl4 Try.underlying82 infD_eq infD_size (k) (by omega) (by omega)) ⟨Ext.refl _, rfl⟩
        · refine stepE rfl fun sdn sa sw sE sd sk => ?_
          have h46 : sa.eval (.tmp 46) = .pointer (some (ad.add (k * 4))) := sk.fact 7 46 rfl (sd 7 rfl)
          refine Runs.of_run (r := .pointer (some ((ad.add (k * 4)).add 2))) (w' := sw) ?_ ⟨Ext.refl _, rfl⟩
          unfold execOp
          simp only [h46]
          go_simp
        · refine stepE rfl fun sdn sa sw sE sd sk => ?_
          have h47 : sa.eval (.tmp 47) = .pointer (some ((ad.add (k * 4)).add 2)) := sk.fact 8 47 rfl (sd 8 rfl)
          exact Runs.load rfl h47 (run_load1 Try.underlying3 rfl (sE.cell q21)) ⟨Ext.refl _, rfl⟩
        · refine stepE rfl fun sdn sa sw sE sd sk => ?_
          have h48 : sa.eval (.tmp 48) = .int .i64 (ix) := sk.fact 9 48 rfl (sd 9 rfl)
          refine Runs.call (f := 15) (vs := [.int .i64 (ix), .int .i64 ((0 : Int)), .int .i64 ((15 : Int))]) rfl rfl rfl (by simp only [List.map_toArray, List.map_cons, List.map_nil, h48] <;> rfl) (ent15 _ _) ((within_any ix 0 15 sw i2.1 i2.2 (by omega) (by omega) (by omega)).mono ?_); rintro e w' ⟨rfl, rfl⟩; exact ⟨_, rfl, Ext.refl _, congrArg (Value.int .i64) Hk.out⟩
        · refine stepE rfl fun sdn sa sw sE sd sk => ?_
          have h9 : sa.eval (.tmp 9) = .pointer (some ⟨g9, 0, none⟩) := sk.old 9 rfl
          exact Runs.load rfl h9 (load_part (hB9.ext sE) 0 (vs := [.int .i64 (x), .slice (B2) (32) (d2)]) rfl Try.underlying24 rfl (by kernel_rfl)) ⟨Ext.refl _, rfl⟩
        · refine stepE rfl fun sdn sa sw sE sd sk => ?_
          have h50 : sa.eval (.tmp 50) = .agg #[.int .i64 (x), .slice (B2) (32) (d2)] := sk.fact 11 50 rfl (sd 11 rfl)
          refine Runs.call (f := 46) (vs := [.agg #[.int .i64 (x), .slice (B2) (32) (d2)]]) rfl rfl rfl (by simp only [List.map_toArray, List.map_cons, List.map_nil, h50] <;> rfl) (ent46 _ _) ((rcos_any _ _ _ _ _ sw (rR1.ext sE)).mono ?_); rintro e w' ⟨A', n', c', rfl, own, hx⟩; exact ⟨_, rfl, hx, A', n', c', rfl, own⟩
        · refine stepE rfl fun sdn sa sw sE sd sk => ?_
          have h43 : sa.eval (.tmp 43) = .pointer (some ⟨gO, 0, none⟩) := sk.fact 4 43 rfl (sd 4 rfl)
          have h49 : sa.eval (.tmp 49) = .int .i64 ((kk : Int)) := sk.fact 10 49 rfl (sd 10 rfl)
          obtain ⟨A51, n51, c51, h51, r51⟩ := sk.fact 12 51 rfl (sd 12 rfl)
          refine Runs.call (f := 54) (vs := [.pointer (some ⟨gO, 0, none⟩), .int .i64 ((kk : Int)), .slice (A51) (n51) (c51)]) rfl rfl rfl (by simp only [List.map_toArray, List.map_cons, List.map_nil, h43, h49, h51] <;> rfl) (ent54 _ _) ((rsign_len _ _ _ _ _ kk _ _ sw (rO.ext sE) r51 lenK (by omega)).mono ?_); rintro e w' ⟨P, d, Q, d', rfl, h1, h2, hx⟩; exact ⟨_, rfl, hx, P, d, h1, Q, d', h2, rfl⟩
        · refine stepE rfl fun sdn sa sw sE sd sk => ?_
          have h39 : sa.eval (.tmp 39) = .int .i64 ((j : Int)) := sk.fact 0 39 rfl (sd 0 rfl)
          obtain ⟨A52x0, c52x0, r52x0, A52x1, c52x1, r52x1, h52⟩ := sk.fact 13 52 rfl (sd 13 rfl)
          replace h52 : sa.eval (.tmp 52) = .agg #[.int .i64 ((kk : Int)), .slice (A52x0) (64) (c52x0), .slice (A52x1) (4) (c52x1)] := h52
          refine Runs.of_run (r := .agg #[.int .i64 ((j : Int)), .int .i64 ((kk : Int)), .slice (A52x0) (64) (c52x0), .slice (A52x1) (4) (c52x1)]) (w' := sw) ?_ ⟨Ext.refl _, ⟨_, _, r52x0, _, _, r52x1, rfl⟩⟩
          unfold execOp
          simp only [List.map_toArray, List.map_cons, List.map_nil, h39, h52]
          go_simp
        · refine stepE rfl fun sdn sa sw sE sd sk => ?_
          refine Runs.of_run (r := .pointer (some ⟨sw.heap.size, 0, none⟩)) (w' := sw.alloc (.cells #[.int .i64 ((0 : Int)), .int .i64 ((0 : Int)), .slice (none) (0) (0), .slice (none) (0) (0)] 69)) ?_ ⟨Ext.new _ _, _, rfl, Blk.new _ _ _, sE.size⟩
          unfold execOp
          go_simp
        intro vals W9 hE9 hv9
        have e0 : vals 0 = .int .i64 ((j : Int)) := hv9 0 (by omega) 39 rfl
        have e1 : vals 1 = .slice ((some ⟨gA, 0, none⟩)) (q) (cA) := hv9 1 (by omega) 40 rfl
        have e2 : vals 2 = .int .i64 ((j : Int)) := hv9 2 (by omega) 41 rfl
        have e3 : vals 3 = .pointer (some ((⟨gA, 0, none⟩ : Addr).add (j))) := hv9 3 (by omega) 42 rfl
        have e4 : vals 4 = .pointer (some ⟨gO, 0, none⟩) := hv9 4 (by omega) 43 rfl
        have e5 : vals 5 = .slice ((some ad)) (n) (c) := hv9 5 (by omega) 44 rfl
        have e6 : vals 6 = .int .i64 ((k : Int)) := hv9 6 (by omega) 45 rfl
        have e7 : vals 7 = .pointer (some (ad.add (k * 4))) := hv9 7 (by omega) 46 rfl
        have e8 : vals 8 = .pointer (some ((ad.add (k * 4)).add 2)) := hv9 8 (by omega) 47 rfl
        have e9 : vals 9 = .int .i64 (ix) := hv9 9 (by omega) 48 rfl
        have e10 : vals 10 = .int .i64 ((kk : Int)) := hv9 10 (by omega) 49 rfl
        have e11 : vals 11 = .agg #[.int .i64 (x), .slice (B2) (32) (d2)] := hv9 11 (by omega) 50 rfl
        obtain ⟨A51, n51, c51, e12, r51⟩ := hv9 12 (by omega) 51 rfl
        obtain ⟨A52x0, c52x0, r52x0, A52x1, c52x1, r52x1, e13⟩ := hv9 13 (by omega) 52 rfl
        replace e13 : vals 13 = .agg #[.int .i64 ((kk : Int)), .slice (A52x0) (64) (c52x0), .slice (A52x1) (4) (c52x1)] := e13
        obtain ⟨A53x0, c53x0, r53x0, A53x1, c53x1, r53x1, e14⟩ := hv9 14 (by omega) 53 rfl
        replace e14 : vals 14 = .agg #[.int .i64 ((j : Int)), .int .i64 ((kk : Int)), .slice (A53x0) (64) (c53x0), .slice (A53x1) (4) (c53x1)] := e14
        obtain ⟨g11, e15, hb11, gb11⟩ := hv9 15 (by omega) 11 rfl
        simp only [putAll, Act.put, List.take_succ_cons, List.take_zero, List.drop_succ_cons, List.drop_zero, List.drop_nil, List.take_nil, Nat.reduceAdd, List.setIfInBounds_toArray, List.set_cons_succ, List.set_cons_zero, e0, e1, e2, e3, e4, e5, e6, e7, e8, e9, e10, e11, e12, e13, e14, e15]
        clear hv9 e0 e1 e2 e3 e4 e5 e6 e7 e8 e9 e10 e11 e12 e13 e14 e15
        have fhb110 := hb11.frozen 0
        have fhb111 := hb11.frozen 1
        have fhb112 := hb11.frozen 2
        have fhb113 := hb11.frozen 3
        have xhb110 := hb11.cell (i := 0) rfl
        have xhb111 := hb11.cell (i := 1) rfl
        have xhb112 := hb11.cell (i := 2) rfl
        have xhb113 := hb11.cell (i := 3) rfl
        go_upto_region 10 with (fail)
        have rP := r53x0.set4 (by omega) hb11 (j : Int) (kk : Int) A53x0 A53x1 64 c53x0 4 c53x1
        have rQ := r53x1.set4 (by omega) hb11 (j : Int) (kk : Int) A53x0 A53x1 64 c53x0 4 c53x1
        have hB11 := setall4 hb11 (.int .i64 (j : Int)) (.int .i64 (kk : Int)) (.slice A53x0 64 c53x0) (.slice A53x1 4 c53x1)
        have hEs := ext4 hE9 gb11 (.int .i64 (j : Int)) (.int .i64 (kk : Int)) (.slice A53x0 64 c53x0) (.slice A53x1 4 c53x1)
        generalize (((W9.setCell ⟨g11, 0, none⟩ (.int .i64 (j : Int))).setCell ⟨g11, 1, none⟩ (.int .i64 (kk : Int))).setCell ⟨g11, 2, none⟩ (.slice A53x0 64 c53x0)).setCell ⟨g11, 3, none⟩ (.slice A53x1 4 c53x1) = w9 at *
        have hEw := hEn.trans hEs
        have hge11 : wr.heap.size ≤ g11 := Nat.le_trans hEn.size gb11
        have q19 : w9.cell? ⟨(ad.add (k * 4)).block, (ad.add (k * 4)).off + 1, none⟩ = some (.int .i64 said) := hEs.cell q11
        clear r52x0 r52x1 r53x0 r53x1 hb11 gb11 hE9 hEs q21 q11 hB9 rO hcO oA1 Hk i1 i2
        by_cases hs : said.tmod 4 = 0
        · have fs := hB11.frozen 0
          have xs := hB11.cell (i := 0) (v := .int .i64 (j : Int)) rfl
          go_upto_region 12 with (fail)
          have hB12 : Blk (w9.setCell ⟨g11, 0, none⟩ (.int .i64 said)) g11 69 #[.int .i64 said, .int .i64 (kk : Int), .slice A53x0 64 c53x0, .slice A53x1 4 c53x1] := hB11.set 0 _
          have rP2 := rP.away hB11 (nou8 rfl) (grown_set w9 ⟨g11, 0, none⟩ (.int .i64 said)) (fun _ => rP.apart3 hB11 (no3 rfl) (by omega))
          have rQ2 := rQ.away hB11 (nou8 rfl) (grown_set w9 ⟨g11, 0, none⟩ (.int .i64 said)) (fun _ => rQ.apart3 hB11 (no3 rfl) (by omega))
          have hEw2 := hEw.set (p := ⟨g11, 0, none⟩) hge11 (.int .i64 said)
          generalize w9.setCell ⟨g11, 0, none⟩ (.int .i64 said) = wq at *
          clear hB11 rP rQ hEw fs xs q19 hs
          have v0 := hB12.cell (i := 0) (v := .int .i64 said) rfl
          have v1 := hB12.cell (i := 1) (v := .int .i64 (kk : Int)) rfl
          have v2 := hB12.cell (i := 2) (v := .slice A53x0 64 c53x0) rfl
          have v3 := hB12.cell (i := 3) (v := .slice A53x1 4 c53x1) rfl
          have hEx := Ext.new wq (.cells #[.int .i64 said, .int .i64 (kk : Int), .slice A53x0 64 c53x0, .slice A53x1 4 c53x1] 69)
          have hBx := Blk.new wq 69 #[.int .i64 said, .int .i64 (kk : Int), .slice A53x0 64 c53x0, .slice A53x1 4 c53x1]
          have one := RCV.one hBx (rP2.ext hEx) (rQ2.ext hEx)
          have hEz := hEw2.trans hEx
          have own2 := own.ext hEz
          have hB52 := hB5.ext hEz
          have hEq := hEr.trans hEz
          go_wp2_with (refine appcs_law rfl rfl rfl rfl own2 one hEq.size (by omega) (by omega) ?_; intro O5 c5 w5 own5 g5)
          have hB55 := hB52.grown g5 (fun e => own2.ne_blk hB52 (by decide) e.symm)
          have hE5 := hEq.then_grown g5 (fun b hb => (own2.lt hb).1)
          go_roundw
          case rel => exact ⟨k + 1, c5, O5, _, _, by omega, by go_num, rfl, own5, hB55, hE5⟩
          case measure => simp [intOf]; omega
        · go_upto_region 12 with (fail)
          clear q19 hs
          have hw9 : w9 = w9 := rfl
          have v0 := hB11.cell (i := 0) (v := .int .i64 (j : Int)) rfl
          have v1 := hB11.cell (i := 1) (v := .int .i64 (kk : Int)) rfl
          have v2 := hB11.cell (i := 2) (v := .slice A53x0 64 c53x0) rfl
          have v3 := hB11.cell (i := 3) (v := .slice A53x1 4 c53x1) rfl
          have hEx := Ext.new w9 (.cells #[.int .i64 (j : Int), .int .i64 (kk : Int), .slice A53x0 64 c53x0, .slice A53x1 4 c53x1] 69)
          have hBx := Blk.new w9 69 #[.int .i64 (j : Int), .int .i64 (kk : Int), .slice A53x0 64 c53x0, .slice A53x1 4 c53x1]
          have one := RCV.one hBx (rP.ext hEx) (rQ.ext hEx)
          have hEz := hEw.trans hEx
          have own2 := own.ext hEz
          have hB52 := hB5.ext hEz
          have hEq := hEr.trans hEz
          go_wp2_with (refine appcs_law rfl rfl rfl rfl own2 one hEq.size (by omega) (by omega) ?_; intro O5 c5 w5 own5 g5)
          have hB55 := hB52.grown g5 (fun e => own2.ne_blk hB52 (by decide) e.symm)
          have hE5 := hEq.then_grown g5 (fun b hb => (own2.lt hb).1)
          go_roundw
          case rel => exact ⟨k + 1, c5, O5, _, _, by omega, by go_num, rfl, own5, hB55, hE5⟩
          case measure => simp [intOf]; omega
    · by_cases hpn : k < n
      · have a1 : (k : Int) < (n : Int) := by omega
        have a2 : ¬ ((k : Int) < 6) := by omega
        have hk6 : k ≤ 6 := by omega
        clear hlt hpn
        go_wp2_with fail
        go_ret
        exact ⟨O, k, cO, rfl, hk6, ⟨vs, gs, own⟩, hEr⟩
      · have a1 : ¬ ((k : Int) < (n : Int)) := by omega
        have hk6 : k ≤ 6 := by omega
        clear hlt hpn
        go_wp2_with fail
        go_ret
        exact ⟨O, k, cO, rfl, hk6, ⟨vs, gs, own⟩, hEr⟩
end Go.Proofs.Ythggfbpdhkpkjaa
