/-
  ref10's Count, walked.
-/
import Derived.Test.YtkndgpjamijbbaaLawCom26Q25
namespace Go.Proofs.Ytkndgpjamijbbaa
set_option maxRecDepth 100000
open Go Go.RowKit
theorem load_cs {w : World} {p : Addr} {v0 v1 v2 v3 : Value} (h0 : w.cell? p = some v0) (h1 : w.cell? (p.add 1) = some v1) (h2 : w.cell? (p.add 2) = some v2) (h3 : w.cell? (p.add 3) = some v3) :
    (Instr.loadAt 104 (.pointer (some p))).run Try.prog w = .ok (.agg #[v0, v1, v2, v3]) w := by
  have e1 : w.cell? ⟨p.block, p.off + 1, none⟩ = some v1 := h1
  have e2 : w.cell? ⟨p.block, p.off + 2, none⟩ = some v2 := h2
  have e3 : w.cell? ⟨p.block, p.off + 3, none⟩ = some v3 := h3
  go_simp
theorem cosB_in {LG : List UInt8} {Ws : List (List UInt8)} {q x : Int} {R : List UInt8} {wn k : Int} {Ps Qs : List (List UInt8)} (h : cosB LG Ws q x R wn k Ps Qs = true) : 0 ≤ wn ∧ wn < 4 ∧ wn < (Ws.length : Int) := by
  unfold cosB polB at h
  simp only [Bool.and_eq_true, decide_eq_true_eq] at h
  omega
noncomputable def infBo : TypeInfo := (Try.prog.info? 4).getD default
theorem infBo_eq : Try.prog.info? 4 = some infBo := by kernel_rfl
theorem infBo_size : infBo.size = 1 := by kernel_rfl
theorem info_bo : (Try.prog.info? 4).map (fun i => (i.zero, i.size, i.bytes)) = some (some (.bool false), 1, 1) := by kernel_rfl
theorem make4_law {ops : Array Oper} {rest : List Oper} {o : Oper} {a : Act} {Q : Exit → Act → World → Prop} {w : World} (hgd : o.guard = none) {x y : Operand} (ho : o.op = .makeSlice 108 x y) (hx : a.eval x = .int .i64 4) (hy : a.eval y = .int .i64 4)
    (h : ∀ w', Blk w' w.heap.size 4 #[.bool false, .bool false, .bool false, .bool false] → Ext w w' → wpList Try.prog ops Q rest (a.put o.dst (.slice (some ⟨w.heap.size, 0, none⟩) 4 4)) w') : wpList Try.prog ops Q (o :: rest) a w := by
  obtain ⟨i0, hi0, hz0, hz1, hz2⟩ := info_parts info_bo
  obtain ⟨w', hr, h1, h2⟩ := run_make_full (P := Try.prog) w w.heap.size 108 4 i0 (.bool false) 1 Try.underlying108 hi0 hz0 hz1 .i64 .i64 4 (by rw [hz2]; omega) (small_maxLen (by omega)) (Nat.le_refl _)
  refine run_law hgd (v := .slice (some ⟨w.heap.size, 0, none⟩) 4 4) (w' := w') ?_ (h w' ?_ (Ext.grown h2))
  · unfold execOp
    have hr' : (Instr.makeSlice 108 (.int .i64 4) (.int .i64 4)).run Try.prog w = .ok (.slice (some ⟨w.heap.size, 0, none⟩) 4 4) w' := hr
    simp only [ho, hx, hy, Sem.run_bind, hr', Result.andThen_ok, Sem.run_pure]
  · rcases h1.2 with ⟨e, _⟩ | ⟨g, cap, cur, e, _, hg, _, _, hcs, ht⟩
    · cases e
    · injection e with e1 e2 e3
      injection e1 with e1
      injection e1 with e1 _ _
      subst e1 e3
      have hl : cur.toList.length = 4 := by rw [Array.length_toList, hcs]
      have hc : cur = #[.bool false, .bool false, .bool false, .bool false] := by
        apply Array.toList_inj.1
        rw [← List.take_of_length_le (Nat.le_of_eq hl)]
        exact ht.trans (by kernel_rfl)
      rw [hc] at hg
      exact hg
def RCntI (w : World) (g3 g4 gS : Nat) (po ch : Array Value) (v : CSig → Bool) (gs : List CSig) (x i : Value) (wr : World) : Prop :=
  ∃ m : Nat, m ≤ gs.length ∧ i = .int .i64 m ∧ x = .int .i64 (cntL v (gs.take m)) ∧ Blk wr gS 4 (boolsA (seenL v (gs.take m))) ∧ Blk wr g3 52 po ∧ Blk wr g4 54 ch ∧ Ext w wr
set_option maxHeartbeats 16000000 in
theorem rcount_any (G A B L : Option Addr) (ng cg n c nb d nl cl : Nat) (q x : Int) (LG R : List UInt8) (Ws : List (List UInt8)) (gs : List CSig) (w : World) (rG : RB w G ng cg LG) (rW : RBB w A n c Ws) (rR : RB w B nb d R) (rL : RCS w L nl cl gs) :
    Calls Try.prog 34 #[.agg #[.slice G ng cg, .slice A n c, .int .i64 q], .agg #[.int .i64 x, .slice B nb d], .slice L nl cl] w fun e w' => e = .returned (.int .i64 (cntL (fun g => cosB LG Ws q x R g.wn g.k g.ps g.qs) gs)) ∧ Ext w w' := by
  obtain ⟨v, hv⟩ : ∃ v : CSig → Bool, v = fun g => cosB LG Ws q x R g.wn g.k g.ps g.qs := ⟨_, rfl⟩
  rw [← hv]
  have Hv := Lib.hid hv
  have hll := rL.len
  have Hll := Lib.hid hll
  have hcap := rL.cap
  have hroom := rL.room
  unfold maxLen at hcap
  clear hv hll
  go_enter Try.func34, Try.ntmps34
  go_wp2_with (refine make4_law rfl rfl rfl rfl ?_; intro w1 hBS hE1)
  have hEa := Ext.new w (.cells #[.slice G ng cg, .slice A n c, .int .i64 q] 52)
  have hB3 := Blk.new w 52 #[.slice G ng cg, .slice A n c, .int .i64 q]
  have hEn := Ext.new (w.alloc (.cells #[.slice G ng cg, .slice A n c, .int .i64 q] 52)) (.cells #[.int .i64 x, .slice B nb d] 54)
  have hB4 := Blk.new (w.alloc (.cells #[.slice G ng cg, .slice A n c, .int .i64 q] 52)) 54 #[.int .i64 x, .slice B nb d]
  rw [World.size_alloc] at hB4
  rw [World.size_alloc, World.size_alloc] at hBS
  replace hB3 := (hB3.ext hEn).ext hE1
  replace hB4 := hB4.ext hE1
  replace hEa := (hEa.trans hEn).trans hE1
  clear hEn hE1
  have hg3 : w.heap.size ≤ w.heap.size + 1 + 1 := by omega
  have hd1 : w.heap.size ≠ w.heap.size + 1 + 1 := by omega
  have hd2 : w.heap.size + 1 ≠ w.heap.size + 1 + 1 := by omega
  generalize w.heap.size + 1 + 1 = gS at *
  generalize w.heap.size + 1 = g4 at *
  obtain ⟨g3, hg⟩ : ∃ g3, g3 = w.heap.size := ⟨_, rfl⟩
  rw [← hg] at hB3 hd1 hg3 ⊢
  replace hBS : Blk w1 gS 4 (boolsA (seenL v (gs.take 0))) := hBS
  have Hg := Lib.hid (And.intro hg hg3)
  clear hg3 hg
  go_loopw [9, 8] (fun i x_ wr => RCntI w g3 g4 gS #[.slice G ng cg, .slice A n c, .int .i64 q] #[.int .i64 x, .slice B nb d] v gs x_ i wr) (fun i _ _ => nl - (intOf i).toNat)
  case atStart => exact ⟨0, by omega, rfl, rfl, hBS, hB3, hB4, hEa⟩
  case round =>
    clear hBS hB3 hB4 hEa
    obtain ⟨m, hm, rfl, rfl, hBS, hB3, hB4, hEr⟩ := hrel
    rw [Hll.out] at hm
    by_cases hlt : m < nl
    · have hmi : (m : Int) < (nl : Int) := by omega
      have hsn := take_snoc_cg gs m (by rw [Hll.out]; exact hlt)
      have Hsn := Lib.hid hsn
      obtain ⟨ad, rfl, hcl⟩ := (rL.ext hEr).cells (by omega)
      obtain ⟨P, np, cp, Q, nq, cq, k0, k1, k2, k3, rP, rQ⟩ := hcl m hlt
      have hvg : v (cg_ gs m) = cosB LG Ws q x R (cg_ gs m).wn (cg_ gs m).k (cg_ gs m).ps (cg_ gs m).qs := by rw [Hv.out]
      clear hcl hsn
      generalize cg_ gs m = g at *
      obtain ⟨wn, k, PS, QS⟩ := g
      have rG1 := rG.ext hEr
      have rW1 := rW.ext hEr
      have rR1 := rR.ext hEr
      cases hcb : cosB LG Ws q x R wn k PS QS with
      | false =>
        have hvf : v ⟨wn, k, PS, QS⟩ = false := hvg.trans hcb
        have hcs := cnt_same (v := v) (gs := gs.take m) (g := ⟨wn, k, PS, QS⟩) (fun i hi _ h2 => by rw [hvf] at h2; cases h2)
        rw [← Hsn.out] at hcs
        have hcn := cntL_same hcs
        have Hcs := Lib.hid hcs
        have Hcn := Lib.hid hcn
        have Hcb := Lib.hid hcb
        clear hcs hcn hvf hvg hcb
        go_upto_region 6 with (fail)
        refine par_ext (n := 18) (by kernel_rfl) [.is (.agg #[.slice (G) (ng) (cg), .slice (A) (n) (c), .int .i64 (q)]), .is (.agg #[.int .i64 (x), .slice (B) (nb) (d)]), .is (.slice ((some ad)) (nl) (cl)), .is (.int .i64 ((m : Int))), .is (.pointer (some (ad.add (m * 4)))), .is (.agg #[.int .i64 (wn), .int .i64 (k), .slice (P) (np) (cp), .slice (Q) (nq) (cq)]), .is (.bool (false)), .is (.bool (false)), .is undef, .is undef, .is undef, .is undef, .is undef, .is undef, .is undef, .is undef, .is undef, .is (.bool (false))] rfl ⟨?_, ?_, ?_, ?_, ?_, ?_, ?_, ?_, ?_, ?_, ?_, ?_, ?_, ?_, ?_, ?_, ?_, ?_, trivial⟩ ?_
        · refine stepE rfl fun sdn sa sw sE sd sk => ?_
          have h3 : sa.eval (.tmp 3) = .pointer (some ⟨g3, 0, none⟩) := sk.old 3 rfl
          exact Runs.load rfl h3 (load_part (hB3.ext sE) 0 (vs := [.slice (G) (ng) (cg), .slice (A) (n) (c), .int .i64 (q)]) rfl Try.underlying52 rfl (by kernel_rfl)) ⟨Ext.refl _, rfl⟩
        · refine stepE rfl fun sdn sa sw sE sd sk => ?_
          have h4 : sa.eval (.tmp 4) = .pointer (some ⟨g4, 0, none⟩) := sk.old 4 rfl
          exact Runs.load rfl h4 (load_part (hB4.ext sE) 0 (vs := [.int .i64 (x), .slice (B) (nb) (d)]) rfl Try.underlying54 rfl (by kernel_rfl)) ⟨Ext.refl _, rfl⟩
        · refine stepE rfl fun sdn sa sw sE sd sk => ?_
          have h2 : sa.eval (.tmp 2) = .slice ((some ad)) (nl) (cl) := sk.old 2 rfl
          exact Runs.move rfl h2 ⟨Ext.refl _, rfl⟩
        · refine stepE rfl fun sdn sa sw sE sd sk => ?_
          have h9 : sa.eval (.tmp 9) = .int .i64 ((m : Int)) := sk.old 9 rfl
          exact Runs.move rfl h9 ⟨Ext.refl _, rfl⟩
        · refine stepE rfl fun sdn sa sw sE sd sk => ?_
          have h19 : sa.eval (.tmp 19) = .slice ((some ad)) (nl) (cl) := sk.fact 2 19 rfl (sd 2 rfl)
          have h20 : sa.eval (.tmp 20) = .int .i64 ((m : Int)) := sk.fact 3 20 rfl (sd 3 rfl)
          exact Runs.idx rfl h19 h20 (run_idx_sl4 Try.underlying55 infC_eq infC_size (m) (by omega) (by omega)) ⟨Ext.refl _, rfl⟩
        · refine stepE rfl fun sdn sa sw sE sd sk => ?_
          have h21 : sa.eval (.tmp 21) = .pointer (some (ad.add (m * 4))) := sk.fact 4 21 rfl (sd 4 rfl)
          exact Runs.load rfl h21 (load_cs (sE.cell k0) (sE.cell k1) (sE.cell k2) (sE.cell k3)) ⟨Ext.refl _, rfl⟩
        · refine stepE rfl fun sdn sa sw sE sd sk => ?_
          have h17 : sa.eval (.tmp 17) = .agg #[.slice (G) (ng) (cg), .slice (A) (n) (c), .int .i64 (q)] := sk.fact 0 17 rfl (sd 0 rfl)
          have h18 : sa.eval (.tmp 18) = .agg #[.int .i64 (x), .slice (B) (nb) (d)] := sk.fact 1 18 rfl (sd 1 rfl)
          have h22 : sa.eval (.tmp 22) = .agg #[.int .i64 (wn), .int .i64 (k), .slice (P) (np) (cp), .slice (Q) (nq) (cq)] := sk.fact 5 22 rfl (sd 5 rfl)
          refine Runs.call (f := 68) (vs := [.agg #[.slice (G) (ng) (cg), .slice (A) (n) (c), .int .i64 (q)], .agg #[.int .i64 (x), .slice (B) (nb) (d)], .agg #[.int .i64 (wn), .int .i64 (k), .slice (P) (np) (cp), .slice (Q) (nq) (cq)]]) rfl rfl rfl (by simp only [List.map_toArray, List.map_cons, List.map_nil, h17, h18, h22] <;> rfl) (ent68 _ _) ((rcosigned_any _ _ _ _ _ _ _ _ _ _ _ _ _ _ _ _ _ _ _ _ _ _ _ _ sw (rG1.ext sE) (rW1.ext sE) (rR1.ext sE) (rP.ext sE) (rQ.ext sE)).mono ?_); rintro e w' ⟨rfl, hx⟩; exact ⟨_, rfl, hx, congrArg Value.bool (Hcb.out)⟩
        · refine stepE rfl fun sdn sa sw sE sd sk => ?_
          have h23 : sa.eval (.tmp 23) = .bool (false) := sk.fact 6 23 rfl (sd 6 rfl)
          exact Runs.move rfl h23 ⟨Ext.refl _, rfl⟩
        · exact stepN (j := 7) (d := 24) (b := false) rfl rfl rfl (fun v w h => h) fun w => rfl
        · exact stepN (j := 7) (d := 24) (b := false) rfl rfl rfl (fun v w h => h) fun w => rfl
        · exact stepN (j := 7) (d := 24) (b := false) rfl rfl rfl (fun v w h => h) fun w => rfl
        · exact stepN (j := 7) (d := 24) (b := false) rfl rfl rfl (fun v w h => h) fun w => rfl
        · exact stepN (j := 7) (d := 24) (b := false) rfl rfl rfl (fun v w h => h) fun w => rfl
        · exact stepN (j := 7) (d := 24) (b := false) rfl rfl rfl (fun v w h => h) fun w => rfl
        · exact stepN (j := 7) (d := 24) (b := false) rfl rfl rfl (fun v w h => h) fun w => rfl
        · exact stepN (j := 7) (d := 24) (b := false) rfl rfl rfl (fun v w h => h) fun w => rfl
        · exact stepN (j := 7) (d := 24) (b := false) rfl rfl rfl (fun v w h => h) fun w => rfl
        · refine stepE rfl fun sdn sa sw sE sd sk => ?_
          have h24 : sa.eval (.tmp 24) = .bool (false) := sk.fact 7 24 rfl (sd 7 rfl)
          exact Runs.pick rfl h24 ⟨Ext.refl _, rfl⟩
        intro vals W6 hE6 hv6
        have e0 : vals 0 = .agg #[.slice (G) (ng) (cg), .slice (A) (n) (c), .int .i64 (q)] := hv6 0 (by omega) 17 rfl
        have e1 : vals 1 = .agg #[.int .i64 (x), .slice (B) (nb) (d)] := hv6 1 (by omega) 18 rfl
        have e2 : vals 2 = .slice ((some ad)) (nl) (cl) := hv6 2 (by omega) 19 rfl
        have e3 : vals 3 = .int .i64 ((m : Int)) := hv6 3 (by omega) 20 rfl
        have e4 : vals 4 = .pointer (some (ad.add (m * 4))) := hv6 4 (by omega) 21 rfl
        have e5 : vals 5 = .agg #[.int .i64 (wn), .int .i64 (k), .slice (P) (np) (cp), .slice (Q) (nq) (cq)] := hv6 5 (by omega) 22 rfl
        have e6 : vals 6 = .bool (false) := hv6 6 (by omega) 23 rfl
        have e7 : vals 7 = .bool (false) := hv6 7 (by omega) 24 rfl
        have e17 : vals 17 = .bool (false) := hv6 17 (by omega) 34 rfl
        simp only [putAll, Act.put, List.take_succ_cons, List.take_zero, List.drop_succ_cons, List.drop_zero, List.drop_nil, List.take_nil, Nat.reduceAdd, List.setIfInBounds_toArray, List.set_cons_succ, List.set_cons_zero, e0, e1, e2, e3, e4, e5, e6, e7, e17]
        clear hv6 e0 e1 e2 e3 e4 e5 e6 e7 e17
        go_wp2_with fail
        go_roundw
        case rel => exact ⟨m + 1, by rw [Hll.out]; omega, rfl, by rw [Hcn.out], by rw [boolsA_eq Hcs.out]; exact hBS.ext hE6, hB3.ext hE6, hB4.ext hE6, hEr.trans hE6⟩
        case measure => simp [intOf]; omega
      | true =>
        have hin := cosB_in hcb
        obtain ⟨j, rfl⟩ : ∃ j : Nat, wn = (j : Int) := ⟨wn.toNat, by omega⟩
        have hj4 : j < 4 := by omega
        have hvt : v ⟨(j : Int), k, PS, QS⟩ = true := hvg.trans hcb
        have Hcb := Lib.hid hcb
        clear hcb hvg hin
        have y5 : wr.cell? ((⟨gS, 0, none⟩ : Addr).add j) = some (.bool (seenL v (gs.take m) j)) := by rw [add_plain]; exact hBS.cell (boolsA_get (seenL v (gs.take m)) hj4)
        cases hs : seenL v (gs.take m) j with
        | true =>
          rw [hs] at y5
          have hcs := cnt_same (v := v) (gs := gs.take m) (g := ⟨(j : Int), k, PS, QS⟩) (fun i hi h1 _ => by
            have h2 : (j : Int) = (i : Int) := h1
            obtain rfl : j = i := by omega
            exact hs)
          rw [← Hsn.out] at hcs
          have hcn := cntL_same hcs
          have Hcs := Lib.hid hcs
          have Hcn := Lib.hid hcn
          clear hcs hcn hs hvt
          go_upto_region 6 with (fail)
          refine par_ext (n := 18) (by kernel_rfl) [.is (.agg #[.slice (G) (ng) (cg), .slice (A) (n) (c), .int .i64 (q)]), .is (.agg #[.int .i64 (x), .slice (B) (nb) (d)]), .is (.slice ((some ad)) (nl) (cl)), .is (.int .i64 ((m : Int))), .is (.pointer (some (ad.add (m * 4)))), .is (.agg #[.int .i64 ((j : Int)), .int .i64 (k), .slice (P) (np) (cp), .slice (Q) (nq) (cq)]), .is (.bool (true)), .is (.bool (true)), .is (.slice ((some ⟨gS, 0, none⟩)) (4) (4)), .is (.slice ((some ad)) (nl) (cl)), .is (.int .i64 ((m : Int))), .is (.pointer (some (ad.add (m * 4)))), .is (.pointer (some (ad.add (m * 4)))), .is (.int .i64 ((j : Int))), .is (.pointer (some ((⟨gS, 0, none⟩ : Addr).add j))), .is (.bool (true)), .is (.bool (false)), .is (.bool (false))] rfl ⟨?_, ?_, ?_, ?_, ?_, ?_, ?_, ?_, ?_, ?_, ?_, ?_, ?_, ?_, ?_, ?_, ?_, ?_, trivial⟩ ?_
          · refine stepE rfl fun sdn sa sw sE sd sk => ?_
            have h3 : sa.eval (.tmp 3) = .pointer (some ⟨g3, 0, none⟩) := sk.old 3 rfl
            exact Runs.load rfl h3 (load_part (hB3.ext sE) 0 (vs := [.slice (G) (ng) (cg), .slice (A) (n) (c), .int .i64 (q)]) rfl Try.underlying52 rfl (by kernel_rfl)) ⟨Ext.refl _, rfl⟩
          · refine stepE rfl fun sdn sa sw sE sd sk => ?_
            have h4 : sa.eval (.tmp 4) = .pointer (some ⟨g4, 0, none⟩) := sk.old 4 rfl
            exact Runs.load rfl h4 (load_part (hB4.ext sE) 0 (vs := [.int .i64 (x), .slice (B) (nb) (d)]) rfl Try.underlying54 rfl (by kernel_rfl)) ⟨Ext.refl _, rfl⟩
          · refine stepE rfl fun sdn sa sw sE sd sk => ?_
            have h2 : sa.eval (.tmp 2) = .slice ((some ad)) (nl) (cl) := sk.old 2 rfl
            exact Runs.move rfl h2 ⟨Ext.refl _, rfl⟩
          · refine stepE rfl fun sdn sa sw sE sd sk => ?_
            have h9 : sa.eval (.tmp 9) = .int .i64 ((m : Int)) := sk.old 9 rfl
            exact Runs.move rfl h9 ⟨Ext.refl _, rfl⟩
          · refine stepE rfl fun sdn sa sw sE sd sk => ?_
            have h19 : sa.eval (.tmp 19) = .slice ((some ad)) (nl) (cl) := sk.fact 2 19 rfl (sd 2 rfl)
            have h20 : sa.eval (.tmp 20) = .int .i64 ((m : Int)) := sk.fact 3 20 rfl (sd 3 rfl)
            exact Runs.idx rfl h19 h20 (run_idx_sl4 Try.underlying55 infC_eq infC_size (m) (by omega) (by omega)) ⟨Ext.refl _, rfl⟩
          · refine stepE rfl fun sdn sa sw sE sd sk => ?_
            have h21 : sa.eval (.tmp 21) = .pointer (some (ad.add (m * 4))) := sk.fact 4 21 rfl (sd 4 rfl)
            exact Runs.load rfl h21 (load_cs (sE.cell k0) (sE.cell k1) (sE.cell k2) (sE.cell k3)) ⟨Ext.refl _, rfl⟩
          · refine stepE rfl fun sdn sa sw sE sd sk => ?_
            have h17 : sa.eval (.tmp 17) = .agg #[.slice (G) (ng) (cg), .slice (A) (n) (c), .int .i64 (q)] := sk.fact 0 17 rfl (sd 0 rfl)
            have h18 : sa.eval (.tmp 18) = .agg #[.int .i64 (x), .slice (B) (nb) (d)] := sk.fact 1 18 rfl (sd 1 rfl)
            have h22 : sa.eval (.tmp 22) = .agg #[.int .i64 ((j : Int)), .int .i64 (k), .slice (P) (np) (cp), .slice (Q) (nq) (cq)] := sk.fact 5 22 rfl (sd 5 rfl)
            refine Runs.call (f := 68) (vs := [.agg #[.slice (G) (ng) (cg), .slice (A) (n) (c), .int .i64 (q)], .agg #[.int .i64 (x), .slice (B) (nb) (d)], .agg #[.int .i64 ((j : Int)), .int .i64 (k), .slice (P) (np) (cp), .slice (Q) (nq) (cq)]]) rfl rfl rfl (by simp only [List.map_toArray, List.map_cons, List.map_nil, h17, h18, h22] <;> rfl) (ent68 _ _) ((rcosigned_any _ _ _ _ _ _ _ _ _ _ _ _ _ _ _ _ _ _ _ _ _ _ _ _ sw (rG1.ext sE) (rW1.ext sE) (rR1.ext sE) (rP.ext sE) (rQ.ext sE)).mono ?_); rintro e w' ⟨rfl, hx⟩; exact ⟨_, rfl, hx, congrArg Value.bool (Hcb.out)⟩
          · refine stepE rfl fun sdn sa sw sE sd sk => ?_
            have h23 : sa.eval (.tmp 23) = .bool (true) := sk.fact 6 23 rfl (sd 6 rfl)
            exact Runs.move rfl h23 ⟨Ext.refl _, rfl⟩
          · refine stepY (j := 7) (d := 24) (b := true) rfl rfl rfl (fun v w h => h) fun sdn sa sw sE sd sk => ?_
            have h7 : sa.eval (.tmp 7) = .slice ((some ⟨gS, 0, none⟩)) (4) (4) := sk.old 7 rfl
            exact Runs.move rfl h7 ⟨Ext.refl _, rfl⟩
          · refine stepY (j := 7) (d := 24) (b := true) rfl rfl rfl (fun v w h => h) fun sdn sa sw sE sd sk => ?_
            have h2 : sa.eval (.tmp 2) = .slice ((some ad)) (nl) (cl) := sk.old 2 rfl
            exact Runs.move rfl h2 ⟨Ext.refl _, rfl⟩
          · refine stepY (j := 7) (d := 24) (b := true) rfl rfl rfl (fun v w h => h) fun sdn sa sw sE sd sk => ?_
            have h9 : sa.eval (.tmp 9) = .int .i64 ((m : Int)) := sk.old 9 rfl
            exact Runs.move rfl h9 ⟨Ext.refl _, rfl⟩
          · refine stepY (j := 7) (d := 24) (b := true) rfl rfl rfl (fun v w h => h) fun sdn sa sw sE sd sk => ?_
            have h26 : sa.eval (.tmp 26) = .slice ((some ad)) (nl) (cl) := sk.fact 9 26 rfl (sd 9 rfl)
            have h27 : sa.eval (.tmp 27) = .int .i64 ((m : Int)) := sk.fact 10 27 rfl (sd 10 rfl)
            exact Runs.idx rfl h26 h27 (run_idx_sl4 Try.underlying55 infC_eq infC_size (m) (by omega) (by omega)) ⟨Ext.refl _, rfl⟩
          · refine stepY (j := 7) (d := 24) (b := true) rfl rfl rfl (fun v w h => h) fun sdn sa sw sE sd sk => ?_
            have h28 : sa.eval (.tmp 28) = .pointer (some (ad.add (m * 4))) := sk.fact 11 28 rfl (sd 11 rfl)
            refine Runs.of_run (r := .pointer (some (ad.add (m * 4)))) (w' := sw) ?_ ⟨Ext.refl _, rfl⟩
            unfold execOp
            simp only [h28]
            go_simp
          · refine stepY (j := 7) (d := 24) (b := true) rfl rfl rfl (fun v w h => h) fun sdn sa sw sE sd sk => ?_
            have h29 : sa.eval (.tmp 29) = .pointer (some (ad.add (m * 4))) := sk.fact 12 29 rfl (sd 12 rfl)
            exact Runs.load rfl h29 (run_load1 Try.underlying3 rfl (sE.cell k0)) ⟨Ext.refl _, rfl⟩
          · refine stepY (j := 7) (d := 24) (b := true) rfl rfl rfl (fun v w h => h) fun sdn sa sw sE sd sk => ?_
            have h25 : sa.eval (.tmp 25) = .slice ((some ⟨gS, 0, none⟩)) (4) (4) := sk.fact 8 25 rfl (sd 8 rfl)
            have h30 : sa.eval (.tmp 30) = .int .i64 ((j : Int)) := sk.fact 13 30 rfl (sd 13 rfl)
            exact Runs.idx rfl h25 h30 (run_idx_sl1 Try.underlying108 infBo_eq infBo_size j (by omega) (by omega)) ⟨Ext.refl _, rfl⟩
          · refine stepY (j := 7) (d := 24) (b := true) rfl rfl rfl (fun v w h => h) fun sdn sa sw sE sd sk => ?_
            have h31 : sa.eval (.tmp 31) = .pointer (some ((⟨gS, 0, none⟩ : Addr).add j)) := sk.fact 14 31 rfl (sd 14 rfl)
            exact Runs.load rfl h31 (run_load1 Try.underlying4 rfl (sE.cell y5)) ⟨Ext.refl _, rfl⟩
          · refine stepY (j := 7) (d := 24) (b := true) rfl rfl rfl (fun v w h => h) fun sdn sa sw sE sd sk => ?_
            have h32 : sa.eval (.tmp 32) = .bool (true) := sk.fact 15 32 rfl (sd 15 rfl)
            exact Runs.un rfl h32 (by rfl) ⟨Ext.refl _, rfl⟩
          · refine stepE rfl fun sdn sa sw sE sd sk => ?_
            have h24 : sa.eval (.tmp 24) = .bool (true) := sk.fact 7 24 rfl (sd 7 rfl)
            have h33 : sa.eval (.tmp 33) = .bool (false) := sk.fact 16 33 rfl (sd 16 rfl)
            exact Runs.pick rfl h24 ⟨Ext.refl _, by first | exact h33 | simpa using h33⟩
          intro vals W6 hE6 hv6
          have e0 : vals 0 = .agg #[.slice (G) (ng) (cg), .slice (A) (n) (c), .int .i64 (q)] := hv6 0 (by omega) 17 rfl
          have e1 : vals 1 = .agg #[.int .i64 (x), .slice (B) (nb) (d)] := hv6 1 (by omega) 18 rfl
          have e2 : vals 2 = .slice ((some ad)) (nl) (cl) := hv6 2 (by omega) 19 rfl
          have e3 : vals 3 = .int .i64 ((m : Int)) := hv6 3 (by omega) 20 rfl
          have e4 : vals 4 = .pointer (some (ad.add (m * 4))) := hv6 4 (by omega) 21 rfl
          have e5 : vals 5 = .agg #[.int .i64 ((j : Int)), .int .i64 (k), .slice (P) (np) (cp), .slice (Q) (nq) (cq)] := hv6 5 (by omega) 22 rfl
          have e6 : vals 6 = .bool (true) := hv6 6 (by omega) 23 rfl
          have e7 : vals 7 = .bool (true) := hv6 7 (by omega) 24 rfl
          have e8 : vals 8 = .slice ((some ⟨gS, 0, none⟩)) (4) (4) := hv6 8 (by omega) 25 rfl
          have e9 : vals 9 = .slice ((some ad)) (nl) (cl) := hv6 9 (by omega) 26 rfl
          have e10 : vals 10 = .int .i64 ((m : Int)) := hv6 10 (by omega) 27 rfl
          have e11 : vals 11 = .pointer (some (ad.add (m * 4))) := hv6 11 (by omega) 28 rfl
          have e12 : vals 12 = .pointer (some (ad.add (m * 4))) := hv6 12 (by omega) 29 rfl
          have e13 : vals 13 = .int .i64 ((j : Int)) := hv6 13 (by omega) 30 rfl
          have e14 : vals 14 = .pointer (some ((⟨gS, 0, none⟩ : Addr).add j)) := hv6 14 (by omega) 31 rfl
          have e15 : vals 15 = .bool (true) := hv6 15 (by omega) 32 rfl
          have e16 : vals 16 = .bool (false) := hv6 16 (by omega) 33 rfl
          have e17 : vals 17 = .bool (false) := hv6 17 (by omega) 34 rfl
          simp only [putAll, Act.put, List.take_succ_cons, List.take_zero, List.drop_succ_cons, List.drop_zero, List.drop_nil, List.take_nil, Nat.reduceAdd, List.setIfInBounds_toArray, List.set_cons_succ, List.set_cons_zero, e0, e1, e2, e3, e4, e5, e6, e7, e8, e9, e10, e11, e12, e13, e14, e15, e16, e17]
          clear hv6 e0 e1 e2 e3 e4 e5 e6 e7 e8 e9 e10 e11 e12 e13 e14 e15 e16 e17
          go_wp2_with fail
          go_roundw
          case rel => exact ⟨m + 1, by rw [Hll.out]; omega, rfl, by rw [Hcn.out], by rw [boolsA_eq Hcs.out]; exact hBS.ext hE6, hB3.ext hE6, hB4.ext hE6, hEr.trans hE6⟩
          case measure => simp [intOf]; omega
        | false =>
          rw [hs] at y5
          obtain ⟨s1, s2, s3⟩ := cnt_more (v := v) (gs := gs.take m) (g := ⟨(j : Int), k, PS, QS⟩) hj4 rfl hvt hs
          rw [← Hsn.out] at s1 s2 s3
          have hle := cntL_le v (gs.take m)
          have Hs1 := Lib.hid s1
          have Hs2 := Lib.hid s2
          have Hs3 := Lib.hid s3
          clear s1 s2 s3 hs hvt
          go_upto_region 6 with (fail)
          refine par_ext (n := 18) (by kernel_rfl) [.is (.agg #[.slice (G) (ng) (cg), .slice (A) (n) (c), .int .i64 (q)]), .is (.agg #[.int .i64 (x), .slice (B) (nb) (d)]), .is (.slice ((some ad)) (nl) (cl)), .is (.int .i64 ((m : Int))), .is (.pointer (some (ad.add (m * 4)))), .is (.agg #[.int .i64 ((j : Int)), .int .i64 (k), .slice (P) (np) (cp), .slice (Q) (nq) (cq)]), .is (.bool (true)), .is (.bool (true)), .is (.slice ((some ⟨gS, 0, none⟩)) (4) (4)), .is (.slice ((some ad)) (nl) (cl)), .is (.int .i64 ((m : Int))), .is (.pointer (some (ad.add (m * 4)))), .is (.pointer (some (ad.add (m * 4)))), .is (.int .i64 ((j : Int))), .is (.pointer (some ((⟨gS, 0, none⟩ : Addr).add j))), .is (.bool (false)), .is (.bool (true)), .is (.bool (true))] rfl ⟨?_, ?_, ?_, ?_, ?_, ?_, ?_, ?_, ?_, ?_, ?_, ?_, ?_, ?_, ?_, ?_, ?_, ?_, trivial⟩ ?_
          · refine stepE rfl fun sdn sa sw sE sd sk => ?_
            have h3 : sa.eval (.tmp 3) = .pointer (some ⟨g3, 0, none⟩) := sk.old 3 rfl
            exact Runs.load rfl h3 (load_part (hB3.ext sE) 0 (vs := [.slice (G) (ng) (cg), .slice (A) (n) (c), .int .i64 (q)]) rfl Try.underlying52 rfl (by kernel_rfl)) ⟨Ext.refl _, rfl⟩
          · refine stepE rfl fun sdn sa sw sE sd sk => ?_
            have h4 : sa.eval (.tmp 4) = .pointer (some ⟨g4, 0, none⟩) := sk.old 4 rfl
            exact Runs.load rfl h4 (load_part (hB4.ext sE) 0 (vs := [.int .i64 (x), .slice (B) (nb) (d)]) rfl Try.underlying54 rfl (by kernel_rfl)) ⟨Ext.refl _, rfl⟩
          · refine stepE rfl fun sdn sa sw sE sd sk => ?_
            have h2 : sa.eval (.tmp 2) = .slice ((some ad)) (nl) (cl) := sk.old 2 rfl
            exact Runs.move rfl h2 ⟨Ext.refl _, rfl⟩
          · refine stepE rfl fun sdn sa sw sE sd sk => ?_
            have h9 : sa.eval (.tmp 9) = .int .i64 ((m : Int)) := sk.old 9 rfl
            exact Runs.move rfl h9 ⟨Ext.refl _, rfl⟩
          · refine stepE rfl fun sdn sa sw sE sd sk => ?_
            have h19 : sa.eval (.tmp 19) = .slice ((some ad)) (nl) (cl) := sk.fact 2 19 rfl (sd 2 rfl)
            have h20 : sa.eval (.tmp 20) = .int .i64 ((m : Int)) := sk.fact 3 20 rfl (sd 3 rfl)
            exact Runs.idx rfl h19 h20 (run_idx_sl4 Try.underlying55 infC_eq infC_size (m) (by omega) (by omega)) ⟨Ext.refl _, rfl⟩
          · refine stepE rfl fun sdn sa sw sE sd sk => ?_
            have h21 : sa.eval (.tmp 21) = .pointer (some (ad.add (m * 4))) := sk.fact 4 21 rfl (sd 4 rfl)
            exact Runs.load rfl h21 (load_cs (sE.cell k0) (sE.cell k1) (sE.cell k2) (sE.cell k3)) ⟨Ext.refl _, rfl⟩
          · refine stepE rfl fun sdn sa sw sE sd sk => ?_
            have h17 : sa.eval (.tmp 17) = .agg #[.slice (G) (ng) (cg), .slice (A) (n) (c), .int .i64 (q)] := sk.fact 0 17 rfl (sd 0 rfl)
            have h18 : sa.eval (.tmp 18) = .agg #[.int .i64 (x), .slice (B) (nb) (d)] := sk.fact 1 18 rfl (sd 1 rfl)
            have h22 : sa.eval (.tmp 22) = .agg #[.int .i64 ((j : Int)), .int .i64 (k), .slice (P) (np) (cp), .slice (Q) (nq) (cq)] := sk.fact 5 22 rfl (sd 5 rfl)
            refine Runs.call (f := 68) (vs := [.agg #[.slice (G) (ng) (cg), .slice (A) (n) (c), .int .i64 (q)], .agg #[.int .i64 (x), .slice (B) (nb) (d)], .agg #[.int .i64 ((j : Int)), .int .i64 (k), .slice (P) (np) (cp), .slice (Q) (nq) (cq)]]) rfl rfl rfl (by simp only [List.map_toArray, List.map_cons, List.map_nil, h17, h18, h22] <;> rfl) (ent68 _ _) ((rcosigned_any _ _ _ _ _ _ _ _ _ _ _ _ _ _ _ _ _ _ _ _ _ _ _ _ sw (rG1.ext sE) (rW1.ext sE) (rR1.ext sE) (rP.ext sE) (rQ.ext sE)).mono ?_); rintro e w' ⟨rfl, hx⟩; exact ⟨_, rfl, hx, congrArg Value.bool (Hcb.out)⟩
          · refine stepE rfl fun sdn sa sw sE sd sk => ?_
            have h23 : sa.eval (.tmp 23) = .bool (true) := sk.fact 6 23 rfl (sd 6 rfl)
            exact Runs.move rfl h23 ⟨Ext.refl _, rfl⟩
          · refine stepY (j := 7) (d := 24) (b := true) rfl rfl rfl (fun v w h => h) fun sdn sa sw sE sd sk => ?_
            have h7 : sa.eval (.tmp 7) = .slice ((some ⟨gS, 0, none⟩)) (4) (4) := sk.old 7 rfl
            exact Runs.move rfl h7 ⟨Ext.refl _, rfl⟩
          · refine stepY (j := 7) (d := 24) (b := true) rfl rfl rfl (fun v w h => h) fun sdn sa sw sE sd sk => ?_
            have h2 : sa.eval (.tmp 2) = .slice ((some ad)) (nl) (cl) := sk.old 2 rfl
            exact Runs.move rfl h2 ⟨Ext.refl _, rfl⟩
          · refine stepY (j := 7) (d := 24) (b := true) rfl rfl rfl (fun v w h => h) fun sdn sa sw sE sd sk => ?_
            have h9 : sa.eval (.tmp 9) = .int .i64 ((m : Int)) := sk.old 9 rfl
            exact Runs.move rfl h9 ⟨Ext.refl _, rfl⟩
          · refine stepY (j := 7) (d := 24) (b := true) rfl rfl rfl (fun v w h => h) fun sdn sa sw sE sd sk => ?_
            have h26 : sa.eval (.tmp 26) = .slice ((some ad)) (nl) (cl) := sk.fact 9 26 rfl (sd 9 rfl)
            have h27 : sa.eval (.tmp 27) = .int .i64 ((m : Int)) := sk.fact 10 27 rfl (sd 10 rfl)
            exact Runs.idx rfl h26 h27 (run_idx_sl4 Try.underlying55 infC_eq infC_size (m) (by omega) (by omega)) ⟨Ext.refl _, rfl⟩
          · refine stepY (j := 7) (d := 24) (b := true) rfl rfl rfl (fun v w h => h) fun sdn sa sw sE sd sk => ?_
            have h28 : sa.eval (.tmp 28) = .pointer (some (ad.add (m * 4))) := sk.fact 11 28 rfl (sd 11 rfl)
            refine Runs.of_run (r := .pointer (some (ad.add (m * 4)))) (w' := sw) ?_ ⟨Ext.refl _, rfl⟩
            unfold execOp
            simp only [h28]
            go_simp
          · refine stepY (j := 7) (d := 24) (b := true) rfl rfl rfl (fun v w h => h) fun sdn sa sw sE sd sk => ?_
            have h29 : sa.eval (.tmp 29) = .pointer (some (ad.add (m * 4))) := sk.fact 12 29 rfl (sd 12 rfl)
            exact Runs.load rfl h29 (run_load1 Try.underlying3 rfl (sE.cell k0)) ⟨Ext.refl _, rfl⟩
          · refine stepY (j := 7) (d := 24) (b := true) rfl rfl rfl (fun v w h => h) fun sdn sa sw sE sd sk => ?_
            have h25 : sa.eval (.tmp 25) = .slice ((some ⟨gS, 0, none⟩)) (4) (4) := sk.fact 8 25 rfl (sd 8 rfl)
            have h30 : sa.eval (.tmp 30) = .int .i64 ((j : Int)) := sk.fact 13 30 rfl (sd 13 rfl)
            exact Runs.idx rfl h25 h30 (run_idx_sl1 Try.underlying108 infBo_eq infBo_size j (by omega) (by omega)) ⟨Ext.refl _, rfl⟩
          · refine stepY (j := 7) (d := 24) (b := true) rfl rfl rfl (fun v w h => h) fun sdn sa sw sE sd sk => ?_
            have h31 : sa.eval (.tmp 31) = .pointer (some ((⟨gS, 0, none⟩ : Addr).add j)) := sk.fact 14 31 rfl (sd 14 rfl)
            exact Runs.load rfl h31 (run_load1 Try.underlying4 rfl (sE.cell y5)) ⟨Ext.refl _, rfl⟩
          · refine stepY (j := 7) (d := 24) (b := true) rfl rfl rfl (fun v w h => h) fun sdn sa sw sE sd sk => ?_
            have h32 : sa.eval (.tmp 32) = .bool (false) := sk.fact 15 32 rfl (sd 15 rfl)
            exact Runs.un rfl h32 (by rfl) ⟨Ext.refl _, rfl⟩
          · refine stepE rfl fun sdn sa sw sE sd sk => ?_
            have h24 : sa.eval (.tmp 24) = .bool (true) := sk.fact 7 24 rfl (sd 7 rfl)
            have h33 : sa.eval (.tmp 33) = .bool (true) := sk.fact 16 33 rfl (sd 16 rfl)
            exact Runs.pick rfl h24 ⟨Ext.refl _, by first | exact h33 | simpa using h33⟩
          intro vals W6 hE6 hv6
          have e0 : vals 0 = .agg #[.slice (G) (ng) (cg), .slice (A) (n) (c), .int .i64 (q)] := hv6 0 (by omega) 17 rfl
          have e1 : vals 1 = .agg #[.int .i64 (x), .slice (B) (nb) (d)] := hv6 1 (by omega) 18 rfl
          have e2 : vals 2 = .slice ((some ad)) (nl) (cl) := hv6 2 (by omega) 19 rfl
          have e3 : vals 3 = .int .i64 ((m : Int)) := hv6 3 (by omega) 20 rfl
          have e4 : vals 4 = .pointer (some (ad.add (m * 4))) := hv6 4 (by omega) 21 rfl
          have e5 : vals 5 = .agg #[.int .i64 ((j : Int)), .int .i64 (k), .slice (P) (np) (cp), .slice (Q) (nq) (cq)] := hv6 5 (by omega) 22 rfl
          have e6 : vals 6 = .bool (true) := hv6 6 (by omega) 23 rfl
          have e7 : vals 7 = .bool (true) := hv6 7 (by omega) 24 rfl
          have e8 : vals 8 = .slice ((some ⟨gS, 0, none⟩)) (4) (4) := hv6 8 (by omega) 25 rfl
          have e9 : vals 9 = .slice ((some ad)) (nl) (cl) := hv6 9 (by omega) 26 rfl
          have e10 : vals 10 = .int .i64 ((m : Int)) := hv6 10 (by omega) 27 rfl
          have e11 : vals 11 = .pointer (some (ad.add (m * 4))) := hv6 11 (by omega) 28 rfl
          have e12 : vals 12 = .pointer (some (ad.add (m * 4))) := hv6 12 (by omega) 29 rfl
          have e13 : vals 13 = .int .i64 ((j : Int)) := hv6 13 (by omega) 30 rfl
          have e14 : vals 14 = .pointer (some ((⟨gS, 0, none⟩ : Addr).add j)) := hv6 14 (by omega) 31 rfl
          have e15 : vals 15 = .bool (false) := hv6 15 (by omega) 32 rfl
          have e16 : vals 16 = .bool (true) := hv6 16 (by omega) 33 rfl
          have e17 : vals 17 = .bool (true) := hv6 17 (by omega) 34 rfl
          simp only [putAll, Act.put, List.take_succ_cons, List.take_zero, List.drop_succ_cons, List.drop_zero, List.drop_nil, List.take_nil, Nat.reduceAdd, List.setIfInBounds_toArray, List.set_cons_succ, List.set_cons_zero, e0, e1, e2, e3, e4, e5, e6, e7, e8, e9, e10, e11, e12, e13, e14, e15, e16, e17]
          clear hv6 e0 e1 e2 e3 e4 e5 e6 e7 e8 e9 e10 e11 e12 e13 e14 e15 e16 e17
          have k06 := hE6.cell k0
          have hBS6 := hBS.ext hE6
          have f6 := hBS6.frozen j
          have y6 := hBS6.cell (boolsA_get (seenL v (gs.take m)) hj4)
          have hB36 := (hB3.ext hE6).far (p := ⟨gS, j, none⟩) hd1 (.bool true)
          have hB46 := (hB4.ext hE6).far (p := ⟨gS, j, none⟩) hd2 (.bool true)
          have hBS7 := hBS6.set j (.bool true)
          have hE7 := (hEr.trans hE6).set (p := ⟨gS, j, none⟩) (by have h1 := Hg.out.1; have h2 := Hg.out.2; show w.heap.size ≤ gS; omega) (.bool true)
          clear k0 k1 k2 k3 y5 rG1 rW1 rR1 rP rQ
          go_wp2_with fail
          go_roundw
          case rel => exact ⟨m + 1, by rw [Hll.out]; omega, rfl, by rw [Hs3.out], by rw [← boolsA_set _ _ hj4 Hs1.out Hs2.out]; exact hBS7, hB36, hB46, hE7⟩
          case measure => simp [intOf]; omega
    · obtain rfl : m = nl := by omega
      have ht : gs.take m = gs := by rw [← Hll.out]; exact List.take_of_length_le (Nat.le_refl _)
      rw [ht]
      go_wp2_with fail
      go_ret
      exact ⟨rfl, hEr⟩
end Go.Proofs.Ytkndgpjamijbbaa
