/-
  law11's owners, walked. law11's policy, walked.
-/
import Derived.Test.YthggfbpdhkpkjaaLawNumbers11Q30
namespace Go.Proofs.Ythggfbpdhkpkjaa
set_option maxRecDepth 100000
open Go Go.RowKit
def OwnI (w : World) (n : Nat) (v i : Value) (wr : World) : Prop :=
  ∃ (k c : Nat) (A : Option Addr), k ≤ n ∧ v = .slice A k c ∧ i = .int .i64 k ∧ OwO wr w.heap.size A k c ((List.range k).map fun i => seedL ((i : Nat) : Int)) ∧ Ext w wr
set_option maxHeartbeats 4000000 in
theorem owners_any (n : Nat) (hn : n ≤ 1000) (w : World) : Calls Try.prog 39 #[.int .i64 (n : Int)] w fun e w' => ∃ A c, e = .returned (.slice A n c) ∧ OwO w' w.heap.size A n c ((List.range n).map fun i => seedL ((i : Nat) : Int)) ∧ Ext w w' := by
  go_enter Try.func39, Try.ntmps39
  go_wp2_with fail
  go_loopw [3, 4] (fun v i wr => OwnI w n v i wr) (fun _ i _ => n - (intOf i).toNat)
  case atStart => exact ⟨0, 0, none, by omega, rfl, rfl, OwO.none_ _ _, Ext.refl _⟩
  case round =>
    obtain ⟨k, c, A, hk, rfl, rfl, own, hEr⟩ := hrel
    by_cases hlt : k < n
    · have hki : (k : Int) < (n : Int) := by omega
      go_wp2_with fail
      refine (seed_any (k : Int) wr (by omega) (by omega)).mono ?_
      rintro e w2 ⟨A2, c2, rfl, o2, hE2⟩
      obtain ⟨Sd, hSd⟩ : ∃ Sd, Sd = seedL (k : Int) := ⟨_, rfl⟩
      rw [← hSd] at o2
      have HSd := Lib.hid hSd
      clear hSd
      go_wp2_with fail
      refine (rnew_at A2 c2 Sd w2 o2.rb).mono ?_
      rintro e w3 ⟨rfl, oS, hE3⟩
      obtain ⟨ad2, rfl, _⟩ := o2.rb.cells (by omega)
      obtain ⟨g2, rfl⟩ := o2.plain
      have hg2 := o2.ge
      have hne : blk (some (⟨g2, 0, none⟩ : Addr)) ≠ blk A := by
        intro e
        have h2 := own.lt (k := g2) e.symm
        omega
      obtain ⟨gO, hgO⟩ : ∃ gO, gO = w2.heap.size := ⟨_, rfl⟩
      rw [← hgO] at oS ⊢
      clear hgO
      have hEw := hE2.trans hE3
      have hEa := Ext.new w3 (.cells #[.pointer (some ⟨gO, 0, none⟩)] 75)
      have hBa := Blk.new w3 75 #[.pointer (some ⟨gO, 0, none⟩)]
      have own4 := (own.ext hEw).ext hEa
      have oS4 := oS.ext hEa
      have hEb := (hEr.trans hEw).trans hEa
      go_wp2_with (refine appo_law (base := w.heap.size) (S := Sd) rfl rfl rfl rfl (by rw [add_plain]; exact hBa.cell (i := 0) rfl) own4 oS4 hne hEb.size (by omega) ?_; intro P5 d5 w5 own5 g5)
      go_roundw
      case rel =>
        refine ⟨k + 1, d5, P5, by omega, rfl, by go_num, ?_, hEb.then_grown g5 (fun b hb => (own4.lt hb).1)⟩
        rw [range_snoc, ← HSd.out]
        exact own5
      case measure => simp [intOf]; omega
    · obtain rfl : k = n := by omega
      go_wp2_with fail
      go_ret
      exact ⟨A, c, rfl, own, hEr⟩
end Go.Proofs.Ythggfbpdhkpkjaa
namespace Go.Proofs.Ythggfbpdhkpkjaa
set_option maxRecDepth 100000
open Go Go.RowKit
noncomputable def infO : TypeInfo := (Try.prog.info? 75).getD default
theorem infO_eq : Try.prog.info? 75 = some infO := by kernel_rfl
theorem infO_size : infO.size = 1 := by kernel_rfl
theorem rpublic_own (g b : Nat) (S : List UInt8) (w : World) (h : OwnR w b g S) :
    Calls Try.prog 68 #[.pointer (some ⟨g, 0, none⟩)] w fun e w' => ∃ g' c', e = .returned (.slice (some ⟨g', 0, none⟩) 32 c') ∧ OB w' b (some ⟨g', 0, none⟩) 32 c' (ownP S) ∧ Ext w w' := by
  obtain ⟨A, c, LA, lc, h1, h2, h3⟩ := h
  obtain ⟨gl, rfl⟩ := h3.plain (by omega)
  obtain ⟨g4, d4, hc4, o4⟩ := h3.cell (j := 4) (by omega)
  have e4 : (Value.slice (some (⟨g4, 0, none⟩ : Addr)) (16 / 2 ^ 4) d4) = .slice (some ⟨g4, 0, none⟩) 1 d4 := rfl
  rw [e4, add_plain] at hc4
  have o4' : OBD w b (some ⟨g4, 0, none⟩) 1 d4 (lev S 4) := o4
  obtain ⟨g5, d5, hc5, o5⟩ := o4'.cell (j := 0) (by omega)
  rw [add_plain] at hc5
  have y1 : w.cell? ⟨g, 1, none⟩ = some (.slice (some ⟨gl, 0, none⟩) 5 lc) := h2.cell (i := 1) rfl
  clear e4 o4 h1
  go_enter Try.func68, Try.ntmps68
  go_wp2_with fail
  go_ret
  exact ⟨_, d5, rfl, o5, Ext.refl _⟩

def PolI (w : World) (gp b0 n cg : Nat) (G : Option Addr) (q : Int) (Ss : List (List UInt8)) (i : Value) (wr : World) : Prop :=
  ∃ (k dq : Nat) (Q : Option Addr), k ≤ n ∧ i = .int .i64 k ∧ OBC wr w.heap.size Q k dq ((List.range k).map fun j => ownP (lb Ss j)) ∧ Blk wr gp 77 #[.slice G 32 cg, .slice Q k dq, .int .i64 q] ∧ OB wr b0 G 32 cg (khash 9) ∧
    Blk wr w.heap.size 77 #[.slice none 0 0, .slice none 0 0, .int .i64 0] ∧ Ext w wr
theorem OwO.room {w : World} {base n c : Nat} {A : Option Addr} {Ss : List (List UInt8)} (h : OwO w base A n c Ss) : n ≤ c := by
  obtain ⟨vs, h1, _⟩ := h
  rcases h1.2 with ⟨hv, hn⟩ | ⟨g, cap, cur, hv, hb, hg, hnc, hcm, hcs, ht⟩
  · omega
  · injection hv with e1 e2 e3
    omega
theorem OB.apart {w : World} {b b' n c n' c' : Nat} {A : Option Addr} {L : List UInt8} {B : Option Addr} {Ls : List (List UInt8)} (h : OB w b A n c L) (h' : OBC w b' B n' c' Ls) : blk A = none ∨ blk A ≠ blk B := by
  cases hA : blk A with
  | none => exact .inl rfl
  | some k =>
    refine .inr fun e => ?_
    obtain ⟨cs, hcs⟩ := row_type h (k := k) (by rw [ownBlock_slice]; exact hA)
    obtain ⟨vs, r1, _⟩ := h'
    exact row_ne r1 hcs (by decide) (by rw [ownBlock_slice]; exact e.symm)
theorem OB.apart_blk {w : World} {b n c g : Nat} {A : Option Addr} {L : List UInt8} {t : TypeId} {cs : Array Value} (h : OB w b A n c L) (hb : Blk w g t cs) (ht : t ≠ 5) : blk A = none ∨ blk A ≠ some g := by
  refine .inr fun e => ?_
  exact row_ne h hb ht (by rw [ownBlock_slice]; exact e)
theorem OBC.apart_blk {w : World} {b n c g : Nat} {A : Option Addr} {Ls : List (List UInt8)} {t : TypeId} {cs : Array Value} (h : OBC w b A n c Ls) (hb : Blk w g t cs) (ht : t ≠ 22) : some g ≠ blk A := by
  intro e
  obtain ⟨vs, r1, _⟩ := h
  exact row_ne r1 hb ht (by rw [ownBlock_slice]; exact e.symm)
theorem pol_no (A B : Option Addr) (n c m d : Nat) (x : Int) (i : Nat) (y : Int) : (#[.slice A n c, .slice B m d, .int .i64 x] : Array Value)[i]? ≠ some (.int .u8 y) := by
  rcases i with _ | _ | _ | i <;> simp
set_option maxHeartbeats 4000000 in
theorem policy_ob (A : Option Addr) (n c base : Nat) (q : Int) (Ss : List (List UInt8)) (hn : n ≤ 1000) (w : World) (hO : OwO w base A n c Ss) :
    Calls Try.prog 41 #[.slice A n c, .int .i64 q] w fun e w' => ∃ G cg Q dq, e = .returned (.agg #[.slice G 32 cg, .slice Q n dq, .int .i64 q]) ∧ (∃ b0, OB w' b0 G 32 cg (khash 9)) ∧ OBC w' w.heap.size Q n dq ((List.range n).map fun j => ownP (lb Ss j)) ∧ Ext w w' := by
  go_enter Try.func41, Try.ntmps41
  have hE0 := Ext.new w (.cells #[.slice none 0 0, .slice none 0 0, .int .i64 0] 77)
  have hB4 := Blk.new w 77 #[.slice none 0 0, .slice none 0 0, .int .i64 0]
  go_wp2_with fail
  refine (hash_any 9 _ (by omega) (by omega)).mono ?_
  rintro e w1 ⟨G, cg, rfl, oG, hE1⟩
  have hEn := Ext.new w1 (.cells #[.slice G 32 cg, .slice none 0 0, .int .i64 q] 77)
  have hB5 := Blk.new w1 77 #[.slice G 32 cg, .slice none 0 0, .int .i64 q]
  have hE01 := (hE0.trans hE1).trans hEn
  have rG := oG.rb.ext hEn
  replace hB4 := (hB4.ext hE1).ext hEn
  have hgp := (hE0.trans hE1).size
  have hgp0 := hE1.size
  clear hE0
  go_wp2_with fail
  have oG2 := oG.ext hEn
  clear hEn hE1 oG rG
  have hlt5 := hB5.lt
  have hgp2 : w.heap.size < w1.heap.size := by
    rw [World.size_alloc] at hgp0
    omega
  generalize w1.alloc (.cells #[.slice G 32 cg, .slice none 0 0, .int .i64 q] 77) = w2 at *
  obtain ⟨gp, hgpe⟩ : ∃ gp, gp = w1.heap.size := ⟨_, rfl⟩
  rw [← hgpe] at hB5 hgp2 hlt5 ⊢
  clear hgp hgp0 hgpe
  go_loopw [6] (fun i wr => PolI w gp (w.alloc (.cells #[.slice none 0 0, .slice none 0 0, .int .i64 0] 77)).heap.size n cg G q Ss i wr) (fun i _ => n - (intOf i).toNat)
  case atStart => exact ⟨0, 0, none, by omega, rfl, OBC.none_ _ _, hB5, oG2, hB4, hE01⟩
  case round =>
    clear hB5 oG2 hB4 hE01 hlt5
    obtain ⟨k, dq, Q, hk, rfl, ownQ, hB5, oG, hB4, hEr⟩ := hrel
    by_cases hlt : k < n
    · have hki : (k : Int) < (n : Int) := by omega
      obtain ⟨gA, gO, bO, BO, rfl, hcO0, oS⟩ := (hO.ext hEr).cell (j := k) hlt
      have hcO : wr.cell? ((⟨gA, 0, none⟩ : Addr).add k) = some (.pointer (some ⟨gO, 0, none⟩)) := by rw [add_plain]; exact hcO0
      have rO := oS.own
      have y1 : wr.cell? ⟨gp, 1, none⟩ = some (.slice Q k dq) := hB5.cell (i := 1) rfl
      have hcap : n ≤ c := hO.room
      clear oS hcO0
      go_upto_region 5 with (fail)
      refine par_ext (n := 8) (by kernel_rfl) [.is (.pointer (some ⟨gp, 1, none⟩)), .is (.slice (Q) (k) (dq)), .is (.slice ((some ⟨gA, 0, none⟩)) (n) (c)), .is (.int .i64 ((k : Int))), .is (.pointer (some ((⟨gA, 0, none⟩ : Addr).add (k)))), .is (.pointer (some ⟨gO, 0, none⟩)), .ob32 (bO) (ownP (lb Ss k)), .one32 (bO) (ownP (lb Ss k))] rfl ⟨?_, ?_, ?_, ?_, ?_, ?_, ?_, ?_, trivial⟩ ?_
      · refine stepE rfl fun sdn sa sw sE sd sk => ?_
        have h5 : sa.eval (.tmp 5) = .pointer (some ⟨gp, 0, none⟩) := sk.old 5 rfl
        refine Runs.of_run (r := .pointer (some ⟨gp, 1, none⟩)) (w' := sw) ?_ ⟨Ext.refl _, rfl⟩
        unfold execOp
        simp only [h5]
        go_simp
      · refine stepE rfl fun sdn sa sw sE sd sk => ?_
        have h16 : sa.eval (.tmp 16) = .pointer (some ⟨gp, 1, none⟩) := sk.fact 0 16 rfl (sd 0 rfl)
        exact Runs.load rfl h16 (run_load1 Try.underlying37 rfl (sE.cell y1)) ⟨Ext.refl _, rfl⟩
      · refine stepE rfl fun sdn sa sw sE sd sk => ?_
        have h0 : sa.eval (.tmp 0) = .slice ((some ⟨gA, 0, none⟩)) (n) (c) := sk.old 0 rfl
        exact Runs.move rfl h0 ⟨Ext.refl _, rfl⟩
      · refine stepE rfl fun sdn sa sw sE sd sk => ?_
        have h6 : sa.eval (.tmp 6) = .int .i64 ((k : Int)) := sk.old 6 rfl
        exact Runs.move rfl h6 ⟨Ext.refl _, rfl⟩
      · refine stepE rfl fun sdn sa sw sE sd sk => ?_
        have h18 : sa.eval (.tmp 18) = .slice ((some ⟨gA, 0, none⟩)) (n) (c) := sk.fact 2 18 rfl (sd 2 rfl)
        have h19 : sa.eval (.tmp 19) = .int .i64 ((k : Int)) := sk.fact 3 19 rfl (sd 3 rfl)
        exact Runs.idx rfl h18 h19 (run_idx_sl1 Try.underlying65 infO_eq infO_size (k) (by omega) (by omega)) ⟨Ext.refl _, rfl⟩
      · refine stepE rfl fun sdn sa sw sE sd sk => ?_
        have h20 : sa.eval (.tmp 20) = .pointer (some ((⟨gA, 0, none⟩ : Addr).add (k))) := sk.fact 4 20 rfl (sd 4 rfl)
        exact Runs.load rfl h20 (run_load1 Try.underlying75 rfl (sE.cell hcO)) ⟨Ext.refl _, rfl⟩
      · refine stepE rfl fun sdn sa sw sE sd sk => ?_
        have h21 : sa.eval (.tmp 21) = .pointer (some ⟨gO, 0, none⟩) := sk.fact 5 21 rfl (sd 5 rfl)
        refine Runs.call (f := 68) (vs := [.pointer (some ⟨gO, 0, none⟩)]) rfl rfl rfl (by simp only [List.map_toArray, List.map_cons, List.map_nil, h21] <;> rfl) (ent68 _ _) ((rpublic_own gO bO _ sw (rO.ext sE)).mono ?_); rintro e w' ⟨g', c', rfl, own, hx⟩; exact ⟨_, rfl, hx, g', c', rfl, own⟩
      · refine stepE rfl fun sdn sa sw sE sd sk => ?_
        obtain ⟨g22, d22, h22, o22⟩ := sk.fact 6 22 rfl (sd 6 rfl)
        exact Runs.one1 rfl h22 (fun w1 e1 b1 => ⟨e1, _, _, _, rfl, b1, o22.ext e1⟩)
      intro vals W5 hE hv
      have e0 : vals 0 = .pointer (some ⟨gp, 1, none⟩) := hv 0 (by omega) 16 rfl
      have e1 : vals 1 = .slice (Q) (k) (dq) := hv 1 (by omega) 17 rfl
      have e2 : vals 2 = .slice ((some ⟨gA, 0, none⟩)) (n) (c) := hv 2 (by omega) 18 rfl
      have e3 : vals 3 = .int .i64 ((k : Int)) := hv 3 (by omega) 19 rfl
      have e4 : vals 4 = .pointer (some ((⟨gA, 0, none⟩ : Addr).add (k))) := hv 4 (by omega) 20 rfl
      have e5 : vals 5 = .pointer (some ⟨gO, 0, none⟩) := hv 5 (by omega) 21 rfl
      obtain ⟨g22, d22, e6, o22⟩ := hv 6 (by omega) 22 rfl
      obtain ⟨x23, g23, d23, e7, hc23, o23⟩ := hv 7 (by omega) 23 rfl
      simp only [putAll, Act.put, List.take_succ_cons, List.take_zero, List.drop_succ_cons, List.drop_zero, List.drop_nil, List.take_nil, Nat.reduceAdd, List.setIfInBounds_toArray, List.set_cons_succ, List.set_cons_zero, e0, e1, e2, e3, e4, e5, e6, e7]
      clear hv e0 e1 e2 e3 e4 e5 e6 e7
      have ownQ1 := ownQ.ext hE
      have hB51 := hB5.ext hE
      have hB41 := hB4.ext hE
      have oG1 := oG.ext hE
      have hEw := hEr.trans hE
      have hne : 0 < 32 → blk (some (⟨g23, 0, none⟩ : Addr)) ≠ blk Q := by
        intro _ e
        obtain ⟨vs, r1', _⟩ := ownQ1
        obtain ⟨cs, hcs⟩ := row_type o23 (k := g23) (by rw [ownBlock_slice]; rfl)
        exact row_ne r1' hcs (by decide) (by rw [ownBlock_slice]; exact e.symm)
      go_wp2_with (refine appbc_law (base := w.heap.size) (Y := ownP (lb Ss k)) rfl rfl rfl rfl hc23 ownQ1 o23.rb hne hEw.size (by omega) ?_; intro Q5 d5 w5 ownQ5 g5; have hB55 := hB51.grown g5 (ownQ1.apart_blk hB51 (by decide)); have hB45 := hB41.grown g5 (ownQ1.apart_blk hB41 (by decide)); have oG5 := oG1.grown g5 (oG1.apart ownQ1); have y5 := hB55.cell (i := 1) (v := .slice Q k dq) rfl; have y6 := hB55.frozen 1)
      have gs := grown_set w5 ⟨gp, 1, none⟩ (.slice Q5 (k + 1) d5)
      have ownQ6 := ownQ5.far hB55 (by decide) (pol_no _ _ _ _ _ _ _) gs
      have hB56 := hB55.set 1 (.slice Q5 (k + 1) d5)
      have hB46 := hB45.far (p := ⟨gp, 1, none⟩) (by show w.heap.size ≠ gp; omega) (.slice Q5 (k + 1) d5)
      have oG6 := oG5.grown gs (oG5.apart_blk hB55 (by decide))
      have hE6 := (hEw.then_grown g5 (fun b hb => (ownQ1.lt hb).1)).set (p := ⟨gp, 1, none⟩) (by show w.heap.size ≤ gp; omega) (.slice Q5 (k + 1) d5)
      clear hB51 hB41 oG1 hEw ownQ1 ownQ5 g5 hB55 hB45 oG5 y5 y6 gs y1
      go_roundw
      case rel => exact ⟨k + 1, d5, Q5, by omega, by go_num, by rw [range_snoc]; exact ownQ6, hB56, oG6, hB46, hE6⟩
      case measure => simp [intOf]; omega
    · obtain rfl : k = n := by omega
      have z0 : wr.cell? ⟨gp, 0, none⟩ = some (.slice G 32 cg) := hB5.cell (i := 0) rfl
      have z1 : wr.cell? ⟨gp, 1, none⟩ = some (.slice Q k dq) := hB5.cell (i := 1) rfl
      have z2 : wr.cell? ⟨gp, 2, none⟩ = some (.int .i64 q) := hB5.cell (i := 2) rfl
      have fhB40 := hB4.frozen 0
      have fhB41 := hB4.frozen 1
      have fhB42 := hB4.frozen 2
      have xhB40 := hB4.cell (i := 0) rfl
      have xhB41 := hB4.cell (i := 1) rfl
      have xhB42 := hB4.cell (i := 2) rfl
      go_wp2_with fail
      have g1 := fun (w' : World) (u : Value) (i : Nat) => grown_set w' ⟨w.heap.size, i, none⟩ u
      have b1 := hB4.set 0 (.slice G 32 cg)
      have b2 := b1.set 1 (.slice Q k dq)
      have b3 := b2.set 2 (.int .i64 q)
      have oQ3 := ((ownQ.far hB4 (by decide) (pol_no _ _ _ _ _ _ _) (g1 _ (.slice G 32 cg) 0)).far b1 (by decide) (pol_no _ _ _ _ _ _ _) (g1 _ (.slice Q k dq) 1)).far b2 (by decide) (pol_no _ _ _ _ _ _ _) (g1 _ (.int .i64 q) 2)
      have oG1 := oG.grown (g1 _ (.slice G 32 cg) 0) (oG.apart_blk hB4 (by decide))
      have oG2 := oG1.grown (g1 _ (.slice Q k dq) 1) (oG1.apart_blk b1 (by decide))
      have oG3 := oG2.grown (g1 _ (.int .i64 q) 2) (oG2.apart_blk b2 (by decide))
      have hEf := ((hEr.set (p := ⟨w.heap.size, 0, none⟩) (Nat.le_refl _) (.slice G 32 cg)).set (p := ⟨w.heap.size, 1, none⟩) (Nat.le_refl _) (.slice Q k dq)).set (p := ⟨w.heap.size, 2, none⟩) (Nat.le_refl _) (.int .i64 q)
      refine bodyPost_ret (results_cell_row rfl _ _ w.heap.size _ _ _ _ rfl b3 Try.underlying77 rfl rfl) rfl ?_
      exact ⟨G, cg, Q, dq, rfl, ⟨_, oG3⟩, oQ3, hEf⟩
theorem policy_own (A : Option Addr) (n c base : Nat) (q : Int) (Ss : List (List UInt8)) (hn : n ≤ 1000) (w : World) (hO : OwO w base A n c Ss) :
    Calls Try.prog 41 #[.slice A n c, .int .i64 q] w fun e w' => ∃ G cg Q dq, e = .returned (.agg #[.slice G 32 cg, .slice Q n dq, .int .i64 q]) ∧ RB w' G 32 cg (khash 9) ∧ OBC w' w.heap.size Q n dq ((List.range n).map fun j => ownP (lb Ss j)) ∧ Ext w w' := by
  refine (policy_ob A n c base q Ss hn w hO).mono ?_
  rintro e w' ⟨G, cg, Q, dq, h1, ⟨b0, h2⟩, h3, h4⟩
  exact ⟨G, cg, Q, dq, h1, h2.rb, h3, h4⟩
theorem policy_any (A : Option Addr) (n c base : Nat) (q : Int) (Ss : List (List UInt8)) (hn : n ≤ 1000) (w : World) (hO : OwO w base A n c Ss) :
    Calls Try.prog 41 #[.slice A n c, .int .i64 q] w fun e w' => ∃ G cg Q dq, e = .returned (.agg #[.slice G 32 cg, .slice Q n dq, .int .i64 q]) ∧ RB w' G 32 cg (khash 9) ∧ RBB w' Q n dq ((List.range n).map fun j => ownP (lb Ss j)) ∧ Ext w w' := by
  refine (policy_own A n c base q Ss hn w hO).mono ?_
  rintro e w' ⟨G, cg, Q, dq, h1, h2, h3, h4⟩
  exact ⟨G, cg, Q, dq, h1, h2, h3.rbb, h4⟩
end Go.Proofs.Ythggfbpdhkpkjaa
