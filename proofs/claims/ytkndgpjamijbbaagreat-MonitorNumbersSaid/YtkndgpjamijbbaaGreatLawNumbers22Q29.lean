/-
  sign.clones, sign.Copy, check.Copy, walked. A monitor in memory; monitor.New, Size, walked.
-/
import Derived.Test.YtkndgpjamijbbaaGreatLawNumbers22Q27
import Derived.Test.YtkndgpjamijbbaaGreatLawNumbers22Q28
import Derived.Lib.AppendZerosOnto
namespace Go.Proofs.YtkndgpjamijbbaaGreat
set_option maxRecDepth 100000
open Go Go.RowKit
theorem OBC.base_ {w : World} {b b' n c : Nat} {A : Option Addr} {Ls : List (List UInt8)} (h : OBC w b A n c Ls) (hb : b' ≤ b) : OBC w b' A n c Ls := by
  obtain ⟨vs, h1, h2, h3⟩ := h
  exact ⟨vs, ownsRow_base h1 hb, h2, h3⟩
def MP.obc (b n : Nat) (Ls : List (List UInt8)) : MP Ext := ⟨fun u w => ∃ A c, u = .slice A n c ∧ OBC w b A n c Ls, fun _ _ _ e ⟨A, c, h1, h2⟩ => ⟨A, c, h1, h2.ext e⟩⟩
def ClI (w : World) (Ls : List (List UInt8)) (v i : Value) (wr : World) : Prop :=
  ∃ (p d : Nat) (P : Option Addr), p ≤ Ls.length ∧ i = .int .i64 p ∧ v = .slice P p d ∧ OBC wr w.heap.size P p d (Ls.take p) ∧ Ext w wr
theorem take_sn (Ls : List (List UInt8)) {k : Nat} (h : k < Ls.length) : Ls.take (k + 1) = Ls.take k ++ [lb Ls k] := by
  rw [List.take_succ_eq_append_getElem h]
  simp [lb, h]
set_option maxHeartbeats 2000000 in
theorem sclones_any (A : Option Addr) (n c : Nat) (Ls : List (List UInt8)) (w : World) (hr : RBB w A n c Ls) (hn : n ≤ 100000) (hb : ∀ a ∈ Ls, a.length ≤ 1000000) :
    Calls Tryz.prog 93 #[.slice A n c] w fun e w' => ∃ P d, e = .returned (.slice P n d) ∧ OBC w' w.heap.size P n d Ls ∧ Ext w w' := by
  have hl := hr.len
  have Hl := Lib.hid hl
  clear hl
  have hcap := hr.cap
  have hroom := hr.room
  unfold maxLen at hcap
  go_enter Tryz.func93, Tryz.ntmps93
  go_wp2_with fail
  go_loopw [3, 8] (fun v i wr => ClI w Ls v i wr) (fun _ i _ => n - (intOf i).toNat)
  case atStart => exact ⟨0, 0, none, by omega, rfl, rfl, OBC.none_ _ _, Ext.refl _⟩
  case round =>
    obtain ⟨p, d, P, hp, rfl, rfl, own, hEr⟩ := hrel
    rw [Hl.out] at hp
    by_cases hlt : p < n
    · have hpn : (p : Int) < (n : Int) := by omega
      obtain ⟨ad, rfl, hc⟩ := hr.cells (by omega)
      obtain ⟨E, z, y, hcell, hrE⟩ := hc p (by omega)
      have y1 := hEr.cell hcell
      have rE := hrE.ext hEr
      have hz : z ≤ 1000000 := by
        have h1 := hrE.len
        have h2 := hb (lb Ls p) (by unfold lb; rw [List.getD_eq_getElem?_getD, List.getElem?_eq_getElem (by rw [Hl.out]; omega)]; exact List.getElem_mem _)
        omega
      have hcu := clone_any E z y _ wr rE (by omega)
      have Hcu := Lib.hid hcu
      clear hcu hc hcell
      go_wp2_with fail
      refine Hcu.out.mono ?_
      rintro e w2 ⟨E1, z1, rfl, ownC, hE2⟩
      clear Hcu
      have hEa := Ext.new w2 (.cells #[.slice E1 z z1] 26)
      have hBa := Blk.new w2 26 #[.slice E1 z z1]
      have own4 := (own.ext hE2).ext hEa
      have hne : 0 < z → blk E1 ≠ blk P := by
        intro hz e
        obtain ⟨b, hb⟩ : ∃ b, blk E1 = some b := by
          obtain ⟨ad', h1, _⟩ := ownC.rb.cells (by omega)
          rw [h1]
          exact ⟨_, rfl⟩
        have h1 := ownC.lt hb
        have h2 := own.lt (e.symm.trans hb)
        omega
      go_wp2_with (refine appbc_law (base := w.heap.size) (Y := lb Ls p) rfl rfl rfl rfl (by rw [add_plain]; exact hBa.cell (i := 0) rfl) own4 (ownC.rb.ext hEa) hne ((hEr.trans hE2).trans hEa).size (by omega) ?_; intro P5 d5 w5 own5 g5)
      go_roundw
      case rel =>
        rw [← take_sn Ls (by rw [Hl.out]; omega)] at own5
        exact ⟨p + 1, d5, P5, by rw [Hl.out]; omega, by go_num, rfl, own5, ((hEr.trans hE2).trans hEa).then_grown g5 (fun b hb => (own4.lt hb).1)⟩
      case measure => simp [intOf]; omega
    · obtain rfl : p = n := by omega
      have hpn : ¬ (p : Int) < (p : Int) := by omega
      rw [List.take_of_length_le (by rw [Hl.out]; omega)] at own
      go_wp2_with fail
      go_ret
      exact ⟨P, d, rfl, own, hEr⟩
set_option maxHeartbeats 4000000 in
theorem scopy_any (x : Int) (P Q : Option Addr) (np cp nq cq : Nat) (Ps Qs : List (List UInt8)) (w : World) (rP : RBB w P np cp Ps) (rQ : RBB w Q nq cq Qs) (hnp : np ≤ 100000) (hnq : nq ≤ 100000) (hPs : ∀ a ∈ Ps, a.length ≤ 1000000) (hQs : ∀ a ∈ Qs, a.length ≤ 1000000) :
    Calls Tryz.prog 69 #[.agg #[.int .i64 x, .slice P np cp, .slice Q nq cq]] w fun e w' => ∃ P' c' Q' d', e = .returned (.agg #[.int .i64 x, .slice P' np c', .slice Q' nq d']) ∧ OBC w' w.heap.size P' np c' Ps ∧ OBC w' w.heap.size Q' nq d' Qs ∧ Ext w w' := by
  have hE1 := Ext.new w (.cells #[.int .i64 x, .slice P np cp, .slice Q nq cq] 38)
  have hB1 := Blk.new w 38 #[.int .i64 x, .slice P np cp, .slice Q nq cq]
  have hE2 := Ext.new (w.alloc (.cells #[.int .i64 x, .slice P np cp, .slice Q nq cq] 38)) (.cells #[.int .i64 0, .slice none 0 0, .slice none 0 0] 38)
  have hB2 := Blk.new (w.alloc (.cells #[.int .i64 x, .slice P np cp, .slice Q nq cq] 38)) 38 #[.int .i64 0, .slice none 0 0, .slice none 0 0]
  rw [World.size_alloc] at hB2
  replace hB1 := hB1.ext hE2
  have hEa := hE1.trans hE2
  have hsz := hEa.size
  have hge : w.heap.size ≤ w.heap.size + 1 := by omega
  go_enter Tryz.func69, Tryz.ntmps69
  go_upto_region 1 with (fail)
  clear hE1 hE2
  generalize (w.alloc (.cells #[.int .i64 x, .slice P np cp, .slice Q nq cq] 38)).alloc (.cells #[.int .i64 0, .slice none 0 0, .slice none 0 0] 38) = w1 at *
  generalize w.heap.size + 1 = g2 at *
  obtain ⟨g1, hg⟩ : ∃ g1, g1 = w.heap.size := ⟨_, rfl⟩
  rw [← hg] at hB1 ⊢
  clear hg
  replace rP := rP.ext hEa
  replace rQ := rQ.ext hEa
  refine par_ext (n := 8) (by kernel_rfl) [.is (.pointer (some ⟨g1, 0, none⟩)), .is (.int .i64 (x)), .is (.pointer (some ⟨g1, 1, none⟩)), .is (.slice (P) (np) (cp)), .obc (w1.heap.size) (np) (Ps), .is (.pointer (some ⟨g1, 2, none⟩)), .is (.slice (Q) (nq) (cq)), .obc (w1.heap.size) (nq) (Qs)] rfl ⟨?_, ?_, ?_, ?_, ?_, ?_, ?_, ?_, trivial⟩ ?_
  · refine stepE rfl fun sdn sa sw sE sd sk => ?_
    have h1 : sa.eval (.tmp 1) = .pointer (some ⟨g1, 0, none⟩) := sk.old 1 rfl
    refine Runs.of_run (r := .pointer (some ⟨g1, 0, none⟩)) (w' := sw) ?_ ⟨Ext.refl _, rfl⟩
    unfold execOp
    simp only [h1]
    go_simp
  · refine stepE rfl fun sdn sa sw sE sd sk => ?_
    have h3 : sa.eval (.tmp 3) = .pointer (some ⟨g1, 0, none⟩) := sk.fact 0 3 rfl (sd 0 rfl)
    exact Runs.load rfl h3 (run_load1 Tryz.underlying3 rfl ((hB1.ext sE).cell (i := 0) rfl)) ⟨Ext.refl _, rfl⟩
  · refine stepE rfl fun sdn sa sw sE sd sk => ?_
    have h1 : sa.eval (.tmp 1) = .pointer (some ⟨g1, 0, none⟩) := sk.old 1 rfl
    refine Runs.of_run (r := .pointer (some ⟨g1, 1, none⟩)) (w' := sw) ?_ ⟨Ext.refl _, rfl⟩
    unfold execOp
    simp only [h1]
    go_simp
  · refine stepE rfl fun sdn sa sw sE sd sk => ?_
    have h5 : sa.eval (.tmp 5) = .pointer (some ⟨g1, 1, none⟩) := sk.fact 2 5 rfl (sd 2 rfl)
    exact Runs.load rfl h5 (run_load1 Tryz.underlying33 rfl ((hB1.ext sE).cell (i := 1) rfl)) ⟨Ext.refl _, rfl⟩
  · refine stepE rfl fun sdn sa sw sE sd sk => ?_
    have h6 : sa.eval (.tmp 6) = .slice (P) (np) (cp) := sk.fact 3 6 rfl (sd 3 rfl)
    refine Runs.call (f := 93) (vs := [.slice (P) (np) (cp)]) rfl rfl rfl (by simp only [List.map_toArray, List.map_cons, List.map_nil, h6] <;> rfl) (ent93 _ _) ((sclones_any _ _ _ _ sw (rP.ext sE) (by omega) hPs).mono ?_); rintro e w' ⟨P', d', rfl, own, hx⟩; exact ⟨_, rfl, hx, _, _, rfl, own.base_ sE.size⟩
  · refine stepE rfl fun sdn sa sw sE sd sk => ?_
    have h1 : sa.eval (.tmp 1) = .pointer (some ⟨g1, 0, none⟩) := sk.old 1 rfl
    refine Runs.of_run (r := .pointer (some ⟨g1, 2, none⟩)) (w' := sw) ?_ ⟨Ext.refl _, rfl⟩
    unfold execOp
    simp only [h1]
    go_simp
  · refine stepE rfl fun sdn sa sw sE sd sk => ?_
    have h8 : sa.eval (.tmp 8) = .pointer (some ⟨g1, 2, none⟩) := sk.fact 5 8 rfl (sd 5 rfl)
    exact Runs.load rfl h8 (run_load1 Tryz.underlying33 rfl ((hB1.ext sE).cell (i := 2) rfl)) ⟨Ext.refl _, rfl⟩
  · refine stepE rfl fun sdn sa sw sE sd sk => ?_
    have h9 : sa.eval (.tmp 9) = .slice (Q) (nq) (cq) := sk.fact 6 9 rfl (sd 6 rfl)
    refine Runs.call (f := 93) (vs := [.slice (Q) (nq) (cq)]) rfl rfl rfl (by simp only [List.map_toArray, List.map_cons, List.map_nil, h9] <;> rfl) (ent93 _ _) ((sclones_any _ _ _ _ sw (rQ.ext sE) (by omega) hQs).mono ?_); rintro e w' ⟨P', d', rfl, own, hx⟩; exact ⟨_, rfl, hx, _, _, rfl, own.base_ sE.size⟩
  intro vals W1 hE1 hv1
  have e0 : vals 0 = .pointer (some ⟨g1, 0, none⟩) := hv1 0 (by omega) 3 rfl
  have e1 : vals 1 = .int .i64 (x) := hv1 1 (by omega) 4 rfl
  have e2 : vals 2 = .pointer (some ⟨g1, 1, none⟩) := hv1 2 (by omega) 5 rfl
  have e3 : vals 3 = .slice (P) (np) (cp) := hv1 3 (by omega) 6 rfl
  obtain ⟨A7, c7, e4, o7⟩ := hv1 4 (by omega) 7 rfl
  have e5 : vals 5 = .pointer (some ⟨g1, 2, none⟩) := hv1 5 (by omega) 8 rfl
  have e6 : vals 6 = .slice (Q) (nq) (cq) := hv1 6 (by omega) 9 rfl
  obtain ⟨A10, c10, e7, o10⟩ := hv1 7 (by omega) 10 rfl
  simp only [putAll, Act.put, List.take_succ_cons, List.take_zero, List.drop_succ_cons, List.drop_zero, List.drop_nil, List.take_nil, Nat.reduceAdd, List.setIfInBounds_toArray, List.set_cons_succ, List.set_cons_zero, e0, e1, e2, e3, e4, e5, e6, e7]
  clear hv1 e0 e1 e2 e3 e4 e5 e6 e7
  have hB21 := hB2.ext hE1
  have hE := hEa.trans hE1
  clear rP rQ hB1 hB2 hE1 hEa
  have fhB210 := hB21.frozen 0
  have fhB211 := hB21.frozen 1
  have fhB212 := hB21.frozen 2
  have xhB210 := hB21.cell (i := 0) rfl
  have xhB211 := hB21.cell (i := 1) rfl
  have xhB212 := hB21.cell (i := 2) rfl
  go_wp2_with fail
  have gs := fun (w' : World) (u : Value) (i : Nat) => grown_set w' ⟨g2, i, none⟩ u
  have b1 := hB21.set 0 (.int .i64 x)
  have b2 := b1.set 1 (.slice A7 np c7)
  have b3 := b2.set 2 (.slice A10 nq c10)
  have oP3 := ((o7.far hB21 (by decide) (sig_no _ _ _ _ _ _ _) (gs _ (.int .i64 x) 0)).far b1 (by decide) (sig_no _ _ _ _ _ _ _) (gs _ (.slice A7 np c7) 1)).far b2 (by decide) (sig_no _ _ _ _ _ _ _) (gs _ (.slice A10 nq c10) 2)
  have oQ3 := ((o10.far hB21 (by decide) (sig_no _ _ _ _ _ _ _) (gs _ (.int .i64 x) 0)).far b1 (by decide) (sig_no _ _ _ _ _ _ _) (gs _ (.slice A7 np c7) 1)).far b2 (by decide) (sig_no _ _ _ _ _ _ _) (gs _ (.slice A10 nq c10) 2)
  have hEf := ((hE.set (p := ⟨g2, 0, none⟩) hge (.int .i64 x)).set (p := ⟨g2, 1, none⟩) hge (.slice A7 np c7)).set (p := ⟨g2, 2, none⟩) hge (.slice A10 nq c10)
  refine bodyPost_ret (results_cell_row rfl _ _ g2 _ _ _ _ rfl b3 Tryz.underlying38 rfl rfl) rfl ?_
  exact ⟨A7, c7, A10, c10, rfl, oP3.base_ hsz, oQ3.base_ hsz, hEf⟩
def MP.agb (b : Nat) (x : Int) (n : Nat) (L : List UInt8) : MP Ext := ⟨fun u w => ∃ A c, u = .agg #[.int .i64 x, .slice A n c] ∧ OB w b A n c L, fun _ _ _ e ⟨A, c, h1, h2⟩ => ⟨A, c, h1, h2.ext e⟩⟩
def MP.sgo (b : Nat) (x : Int) (np : Nat) (Ps : List (List UInt8)) (nq : Nat) (Qs : List (List UInt8)) : MP Ext := ⟨fun u w => ∃ P c Q d, u = .agg #[.int .i64 x, .slice P np c, .slice Q nq d] ∧ OBC w b P np c Ps ∧ OBC w b Q nq d Qs, fun _ _ _ e ⟨P, c, Q, d, h1, h2, h3⟩ => ⟨P, c, Q, d, h1, h2.ext e, h3.ext e⟩⟩
theorem sgn_no (x : Int) (B : Option Addr) (nb d : Nat) (y : Int) (P Q : Option Addr) (np cp nq cq i : Nat) (z : Int) : (#[.int .i64 x, .slice B nb d, .int .i64 y, .slice P np cp, .slice Q nq cq] : Array Value)[i]? ≠ some (.int .u8 z) := by
  rcases i with _ | _ | _ | _ | _ | i <;> simp
set_option maxHeartbeats 4000000 in
theorem ccopy_any (x i : Int) (B P Q : Option Addr) (nb d np cp nq cq : Nat) (R : List UInt8) (Ps Qs : List (List UInt8)) (w : World) (rR : RB w B nb d R) (hnb : nb ≤ 1000000) (rP : RBB w P np cp Ps) (rQ : RBB w Q nq cq Qs) (hnp : np ≤ 100000) (hnq : nq ≤ 100000) (hPs : ∀ a ∈ Ps, a.length ≤ 1000000) (hQs : ∀ a ∈ Qs, a.length ≤ 1000000) :
    Calls Tryz.prog 44 #[.agg #[.int .i64 x, .slice B nb d, .int .i64 i, .slice P np cp, .slice Q nq cq]] w fun e w' => ∃ B' b' P' c' Q' d', e = .returned (.agg #[.int .i64 x, .slice B' nb b', .int .i64 i, .slice P' np c', .slice Q' nq d']) ∧ OB w' w.heap.size B' nb b' R ∧ OBC w' w.heap.size P' np c' Ps ∧ OBC w' w.heap.size Q' nq d' Qs ∧ Ext w w' := by
  have hE1 := Ext.new w (.cells #[.int .i64 x, .slice B nb d, .int .i64 i, .slice P np cp, .slice Q nq cq] 40)
  have hB1 := Blk.new w 40 #[.int .i64 x, .slice B nb d, .int .i64 i, .slice P np cp, .slice Q nq cq]
  have hE2 := Ext.new (w.alloc (.cells #[.int .i64 x, .slice B nb d, .int .i64 i, .slice P np cp, .slice Q nq cq] 40)) (.cells #[.int .i64 0, .slice none 0 0, .int .i64 0, .slice none 0 0, .slice none 0 0] 40)
  have hB2 := Blk.new (w.alloc (.cells #[.int .i64 x, .slice B nb d, .int .i64 i, .slice P np cp, .slice Q nq cq] 40)) 40 #[.int .i64 0, .slice none 0 0, .int .i64 0, .slice none 0 0, .slice none 0 0]
  rw [World.size_alloc] at hB2
  replace hB1 := hB1.ext hE2
  have hEa := hE1.trans hE2
  have hsz := hEa.size
  have hge : w.heap.size ≤ w.heap.size + 1 := by omega
  go_enter Tryz.func44, Tryz.ntmps44
  go_upto_region 1 with (fail)
  clear hE1 hE2
  generalize (w.alloc (.cells #[.int .i64 x, .slice B nb d, .int .i64 i, .slice P np cp, .slice Q nq cq] 40)).alloc (.cells #[.int .i64 0, .slice none 0 0, .int .i64 0, .slice none 0 0, .slice none 0 0] 40) = w1 at *
  generalize w.heap.size + 1 = g2 at *
  obtain ⟨g1, hg⟩ : ∃ g1, g1 = w.heap.size := ⟨_, rfl⟩
  rw [← hg] at hB1 ⊢
  clear hg
  replace rR := rR.ext hEa
  replace rP := rP.ext hEa
  replace rQ := rQ.ext hEa
  refine par_ext (n := 11) (by kernel_rfl) [.is (.pointer (some ⟨g1, 0, none⟩)), .is (.pointer (some ⟨g1, 0, none⟩)), .is (.int .i64 (x)), .is (.pointer (some ⟨g1, 0, none⟩)), .is (.pointer (some ⟨g1, 1, none⟩)), .is (.slice (B) (nb) (d)), .obk (w1.heap.size) (nb) (R), .agb (w1.heap.size) (x) (nb) (R), .is (.pointer (some ⟨g1, 2, none⟩)), .is (.agg #[.int .i64 (i), .slice (P) (np) (cp), .slice (Q) (nq) (cq)]), .sgo (w1.heap.size) (i) (np) (Ps) (nq) (Qs)] rfl ⟨?_, ?_, ?_, ?_, ?_, ?_, ?_, ?_, ?_, ?_, ?_, trivial⟩ ?_
  · refine stepE rfl fun sdn sa sw sE sd sk => ?_
    have h1 : sa.eval (.tmp 1) = .pointer (some ⟨g1, 0, none⟩) := sk.old 1 rfl
    refine Runs.of_run (r := .pointer (some ⟨g1, 0, none⟩)) (w' := sw) ?_ ⟨Ext.refl _, rfl⟩
    unfold execOp
    simp only [h1]
    go_simp
  · refine stepE rfl fun sdn sa sw sE sd sk => ?_
    have h3 : sa.eval (.tmp 3) = .pointer (some ⟨g1, 0, none⟩) := sk.fact 0 3 rfl (sd 0 rfl)
    refine Runs.of_run (r := .pointer (some ⟨g1, 0, none⟩)) (w' := sw) ?_ ⟨Ext.refl _, rfl⟩
    unfold execOp
    simp only [h3]
    go_simp
  · refine stepE rfl fun sdn sa sw sE sd sk => ?_
    have h4 : sa.eval (.tmp 4) = .pointer (some ⟨g1, 0, none⟩) := sk.fact 1 4 rfl (sd 1 rfl)
    exact Runs.load rfl h4 (run_load1 Tryz.underlying3 rfl ((hB1.ext sE).cell (i := 0) rfl)) ⟨Ext.refl _, rfl⟩
  · refine stepE rfl fun sdn sa sw sE sd sk => ?_
    have h1 : sa.eval (.tmp 1) = .pointer (some ⟨g1, 0, none⟩) := sk.old 1 rfl
    refine Runs.of_run (r := .pointer (some ⟨g1, 0, none⟩)) (w' := sw) ?_ ⟨Ext.refl _, rfl⟩
    unfold execOp
    simp only [h1]
    go_simp
  · refine stepE rfl fun sdn sa sw sE sd sk => ?_
    have h6 : sa.eval (.tmp 6) = .pointer (some ⟨g1, 0, none⟩) := sk.fact 3 6 rfl (sd 3 rfl)
    refine Runs.of_run (r := .pointer (some ⟨g1, 1, none⟩)) (w' := sw) ?_ ⟨Ext.refl _, rfl⟩
    unfold execOp
    simp only [h6]
    go_simp
  · refine stepE rfl fun sdn sa sw sE sd sk => ?_
    have h7 : sa.eval (.tmp 7) = .pointer (some ⟨g1, 1, none⟩) := sk.fact 4 7 rfl (sd 4 rfl)
    exact Runs.load rfl h7 (run_load1 Tryz.underlying26 rfl ((hB1.ext sE).cell (i := 1) rfl)) ⟨Ext.refl _, rfl⟩
  · refine stepE rfl fun sdn sa sw sE sd sk => ?_
    have h8 : sa.eval (.tmp 8) = .slice (B) (nb) (d) := sk.fact 5 8 rfl (sd 5 rfl)
    refine Runs.call (f := 8) (vs := [.slice (B) (nb) (d)]) rfl rfl rfl (by simp only [List.map_toArray, List.map_cons, List.map_nil, h8] <;> rfl) (ent8 _ _) ((clone_any _ _ _ _ sw (rR.ext sE) (by omega)).mono ?_); rintro e w' ⟨A', c', rfl, own, hx⟩; exact ⟨_, rfl, hx, _, _, rfl, own.base sE.size⟩
  · refine stepE rfl fun sdn sa sw sE sd sk => ?_
    have h5 : sa.eval (.tmp 5) = .int .i64 (x) := sk.fact 2 5 rfl (sd 2 rfl)
    obtain ⟨A9, c9, h9, o9⟩ := sk.fact 6 9 rfl (sd 6 rfl)
    refine Runs.of_run (r := .agg #[.int .i64 (x), .slice (A9) (nb) (c9)]) (w' := sw) ?_ ⟨Ext.refl _, _, _, rfl, o9⟩
    unfold execOp
    simp only [List.map_toArray, List.map_cons, List.map_nil, h5, h9]
    go_simp
  · refine stepE rfl fun sdn sa sw sE sd sk => ?_
    have h1 : sa.eval (.tmp 1) = .pointer (some ⟨g1, 0, none⟩) := sk.old 1 rfl
    refine Runs.of_run (r := .pointer (some ⟨g1, 2, none⟩)) (w' := sw) ?_ ⟨Ext.refl _, rfl⟩
    unfold execOp
    simp only [h1]
    go_simp
  · refine stepE rfl fun sdn sa sw sE sd sk => ?_
    have h11 : sa.eval (.tmp 11) = .pointer (some ⟨g1, 2, none⟩) := sk.fact 8 11 rfl (sd 8 rfl)
    exact Runs.load rfl h11 (load_part (hB1.ext sE) 2 (vs := [.int .i64 (i), .slice (P) (np) (cp), .slice (Q) (nq) (cq)]) rfl Tryz.underlying38 rfl (by kernel_rfl)) ⟨Ext.refl _, rfl⟩
  · refine stepE rfl fun sdn sa sw sE sd sk => ?_
    have h12 : sa.eval (.tmp 12) = .agg #[.int .i64 (i), .slice (P) (np) (cp), .slice (Q) (nq) (cq)] := sk.fact 9 12 rfl (sd 9 rfl)
    refine Runs.call (f := 69) (vs := [.agg #[.int .i64 (i), .slice (P) (np) (cp), .slice (Q) (nq) (cq)]]) rfl rfl rfl (by simp only [List.map_toArray, List.map_cons, List.map_nil, h12] <;> rfl) (ent69 _ _) ((scopy_any _ _ _ _ _ _ _ _ _ sw (rP.ext sE) (rQ.ext sE) hnp hnq hPs hQs).mono ?_); rintro e w' ⟨P', c', Q', d', rfl, o1, o2, hx⟩; exact ⟨_, rfl, hx, _, _, _, _, rfl, o1.base_ sE.size, o2.base_ sE.size⟩
  intro vals W1 hE1 hv1
  have e0 : vals 0 = .pointer (some ⟨g1, 0, none⟩) := hv1 0 (by omega) 3 rfl
  have e1 : vals 1 = .pointer (some ⟨g1, 0, none⟩) := hv1 1 (by omega) 4 rfl
  have e2 : vals 2 = .int .i64 (x) := hv1 2 (by omega) 5 rfl
  have e3 : vals 3 = .pointer (some ⟨g1, 0, none⟩) := hv1 3 (by omega) 6 rfl
  have e4 : vals 4 = .pointer (some ⟨g1, 1, none⟩) := hv1 4 (by omega) 7 rfl
  have e5 : vals 5 = .slice (B) (nb) (d) := hv1 5 (by omega) 8 rfl
  obtain ⟨A9, c9, e6, o9⟩ := hv1 6 (by omega) 9 rfl
  obtain ⟨A10, c10, e7, o10⟩ := hv1 7 (by omega) 10 rfl
  have e8 : vals 8 = .pointer (some ⟨g1, 2, none⟩) := hv1 8 (by omega) 11 rfl
  have e9 : vals 9 = .agg #[.int .i64 (i), .slice (P) (np) (cp), .slice (Q) (nq) (cq)] := hv1 9 (by omega) 12 rfl
  obtain ⟨P13, c13, Q13, d13, e10, o13, p13⟩ := hv1 10 (by omega) 13 rfl
  simp only [putAll, Act.put, List.take_succ_cons, List.take_zero, List.drop_succ_cons, List.drop_zero, List.drop_nil, List.take_nil, Nat.reduceAdd, List.setIfInBounds_toArray, List.set_cons_succ, List.set_cons_zero, e0, e1, e2, e3, e4, e5, e6, e7, e8, e9, e10]
  clear hv1 e0 e1 e2 e3 e4 e5 e6 e7 e8 e9 e10
  have hB21 := hB2.ext hE1
  have hE := hEa.trans hE1
  clear rR rP rQ hB1 hB2 hE1 hEa o9
  have fhB210 := hB21.frozen 0
  have fhB211 := hB21.frozen 1
  have fhB212 := hB21.frozen 2
  have fhB213 := hB21.frozen 3
  have fhB214 := hB21.frozen 4
  have xhB210 := hB21.cell (i := 0) rfl
  have xhB211 := hB21.cell (i := 1) rfl
  have xhB212 := hB21.cell (i := 2) rfl
  have xhB213 := hB21.cell (i := 3) rfl
  have xhB214 := hB21.cell (i := 4) rfl
  go_wp2_with fail
  have gs := fun (w' : World) (u : Value) (i : Nat) => grown_set w' ⟨g2, i, none⟩ u
  have b1 := hB21.set 0 (.int .i64 x)
  have b2 := b1.set 1 (.slice A10 nb c10)
  have b3 := b2.set 2 (.int .i64 i)
  have b4 := b3.set 3 (.slice P13 np c13)
  have b5 := b4.set 4 (.slice Q13 nq d13)
  have f5 : ∀ {b n c : Nat} {A : Option Addr} {Ls : List (List UInt8)}, OBC W1 b A n c Ls → OBC (((((W1.setCell ⟨g2, 0, none⟩ (.int .i64 x)).setCell ⟨g2, 1, none⟩ (.slice A10 nb c10)).setCell ⟨g2, 2, none⟩ (.int .i64 i)).setCell ⟨g2, 3, none⟩ (.slice P13 np c13)).setCell ⟨g2, 4, none⟩ (.slice Q13 nq d13)) b A n c Ls := fun h =>
    ((((h.far hB21 (by decide) (sgn_no _ _ _ _ _ _ _ _ _ _ _) (gs _ (.int .i64 x) 0)).far b1 (by decide) (sgn_no _ _ _ _ _ _ _ _ _ _ _) (gs _ (.slice A10 nb c10) 1)).far b2 (by decide) (sgn_no _ _ _ _ _ _ _ _ _ _ _) (gs _ (.int .i64 i) 2)).far b3 (by decide) (sgn_no _ _ _ _ _ _ _ _ _ _ _) (gs _ (.slice P13 np c13) 3)).far b4 (by decide) (sgn_no _ _ _ _ _ _ _ _ _ _ _) (gs _ (.slice Q13 nq d13) 4)
  have oP5 := f5 o13
  have oQ5 := f5 p13
  have oR1 := o10.grown (gs _ (.int .i64 x) 0) (o10.apart_blk hB21 (by decide))
  have oR2 := oR1.grown (gs _ (.slice A10 nb c10) 1) (oR1.apart_blk b1 (by decide))
  have oR3 := oR2.grown (gs _ (.int .i64 i) 2) (oR2.apart_blk b2 (by decide))
  have oR4 := oR3.grown (gs _ (.slice P13 np c13) 3) (oR3.apart_blk b3 (by decide))
  have oR5 := oR4.grown (gs _ (.slice Q13 nq d13) 4) (oR4.apart_blk b4 (by decide))
  have hEf := ((((hE.set (p := ⟨g2, 0, none⟩) hge (.int .i64 x)).set (p := ⟨g2, 1, none⟩) hge (.slice A10 nb c10)).set (p := ⟨g2, 2, none⟩) hge (.int .i64 i)).set (p := ⟨g2, 3, none⟩) hge (.slice P13 np c13)).set (p := ⟨g2, 4, none⟩) hge (.slice Q13 nq d13)
  refine bodyPost_ret (results_cell_row rfl _ _ g2 _ _ _ _ rfl b5 Tryz.underlying40 rfl rfl) rfl ?_
  exact ⟨A10, c10, P13, c13, Q13, d13, rfl, oR5.base hsz, oP5.base_ hsz, oQ5.base_ hsz, hEf⟩
end Go.Proofs.YtkndgpjamijbbaaGreat
namespace Go.Proofs.YtkndgpjamijbbaaGreat
set_option maxRecDepth 100000
open Go Go.RowKit
theorem Keep.at_ {φ : Nat → Prop} {X : World → Prop} {w w' : World} (h : Keep φ X w) (u : Upd φ w w') : X w' := h w' u
/-- what was known before the blocks of φ were there -/
theorem Keep.old {φ : Nat → Prop} {X : World → Prop} {w0 w : World} (hx : ∀ w', Ext w0 w' → X w') (e : Ext w0 w) (hφ : ∀ k, φ k → w0.heap.size ≤ k) : Keep φ X w := fun w' u => hx w' (u.ext e hφ)
/-- no byte lies in the blocks of φ -/
def NoB (φ : Nat → Prop) (w : World) : Prop := ∀ k, φ k → ∃ t cs, Blk w k t cs ∧ ∀ (i : Nat) (x : Int), cs[i]? ≠ some (.int .u8 x)
theorem NoB.ext {φ : Nat → Prop} {w w' : World} (h : NoB φ w) (e : Ext w w') : NoB φ w' := fun k hk => by
  obtain ⟨t, cs, h1, h2⟩ := h k hk
  exact ⟨t, cs, h1.ext e, h2⟩
theorem RB.keepS {φ : Nat → Prop} {w : World} {A : Option Addr} {n c : Nat} {L : List UInt8} (h : RB w A n c L) (hs : NoB φ w) : Keep φ (fun w => RB w A n c L) w :=
  h.keep_ (fun hn k hk hp => by
    obtain ⟨t, cs, h1, h2⟩ := hs k hp
    exact h.apart5 h1 h2 hn hk)
theorem RBB.keepS {φ : Nat → Prop} {w : World} {A : Option Addr} {n c : Nat} {Ls : List (List UInt8)} (h : RBB w A n c Ls) (hs : NoB φ w) (hA : 0 < n → ∀ k, blk A = some k → ¬ φ k) : Keep φ (fun w => RBB w A n c Ls) w := by
  intro w' u
  refine ⟨h.len, h.room, h.cap, fun hn => ?_⟩
  obtain ⟨ad, rfl, hc⟩ := h.cells hn
  refine ⟨ad, rfl, fun j hj => ?_⟩
  obtain ⟨B, m, d, h1, h2⟩ := hc j hj
  have hb : (ad.add j).block = ad.block := block_of_add _ _
  have hlt := World.block_lt_of_cell? w _ h1
  refine ⟨B, m, d, ?_, (h2.keepS hs).at_ u⟩
  rw [World.cell?_of_block (w := w) (w' := w') (u.block _ hlt (by rw [hb]; exact hA hn ad.block rfl))]
  exact h1
def isSl1 (v : Value) : Prop := ∃ A n c, v = .slice A n c
def isI1 (v : Value) : Prop := ∃ x, v = .int .i64 x
theorem kItems : OwK isSl1 33 26 1 24 (.slice none 0 0) := ⟨Tryz.underlying33, info_bb', rfl, by omega, fun u hu => by
  have h : u = .slice none 0 0 := by simpa [Value.cells] using hu
  exact ⟨none, 0, 0, h⟩, by omega⟩
theorem kAlarms : OwK isI1 34 54 2 16 (.agg #[.int .i64 0, .int .i64 0]) := ⟨Tryz.underlying34, by kernel_rfl, rfl, by omega, fun u hu => by
  have h : u = .int .i64 0 := by simpa [Value.cells] using hu
  exact ⟨0, h⟩, by omega⟩
structure MSt where
  log : List UInt8
  its : List (List UInt8)
  al : List (Int × Int)
  lx : Int
  lr : List UInt8
  li : Int
  lp : List (List UInt8)
  lq : List (List UInt8)
  has : Bool
def alC (al : List (Int × Int)) : List Value := al.flatMap fun a => [.int .i64 a.1, .int .i64 a.2]
theorem alC_len (al : List (Int × Int)) : (alC al).length = al.length * 2 := by
  induction al with
  | nil => rfl
  | cons a r ih =>
    unfold alC at ih ⊢
    rw [List.flatMap_cons, List.length_append, ih, List.length_cons]
    simp
    omega
/-- the blocks that a monitor turns: its own, its items' row, its alarms' row -/
def phiM (I Al : Option Addr) (g : Nat) (k : Nat) : Prop := k = g ∨ blk I = some k ∨ blk Al = some k
def monC (G I V Al R P Q : Option Addr) (cg n ci cv na ca nr cr np cp nq cq : Nat) (lx li : Int) (has : Bool) : Array Value :=
  #[.slice G 32 cg, .slice I n ci, .slice V n cv, .slice Al na ca, .int .i64 lx, .slice R nr cr, .int .i64 li, .slice P np cp, .slice Q nq cq, .bool has]
/-- a monitor, with where its parts lie -/
structure MonA (w : World) (base g : Nat) (s : MSt) (G I V Al R P Q : Option Addr) (cg ci cv ca nr cr np cp nq cq : Nat) (vs : List Value) : Prop where
  ge : base ≤ g
  blk : Blk w g 42 (monC G I V Al R P Q cg s.its.length ci cv s.al.length ca nr cr np cp nq cq s.lx s.li s.has)
  row : OwP isSl1 26 1 w base I s.its.length ci vs
  el : ∀ j, j < s.its.length → ∃ B m d, vs[j]? = some (.slice B m d) ∧ RB w B m d (lb s.its j)
  als : OwP isI1 54 2 w base Al s.al.length ca (alC s.al)
  rG : RB w G 32 cg s.log
  rV : RBB w V s.its.length cv (s.its.map leafH)
  nV : 0 < s.its.length → ∀ k, Go.Proofs.YtkndgpjamijbbaaGreat.blk V = some k → ¬ phiM I Al g k
  rR : RB w R nr cr s.lr
  rP : RBB w P np cp s.lp
  nP : 0 < np → ∀ k, Go.Proofs.YtkndgpjamijbbaaGreat.blk P = some k → ¬ phiM I Al g k
  rQ : RBB w Q nq cq s.lq
  nQ : 0 < nq → ∀ k, Go.Proofs.YtkndgpjamijbbaaGreat.blk Q = some k → ¬ phiM I Al g k
def MonR (w : World) (base : Nat) (φ : Nat → Prop) (g : Nat) (s : MSt) : Prop :=
  ∃ G I V Al R P Q cg ci cv ca nr cr np cp nq cq vs, φ = phiM I Al g ∧ MonA w base g s G I V Al R P Q cg ci cv ca nr cr np cp nq cq vs
theorem mon_no (G I V Al R P Q : Option Addr) (cg n ci cv na ca nr cr np cp nq cq : Nat) (lx li : Int) (has : Bool) (i : Nat) (z : Int) : (monC G I V Al R P Q cg n ci cv na ca nr cr np cp nq cq lx li has)[i]? ≠ some (.int .u8 z) := by
  unfold monC
  rcases i with _ | _ | _ | _ | _ | _ | _ | _ | _ | _ | i <;> simp
section
variable {w w' : World} {base g : Nat} {s : MSt} {G I V Al R P Q : Option Addr} {cg ci cv ca nr cr np cp nq cq : Nat} {vs : List Value}
theorem MonA.nob (h : MonA w base g s G I V Al R P Q cg ci cv ca nr cr np cp nq cq vs) : NoB (phiM I Al g) w := by
  rintro k (rfl | hk | hk)
  · exact ⟨_, _, h.blk, mon_no _ _ _ _ _ _ _ _ _ _ _ _ _ _ _ _ _ _ _ _ _ _⟩
  · obtain ⟨cs, h1, h2⟩ := h.row.blk_ hk
    refine ⟨_, cs, h1, fun i x e => ?_⟩
    obtain ⟨A, n, c, h3⟩ := h2 _ (List.mem_of_getElem? (by rw [Array.getElem?_toList]; exact e))
    cases h3
  · obtain ⟨cs, h1, h2⟩ := h.als.blk_ hk
    refine ⟨_, cs, h1, fun i x e => ?_⟩
    obtain ⟨y, h3⟩ := h2 _ (List.mem_of_getElem? (by rw [Array.getElem?_toList]; exact e))
    injection h3 with h3 _
    cases h3
theorem MonA.lt (h : MonA w base g s G I V Al R P Q cg ci cv ca nr cr np cp nq cq vs) {k : Nat} (hk : phiM I Al g k) : base ≤ k ∧ k < w.heap.size := by
  rcases hk with rfl | hk | hk
  · exact ⟨h.ge, h.blk.lt⟩
  · exact h.row.lt hk
  · exact h.als.lt hk
theorem MonA.ext (h : MonA w base g s G I V Al R P Q cg ci cv ca nr cr np cp nq cq vs) (e : Ext w w') : MonA w' base g s G I V Al R P Q cg ci cv ca nr cr np cp nq cq vs :=
  ⟨h.ge, h.blk.ext e, h.row.ext e, fun j hj => by
    obtain ⟨B, m, d, h1, h2⟩ := h.el j hj
    exact ⟨B, m, d, h1, h2.ext e⟩, h.als.ext e, h.rG.ext e, h.rV.ext e, h.nV, h.rR.ext e, h.rP.ext e, h.nP, h.rQ.ext e, h.nQ⟩
end
theorem MonR.ext {w w' : World} {base g : Nat} {φ : Nat → Prop} {s : MSt} (h : MonR w base φ g s) (e : Ext w w') : MonR w' base φ g s := by
  obtain ⟨G, I, V, Al, R, P, Q, cg, ci, cv, ca, nr, cr, np, cp, nq, cq, vs, h1, h2⟩ := h
  exact ⟨G, I, V, Al, R, P, Q, cg, ci, cv, ca, nr, cr, np, cp, nq, cq, vs, h1, h2.ext e⟩
/-- the rows that a monitor reads and does not turn -/
def dltM (V P Q : Option Addr) (nv np nq : Nat) (k : Nat) : Prop := (0 < nv ∧ blk V = some k) ∨ (0 < np ∧ blk P = some k) ∨ (0 < nq ∧ blk Q = some k)
/-- a monitor, with the blocks that it turns and the rows that it reads -/
def MonD (w : World) (base : Nat) (φ ρ : Nat → Prop) (g : Nat) (s : MSt) : Prop :=
  ∃ G I V Al R P Q cg ci cv ca nr cr np cp nq cq vs, φ = phiM I Al g ∧ ρ = dltM V P Q s.its.length np nq ∧ MonA w base g s G I V Al R P Q cg ci cv ca nr cr np cp nq cq vs
theorem MonD.toR {w : World} {base g : Nat} {φ ρ : Nat → Prop} {s : MSt} (h : MonD w base φ ρ g s) : MonR w base φ g s := by
  obtain ⟨G, I, V, Al, R, P, Q, cg, ci, cv, ca, nr, cr, np, cp, nq, cq, vs, h1, _, h2⟩ := h
  exact ⟨G, I, V, Al, R, P, Q, cg, ci, cv, ca, nr, cr, np, cp, nq, cq, vs, h1, h2⟩
theorem MonR.toD {w : World} {base g : Nat} {φ : Nat → Prop} {s : MSt} (h : MonR w base φ g s) : ∃ ρ, MonD w base φ ρ g s := by
  obtain ⟨G, I, V, Al, R, P, Q, cg, ci, cv, ca, nr, cr, np, cp, nq, cq, vs, h1, h2⟩ := h
  exact ⟨_, G, I, V, Al, R, P, Q, cg, ci, cv, ca, nr, cr, np, cp, nq, cq, vs, h1, rfl, h2⟩
theorem MonD.ext {w w' : World} {base g : Nat} {φ ρ : Nat → Prop} {s : MSt} (h : MonD w base φ ρ g s) (e : Ext w w') : MonD w' base φ ρ g s := by
  obtain ⟨G, I, V, Al, R, P, Q, cg, ci, cv, ca, nr, cr, np, cp, nq, cq, vs, h1, h2, h3⟩ := h
  exact ⟨G, I, V, Al, R, P, Q, cg, ci, cv, ca, nr, cr, np, cp, nq, cq, vs, h1, h2, h3.ext e⟩
theorem MonR.nob {w : World} {base g : Nat} {φ : Nat → Prop} {s : MSt} (h : MonR w base φ g s) : NoB φ w := by
  obtain ⟨G, I, V, Al, R, P, Q, cg, ci, cv, ca, nr, cr, np, cp, nq, cq, vs, rfl, h2⟩ := h
  exact h2.nob
theorem MonR.lt {w : World} {base g : Nat} {φ : Nat → Prop} {s : MSt} (h : MonR w base φ g s) {k : Nat} (hk : φ k) : base ≤ k ∧ k < w.heap.size := by
  obtain ⟨G, I, V, Al, R, P, Q, cg, ci, cv, ca, nr, cr, np, cp, nq, cq, vs, rfl, h2⟩ := h
  exact h2.lt hk
def newM (L : List UInt8) : MSt := ⟨L, [], [], 0, [], 0, [], [], false⟩
def NewP (w : World) (L : List UInt8) (e : Ending) (w' : World) : Prop := ∃ g φ, e = .returned (.tuple #[.pointer (some ⟨g, 0, none⟩), .int .i64 0]) ∧ MonR w' w.heap.size φ g (newM L) ∧ Ext w w'
theorem mnew_yes (A : Option Addr) (c : Nat) (L : List UInt8) (w : World) (hr : RB w A 32 c L) :
    Calls Tryz.prog 5 #[.slice A 32 c] w fun e w' => NewP w L e w' := by
  go_enter Tryz.func5, Tryz.ntmps5
  go_wp2_with fail
  refine (clone_any A 32 c L w hr (by omega)).mono ?_
  rintro e w1 ⟨B, d, rfl, own, hE⟩
  go_wp2_with fail
  go_ret2
  have hB := Blk.new w1 42 (monC B none none none none none none d 0 0 0 0 0 0 0 0 0 0 0 0 0 false)
  have hEn := Ext.new w1 (.cells (monC B none none none none none none d 0 0 0 0 0 0 0 0 0 0 0 0 0 false) 42)
  exact ⟨w1.heap.size, _, rfl, ⟨B, none, none, none, none, none, none, d, 0, 0, 0, 0, 0, 0, 0, 0, 0, [], rfl, hE.size, hB, OwP.none_ _ _, fun j hj => absurd hj (Nat.not_lt_zero _), OwP.none_ _ _, own.rb.ext hEn, RBB.nil_ _, fun h => absurd h (Nat.lt_irrefl _), RB.nil_ _, RBB.nil_ _, fun h => absurd h (Nat.lt_irrefl _), RBB.nil_ _, fun h => absurd h (Nat.lt_irrefl _)⟩, hE.trans hEn⟩
theorem mnew_no (A : Option Addr) (n c : Nat) (w : World) (h32 : ¬ n = 32) :
    Calls Tryz.prog 5 #[.slice A n c] w fun e w' => e = .returned (.tuple #[.pointer none, .int .i64 1]) ∧ w' = w := by
  have h32i : ¬ (n : Int) = 32 := by omega
  go_enter Tryz.func5, Tryz.ntmps5
  go_wp2_with fail
  go_ret2
  exact ⟨rfl, rfl⟩
theorem msize_any (w : World) (base g : Nat) (φ : Nat → Prop) (s : MSt) (h : MonR w base φ g s) :
    Calls Tryz.prog 23 #[.pointer (some ⟨g, 0, none⟩)] w fun e w' => e = .returned (.int .i64 (s.its.length : Nat)) ∧ w' = w := by
  obtain ⟨G, I, V, Al, R, P, Q, cg, ci, cv, ca, nr, cr, np, cp, nq, cq, vs, rfl, h2⟩ := h
  have y1 := h2.blk.cell (i := 1) (v := .slice I s.its.length ci) rfl
  go_enter Tryz.func23, Tryz.ntmps23
  go_wp2_with fail
  go_ret
  exact ⟨rfl, rfl⟩
end Go.Proofs.YtkndgpjamijbbaaGreat
