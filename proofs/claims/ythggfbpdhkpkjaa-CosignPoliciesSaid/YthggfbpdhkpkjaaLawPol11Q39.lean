/-
  CosignPolicies, walked (under way).
-/
import Derived.Test.YthggfbpdhkpkjaaLawPol11Q37
import Derived.Test.YthggfbpdhkpkjaaLawPol11Q38
import Derived.Test.YthggfbpdhkpkjaaLawPol11Q20
namespace Go.Proofs.Ythggfbpdhkpkjaa
set_option maxRecDepth 100000
open Go Go.RowKit
theorem OBC.at_ {w : World} {base n c : Nat} {A : Option Addr} {Ls : List (List UInt8)} (h : OBC w base A n c Ls) {j : Nat} (hj : j < n) :
    ∃ g B m d, A = some ⟨g, 0, none⟩ ∧ w.cell? ⟨g, j, none⟩ = some (.slice B m d) ∧ RB w B m d (lb Ls j) ∧ (0 < m → blk B ≠ some g) ∧ base ≤ g ∧ w.frozen? ⟨g, 0, none⟩ = false ∧ n ≤ c := by
  obtain ⟨vs, h1, h2, h3⟩ := h
  rcases h1.2 with ⟨hv, hn⟩ | ⟨g, cap, cur, hv, hb, hg, hnc, hcm, hcs, ht⟩
  · omega
  · injection hv with e1 e2 e3
    subst e1 e3
    obtain ⟨B, m, d, h4, h5, h6⟩ := h3 j hj
    refine ⟨g, B, m, d, rfl, ?_, h5, h6, hb, World.ownsRow.frozenAt h1 0, hnc⟩
    have h7 := World.ownsRow.cells h1 (g := g) rfl j _ h4
    rw [add_plain] at h7
    exact h7
theorem OBC.frz {w : World} {base n c g : Nat} {Ls : List (List UInt8)} (h : OBC w base (some ⟨g, 0, none⟩) n c Ls) (i : Nat) : w.frozen? ⟨g, i, none⟩ = false := by
  obtain ⟨vs, h1, _⟩ := h
  exact World.ownsRow.frozenAt h1 i
theorem bin_dec {P : Program} {w : World} (t : TypeId) (k : Nat) (h : 1 ≤ k) (h2 : k ≤ 1000000) : (binOp .sub t (.int .i64 (k : Int)) (.int .i64 1)).run P w = .ok (.int .i64 ((k - 1 : Nat) : Int)) w := by
  rw [bin_sub64 t (k : Int) 1 (by omega) (by omega)]
  have e : (k : Int) - 1 = ((k - 1 : Nat) : Int) := by omega
  rw [e]
def PolK (w : World) (gp bs m : Nat) (G : Option Addr) (ng cg : Nat) (q : Int) (LG : List UInt8) (i : Value) (wr : World) : Prop :=
  ∃ (k dq : Nat) (Q : Option Addr) (Ls : List (List UInt8)), k ≤ m ∧ i = .int .i64 k ∧ OBC wr bs Q k dq Ls ∧ Blk wr gp 77 #[.slice G ng cg, .slice Q k dq, .int .i64 q] ∧ RB wr G ng cg LG ∧ bs ≤ wr.heap.size ∧ Ext w wr
set_option maxHeartbeats 8000000 in
theorem policies_false (A : Option Addr) (n c : Nat) (Ks : List (List UInt8)) (B : Option Addr) (m d : Nat) (M : List UInt8) (q : Int) (hq : -9223372036854775808 ≤ q ∧ q ≤ 9223372036854775807) (tw : Bool) (w : World) (hr : RBB w A n c Ks) (rG : RB w B m d M) :
    Calls Try.prog 11 #[.slice A n c, .slice B m d, .int .i64 q, .bool tw, .bool false] w fun e w' => e = .returned (.bool true) ∧ Ext w w' := by
  have hl := hr.len
  have hnc := hr.cap
  have hnr := hr.room
  go_enter Try.func11, Try.ntmps11
  go_wp2_with fail
  refine (cut_any B m d 40 M w rG (by omega)).mono ?_
  rintro e w1 ⟨⟨rfl, rC⟩, rfl⟩
  have hEn := Ext.new w (.cells #[.slice B (min m 40) d, .slice none 0 0, .int .i64 q] 77)
  have hBp := Blk.new w 77 #[.slice B (min m 40) d, .slice none 0 0, .int .i64 q]
  replace rC := rC.ext hEn
  have hgw : w.heap.size ≤ w.heap.size := Nat.le_refl _
  go_wp2_with fail
  generalize hw1 : w.alloc (.cells #[.slice B (min m 40) d, .slice none 0 0, .int .i64 q] 77) = w1 at *
  obtain ⟨gp, hgp⟩ : ∃ gp, gp = w.heap.size := ⟨_, rfl⟩
  rw [← hgp] at hBp ⊢
  obtain ⟨bs, hbse⟩ : ∃ bs, bs = w1.heap.size := ⟨_, rfl⟩
  have hbs : bs ≤ w1.heap.size := by omega
  have hgb : w.heap.size < bs := by rw [hbse, ← hw1, World.size_alloc]; omega
  have hgw : w.heap.size ≤ gp := by omega
  have hGb : 0 < min m 40 → ∀ j, blk B = some j → j < bs := by
    intro h0 j hj
    have := rb_blk_lt rG (by omega) _ hj
    omega
  obtain ⟨G, hG⟩ : ∃ G, G = B := ⟨_, rfl⟩
  obtain ⟨ng, hng⟩ : ∃ ng, ng = min m 40 := ⟨_, rfl⟩
  obtain ⟨cg, hcg⟩ : ∃ cg, cg = d := ⟨_, rfl⟩
  generalize M.take 40 = LG at *
  have e1 : RB w1 G ng cg LG := by rw [hG, hng, hcg]; exact rC
  have e2 : Blk w1 gp 77 #[.slice G ng cg, .slice none 0 0, .int .i64 q] := by rw [hG, hng, hcg]; exact hBp
  have e3 : 0 < ng → ∀ j, blk G = some j → j < bs := by rw [hG, hng]; exact hGb
  clear hw1 hgp hbse hBp rC hGb hG hng hcg
  have hBp := e2
  have rC := e1
  have hGb := e3
  clear e1 e2 e3
  go_loopw [12] (fun i wr => PolK w gp bs (min n 6) G ng cg q LG i wr) (fun i _ => min n 6 - (intOf i).toNat)
  case atStart => exact ⟨0, 0, none, [], by omega, rfl, OBC.none_ _ _, hBp, rC, hbs, hEn⟩
  case round =>
    clear hBp rC hEn hbs
    obtain ⟨k, dq, Q, Ls, hk, rfl, ownQ, hBp, rC, hbs, hEr⟩ := hrel
    by_cases hlt : k < min n 6
    · have hki : (k : Int) < (n : Int) := by omega
      have hk6 : (k : Int) < 6 := by omega
      obtain ⟨ad, rfl, hc⟩ := hr.cells (by omega)
      obtain ⟨E, z, y, hcell, hrE⟩ := hc k (by omega)
      have y1 := hEr.cell hcell
      have rE := hrE.ext hEr
      have yp : wr.cell? ⟨gp, 1, none⟩ = some (.slice Q k dq) := hBp.cell (i := 1) rfl
      have hcu := cut_any E z y 40 _ wr rE (by omega)
      have Hcu := Lib.hid hcu
      clear hcu hc hcell
      go_wp2_with fail
      refine Hcu.out.mono ?_
      rintro e w2 ⟨⟨rfl, rK⟩, rfl⟩
      clear Hcu
      have hEx := Ext.new wr (.cells #[.slice E (min z 40) y] 22)
      have hBa := Blk.new wr 22 #[.slice E (min z 40) y]
      have ownQ1 := ownQ.ext hEx
      have hB51 := hBp.ext hEx
      have rC1 := rC.ext hEx
      have hEw := hEr.trans hEx
      have hne : 0 < min z 40 → blk E ≠ blk Q := by
        intro hz e
        obtain ⟨b, hb⟩ : ∃ b, blk E = some b := by
          obtain ⟨ad', h1, _⟩ := hrE.cells (by omega)
          rw [h1]
          exact ⟨_, rfl⟩
        have h1 := rb_blk_lt hrE (by omega) _ hb
        have h2 := (ownQ.lt (e.symm.trans hb)).1
        omega
      have hY0 : RB wr E (min z 40) y ((lb Ks k).take 40) := rK
      have rY := hY0.ext hEx
      have hGQ : 0 < ng → blk G ≠ blk Q := by
        intro h0 e
        obtain ⟨j, hj⟩ : ∃ j, blk G = some j := by
          obtain ⟨ad', h1, _⟩ := rC1.cells h0
          rw [h1]
          exact ⟨_, rfl⟩
        have h2 := hGb h0 j hj
        have h3 := (ownQ1.lt (e.symm.trans hj)).1
        omega
      go_wp2_with (refine appbc_law (base := bs) (Y := (lb Ks k).take 40) rfl rfl rfl rfl (by rw [add_plain]; exact hBa.cell (i := 0) rfl) ownQ1 rY hne (Nat.le_trans hbs hEx.size) (by omega) ?_; intro Q5 d5 w5 ownQ5 g5; have hB55 := hB51.grown g5 (ownQ1.apart_blk hB51 (by decide)); have rC5 := rC1.grown g5 hGQ; have y5 := hB55.cell (i := 1) (v := .slice Q k dq) rfl; have y6 := hB55.frozen 1)
      have gs := grown_set w5 ⟨gp, 1, none⟩ (.slice Q5 (k + 1) d5)
      have ownQ6 := ownQ5.far hB55 (by decide) (pol_no _ _ _ _ _ _ _) gs
      have hB56 := hB55.set 1 (.slice Q5 (k + 1) d5)
      have rC6 := rC5.grown gs (rC5.apart5 hB55 (pol_no _ _ _ _ _ _ _))
      have hE6 := (hEw.then_grown g5 (fun b hb => by have := (ownQ1.lt hb).1; omega)).set (p := ⟨gp, 1, none⟩) (by show w.heap.size ≤ gp; omega) (.slice Q5 (k + 1) d5)
      have hb6 : bs ≤ (w5.setCell ⟨gp, 1, none⟩ (.slice Q5 (k + 1) d5)).heap.size := by
        have h1 := gs.size
        have h2 := g5.size
        have h3 := hEx.size
        omega
      clear hB51 rC1 hEw ownQ1 ownQ5 g5 hB55 rC5 y5 y6 gs yp hEx
      go_roundw
      case rel => exact ⟨k + 1, d5, Q5, _, by omega, by go_num, ownQ6, hB56, rC6, hb6, hE6⟩
      case measure => simp [intOf]; omega
    · by_cases hpn : k < n
      · have a1 : (k : Int) < (n : Int) := by omega
        have a2 : ¬ ((k : Int) < 6) := by omega
        have hk6x : ¬ (k < 6) := by omega
        clear hlt hpn
        cases tw with
        | false =>
          go_upto_region 13 with (fail)
          have rQ := ownQ.rbb
          refine par_ext (n := 8) (by kernel_rfl) [.is (.agg #[.slice (G) (ng) (cg), .slice (Q) (k) (dq), .int .i64 (q)]), .is (.bool (polB LG Ls q)), .is (.agg #[.slice (G) (ng) (cg), .slice (Q) (k) (dq), .int .i64 (q)]), .is (.bool (polB LG Ls q)), .is (.bool (true)), .is (.bool (true)), .is (.bool (true)), .is (.bool (true))] rfl ⟨?_, ?_, ?_, ?_, ?_, ?_, ?_, ?_, trivial⟩ ?_
          · refine stepE rfl fun sdn sa sw sE sd sk => ?_
            have h11 : sa.eval (.tmp 11) = .pointer (some ⟨gp, 0, none⟩) := sk.old 11 rfl
            exact Runs.load rfl h11 (load_part (hBp.ext sE) 0 (vs := [.slice (G) (ng) (cg), .slice (Q) (k) (dq), .int .i64 (q)]) rfl Try.underlying77 rfl (by kernel_rfl)) ⟨Ext.refl _, rfl⟩
          · refine stepE rfl fun sdn sa sw sE sd sk => ?_
            have h71 : sa.eval (.tmp 71) = .agg #[.slice (G) (ng) (cg), .slice (Q) (k) (dq), .int .i64 (q)] := sk.fact 0 71 rfl (sd 0 rfl)
            refine Runs.call (f := 42) (vs := [.agg #[.slice (G) (ng) (cg), .slice (Q) (k) (dq), .int .i64 (q)]]) rfl rfl rfl (by simp only [List.map_toArray, List.map_cons, List.map_nil, h71] <;> rfl) (ent42 _ _) ((cosright_any _ _ _ _ _ _ _ _ _ sw (rC.ext sE) (rQ.ext sE)).mono ?_); rintro e w' ⟨rfl, hx⟩; exact ⟨_, rfl, hx, rfl⟩
          · refine stepE rfl fun sdn sa sw sE sd sk => ?_
            have h11 : sa.eval (.tmp 11) = .pointer (some ⟨gp, 0, none⟩) := sk.old 11 rfl
            exact Runs.load rfl h11 (load_part (hBp.ext sE) 0 (vs := [.slice (G) (ng) (cg), .slice (Q) (k) (dq), .int .i64 (q)]) rfl Try.underlying77 rfl (by kernel_rfl)) ⟨Ext.refl _, rfl⟩
          · refine stepE rfl fun sdn sa sw sE sd sk => ?_
            have h73 : sa.eval (.tmp 73) = .agg #[.slice (G) (ng) (cg), .slice (Q) (k) (dq), .int .i64 (q)] := sk.fact 2 73 rfl (sd 2 rfl)
            refine Runs.call (f := 53) (vs := [.agg #[.slice (G) (ng) (cg), .slice (Q) (k) (dq), .int .i64 (q)]]) rfl rfl rfl (by simp only [List.map_toArray, List.map_cons, List.map_nil, h73] <;> rfl) (ent53 _ _) ((rpolicy_any _ _ _ _ _ _ _ _ _ sw (rC.ext sE) (rQ.ext sE)).mono ?_); rintro e w' ⟨rfl, hx⟩; exact ⟨_, rfl, hx, rfl⟩
          · refine stepE rfl fun sdn sa sw sE sd sk => ?_
            have h72 : sa.eval (.tmp 72) = .bool (polB LG Ls q) := sk.fact 1 72 rfl (sd 1 rfl)
            have h74 : sa.eval (.tmp 74) = .bool (polB LG Ls q) := sk.fact 3 74 rfl (sd 3 rfl)
            exact Runs.bin rfl h72 h74 (by rfl) (bin_eqb _ _) ⟨Ext.refl _, congrArg Value.bool (by simp)⟩
          · refine stepE rfl fun sdn sa sw sE sd sk => ?_
            have h75 : sa.eval (.tmp 75) = .bool (true) := sk.fact 4 75 rfl (sd 4 rfl)
            exact Runs.move rfl h75 ⟨Ext.refl _, rfl⟩
          · refine stepY (j := 5) (d := 76) (b := true) rfl rfl rfl (fun v w h => h) fun sdn sa sw sE sd sk => ?_
            refine Runs.call (f := 47) (vs := []) rfl rfl rfl (by simp only [List.map_toArray, List.map_cons, List.map_nil] <;> rfl) (ent47 _ _) ((known11_any sw).mono ?_); rintro e w' ⟨rfl, hx⟩; exact ⟨_, rfl, hx, rfl⟩
          · refine stepE rfl fun sdn sa sw sE sd sk => ?_
            have h76 : sa.eval (.tmp 76) = .bool (true) := sk.fact 5 76 rfl (sd 5 rfl)
            have h77 : sa.eval (.tmp 77) = .bool (true) := sk.fact 6 77 rfl (sd 6 rfl)
            exact Runs.pick rfl h76 ⟨Ext.refl _, by first | exact h77 | simpa using h77⟩
          intro vals W13 hE13 hv13
          have e0 : vals 0 = .agg #[.slice (G) (ng) (cg), .slice (Q) (k) (dq), .int .i64 (q)] := hv13 0 (by omega) 71 rfl
          have e1 : vals 1 = .bool (polB LG Ls q) := hv13 1 (by omega) 72 rfl
          have e2 : vals 2 = .agg #[.slice (G) (ng) (cg), .slice (Q) (k) (dq), .int .i64 (q)] := hv13 2 (by omega) 73 rfl
          have e3 : vals 3 = .bool (polB LG Ls q) := hv13 3 (by omega) 74 rfl
          have e4 : vals 4 = .bool (true) := hv13 4 (by omega) 75 rfl
          have e5 : vals 5 = .bool (true) := hv13 5 (by omega) 76 rfl
          have e6 : vals 6 = .bool (true) := hv13 6 (by omega) 77 rfl
          have e7 : vals 7 = .bool (true) := hv13 7 (by omega) 78 rfl
          simp only [putAll, Act.put, List.take_succ_cons, List.take_zero, List.drop_succ_cons, List.drop_zero, List.drop_nil, List.take_nil, Nat.reduceAdd, List.setIfInBounds_toArray, List.set_cons_succ, List.set_cons_zero, e0, e1, e2, e3, e4, e5, e6, e7]
          clear hv13 e0 e1 e2 e3 e4 e5 e6 e7
          go_wp2_with fail
          go_ret
          exact ⟨rfl, hEr.trans hE13⟩
        | true =>
          have yq := hBp.cell (i := 1) (v := .slice Q k dq) rfl
          by_cases h1 : 1 < k
          · have h1i : (1 : Int) < (k : Int) := by omega
            go_upto_region 12 with (fail)
            have hGQ : 0 < ng → blk G ≠ blk Q := by
              intro h0 e
              obtain ⟨j, hj⟩ : ∃ j, blk G = some j := by
                obtain ⟨ad', h1, _⟩ := rC.cells h0
                rw [h1]
                exact ⟨_, rfl⟩
              have h2 := hGb h0 j hj
              have h3 := (ownQ.lt (e.symm.trans hj)).1
              omega
            obtain ⟨gQ, E, z, y, rfl, hcl0, rE, hne, hgq, _, hkd⟩ := ownQ.at_ (j := k - 1) (by omega)
            have hcl : wr.cell? ((⟨gQ, 0, none⟩ : Addr).add (k - 1)) = some (.slice E z y) := by rw [add_plain]; exact hcl0
            have rQ := ownQ.rbb
            refine par_ext (n := 10) (by kernel_rfl) [.is (.pointer (some ⟨gp, 1, none⟩)), .is (.slice ((some ⟨gQ, 0, none⟩)) (k) (dq)), .is (.pointer (some ⟨gp, 1, none⟩)), .is (.slice ((some ⟨gQ, 0, none⟩)) (k) (dq)), .is (.pointer (some ⟨gp, 1, none⟩)), .is (.slice ((some ⟨gQ, 0, none⟩)) (k) (dq)), .is (.int .i64 ((k : Nat))), .is (.int .i64 (((k - 1 : Nat) : Int))), .is (.pointer (some ((⟨gQ, 0, none⟩ : Addr).add (k - 1)))), .is (.slice (E) (z) (y))] rfl ⟨?_, ?_, ?_, ?_, ?_, ?_, ?_, ?_, ?_, ?_, trivial⟩ ?_
            · refine stepE rfl fun sdn sa sw sE sd sk => ?_
              have h11 : sa.eval (.tmp 11) = .pointer (some ⟨gp, 0, none⟩) := sk.old 11 rfl
              refine Runs.of_run (r := .pointer (some ⟨gp, 1, none⟩)) (w' := sw) ?_ ⟨Ext.refl _, rfl⟩
              unfold execOp
              simp only [h11]
              go_simp
            · refine stepE rfl fun sdn sa sw sE sd sk => ?_
              have h60 : sa.eval (.tmp 60) = .pointer (some ⟨gp, 1, none⟩) := sk.fact 0 60 rfl (sd 0 rfl)
              exact Runs.load rfl h60 (run_load1 Try.underlying37 rfl ((hBp.ext sE).cell (i := 1) rfl)) ⟨Ext.refl _, rfl⟩
            · refine stepE rfl fun sdn sa sw sE sd sk => ?_
              have h11 : sa.eval (.tmp 11) = .pointer (some ⟨gp, 0, none⟩) := sk.old 11 rfl
              refine Runs.of_run (r := .pointer (some ⟨gp, 1, none⟩)) (w' := sw) ?_ ⟨Ext.refl _, rfl⟩
              unfold execOp
              simp only [h11]
              go_simp
            · refine stepE rfl fun sdn sa sw sE sd sk => ?_
              have h62 : sa.eval (.tmp 62) = .pointer (some ⟨gp, 1, none⟩) := sk.fact 2 62 rfl (sd 2 rfl)
              exact Runs.load rfl h62 (run_load1 Try.underlying37 rfl ((hBp.ext sE).cell (i := 1) rfl)) ⟨Ext.refl _, rfl⟩
            · refine stepE rfl fun sdn sa sw sE sd sk => ?_
              have h11 : sa.eval (.tmp 11) = .pointer (some ⟨gp, 0, none⟩) := sk.old 11 rfl
              refine Runs.of_run (r := .pointer (some ⟨gp, 1, none⟩)) (w' := sw) ?_ ⟨Ext.refl _, rfl⟩
              unfold execOp
              simp only [h11]
              go_simp
            · refine stepE rfl fun sdn sa sw sE sd sk => ?_
              have h64 : sa.eval (.tmp 64) = .pointer (some ⟨gp, 1, none⟩) := sk.fact 4 64 rfl (sd 4 rfl)
              exact Runs.load rfl h64 (run_load1 Try.underlying37 rfl ((hBp.ext sE).cell (i := 1) rfl)) ⟨Ext.refl _, rfl⟩
            · refine stepE rfl fun sdn sa sw sE sd sk => ?_
              have h65 : sa.eval (.tmp 65) = .slice ((some ⟨gQ, 0, none⟩)) (k) (dq) := sk.fact 5 65 rfl (sd 5 rfl)
              exact Runs.len Try.underlying37 rfl h65 ⟨Ext.refl _, rfl⟩
            · refine stepE rfl fun sdn sa sw sE sd sk => ?_
              have h66 : sa.eval (.tmp 66) = .int .i64 ((k : Nat)) := sk.fact 6 66 rfl (sd 6 rfl)
              exact Runs.bin rfl h66 rfl (by rfl) (bin_dec _ k (by omega) (by omega)) ⟨Ext.refl _, rfl⟩
            · refine stepE rfl fun sdn sa sw sE sd sk => ?_
              have h63 : sa.eval (.tmp 63) = .slice ((some ⟨gQ, 0, none⟩)) (k) (dq) := sk.fact 3 63 rfl (sd 3 rfl)
              have h67 : sa.eval (.tmp 67) = .int .i64 (((k - 1 : Nat) : Int)) := sk.fact 7 67 rfl (sd 7 rfl)
              exact Runs.idx rfl h63 h67 (run_idx_sl1 Try.underlying37 infZZ_eq infZZ_size (k - 1) (by omega) (by omega)) ⟨Ext.refl _, rfl⟩
            · refine stepE rfl fun sdn sa sw sE sd sk => ?_
              have h68 : sa.eval (.tmp 68) = .pointer (some ((⟨gQ, 0, none⟩ : Addr).add (k - 1))) := sk.fact 8 68 rfl (sd 8 rfl)
              exact Runs.load rfl h68 (run_load1 Try.underlying22 rfl (sE.cell hcl)) ⟨Ext.refl _, rfl⟩
            intro vals W12 hE12 hv12
            have e0 : vals 0 = .pointer (some ⟨gp, 1, none⟩) := hv12 0 (by omega) 60 rfl
            have e1 : vals 1 = .slice ((some ⟨gQ, 0, none⟩)) (k) (dq) := hv12 1 (by omega) 61 rfl
            have e2 : vals 2 = .pointer (some ⟨gp, 1, none⟩) := hv12 2 (by omega) 62 rfl
            have e3 : vals 3 = .slice ((some ⟨gQ, 0, none⟩)) (k) (dq) := hv12 3 (by omega) 63 rfl
            have e4 : vals 4 = .pointer (some ⟨gp, 1, none⟩) := hv12 4 (by omega) 64 rfl
            have e5 : vals 5 = .slice ((some ⟨gQ, 0, none⟩)) (k) (dq) := hv12 5 (by omega) 65 rfl
            have e6 : vals 6 = .int .i64 ((k : Nat)) := hv12 6 (by omega) 66 rfl
            have e7 : vals 7 = .int .i64 (((k - 1 : Nat) : Int)) := hv12 7 (by omega) 67 rfl
            have e8 : vals 8 = .pointer (some ((⟨gQ, 0, none⟩ : Addr).add (k - 1))) := hv12 8 (by omega) 68 rfl
            have e9 : vals 9 = .slice (E) (z) (y) := hv12 9 (by omega) 69 rfl
            simp only [putAll, Act.put, List.take_succ_cons, List.take_zero, List.drop_succ_cons, List.drop_zero, List.drop_nil, List.take_nil, Nat.reduceAdd, List.setIfInBounds_toArray, List.set_cons_succ, List.set_cons_zero, e0, e1, e2, e3, e4, e5, e6, e7, e8, e9]
            clear hv12 e0 e1 e2 e3 e4 e5 e6 e7 e8 e9
            have o2 := ownQ.ext hE12
            have hEw := hEr.trans hE12
            have st := o2.store (rE.ext hE12) hne 0 (by omega) hEw (by omega)
            have f0 := o2.frz 0
            obtain ⟨gR, E0, z0, y0, hR, hc0, _⟩ := o2.at_ (j := 0) (by omega)
            cases hR
            have b2 := (hBp.ext hE12).far (p := ⟨gQ, 0, none⟩) (by have := o2.apart_blk (hBp.ext hE12) (by decide); intro e; exact this (congrArg some e)) (.slice E z y)
            have r2 := (rC.ext hE12).grown (grown_set W12 ⟨gQ, 0, none⟩ (.slice E z y)) hGQ
            go_upto_region 13 with (fail)
            clear ownQ hBp rC hEr rQ hcl hcl0
            obtain ⟨ownQ, hEr⟩ := st
            have hBp := b2
            have rC := r2
            clear b2 r2
            generalize W12.setCell ⟨gQ, 0, none⟩ (.slice E z y) = w13 at *
            have rQ := ownQ.rbb
            refine par_ext (n := 8) (by kernel_rfl) [.is (.agg #[.slice (G) (ng) (cg), .slice ((some ⟨gQ, 0, none⟩)) (k) (dq), .int .i64 (q)]), .is (.bool (polB LG (Ls.set 0 (lb Ls (k - 1))) q)), .is (.agg #[.slice (G) (ng) (cg), .slice ((some ⟨gQ, 0, none⟩)) (k) (dq), .int .i64 (q)]), .is (.bool (polB LG (Ls.set 0 (lb Ls (k - 1))) q)), .is (.bool (true)), .is (.bool (true)), .is (.bool (true)), .is (.bool (true))] rfl ⟨?_, ?_, ?_, ?_, ?_, ?_, ?_, ?_, trivial⟩ ?_
            · refine stepE rfl fun sdn sa sw sE sd sk => ?_
              have h11 : sa.eval (.tmp 11) = .pointer (some ⟨gp, 0, none⟩) := sk.old 11 rfl
              exact Runs.load rfl h11 (load_part (hBp.ext sE) 0 (vs := [.slice (G) (ng) (cg), .slice ((some ⟨gQ, 0, none⟩)) (k) (dq), .int .i64 (q)]) rfl Try.underlying77 rfl (by kernel_rfl)) ⟨Ext.refl _, rfl⟩
            · refine stepE rfl fun sdn sa sw sE sd sk => ?_
              have h71 : sa.eval (.tmp 71) = .agg #[.slice (G) (ng) (cg), .slice ((some ⟨gQ, 0, none⟩)) (k) (dq), .int .i64 (q)] := sk.fact 0 71 rfl (sd 0 rfl)
              refine Runs.call (f := 42) (vs := [.agg #[.slice (G) (ng) (cg), .slice ((some ⟨gQ, 0, none⟩)) (k) (dq), .int .i64 (q)]]) rfl rfl rfl (by simp only [List.map_toArray, List.map_cons, List.map_nil, h71] <;> rfl) (ent42 _ _) ((cosright_any _ _ _ _ _ _ _ _ _ sw (rC.ext sE) (rQ.ext sE)).mono ?_); rintro e w' ⟨rfl, hx⟩; exact ⟨_, rfl, hx, rfl⟩
            · refine stepE rfl fun sdn sa sw sE sd sk => ?_
              have h11 : sa.eval (.tmp 11) = .pointer (some ⟨gp, 0, none⟩) := sk.old 11 rfl
              exact Runs.load rfl h11 (load_part (hBp.ext sE) 0 (vs := [.slice (G) (ng) (cg), .slice ((some ⟨gQ, 0, none⟩)) (k) (dq), .int .i64 (q)]) rfl Try.underlying77 rfl (by kernel_rfl)) ⟨Ext.refl _, rfl⟩
            · refine stepE rfl fun sdn sa sw sE sd sk => ?_
              have h73 : sa.eval (.tmp 73) = .agg #[.slice (G) (ng) (cg), .slice ((some ⟨gQ, 0, none⟩)) (k) (dq), .int .i64 (q)] := sk.fact 2 73 rfl (sd 2 rfl)
              refine Runs.call (f := 53) (vs := [.agg #[.slice (G) (ng) (cg), .slice ((some ⟨gQ, 0, none⟩)) (k) (dq), .int .i64 (q)]]) rfl rfl rfl (by simp only [List.map_toArray, List.map_cons, List.map_nil, h73] <;> rfl) (ent53 _ _) ((rpolicy_any _ _ _ _ _ _ _ _ _ sw (rC.ext sE) (rQ.ext sE)).mono ?_); rintro e w' ⟨rfl, hx⟩; exact ⟨_, rfl, hx, rfl⟩
            · refine stepE rfl fun sdn sa sw sE sd sk => ?_
              have h72 : sa.eval (.tmp 72) = .bool (polB LG (Ls.set 0 (lb Ls (k - 1))) q) := sk.fact 1 72 rfl (sd 1 rfl)
              have h74 : sa.eval (.tmp 74) = .bool (polB LG (Ls.set 0 (lb Ls (k - 1))) q) := sk.fact 3 74 rfl (sd 3 rfl)
              exact Runs.bin rfl h72 h74 (by rfl) (bin_eqb _ _) ⟨Ext.refl _, congrArg Value.bool (by simp)⟩
            · refine stepE rfl fun sdn sa sw sE sd sk => ?_
              have h75 : sa.eval (.tmp 75) = .bool (true) := sk.fact 4 75 rfl (sd 4 rfl)
              exact Runs.move rfl h75 ⟨Ext.refl _, rfl⟩
            · refine stepY (j := 5) (d := 76) (b := true) rfl rfl rfl (fun v w h => h) fun sdn sa sw sE sd sk => ?_
              refine Runs.call (f := 47) (vs := []) rfl rfl rfl (by simp only [List.map_toArray, List.map_cons, List.map_nil] <;> rfl) (ent47 _ _) ((known11_any sw).mono ?_); rintro e w' ⟨rfl, hx⟩; exact ⟨_, rfl, hx, rfl⟩
            · refine stepE rfl fun sdn sa sw sE sd sk => ?_
              have h76 : sa.eval (.tmp 76) = .bool (true) := sk.fact 5 76 rfl (sd 5 rfl)
              have h77 : sa.eval (.tmp 77) = .bool (true) := sk.fact 6 77 rfl (sd 6 rfl)
              exact Runs.pick rfl h76 ⟨Ext.refl _, by first | exact h77 | simpa using h77⟩
            intro vals W13 hE13 hv13
            have e0 : vals 0 = .agg #[.slice (G) (ng) (cg), .slice ((some ⟨gQ, 0, none⟩)) (k) (dq), .int .i64 (q)] := hv13 0 (by omega) 71 rfl
            have e1 : vals 1 = .bool (polB LG (Ls.set 0 (lb Ls (k - 1))) q) := hv13 1 (by omega) 72 rfl
            have e2 : vals 2 = .agg #[.slice (G) (ng) (cg), .slice ((some ⟨gQ, 0, none⟩)) (k) (dq), .int .i64 (q)] := hv13 2 (by omega) 73 rfl
            have e3 : vals 3 = .bool (polB LG (Ls.set 0 (lb Ls (k - 1))) q) := hv13 3 (by omega) 74 rfl
            have e4 : vals 4 = .bool (true) := hv13 4 (by omega) 75 rfl
            have e5 : vals 5 = .bool (true) := hv13 5 (by omega) 76 rfl
            have e6 : vals 6 = .bool (true) := hv13 6 (by omega) 77 rfl
            have e7 : vals 7 = .bool (true) := hv13 7 (by omega) 78 rfl
            simp only [putAll, Act.put, List.take_succ_cons, List.take_zero, List.drop_succ_cons, List.drop_zero, List.drop_nil, List.take_nil, Nat.reduceAdd, List.setIfInBounds_toArray, List.set_cons_succ, List.set_cons_zero, e0, e1, e2, e3, e4, e5, e6, e7]
            clear hv13 e0 e1 e2 e3 e4 e5 e6 e7
            go_wp2_with fail
            go_ret
            exact ⟨rfl, hEr.trans hE13⟩
          · exact absurd hk6x (by omega)
      · have a1 : ¬ ((k : Int) < (n : Int)) := by omega
        clear hlt hpn
        cases tw with
        | false =>
          go_upto_region 13 with (fail)
          have rQ := ownQ.rbb
          refine par_ext (n := 8) (by kernel_rfl) [.is (.agg #[.slice (G) (ng) (cg), .slice (Q) (k) (dq), .int .i64 (q)]), .is (.bool (polB LG Ls q)), .is (.agg #[.slice (G) (ng) (cg), .slice (Q) (k) (dq), .int .i64 (q)]), .is (.bool (polB LG Ls q)), .is (.bool (true)), .is (.bool (true)), .is (.bool (true)), .is (.bool (true))] rfl ⟨?_, ?_, ?_, ?_, ?_, ?_, ?_, ?_, trivial⟩ ?_
          · refine stepE rfl fun sdn sa sw sE sd sk => ?_
            have h11 : sa.eval (.tmp 11) = .pointer (some ⟨gp, 0, none⟩) := sk.old 11 rfl
            exact Runs.load rfl h11 (load_part (hBp.ext sE) 0 (vs := [.slice (G) (ng) (cg), .slice (Q) (k) (dq), .int .i64 (q)]) rfl Try.underlying77 rfl (by kernel_rfl)) ⟨Ext.refl _, rfl⟩
          · refine stepE rfl fun sdn sa sw sE sd sk => ?_
            have h71 : sa.eval (.tmp 71) = .agg #[.slice (G) (ng) (cg), .slice (Q) (k) (dq), .int .i64 (q)] := sk.fact 0 71 rfl (sd 0 rfl)
            refine Runs.call (f := 42) (vs := [.agg #[.slice (G) (ng) (cg), .slice (Q) (k) (dq), .int .i64 (q)]]) rfl rfl rfl (by simp only [List.map_toArray, List.map_cons, List.map_nil, h71] <;> rfl) (ent42 _ _) ((cosright_any _ _ _ _ _ _ _ _ _ sw (rC.ext sE) (rQ.ext sE)).mono ?_); rintro e w' ⟨rfl, hx⟩; exact ⟨_, rfl, hx, rfl⟩
          · refine stepE rfl fun sdn sa sw sE sd sk => ?_
            have h11 : sa.eval (.tmp 11) = .pointer (some ⟨gp, 0, none⟩) := sk.old 11 rfl
            exact Runs.load rfl h11 (load_part (hBp.ext sE) 0 (vs := [.slice (G) (ng) (cg), .slice (Q) (k) (dq), .int .i64 (q)]) rfl Try.underlying77 rfl (by kernel_rfl)) ⟨Ext.refl _, rfl⟩
          · refine stepE rfl fun sdn sa sw sE sd sk => ?_
            have h73 : sa.eval (.tmp 73) = .agg #[.slice (G) (ng) (cg), .slice (Q) (k) (dq), .int .i64 (q)] := sk.fact 2 73 rfl (sd 2 rfl)
            refine Runs.call (f := 53) (vs := [.agg #[.slice (G) (ng) (cg), .slice (Q) (k) (dq), .int .i64 (q)]]) rfl rfl rfl (by simp only [List.map_toArray, List.map_cons, List.map_nil, h73] <;> rfl) (ent53 _ _) ((rpolicy_any _ _ _ _ _ _ _ _ _ sw (rC.ext sE) (rQ.ext sE)).mono ?_); rintro e w' ⟨rfl, hx⟩; exact ⟨_, rfl, hx, rfl⟩
          · refine stepE rfl fun sdn sa sw sE sd sk => ?_
            have h72 : sa.eval (.tmp 72) = .bool (polB LG Ls q) := sk.fact 1 72 rfl (sd 1 rfl)
            have h74 : sa.eval (.tmp 74) = .bool (polB LG Ls q) := sk.fact 3 74 rfl (sd 3 rfl)
            exact Runs.bin rfl h72 h74 (by rfl) (bin_eqb _ _) ⟨Ext.refl _, congrArg Value.bool (by simp)⟩
          · refine stepE rfl fun sdn sa sw sE sd sk => ?_
            have h75 : sa.eval (.tmp 75) = .bool (true) := sk.fact 4 75 rfl (sd 4 rfl)
            exact Runs.move rfl h75 ⟨Ext.refl _, rfl⟩
          · refine stepY (j := 5) (d := 76) (b := true) rfl rfl rfl (fun v w h => h) fun sdn sa sw sE sd sk => ?_
            refine Runs.call (f := 47) (vs := []) rfl rfl rfl (by simp only [List.map_toArray, List.map_cons, List.map_nil] <;> rfl) (ent47 _ _) ((known11_any sw).mono ?_); rintro e w' ⟨rfl, hx⟩; exact ⟨_, rfl, hx, rfl⟩
          · refine stepE rfl fun sdn sa sw sE sd sk => ?_
            have h76 : sa.eval (.tmp 76) = .bool (true) := sk.fact 5 76 rfl (sd 5 rfl)
            have h77 : sa.eval (.tmp 77) = .bool (true) := sk.fact 6 77 rfl (sd 6 rfl)
            exact Runs.pick rfl h76 ⟨Ext.refl _, by first | exact h77 | simpa using h77⟩
          intro vals W13 hE13 hv13
          have e0 : vals 0 = .agg #[.slice (G) (ng) (cg), .slice (Q) (k) (dq), .int .i64 (q)] := hv13 0 (by omega) 71 rfl
          have e1 : vals 1 = .bool (polB LG Ls q) := hv13 1 (by omega) 72 rfl
          have e2 : vals 2 = .agg #[.slice (G) (ng) (cg), .slice (Q) (k) (dq), .int .i64 (q)] := hv13 2 (by omega) 73 rfl
          have e3 : vals 3 = .bool (polB LG Ls q) := hv13 3 (by omega) 74 rfl
          have e4 : vals 4 = .bool (true) := hv13 4 (by omega) 75 rfl
          have e5 : vals 5 = .bool (true) := hv13 5 (by omega) 76 rfl
          have e6 : vals 6 = .bool (true) := hv13 6 (by omega) 77 rfl
          have e7 : vals 7 = .bool (true) := hv13 7 (by omega) 78 rfl
          simp only [putAll, Act.put, List.take_succ_cons, List.take_zero, List.drop_succ_cons, List.drop_zero, List.drop_nil, List.take_nil, Nat.reduceAdd, List.setIfInBounds_toArray, List.set_cons_succ, List.set_cons_zero, e0, e1, e2, e3, e4, e5, e6, e7]
          clear hv13 e0 e1 e2 e3 e4 e5 e6 e7
          go_wp2_with fail
          go_ret
          exact ⟨rfl, hEr.trans hE13⟩
        | true =>
          have yq := hBp.cell (i := 1) (v := .slice Q k dq) rfl
          by_cases h1 : 1 < k
          · have h1i : (1 : Int) < (k : Int) := by omega
            go_upto_region 12 with (fail)
            have hGQ : 0 < ng → blk G ≠ blk Q := by
              intro h0 e
              obtain ⟨j, hj⟩ : ∃ j, blk G = some j := by
                obtain ⟨ad', h1, _⟩ := rC.cells h0
                rw [h1]
                exact ⟨_, rfl⟩
              have h2 := hGb h0 j hj
              have h3 := (ownQ.lt (e.symm.trans hj)).1
              omega
            obtain ⟨gQ, E, z, y, rfl, hcl0, rE, hne, hgq, _, hkd⟩ := ownQ.at_ (j := k - 1) (by omega)
            have hcl : wr.cell? ((⟨gQ, 0, none⟩ : Addr).add (k - 1)) = some (.slice E z y) := by rw [add_plain]; exact hcl0
            have rQ := ownQ.rbb
            refine par_ext (n := 10) (by kernel_rfl) [.is (.pointer (some ⟨gp, 1, none⟩)), .is (.slice ((some ⟨gQ, 0, none⟩)) (k) (dq)), .is (.pointer (some ⟨gp, 1, none⟩)), .is (.slice ((some ⟨gQ, 0, none⟩)) (k) (dq)), .is (.pointer (some ⟨gp, 1, none⟩)), .is (.slice ((some ⟨gQ, 0, none⟩)) (k) (dq)), .is (.int .i64 ((k : Nat))), .is (.int .i64 (((k - 1 : Nat) : Int))), .is (.pointer (some ((⟨gQ, 0, none⟩ : Addr).add (k - 1)))), .is (.slice (E) (z) (y))] rfl ⟨?_, ?_, ?_, ?_, ?_, ?_, ?_, ?_, ?_, ?_, trivial⟩ ?_
            · refine stepE rfl fun sdn sa sw sE sd sk => ?_
              have h11 : sa.eval (.tmp 11) = .pointer (some ⟨gp, 0, none⟩) := sk.old 11 rfl
              refine Runs.of_run (r := .pointer (some ⟨gp, 1, none⟩)) (w' := sw) ?_ ⟨Ext.refl _, rfl⟩
              unfold execOp
              simp only [h11]
              go_simp
            · refine stepE rfl fun sdn sa sw sE sd sk => ?_
              have h60 : sa.eval (.tmp 60) = .pointer (some ⟨gp, 1, none⟩) := sk.fact 0 60 rfl (sd 0 rfl)
              exact Runs.load rfl h60 (run_load1 Try.underlying37 rfl ((hBp.ext sE).cell (i := 1) rfl)) ⟨Ext.refl _, rfl⟩
            · refine stepE rfl fun sdn sa sw sE sd sk => ?_
              have h11 : sa.eval (.tmp 11) = .pointer (some ⟨gp, 0, none⟩) := sk.old 11 rfl
              refine Runs.of_run (r := .pointer (some ⟨gp, 1, none⟩)) (w' := sw) ?_ ⟨Ext.refl _, rfl⟩
              unfold execOp
              simp only [h11]
              go_simp
            · refine stepE rfl fun sdn sa sw sE sd sk => ?_
              have h62 : sa.eval (.tmp 62) = .pointer (some ⟨gp, 1, none⟩) := sk.fact 2 62 rfl (sd 2 rfl)
              exact Runs.load rfl h62 (run_load1 Try.underlying37 rfl ((hBp.ext sE).cell (i := 1) rfl)) ⟨Ext.refl _, rfl⟩
            · refine stepE rfl fun sdn sa sw sE sd sk => ?_
              have h11 : sa.eval (.tmp 11) = .pointer (some ⟨gp, 0, none⟩) := sk.old 11 rfl
              refine Runs.of_run (r := .pointer (some ⟨gp, 1, none⟩)) (w' := sw) ?_ ⟨Ext.refl _, rfl⟩
              unfold execOp
              simp only [h11]
              go_simp
            · refine stepE rfl fun sdn sa sw sE sd sk => ?_
              have h64 : sa.eval (.tmp 64) = .pointer (some ⟨gp, 1, none⟩) := sk.fact 4 64 rfl (sd 4 rfl)
              exact Runs.load rfl h64 (run_load1 Try.underlying37 rfl ((hBp.ext sE).cell (i := 1) rfl)) ⟨Ext.refl _, rfl⟩
            · refine stepE rfl fun sdn sa sw sE sd sk => ?_
              have h65 : sa.eval (.tmp 65) = .slice ((some ⟨gQ, 0, none⟩)) (k) (dq) := sk.fact 5 65 rfl (sd 5 rfl)
              exact Runs.len Try.underlying37 rfl h65 ⟨Ext.refl _, rfl⟩
            · refine stepE rfl fun sdn sa sw sE sd sk => ?_
              have h66 : sa.eval (.tmp 66) = .int .i64 ((k : Nat)) := sk.fact 6 66 rfl (sd 6 rfl)
              exact Runs.bin rfl h66 rfl (by rfl) (bin_dec _ k (by omega) (by omega)) ⟨Ext.refl _, rfl⟩
            · refine stepE rfl fun sdn sa sw sE sd sk => ?_
              have h63 : sa.eval (.tmp 63) = .slice ((some ⟨gQ, 0, none⟩)) (k) (dq) := sk.fact 3 63 rfl (sd 3 rfl)
              have h67 : sa.eval (.tmp 67) = .int .i64 (((k - 1 : Nat) : Int)) := sk.fact 7 67 rfl (sd 7 rfl)
              exact Runs.idx rfl h63 h67 (run_idx_sl1 Try.underlying37 infZZ_eq infZZ_size (k - 1) (by omega) (by omega)) ⟨Ext.refl _, rfl⟩
            · refine stepE rfl fun sdn sa sw sE sd sk => ?_
              have h68 : sa.eval (.tmp 68) = .pointer (some ((⟨gQ, 0, none⟩ : Addr).add (k - 1))) := sk.fact 8 68 rfl (sd 8 rfl)
              exact Runs.load rfl h68 (run_load1 Try.underlying22 rfl (sE.cell hcl)) ⟨Ext.refl _, rfl⟩
            intro vals W12 hE12 hv12
            have e0 : vals 0 = .pointer (some ⟨gp, 1, none⟩) := hv12 0 (by omega) 60 rfl
            have e1 : vals 1 = .slice ((some ⟨gQ, 0, none⟩)) (k) (dq) := hv12 1 (by omega) 61 rfl
            have e2 : vals 2 = .pointer (some ⟨gp, 1, none⟩) := hv12 2 (by omega) 62 rfl
            have e3 : vals 3 = .slice ((some ⟨gQ, 0, none⟩)) (k) (dq) := hv12 3 (by omega) 63 rfl
            have e4 : vals 4 = .pointer (some ⟨gp, 1, none⟩) := hv12 4 (by omega) 64 rfl
            have e5 : vals 5 = .slice ((some ⟨gQ, 0, none⟩)) (k) (dq) := hv12 5 (by omega) 65 rfl
            have e6 : vals 6 = .int .i64 ((k : Nat)) := hv12 6 (by omega) 66 rfl
            have e7 : vals 7 = .int .i64 (((k - 1 : Nat) : Int)) := hv12 7 (by omega) 67 rfl
            have e8 : vals 8 = .pointer (some ((⟨gQ, 0, none⟩ : Addr).add (k - 1))) := hv12 8 (by omega) 68 rfl
            have e9 : vals 9 = .slice (E) (z) (y) := hv12 9 (by omega) 69 rfl
            simp only [putAll, Act.put, List.take_succ_cons, List.take_zero, List.drop_succ_cons, List.drop_zero, List.drop_nil, List.take_nil, Nat.reduceAdd, List.setIfInBounds_toArray, List.set_cons_succ, List.set_cons_zero, e0, e1, e2, e3, e4, e5, e6, e7, e8, e9]
            clear hv12 e0 e1 e2 e3 e4 e5 e6 e7 e8 e9
            have o2 := ownQ.ext hE12
            have hEw := hEr.trans hE12
            have st := o2.store (rE.ext hE12) hne 0 (by omega) hEw (by omega)
            have f0 := o2.frz 0
            obtain ⟨gR, E0, z0, y0, hR, hc0, _⟩ := o2.at_ (j := 0) (by omega)
            cases hR
            have b2 := (hBp.ext hE12).far (p := ⟨gQ, 0, none⟩) (by have := o2.apart_blk (hBp.ext hE12) (by decide); intro e; exact this (congrArg some e)) (.slice E z y)
            have r2 := (rC.ext hE12).grown (grown_set W12 ⟨gQ, 0, none⟩ (.slice E z y)) hGQ
            go_upto_region 13 with (fail)
            clear ownQ hBp rC hEr rQ hcl hcl0
            obtain ⟨ownQ, hEr⟩ := st
            have hBp := b2
            have rC := r2
            clear b2 r2
            generalize W12.setCell ⟨gQ, 0, none⟩ (.slice E z y) = w13 at *
            have rQ := ownQ.rbb
            refine par_ext (n := 8) (by kernel_rfl) [.is (.agg #[.slice (G) (ng) (cg), .slice ((some ⟨gQ, 0, none⟩)) (k) (dq), .int .i64 (q)]), .is (.bool (polB LG (Ls.set 0 (lb Ls (k - 1))) q)), .is (.agg #[.slice (G) (ng) (cg), .slice ((some ⟨gQ, 0, none⟩)) (k) (dq), .int .i64 (q)]), .is (.bool (polB LG (Ls.set 0 (lb Ls (k - 1))) q)), .is (.bool (true)), .is (.bool (true)), .is (.bool (true)), .is (.bool (true))] rfl ⟨?_, ?_, ?_, ?_, ?_, ?_, ?_, ?_, trivial⟩ ?_
            · refine stepE rfl fun sdn sa sw sE sd sk => ?_
              have h11 : sa.eval (.tmp 11) = .pointer (some ⟨gp, 0, none⟩) := sk.old 11 rfl
              exact Runs.load rfl h11 (load_part (hBp.ext sE) 0 (vs := [.slice (G) (ng) (cg), .slice ((some ⟨gQ, 0, none⟩)) (k) (dq), .int .i64 (q)]) rfl Try.underlying77 rfl (by kernel_rfl)) ⟨Ext.refl _, rfl⟩
            · refine stepE rfl fun sdn sa sw sE sd sk => ?_
              have h71 : sa.eval (.tmp 71) = .agg #[.slice (G) (ng) (cg), .slice ((some ⟨gQ, 0, none⟩)) (k) (dq), .int .i64 (q)] := sk.fact 0 71 rfl (sd 0 rfl)
              refine Runs.call (f := 42) (vs := [.agg #[.slice (G) (ng) (cg), .slice ((some ⟨gQ, 0, none⟩)) (k) (dq), .int .i64 (q)]]) rfl rfl rfl (by simp only [List.map_toArray, List.map_cons, List.map_nil, h71] <;> rfl) (ent42 _ _) ((cosright_any _ _ _ _ _ _ _ _ _ sw (rC.ext sE) (rQ.ext sE)).mono ?_); rintro e w' ⟨rfl, hx⟩; exact ⟨_, rfl, hx, rfl⟩
            · refine stepE rfl fun sdn sa sw sE sd sk => ?_
              have h11 : sa.eval (.tmp 11) = .pointer (some ⟨gp, 0, none⟩) := sk.old 11 rfl
              exact Runs.load rfl h11 (load_part (hBp.ext sE) 0 (vs := [.slice (G) (ng) (cg), .slice ((some ⟨gQ, 0, none⟩)) (k) (dq), .int .i64 (q)]) rfl Try.underlying77 rfl (by kernel_rfl)) ⟨Ext.refl _, rfl⟩
            · refine stepE rfl fun sdn sa sw sE sd sk => ?_
              have h73 : sa.eval (.tmp 73) = .agg #[.slice (G) (ng) (cg), .slice ((some ⟨gQ, 0, none⟩)) (k) (dq), .int .i64 (q)] := sk.fact 2 73 rfl (sd 2 rfl)
              refine Runs.call (f := 53) (vs := [.agg #[.slice (G) (ng) (cg), .slice ((some ⟨gQ, 0, none⟩)) (k) (dq), .int .i64 (q)]]) rfl rfl rfl (by simp only [List.map_toArray, List.map_cons, List.map_nil, h73] <;> rfl) (ent53 _ _) ((rpolicy_any _ _ _ _ _ _ _ _ _ sw (rC.ext sE) (rQ.ext sE)).mono ?_); rintro e w' ⟨rfl, hx⟩; exact ⟨_, rfl, hx, rfl⟩
            · refine stepE rfl fun sdn sa sw sE sd sk => ?_
              have h72 : sa.eval (.tmp 72) = .bool (polB LG (Ls.set 0 (lb Ls (k - 1))) q) := sk.fact 1 72 rfl (sd 1 rfl)
              have h74 : sa.eval (.tmp 74) = .bool (polB LG (Ls.set 0 (lb Ls (k - 1))) q) := sk.fact 3 74 rfl (sd 3 rfl)
              exact Runs.bin rfl h72 h74 (by rfl) (bin_eqb _ _) ⟨Ext.refl _, congrArg Value.bool (by simp)⟩
            · refine stepE rfl fun sdn sa sw sE sd sk => ?_
              have h75 : sa.eval (.tmp 75) = .bool (true) := sk.fact 4 75 rfl (sd 4 rfl)
              exact Runs.move rfl h75 ⟨Ext.refl _, rfl⟩
            · refine stepY (j := 5) (d := 76) (b := true) rfl rfl rfl (fun v w h => h) fun sdn sa sw sE sd sk => ?_
              refine Runs.call (f := 47) (vs := []) rfl rfl rfl (by simp only [List.map_toArray, List.map_cons, List.map_nil] <;> rfl) (ent47 _ _) ((known11_any sw).mono ?_); rintro e w' ⟨rfl, hx⟩; exact ⟨_, rfl, hx, rfl⟩
            · refine stepE rfl fun sdn sa sw sE sd sk => ?_
              have h76 : sa.eval (.tmp 76) = .bool (true) := sk.fact 5 76 rfl (sd 5 rfl)
              have h77 : sa.eval (.tmp 77) = .bool (true) := sk.fact 6 77 rfl (sd 6 rfl)
              exact Runs.pick rfl h76 ⟨Ext.refl _, by first | exact h77 | simpa using h77⟩
            intro vals W13 hE13 hv13
            have e0 : vals 0 = .agg #[.slice (G) (ng) (cg), .slice ((some ⟨gQ, 0, none⟩)) (k) (dq), .int .i64 (q)] := hv13 0 (by omega) 71 rfl
            have e1 : vals 1 = .bool (polB LG (Ls.set 0 (lb Ls (k - 1))) q) := hv13 1 (by omega) 72 rfl
            have e2 : vals 2 = .agg #[.slice (G) (ng) (cg), .slice ((some ⟨gQ, 0, none⟩)) (k) (dq), .int .i64 (q)] := hv13 2 (by omega) 73 rfl
            have e3 : vals 3 = .bool (polB LG (Ls.set 0 (lb Ls (k - 1))) q) := hv13 3 (by omega) 74 rfl
            have e4 : vals 4 = .bool (true) := hv13 4 (by omega) 75 rfl
            have e5 : vals 5 = .bool (true) := hv13 5 (by omega) 76 rfl
            have e6 : vals 6 = .bool (true) := hv13 6 (by omega) 77 rfl
            have e7 : vals 7 = .bool (true) := hv13 7 (by omega) 78 rfl
            simp only [putAll, Act.put, List.take_succ_cons, List.take_zero, List.drop_succ_cons, List.drop_zero, List.drop_nil, List.take_nil, Nat.reduceAdd, List.setIfInBounds_toArray, List.set_cons_succ, List.set_cons_zero, e0, e1, e2, e3, e4, e5, e6, e7]
            clear hv13 e0 e1 e2 e3 e4 e5 e6 e7
            go_wp2_with fail
            go_ret
            exact ⟨rfl, hEr.trans hE13⟩
          · have h1i : ¬ ((1 : Int) < (k : Int)) := by omega
            go_upto_region 13 with (fail)
            have rQ := ownQ.rbb
            refine par_ext (n := 8) (by kernel_rfl) [.is (.agg #[.slice (G) (ng) (cg), .slice (Q) (k) (dq), .int .i64 (q)]), .is (.bool (polB LG Ls q)), .is (.agg #[.slice (G) (ng) (cg), .slice (Q) (k) (dq), .int .i64 (q)]), .is (.bool (polB LG Ls q)), .is (.bool (true)), .is (.bool (true)), .is (.bool (true)), .is (.bool (true))] rfl ⟨?_, ?_, ?_, ?_, ?_, ?_, ?_, ?_, trivial⟩ ?_
            · refine stepE rfl fun sdn sa sw sE sd sk => ?_
              have h11 : sa.eval (.tmp 11) = .pointer (some ⟨gp, 0, none⟩) := sk.old 11 rfl
              exact Runs.load rfl h11 (load_part (hBp.ext sE) 0 (vs := [.slice (G) (ng) (cg), .slice (Q) (k) (dq), .int .i64 (q)]) rfl Try.underlying77 rfl (by kernel_rfl)) ⟨Ext.refl _, rfl⟩
            · refine stepE rfl fun sdn sa sw sE sd sk => ?_
              have h71 : sa.eval (.tmp 71) = .agg #[.slice (G) (ng) (cg), .slice (Q) (k) (dq), .int .i64 (q)] := sk.fact 0 71 rfl (sd 0 rfl)
              refine Runs.call (f := 42) (vs := [.agg #[.slice (G) (ng) (cg), .slice (Q) (k) (dq), .int .i64 (q)]]) rfl rfl rfl (by simp only [List.map_toArray, List.map_cons, List.map_nil, h71] <;> rfl) (ent42 _ _) ((cosright_any _ _ _ _ _ _ _ _ _ sw (rC.ext sE) (rQ.ext sE)).mono ?_); rintro e w' ⟨rfl, hx⟩; exact ⟨_, rfl, hx, rfl⟩
            · refine stepE rfl fun sdn sa sw sE sd sk => ?_
              have h11 : sa.eval (.tmp 11) = .pointer (some ⟨gp, 0, none⟩) := sk.old 11 rfl
              exact Runs.load rfl h11 (load_part (hBp.ext sE) 0 (vs := [.slice (G) (ng) (cg), .slice (Q) (k) (dq), .int .i64 (q)]) rfl Try.underlying77 rfl (by kernel_rfl)) ⟨Ext.refl _, rfl⟩
            · refine stepE rfl fun sdn sa sw sE sd sk => ?_
              have h73 : sa.eval (.tmp 73) = .agg #[.slice (G) (ng) (cg), .slice (Q) (k) (dq), .int .i64 (q)] := sk.fact 2 73 rfl (sd 2 rfl)
              refine Runs.call (f := 53) (vs := [.agg #[.slice (G) (ng) (cg), .slice (Q) (k) (dq), .int .i64 (q)]]) rfl rfl rfl (by simp only [List.map_toArray, List.map_cons, List.map_nil, h73] <;> rfl) (ent53 _ _) ((rpolicy_any _ _ _ _ _ _ _ _ _ sw (rC.ext sE) (rQ.ext sE)).mono ?_); rintro e w' ⟨rfl, hx⟩; exact ⟨_, rfl, hx, rfl⟩
            · refine stepE rfl fun sdn sa sw sE sd sk => ?_
              have h72 : sa.eval (.tmp 72) = .bool (polB LG Ls q) := sk.fact 1 72 rfl (sd 1 rfl)
              have h74 : sa.eval (.tmp 74) = .bool (polB LG Ls q) := sk.fact 3 74 rfl (sd 3 rfl)
              exact Runs.bin rfl h72 h74 (by rfl) (bin_eqb _ _) ⟨Ext.refl _, congrArg Value.bool (by simp)⟩
            · refine stepE rfl fun sdn sa sw sE sd sk => ?_
              have h75 : sa.eval (.tmp 75) = .bool (true) := sk.fact 4 75 rfl (sd 4 rfl)
              exact Runs.move rfl h75 ⟨Ext.refl _, rfl⟩
            · refine stepY (j := 5) (d := 76) (b := true) rfl rfl rfl (fun v w h => h) fun sdn sa sw sE sd sk => ?_
              refine Runs.call (f := 47) (vs := []) rfl rfl rfl (by simp only [List.map_toArray, List.map_cons, List.map_nil] <;> rfl) (ent47 _ _) ((known11_any sw).mono ?_); rintro e w' ⟨rfl, hx⟩; exact ⟨_, rfl, hx, rfl⟩
            · refine stepE rfl fun sdn sa sw sE sd sk => ?_
              have h76 : sa.eval (.tmp 76) = .bool (true) := sk.fact 5 76 rfl (sd 5 rfl)
              have h77 : sa.eval (.tmp 77) = .bool (true) := sk.fact 6 77 rfl (sd 6 rfl)
              exact Runs.pick rfl h76 ⟨Ext.refl _, by first | exact h77 | simpa using h77⟩
            intro vals W13 hE13 hv13
            have e0 : vals 0 = .agg #[.slice (G) (ng) (cg), .slice (Q) (k) (dq), .int .i64 (q)] := hv13 0 (by omega) 71 rfl
            have e1 : vals 1 = .bool (polB LG Ls q) := hv13 1 (by omega) 72 rfl
            have e2 : vals 2 = .agg #[.slice (G) (ng) (cg), .slice (Q) (k) (dq), .int .i64 (q)] := hv13 2 (by omega) 73 rfl
            have e3 : vals 3 = .bool (polB LG Ls q) := hv13 3 (by omega) 74 rfl
            have e4 : vals 4 = .bool (true) := hv13 4 (by omega) 75 rfl
            have e5 : vals 5 = .bool (true) := hv13 5 (by omega) 76 rfl
            have e6 : vals 6 = .bool (true) := hv13 6 (by omega) 77 rfl
            have e7 : vals 7 = .bool (true) := hv13 7 (by omega) 78 rfl
            simp only [putAll, Act.put, List.take_succ_cons, List.take_zero, List.drop_succ_cons, List.drop_zero, List.drop_nil, List.take_nil, Nat.reduceAdd, List.setIfInBounds_toArray, List.set_cons_succ, List.set_cons_zero, e0, e1, e2, e3, e4, e5, e6, e7]
            clear hv13 e0 e1 e2 e3 e4 e5 e6 e7
            go_wp2_with fail
            go_ret
            exact ⟨rfl, hEr.trans hE13⟩

set_option maxHeartbeats 8000000 in
theorem policies_true (A : Option Addr) (n c : Nat) (Ks : List (List UInt8)) (B : Option Addr) (m d : Nat) (M : List UInt8) (q : Int) (hq : -9223372036854775808 ≤ q ∧ q ≤ 9223372036854775807) (tw : Bool) (w : World) (hr : RBB w A n c Ks) (rG : RB w B m d M) :
    Calls Try.prog 11 #[.slice A n c, .slice B m d, .int .i64 q, .bool tw, .bool true] w fun e w' => e = .returned (.bool true) ∧ Ext w w' := by
  have hl := hr.len
  have hnc := hr.cap
  have hnr := hr.room
  go_enter Try.func11, Try.ntmps11
  go_wp2_with fail
  refine (cut_any B m d 40 M w rG (by omega)).mono ?_
  rintro e w1 ⟨⟨rfl, rC⟩, rfl⟩
  have hEn := Ext.new w (.cells #[.slice B (min m 40) d, .slice none 0 0, .int .i64 q] 77)
  have hBp := Blk.new w 77 #[.slice B (min m 40) d, .slice none 0 0, .int .i64 q]
  replace rC := rC.ext hEn
  have hgw : w.heap.size ≤ w.heap.size := Nat.le_refl _
  go_wp2_with fail
  generalize hw1 : w.alloc (.cells #[.slice B (min m 40) d, .slice none 0 0, .int .i64 q] 77) = w1 at *
  obtain ⟨gp, hgp⟩ : ∃ gp, gp = w.heap.size := ⟨_, rfl⟩
  rw [← hgp] at hBp ⊢
  have hs1 : w1.heap.size = w.heap.size + 1 := by rw [← hw1, World.size_alloc]
  have hgw : w.heap.size ≤ gp := by omega
  have rM := rG.ext hEn
  clear rC hgp hw1
  refine (sized_any B m d 32 M w1 rM (by omega)).mono ?_
  rintro e w2 ⟨rfl, oG, hE⟩
  have hG1 : w1.heap.size < w2.heap.size := (oG.lt rfl).2
  replace hBp := hBp.ext hE
  replace hEn := hEn.trans hE
  have hgb : w.heap.size < w2.heap.size := by omega
  generalize w1.heap.size = g1 at *
  clear rM hE hs1
  go_wp2_with fail
  refine (within_any q 0 5 w2 hq.1 hq.2 (by omega) (by omega) (by omega)).mono ?_
  rintro e w3 ⟨rfl, rfl⟩
  generalize within q 0 5 = q at *
  have fhBp0 := hBp.frozen 0
  have fhBp1 := hBp.frozen 1
  have fhBp2 := hBp.frozen 2
  have xhBp0 := hBp.cell (i := 0) rfl
  have xhBp1 := hBp.cell (i := 1) rfl
  have xhBp2 := hBp.cell (i := 2) rfl
  go_wp2_with fail
  have gs0 := grown_set w2 ⟨gp, 0, none⟩ (.slice (some ⟨g1, 0, none⟩) 32 32)
  have hBq := hBp.set 0 (.slice (some ⟨g1, 0, none⟩) 32 32)
  have gs2 := grown_set (w2.setCell ⟨gp, 0, none⟩ (.slice (some ⟨g1, 0, none⟩) 32 32)) ⟨gp, 2, none⟩ (.int .i64 q)
  have rC0 := oG.rb.grown gs0 (oG.rb.apart5 hBp (pol_no _ _ _ _ _ _ _))
  have rC := rC0.grown gs2 (rC0.apart5 hBq (pol_no _ _ _ _ _ _ _))
  replace hEn := (hEn.set (p := ⟨gp, 0, none⟩) hgw (.slice (some ⟨g1, 0, none⟩) 32 32)).set (p := ⟨gp, 2, none⟩) hgw (.int .i64 q)
  obtain ⟨bs, hbse⟩ : ∃ bs, bs = w2.heap.size := ⟨_, rfl⟩
  have hbs : bs ≤ ((w2.setCell ⟨gp, 0, none⟩ (.slice (some ⟨g1, 0, none⟩) 32 32)).setCell ⟨gp, 2, none⟩ (.int .i64 q)).heap.size := by
    have h1 := gs0.size
    have h2 := gs2.size
    omega
  replace hBp : Blk ((w2.setCell ⟨gp, 0, none⟩ (.slice (some ⟨g1, 0, none⟩) 32 32)).setCell ⟨gp, 2, none⟩ (.int .i64 q)) gp 77 #[.slice (some ⟨g1, 0, none⟩) 32 32, .slice none 0 0, .int .i64 q] := hBq.set 2 _
  replace hgb : w.heap.size < bs := by omega
  have hGb : 0 < 32 → ∀ j, blk (some (⟨g1, 0, none⟩ : Addr)) = some j → j < bs := by
    intro _ j hj
    cases hj
    show g1 < bs
    omega
  clear fhBp0 xhBp0 fhBp1 xhBp1 fhBp2 xhBp2
  clear gs0 gs2 rC0 hBq oG hbse hG1
  generalize ((w2.setCell ⟨gp, 0, none⟩ (.slice (some ⟨g1, 0, none⟩) 32 32)).setCell ⟨gp, 2, none⟩ (.int .i64 q)) = w4 at *
  generalize sizedL M 32 = LG at *
  obtain ⟨G, hG⟩ : ∃ G, G = some (⟨g1, 0, none⟩ : Addr) := ⟨_, rfl⟩
  obtain ⟨ng, hng⟩ : ∃ ng, ng = 32 := ⟨_, rfl⟩
  obtain ⟨cg, hcg⟩ : ∃ cg, cg = 32 := ⟨_, rfl⟩
  have e1 : RB w4 G ng cg LG := by rw [hG, hng, hcg]; exact rC
  have e2 : Blk w4 gp 77 #[.slice G ng cg, .slice none 0 0, .int .i64 q] := by rw [hG, hng, hcg]; exact hBp
  have e3 : 0 < ng → ∀ j, blk G = some j → j < bs := by rw [hG, hng]; exact hGb
  clear hBp rC hGb hG hng hcg
  have hBp := e2
  have rC := e1
  have hGb := e3
  clear e1 e2 e3
  go_loopw [12] (fun i wr => PolK w gp bs (min n 6) G ng cg q LG i wr) (fun i _ => min n 6 - (intOf i).toNat)
  case atStart => exact ⟨0, 0, none, [], by omega, rfl, OBC.none_ _ _, hBp, rC, hbs, hEn⟩
  case round =>
    clear hBp rC hEn hbs
    obtain ⟨k, dq, Q, Ls, hk, rfl, ownQ, hBp, rC, hbs, hEr⟩ := hrel
    by_cases hlt : k < min n 6
    · have hki : (k : Int) < (n : Int) := by omega
      have hk6 : (k : Int) < 6 := by omega
      obtain ⟨ad, rfl, hc⟩ := hr.cells (by omega)
      obtain ⟨E, z, y, hcell, hrE⟩ := hc k (by omega)
      have y1 := hEr.cell hcell
      have rE := hrE.ext hEr
      have yp : wr.cell? ⟨gp, 1, none⟩ = some (.slice Q k dq) := hBp.cell (i := 1) rfl
      have hcu := cut_any E z y 40 _ wr rE (by omega)
      have Hcu := Lib.hid hcu
      clear hcu hc hcell
      go_wp2_with fail
      refine Hcu.out.mono ?_
      rintro e w2 ⟨⟨rfl, rK⟩, rfl⟩
      clear Hcu
      have hck := fun w' => conv_i64_u8 (P := Try.prog) (w := w') Try.underlying3 Try.underlying5 k
      go_wp2_with fail
      refine (sized_any E (min z 40) y 31 _ wr rK (by omega)).mono ?_
      rintro e w2 ⟨rfl, oS, hE⟩
      have hEn2 := Ext.new w2 (.cells #[.int .u8 (u8i (UInt8.ofNat k))] 5)
      have rb1 := RB.lit w2 [UInt8.ofNat k] (n := 1) rfl (by decide)
      have oS1 := oS.ext hEn2
      have hE2 := hE.trans hEn2
      clear hE hEn2 oS
      go_upto_region 10 with (refine app_own (w0 := wr) (N := 32) (LM := sizedL ((lb Ks k).take 40) 31 ++ [UInt8.ofNat k]) rfl rfl rfl rfl hE2 oS1 rb1 rfl rfl (by omega) ?_; intro A5 c5 w5 own5 hE5; have yp5 := hE5.cell yp)
      have hEx1 := Ext.new w5 (.cells #[.slice A5 32 c5] 22)
      have hEx := hE5.trans hEx1
      have hBa := Blk.new w5 22 #[.slice A5 32 c5]
      have ownQ1 := ownQ.ext hEx
      have hB51 := hBp.ext hEx
      have rC1 := rC.ext hEx
      have hEw := hEr.trans hEx
      have hne : 0 < 32 → blk A5 ≠ blk Q := by
        intro _ e
        obtain ⟨j, hj⟩ : ∃ j, blk A5 = some j := by
          obtain ⟨ad', h1, _⟩ := own5.rb.cells (by omega)
          rw [h1]
          exact ⟨_, rfl⟩
        have h1 := (own5.lt hj).1
        have h2 := (ownQ.lt (e.symm.trans hj)).2
        omega
      have rY := own5.rb.ext hEx1
      have hGQ : 0 < ng → blk G ≠ blk Q := by
        intro h0 e
        obtain ⟨j, hj⟩ : ∃ j, blk G = some j := by
          obtain ⟨ad', h1, _⟩ := rC1.cells h0
          rw [h1]
          exact ⟨_, rfl⟩
        have h2 := hGb h0 j hj
        have h3 := (ownQ1.lt (e.symm.trans hj)).1
        omega
      go_wp2_with (refine appbc_law (base := bs) (Y := sizedL ((lb Ks k).take 40) 31 ++ [UInt8.ofNat k]) rfl rfl rfl rfl (by rw [add_plain]; exact hBa.cell (i := 0) rfl) ownQ1 rY hne (Nat.le_trans hbs hEx.size) (by omega) ?_; intro Q5 d5 w5 ownQ5 g5; have hB55 := hB51.grown g5 (ownQ1.apart_blk hB51 (by decide)); have rC5 := rC1.grown g5 hGQ; have y5 := hB55.cell (i := 1) (v := .slice Q k dq) rfl; have y6 := hB55.frozen 1)
      clear hE2 oS1 rb1 yp5 own5 hE5 hEx1 hck
      have gs := grown_set w5 ⟨gp, 1, none⟩ (.slice Q5 (k + 1) d5)
      have ownQ6 := ownQ5.far hB55 (by decide) (pol_no _ _ _ _ _ _ _) gs
      have hB56 := hB55.set 1 (.slice Q5 (k + 1) d5)
      have rC6 := rC5.grown gs (rC5.apart5 hB55 (pol_no _ _ _ _ _ _ _))
      have hE6 := (hEw.then_grown g5 (fun b hb => by have := (ownQ1.lt hb).1; omega)).set (p := ⟨gp, 1, none⟩) (by show w.heap.size ≤ gp; omega) (.slice Q5 (k + 1) d5)
      have hb6 : bs ≤ (w5.setCell ⟨gp, 1, none⟩ (.slice Q5 (k + 1) d5)).heap.size := by
        have h1 := gs.size
        have h2 := g5.size
        have h3 := hEx.size
        omega
      clear hB51 rC1 hEw ownQ1 ownQ5 g5 hB55 rC5 y5 y6 gs yp hEx
      go_roundw
      case rel => exact ⟨k + 1, d5, Q5, _, by omega, by go_num, ownQ6, hB56, rC6, hb6, hE6⟩
      case measure => simp [intOf]; omega
    · by_cases hpn : k < n
      · have a1 : (k : Int) < (n : Int) := by omega
        have a2 : ¬ ((k : Int) < 6) := by omega
        have hk6x : ¬ (k < 6) := by omega
        clear hlt hpn
        cases tw with
        | false =>
          go_upto_region 13 with (fail)
          have rQ := ownQ.rbb
          refine par_ext (n := 8) (by kernel_rfl) [.is (.agg #[.slice (G) (ng) (cg), .slice (Q) (k) (dq), .int .i64 (q)]), .is (.bool (polB LG Ls q)), .is (.agg #[.slice (G) (ng) (cg), .slice (Q) (k) (dq), .int .i64 (q)]), .is (.bool (polB LG Ls q)), .is (.bool (true)), .is (.bool (true)), .is (.bool (true)), .is (.bool (true))] rfl ⟨?_, ?_, ?_, ?_, ?_, ?_, ?_, ?_, trivial⟩ ?_
          · refine stepE rfl fun sdn sa sw sE sd sk => ?_
            have h11 : sa.eval (.tmp 11) = .pointer (some ⟨gp, 0, none⟩) := sk.old 11 rfl
            exact Runs.load rfl h11 (load_part (hBp.ext sE) 0 (vs := [.slice (G) (ng) (cg), .slice (Q) (k) (dq), .int .i64 (q)]) rfl Try.underlying77 rfl (by kernel_rfl)) ⟨Ext.refl _, rfl⟩
          · refine stepE rfl fun sdn sa sw sE sd sk => ?_
            have h71 : sa.eval (.tmp 71) = .agg #[.slice (G) (ng) (cg), .slice (Q) (k) (dq), .int .i64 (q)] := sk.fact 0 71 rfl (sd 0 rfl)
            refine Runs.call (f := 42) (vs := [.agg #[.slice (G) (ng) (cg), .slice (Q) (k) (dq), .int .i64 (q)]]) rfl rfl rfl (by simp only [List.map_toArray, List.map_cons, List.map_nil, h71] <;> rfl) (ent42 _ _) ((cosright_any _ _ _ _ _ _ _ _ _ sw (rC.ext sE) (rQ.ext sE)).mono ?_); rintro e w' ⟨rfl, hx⟩; exact ⟨_, rfl, hx, rfl⟩
          · refine stepE rfl fun sdn sa sw sE sd sk => ?_
            have h11 : sa.eval (.tmp 11) = .pointer (some ⟨gp, 0, none⟩) := sk.old 11 rfl
            exact Runs.load rfl h11 (load_part (hBp.ext sE) 0 (vs := [.slice (G) (ng) (cg), .slice (Q) (k) (dq), .int .i64 (q)]) rfl Try.underlying77 rfl (by kernel_rfl)) ⟨Ext.refl _, rfl⟩
          · refine stepE rfl fun sdn sa sw sE sd sk => ?_
            have h73 : sa.eval (.tmp 73) = .agg #[.slice (G) (ng) (cg), .slice (Q) (k) (dq), .int .i64 (q)] := sk.fact 2 73 rfl (sd 2 rfl)
            refine Runs.call (f := 53) (vs := [.agg #[.slice (G) (ng) (cg), .slice (Q) (k) (dq), .int .i64 (q)]]) rfl rfl rfl (by simp only [List.map_toArray, List.map_cons, List.map_nil, h73] <;> rfl) (ent53 _ _) ((rpolicy_any _ _ _ _ _ _ _ _ _ sw (rC.ext sE) (rQ.ext sE)).mono ?_); rintro e w' ⟨rfl, hx⟩; exact ⟨_, rfl, hx, rfl⟩
          · refine stepE rfl fun sdn sa sw sE sd sk => ?_
            have h72 : sa.eval (.tmp 72) = .bool (polB LG Ls q) := sk.fact 1 72 rfl (sd 1 rfl)
            have h74 : sa.eval (.tmp 74) = .bool (polB LG Ls q) := sk.fact 3 74 rfl (sd 3 rfl)
            exact Runs.bin rfl h72 h74 (by rfl) (bin_eqb _ _) ⟨Ext.refl _, congrArg Value.bool (by simp)⟩
          · refine stepE rfl fun sdn sa sw sE sd sk => ?_
            have h75 : sa.eval (.tmp 75) = .bool (true) := sk.fact 4 75 rfl (sd 4 rfl)
            exact Runs.move rfl h75 ⟨Ext.refl _, rfl⟩
          · refine stepY (j := 5) (d := 76) (b := true) rfl rfl rfl (fun v w h => h) fun sdn sa sw sE sd sk => ?_
            refine Runs.call (f := 47) (vs := []) rfl rfl rfl (by simp only [List.map_toArray, List.map_cons, List.map_nil] <;> rfl) (ent47 _ _) ((known11_any sw).mono ?_); rintro e w' ⟨rfl, hx⟩; exact ⟨_, rfl, hx, rfl⟩
          · refine stepE rfl fun sdn sa sw sE sd sk => ?_
            have h76 : sa.eval (.tmp 76) = .bool (true) := sk.fact 5 76 rfl (sd 5 rfl)
            have h77 : sa.eval (.tmp 77) = .bool (true) := sk.fact 6 77 rfl (sd 6 rfl)
            exact Runs.pick rfl h76 ⟨Ext.refl _, by first | exact h77 | simpa using h77⟩
          intro vals W13 hE13 hv13
          have e0 : vals 0 = .agg #[.slice (G) (ng) (cg), .slice (Q) (k) (dq), .int .i64 (q)] := hv13 0 (by omega) 71 rfl
          have e1 : vals 1 = .bool (polB LG Ls q) := hv13 1 (by omega) 72 rfl
          have e2 : vals 2 = .agg #[.slice (G) (ng) (cg), .slice (Q) (k) (dq), .int .i64 (q)] := hv13 2 (by omega) 73 rfl
          have e3 : vals 3 = .bool (polB LG Ls q) := hv13 3 (by omega) 74 rfl
          have e4 : vals 4 = .bool (true) := hv13 4 (by omega) 75 rfl
          have e5 : vals 5 = .bool (true) := hv13 5 (by omega) 76 rfl
          have e6 : vals 6 = .bool (true) := hv13 6 (by omega) 77 rfl
          have e7 : vals 7 = .bool (true) := hv13 7 (by omega) 78 rfl
          simp only [putAll, Act.put, List.take_succ_cons, List.take_zero, List.drop_succ_cons, List.drop_zero, List.drop_nil, List.take_nil, Nat.reduceAdd, List.setIfInBounds_toArray, List.set_cons_succ, List.set_cons_zero, e0, e1, e2, e3, e4, e5, e6, e7]
          clear hv13 e0 e1 e2 e3 e4 e5 e6 e7
          go_wp2_with fail
          go_ret
          exact ⟨rfl, hEr.trans hE13⟩
        | true =>
          have yq := hBp.cell (i := 1) (v := .slice Q k dq) rfl
          by_cases h1 : 1 < k
          · have h1i : (1 : Int) < (k : Int) := by omega
            go_upto_region 12 with (fail)
            have hGQ : 0 < ng → blk G ≠ blk Q := by
              intro h0 e
              obtain ⟨j, hj⟩ : ∃ j, blk G = some j := by
                obtain ⟨ad', h1, _⟩ := rC.cells h0
                rw [h1]
                exact ⟨_, rfl⟩
              have h2 := hGb h0 j hj
              have h3 := (ownQ.lt (e.symm.trans hj)).1
              omega
            obtain ⟨gQ, E, z, y, rfl, hcl0, rE, hne, hgq, _, hkd⟩ := ownQ.at_ (j := k - 1) (by omega)
            have hcl : wr.cell? ((⟨gQ, 0, none⟩ : Addr).add (k - 1)) = some (.slice E z y) := by rw [add_plain]; exact hcl0
            have rQ := ownQ.rbb
            refine par_ext (n := 10) (by kernel_rfl) [.is (.pointer (some ⟨gp, 1, none⟩)), .is (.slice ((some ⟨gQ, 0, none⟩)) (k) (dq)), .is (.pointer (some ⟨gp, 1, none⟩)), .is (.slice ((some ⟨gQ, 0, none⟩)) (k) (dq)), .is (.pointer (some ⟨gp, 1, none⟩)), .is (.slice ((some ⟨gQ, 0, none⟩)) (k) (dq)), .is (.int .i64 ((k : Nat))), .is (.int .i64 (((k - 1 : Nat) : Int))), .is (.pointer (some ((⟨gQ, 0, none⟩ : Addr).add (k - 1)))), .is (.slice (E) (z) (y))] rfl ⟨?_, ?_, ?_, ?_, ?_, ?_, ?_, ?_, ?_, ?_, trivial⟩ ?_
            · refine stepE rfl fun sdn sa sw sE sd sk => ?_
              have h11 : sa.eval (.tmp 11) = .pointer (some ⟨gp, 0, none⟩) := sk.old 11 rfl
              refine Runs.of_run (r := .pointer (some ⟨gp, 1, none⟩)) (w' := sw) ?_ ⟨Ext.refl _, rfl⟩
              unfold execOp
              simp only [h11]
              go_simp
            · refine stepE rfl fun sdn sa sw sE sd sk => ?_
              have h60 : sa.eval (.tmp 60) = .pointer (some ⟨gp, 1, none⟩) := sk.fact 0 60 rfl (sd 0 rfl)
              exact Runs.load rfl h60 (run_load1 Try.underlying37 rfl ((hBp.ext sE).cell (i := 1) rfl)) ⟨Ext.refl _, rfl⟩
            · refine stepE rfl fun sdn sa sw sE sd sk => ?_
              have h11 : sa.eval (.tmp 11) = .pointer (some ⟨gp, 0, none⟩) := sk.old 11 rfl
              refine Runs.of_run (r := .pointer (some ⟨gp, 1, none⟩)) (w' := sw) ?_ ⟨Ext.refl _, rfl⟩
              unfold execOp
              simp only [h11]
              go_simp
            · refine stepE rfl fun sdn sa sw sE sd sk => ?_
              have h62 : sa.eval (.tmp 62) = .pointer (some ⟨gp, 1, none⟩) := sk.fact 2 62 rfl (sd 2 rfl)
              exact Runs.load rfl h62 (run_load1 Try.underlying37 rfl ((hBp.ext sE).cell (i := 1) rfl)) ⟨Ext.refl _, rfl⟩
            · refine stepE rfl fun sdn sa sw sE sd sk => ?_
              have h11 : sa.eval (.tmp 11) = .pointer (some ⟨gp, 0, none⟩) := sk.old 11 rfl
              refine Runs.of_run (r := .pointer (some ⟨gp, 1, none⟩)) (w' := sw) ?_ ⟨Ext.refl _, rfl⟩
              unfold execOp
              simp only [h11]
              go_simp
            · refine stepE rfl fun sdn sa sw sE sd sk => ?_
              have h64 : sa.eval (.tmp 64) = .pointer (some ⟨gp, 1, none⟩) := sk.fact 4 64 rfl (sd 4 rfl)
              exact Runs.load rfl h64 (run_load1 Try.underlying37 rfl ((hBp.ext sE).cell (i := 1) rfl)) ⟨Ext.refl _, rfl⟩
            · refine stepE rfl fun sdn sa sw sE sd sk => ?_
              have h65 : sa.eval (.tmp 65) = .slice ((some ⟨gQ, 0, none⟩)) (k) (dq) := sk.fact 5 65 rfl (sd 5 rfl)
              exact Runs.len Try.underlying37 rfl h65 ⟨Ext.refl _, rfl⟩
            · refine stepE rfl fun sdn sa sw sE sd sk => ?_
              have h66 : sa.eval (.tmp 66) = .int .i64 ((k : Nat)) := sk.fact 6 66 rfl (sd 6 rfl)
              exact Runs.bin rfl h66 rfl (by rfl) (bin_dec _ k (by omega) (by omega)) ⟨Ext.refl _, rfl⟩
            · refine stepE rfl fun sdn sa sw sE sd sk => ?_
              have h63 : sa.eval (.tmp 63) = .slice ((some ⟨gQ, 0, none⟩)) (k) (dq) := sk.fact 3 63 rfl (sd 3 rfl)
              have h67 : sa.eval (.tmp 67) = .int .i64 (((k - 1 : Nat) : Int)) := sk.fact 7 67 rfl (sd 7 rfl)
              exact Runs.idx rfl h63 h67 (run_idx_sl1 Try.underlying37 infZZ_eq infZZ_size (k - 1) (by omega) (by omega)) ⟨Ext.refl _, rfl⟩
            · refine stepE rfl fun sdn sa sw sE sd sk => ?_
              have h68 : sa.eval (.tmp 68) = .pointer (some ((⟨gQ, 0, none⟩ : Addr).add (k - 1))) := sk.fact 8 68 rfl (sd 8 rfl)
              exact Runs.load rfl h68 (run_load1 Try.underlying22 rfl (sE.cell hcl)) ⟨Ext.refl _, rfl⟩
            intro vals W12 hE12 hv12
            have e0 : vals 0 = .pointer (some ⟨gp, 1, none⟩) := hv12 0 (by omega) 60 rfl
            have e1 : vals 1 = .slice ((some ⟨gQ, 0, none⟩)) (k) (dq) := hv12 1 (by omega) 61 rfl
            have e2 : vals 2 = .pointer (some ⟨gp, 1, none⟩) := hv12 2 (by omega) 62 rfl
            have e3 : vals 3 = .slice ((some ⟨gQ, 0, none⟩)) (k) (dq) := hv12 3 (by omega) 63 rfl
            have e4 : vals 4 = .pointer (some ⟨gp, 1, none⟩) := hv12 4 (by omega) 64 rfl
            have e5 : vals 5 = .slice ((some ⟨gQ, 0, none⟩)) (k) (dq) := hv12 5 (by omega) 65 rfl
            have e6 : vals 6 = .int .i64 ((k : Nat)) := hv12 6 (by omega) 66 rfl
            have e7 : vals 7 = .int .i64 (((k - 1 : Nat) : Int)) := hv12 7 (by omega) 67 rfl
            have e8 : vals 8 = .pointer (some ((⟨gQ, 0, none⟩ : Addr).add (k - 1))) := hv12 8 (by omega) 68 rfl
            have e9 : vals 9 = .slice (E) (z) (y) := hv12 9 (by omega) 69 rfl
            simp only [putAll, Act.put, List.take_succ_cons, List.take_zero, List.drop_succ_cons, List.drop_zero, List.drop_nil, List.take_nil, Nat.reduceAdd, List.setIfInBounds_toArray, List.set_cons_succ, List.set_cons_zero, e0, e1, e2, e3, e4, e5, e6, e7, e8, e9]
            clear hv12 e0 e1 e2 e3 e4 e5 e6 e7 e8 e9
            have o2 := ownQ.ext hE12
            have hEw := hEr.trans hE12
            have st := o2.store (rE.ext hE12) hne 0 (by omega) hEw (by omega)
            have f0 := o2.frz 0
            obtain ⟨gR, E0, z0, y0, hR, hc0, _⟩ := o2.at_ (j := 0) (by omega)
            cases hR
            have b2 := (hBp.ext hE12).far (p := ⟨gQ, 0, none⟩) (by have := o2.apart_blk (hBp.ext hE12) (by decide); intro e; exact this (congrArg some e)) (.slice E z y)
            have r2 := (rC.ext hE12).grown (grown_set W12 ⟨gQ, 0, none⟩ (.slice E z y)) hGQ
            go_upto_region 13 with (fail)
            clear ownQ hBp rC hEr rQ hcl hcl0
            obtain ⟨ownQ, hEr⟩ := st
            have hBp := b2
            have rC := r2
            clear b2 r2
            generalize W12.setCell ⟨gQ, 0, none⟩ (.slice E z y) = w13 at *
            have rQ := ownQ.rbb
            refine par_ext (n := 8) (by kernel_rfl) [.is (.agg #[.slice (G) (ng) (cg), .slice ((some ⟨gQ, 0, none⟩)) (k) (dq), .int .i64 (q)]), .is (.bool (polB LG (Ls.set 0 (lb Ls (k - 1))) q)), .is (.agg #[.slice (G) (ng) (cg), .slice ((some ⟨gQ, 0, none⟩)) (k) (dq), .int .i64 (q)]), .is (.bool (polB LG (Ls.set 0 (lb Ls (k - 1))) q)), .is (.bool (true)), .is (.bool (true)), .is (.bool (true)), .is (.bool (true))] rfl ⟨?_, ?_, ?_, ?_, ?_, ?_, ?_, ?_, trivial⟩ ?_
            · refine stepE rfl fun sdn sa sw sE sd sk => ?_
              have h11 : sa.eval (.tmp 11) = .pointer (some ⟨gp, 0, none⟩) := sk.old 11 rfl
              exact Runs.load rfl h11 (load_part (hBp.ext sE) 0 (vs := [.slice (G) (ng) (cg), .slice ((some ⟨gQ, 0, none⟩)) (k) (dq), .int .i64 (q)]) rfl Try.underlying77 rfl (by kernel_rfl)) ⟨Ext.refl _, rfl⟩
            · refine stepE rfl fun sdn sa sw sE sd sk => ?_
              have h71 : sa.eval (.tmp 71) = .agg #[.slice (G) (ng) (cg), .slice ((some ⟨gQ, 0, none⟩)) (k) (dq), .int .i64 (q)] := sk.fact 0 71 rfl (sd 0 rfl)
              refine Runs.call (f := 42) (vs := [.agg #[.slice (G) (ng) (cg), .slice ((some ⟨gQ, 0, none⟩)) (k) (dq), .int .i64 (q)]]) rfl rfl rfl (by simp only [List.map_toArray, List.map_cons, List.map_nil, h71] <;> rfl) (ent42 _ _) ((cosright_any _ _ _ _ _ _ _ _ _ sw (rC.ext sE) (rQ.ext sE)).mono ?_); rintro e w' ⟨rfl, hx⟩; exact ⟨_, rfl, hx, rfl⟩
            · refine stepE rfl fun sdn sa sw sE sd sk => ?_
              have h11 : sa.eval (.tmp 11) = .pointer (some ⟨gp, 0, none⟩) := sk.old 11 rfl
              exact Runs.load rfl h11 (load_part (hBp.ext sE) 0 (vs := [.slice (G) (ng) (cg), .slice ((some ⟨gQ, 0, none⟩)) (k) (dq), .int .i64 (q)]) rfl Try.underlying77 rfl (by kernel_rfl)) ⟨Ext.refl _, rfl⟩
            · refine stepE rfl fun sdn sa sw sE sd sk => ?_
              have h73 : sa.eval (.tmp 73) = .agg #[.slice (G) (ng) (cg), .slice ((some ⟨gQ, 0, none⟩)) (k) (dq), .int .i64 (q)] := sk.fact 2 73 rfl (sd 2 rfl)
              refine Runs.call (f := 53) (vs := [.agg #[.slice (G) (ng) (cg), .slice ((some ⟨gQ, 0, none⟩)) (k) (dq), .int .i64 (q)]]) rfl rfl rfl (by simp only [List.map_toArray, List.map_cons, List.map_nil, h73] <;> rfl) (ent53 _ _) ((rpolicy_any _ _ _ _ _ _ _ _ _ sw (rC.ext sE) (rQ.ext sE)).mono ?_); rintro e w' ⟨rfl, hx⟩; exact ⟨_, rfl, hx, rfl⟩
            · refine stepE rfl fun sdn sa sw sE sd sk => ?_
              have h72 : sa.eval (.tmp 72) = .bool (polB LG (Ls.set 0 (lb Ls (k - 1))) q) := sk.fact 1 72 rfl (sd 1 rfl)
              have h74 : sa.eval (.tmp 74) = .bool (polB LG (Ls.set 0 (lb Ls (k - 1))) q) := sk.fact 3 74 rfl (sd 3 rfl)
              exact Runs.bin rfl h72 h74 (by rfl) (bin_eqb _ _) ⟨Ext.refl _, congrArg Value.bool (by simp)⟩
            · refine stepE rfl fun sdn sa sw sE sd sk => ?_
              have h75 : sa.eval (.tmp 75) = .bool (true) := sk.fact 4 75 rfl (sd 4 rfl)
              exact Runs.move rfl h75 ⟨Ext.refl _, rfl⟩
            · refine stepY (j := 5) (d := 76) (b := true) rfl rfl rfl (fun v w h => h) fun sdn sa sw sE sd sk => ?_
              refine Runs.call (f := 47) (vs := []) rfl rfl rfl (by simp only [List.map_toArray, List.map_cons, List.map_nil] <;> rfl) (ent47 _ _) ((known11_any sw).mono ?_); rintro e w' ⟨rfl, hx⟩; exact ⟨_, rfl, hx, rfl⟩
            · refine stepE rfl fun sdn sa sw sE sd sk => ?_
              have h76 : sa.eval (.tmp 76) = .bool (true) := sk.fact 5 76 rfl (sd 5 rfl)
              have h77 : sa.eval (.tmp 77) = .bool (true) := sk.fact 6 77 rfl (sd 6 rfl)
              exact Runs.pick rfl h76 ⟨Ext.refl _, by first | exact h77 | simpa using h77⟩
            intro vals W13 hE13 hv13
            have e0 : vals 0 = .agg #[.slice (G) (ng) (cg), .slice ((some ⟨gQ, 0, none⟩)) (k) (dq), .int .i64 (q)] := hv13 0 (by omega) 71 rfl
            have e1 : vals 1 = .bool (polB LG (Ls.set 0 (lb Ls (k - 1))) q) := hv13 1 (by omega) 72 rfl
            have e2 : vals 2 = .agg #[.slice (G) (ng) (cg), .slice ((some ⟨gQ, 0, none⟩)) (k) (dq), .int .i64 (q)] := hv13 2 (by omega) 73 rfl
            have e3 : vals 3 = .bool (polB LG (Ls.set 0 (lb Ls (k - 1))) q) := hv13 3 (by omega) 74 rfl
            have e4 : vals 4 = .bool (true) := hv13 4 (by omega) 75 rfl
            have e5 : vals 5 = .bool (true) := hv13 5 (by omega) 76 rfl
            have e6 : vals 6 = .bool (true) := hv13 6 (by omega) 77 rfl
            have e7 : vals 7 = .bool (true) := hv13 7 (by omega) 78 rfl
            simp only [putAll, Act.put, List.take_succ_cons, List.take_zero, List.drop_succ_cons, List.drop_zero, List.drop_nil, List.take_nil, Nat.reduceAdd, List.setIfInBounds_toArray, List.set_cons_succ, List.set_cons_zero, e0, e1, e2, e3, e4, e5, e6, e7]
            clear hv13 e0 e1 e2 e3 e4 e5 e6 e7
            go_wp2_with fail
            go_ret
            exact ⟨rfl, hEr.trans hE13⟩
          · exact absurd hk6x (by omega)
      · have a1 : ¬ ((k : Int) < (n : Int)) := by omega
        clear hlt hpn
        cases tw with
        | false =>
          go_upto_region 13 with (fail)
          have rQ := ownQ.rbb
          refine par_ext (n := 8) (by kernel_rfl) [.is (.agg #[.slice (G) (ng) (cg), .slice (Q) (k) (dq), .int .i64 (q)]), .is (.bool (polB LG Ls q)), .is (.agg #[.slice (G) (ng) (cg), .slice (Q) (k) (dq), .int .i64 (q)]), .is (.bool (polB LG Ls q)), .is (.bool (true)), .is (.bool (true)), .is (.bool (true)), .is (.bool (true))] rfl ⟨?_, ?_, ?_, ?_, ?_, ?_, ?_, ?_, trivial⟩ ?_
          · refine stepE rfl fun sdn sa sw sE sd sk => ?_
            have h11 : sa.eval (.tmp 11) = .pointer (some ⟨gp, 0, none⟩) := sk.old 11 rfl
            exact Runs.load rfl h11 (load_part (hBp.ext sE) 0 (vs := [.slice (G) (ng) (cg), .slice (Q) (k) (dq), .int .i64 (q)]) rfl Try.underlying77 rfl (by kernel_rfl)) ⟨Ext.refl _, rfl⟩
          · refine stepE rfl fun sdn sa sw sE sd sk => ?_
            have h71 : sa.eval (.tmp 71) = .agg #[.slice (G) (ng) (cg), .slice (Q) (k) (dq), .int .i64 (q)] := sk.fact 0 71 rfl (sd 0 rfl)
            refine Runs.call (f := 42) (vs := [.agg #[.slice (G) (ng) (cg), .slice (Q) (k) (dq), .int .i64 (q)]]) rfl rfl rfl (by simp only [List.map_toArray, List.map_cons, List.map_nil, h71] <;> rfl) (ent42 _ _) ((cosright_any _ _ _ _ _ _ _ _ _ sw (rC.ext sE) (rQ.ext sE)).mono ?_); rintro e w' ⟨rfl, hx⟩; exact ⟨_, rfl, hx, rfl⟩
          · refine stepE rfl fun sdn sa sw sE sd sk => ?_
            have h11 : sa.eval (.tmp 11) = .pointer (some ⟨gp, 0, none⟩) := sk.old 11 rfl
            exact Runs.load rfl h11 (load_part (hBp.ext sE) 0 (vs := [.slice (G) (ng) (cg), .slice (Q) (k) (dq), .int .i64 (q)]) rfl Try.underlying77 rfl (by kernel_rfl)) ⟨Ext.refl _, rfl⟩
          · refine stepE rfl fun sdn sa sw sE sd sk => ?_
            have h73 : sa.eval (.tmp 73) = .agg #[.slice (G) (ng) (cg), .slice (Q) (k) (dq), .int .i64 (q)] := sk.fact 2 73 rfl (sd 2 rfl)
            refine Runs.call (f := 53) (vs := [.agg #[.slice (G) (ng) (cg), .slice (Q) (k) (dq), .int .i64 (q)]]) rfl rfl rfl (by simp only [List.map_toArray, List.map_cons, List.map_nil, h73] <;> rfl) (ent53 _ _) ((rpolicy_any _ _ _ _ _ _ _ _ _ sw (rC.ext sE) (rQ.ext sE)).mono ?_); rintro e w' ⟨rfl, hx⟩; exact ⟨_, rfl, hx, rfl⟩
          · refine stepE rfl fun sdn sa sw sE sd sk => ?_
            have h72 : sa.eval (.tmp 72) = .bool (polB LG Ls q) := sk.fact 1 72 rfl (sd 1 rfl)
            have h74 : sa.eval (.tmp 74) = .bool (polB LG Ls q) := sk.fact 3 74 rfl (sd 3 rfl)
            exact Runs.bin rfl h72 h74 (by rfl) (bin_eqb _ _) ⟨Ext.refl _, congrArg Value.bool (by simp)⟩
          · refine stepE rfl fun sdn sa sw sE sd sk => ?_
            have h75 : sa.eval (.tmp 75) = .bool (true) := sk.fact 4 75 rfl (sd 4 rfl)
            exact Runs.move rfl h75 ⟨Ext.refl _, rfl⟩
          · refine stepY (j := 5) (d := 76) (b := true) rfl rfl rfl (fun v w h => h) fun sdn sa sw sE sd sk => ?_
            refine Runs.call (f := 47) (vs := []) rfl rfl rfl (by simp only [List.map_toArray, List.map_cons, List.map_nil] <;> rfl) (ent47 _ _) ((known11_any sw).mono ?_); rintro e w' ⟨rfl, hx⟩; exact ⟨_, rfl, hx, rfl⟩
          · refine stepE rfl fun sdn sa sw sE sd sk => ?_
            have h76 : sa.eval (.tmp 76) = .bool (true) := sk.fact 5 76 rfl (sd 5 rfl)
            have h77 : sa.eval (.tmp 77) = .bool (true) := sk.fact 6 77 rfl (sd 6 rfl)
            exact Runs.pick rfl h76 ⟨Ext.refl _, by first | exact h77 | simpa using h77⟩
          intro vals W13 hE13 hv13
          have e0 : vals 0 = .agg #[.slice (G) (ng) (cg), .slice (Q) (k) (dq), .int .i64 (q)] := hv13 0 (by omega) 71 rfl
          have e1 : vals 1 = .bool (polB LG Ls q) := hv13 1 (by omega) 72 rfl
          have e2 : vals 2 = .agg #[.slice (G) (ng) (cg), .slice (Q) (k) (dq), .int .i64 (q)] := hv13 2 (by omega) 73 rfl
          have e3 : vals 3 = .bool (polB LG Ls q) := hv13 3 (by omega) 74 rfl
          have e4 : vals 4 = .bool (true) := hv13 4 (by omega) 75 rfl
          have e5 : vals 5 = .bool (true) := hv13 5 (by omega) 76 rfl
          have e6 : vals 6 = .bool (true) := hv13 6 (by omega) 77 rfl
          have e7 : vals 7 = .bool (true) := hv13 7 (by omega) 78 rfl
          simp only [putAll, Act.put, List.take_succ_cons, List.take_zero, List.drop_succ_cons, List.drop_zero, List.drop_nil, List.take_nil, Nat.reduceAdd, List.setIfInBounds_toArray, List.set_cons_succ, List.set_cons_zero, e0, e1, e2, e3, e4, e5, e6, e7]
          clear hv13 e0 e1 e2 e3 e4 e5 e6 e7
          go_wp2_with fail
          go_ret
          exact ⟨rfl, hEr.trans hE13⟩
        | true =>
          have yq := hBp.cell (i := 1) (v := .slice Q k dq) rfl
          by_cases h1 : 1 < k
          · have h1i : (1 : Int) < (k : Int) := by omega
            go_upto_region 12 with (fail)
            have hGQ : 0 < ng → blk G ≠ blk Q := by
              intro h0 e
              obtain ⟨j, hj⟩ : ∃ j, blk G = some j := by
                obtain ⟨ad', h1, _⟩ := rC.cells h0
                rw [h1]
                exact ⟨_, rfl⟩
              have h2 := hGb h0 j hj
              have h3 := (ownQ.lt (e.symm.trans hj)).1
              omega
            obtain ⟨gQ, E, z, y, rfl, hcl0, rE, hne, hgq, _, hkd⟩ := ownQ.at_ (j := k - 1) (by omega)
            have hcl : wr.cell? ((⟨gQ, 0, none⟩ : Addr).add (k - 1)) = some (.slice E z y) := by rw [add_plain]; exact hcl0
            have rQ := ownQ.rbb
            refine par_ext (n := 10) (by kernel_rfl) [.is (.pointer (some ⟨gp, 1, none⟩)), .is (.slice ((some ⟨gQ, 0, none⟩)) (k) (dq)), .is (.pointer (some ⟨gp, 1, none⟩)), .is (.slice ((some ⟨gQ, 0, none⟩)) (k) (dq)), .is (.pointer (some ⟨gp, 1, none⟩)), .is (.slice ((some ⟨gQ, 0, none⟩)) (k) (dq)), .is (.int .i64 ((k : Nat))), .is (.int .i64 (((k - 1 : Nat) : Int))), .is (.pointer (some ((⟨gQ, 0, none⟩ : Addr).add (k - 1)))), .is (.slice (E) (z) (y))] rfl ⟨?_, ?_, ?_, ?_, ?_, ?_, ?_, ?_, ?_, ?_, trivial⟩ ?_
            · refine stepE rfl fun sdn sa sw sE sd sk => ?_
              have h11 : sa.eval (.tmp 11) = .pointer (some ⟨gp, 0, none⟩) := sk.old 11 rfl
              refine Runs.of_run (r := .pointer (some ⟨gp, 1, none⟩)) (w' := sw) ?_ ⟨Ext.refl _, rfl⟩
              unfold execOp
              simp only [h11]
              go_simp
            · refine stepE rfl fun sdn sa sw sE sd sk => ?_
              have h60 : sa.eval (.tmp 60) = .pointer (some ⟨gp, 1, none⟩) := sk.fact 0 60 rfl (sd 0 rfl)
              exact Runs.load rfl h60 (run_load1 Try.underlying37 rfl ((hBp.ext sE).cell (i := 1) rfl)) ⟨Ext.refl _, rfl⟩
            · refine stepE rfl fun sdn sa sw sE sd sk => ?_
              have h11 : sa.eval (.tmp 11) = .pointer (some ⟨gp, 0, none⟩) := sk.old 11 rfl
              refine Runs.of_run (r := .pointer (some ⟨gp, 1, none⟩)) (w' := sw) ?_ ⟨Ext.refl _, rfl⟩
              unfold execOp
              simp only [h11]
              go_simp
            · refine stepE rfl fun sdn sa sw sE sd sk => ?_
              have h62 : sa.eval (.tmp 62) = .pointer (some ⟨gp, 1, none⟩) := sk.fact 2 62 rfl (sd 2 rfl)
              exact Runs.load rfl h62 (run_load1 Try.underlying37 rfl ((hBp.ext sE).cell (i := 1) rfl)) ⟨Ext.refl _, rfl⟩
            · refine stepE rfl fun sdn sa sw sE sd sk => ?_
              have h11 : sa.eval (.tmp 11) = .pointer (some ⟨gp, 0, none⟩) := sk.old 11 rfl
              refine Runs.of_run (r := .pointer (some ⟨gp, 1, none⟩)) (w' := sw) ?_ ⟨Ext.refl _, rfl⟩
              unfold execOp
              simp only [h11]
              go_simp
            · refine stepE rfl fun sdn sa sw sE sd sk => ?_
              have h64 : sa.eval (.tmp 64) = .pointer (some ⟨gp, 1, none⟩) := sk.fact 4 64 rfl (sd 4 rfl)
              exact Runs.load rfl h64 (run_load1 Try.underlying37 rfl ((hBp.ext sE).cell (i := 1) rfl)) ⟨Ext.refl _, rfl⟩
            · refine stepE rfl fun sdn sa sw sE sd sk => ?_
              have h65 : sa.eval (.tmp 65) = .slice ((some ⟨gQ, 0, none⟩)) (k) (dq) := sk.fact 5 65 rfl (sd 5 rfl)
              exact Runs.len Try.underlying37 rfl h65 ⟨Ext.refl _, rfl⟩
            · refine stepE rfl fun sdn sa sw sE sd sk => ?_
              have h66 : sa.eval (.tmp 66) = .int .i64 ((k : Nat)) := sk.fact 6 66 rfl (sd 6 rfl)
              exact Runs.bin rfl h66 rfl (by rfl) (bin_dec _ k (by omega) (by omega)) ⟨Ext.refl _, rfl⟩
            · refine stepE rfl fun sdn sa sw sE sd sk => ?_
              have h63 : sa.eval (.tmp 63) = .slice ((some ⟨gQ, 0, none⟩)) (k) (dq) := sk.fact 3 63 rfl (sd 3 rfl)
              have h67 : sa.eval (.tmp 67) = .int .i64 (((k - 1 : Nat) : Int)) := sk.fact 7 67 rfl (sd 7 rfl)
              exact Runs.idx rfl h63 h67 (run_idx_sl1 Try.underlying37 infZZ_eq infZZ_size (k - 1) (by omega) (by omega)) ⟨Ext.refl _, rfl⟩
            · refine stepE rfl fun sdn sa sw sE sd sk => ?_
              have h68 : sa.eval (.tmp 68) = .pointer (some ((⟨gQ, 0, none⟩ : Addr).add (k - 1))) := sk.fact 8 68 rfl (sd 8 rfl)
              exact Runs.load rfl h68 (run_load1 Try.underlying22 rfl (sE.cell hcl)) ⟨Ext.refl _, rfl⟩
            intro vals W12 hE12 hv12
            have e0 : vals 0 = .pointer (some ⟨gp, 1, none⟩) := hv12 0 (by omega) 60 rfl
            have e1 : vals 1 = .slice ((some ⟨gQ, 0, none⟩)) (k) (dq) := hv12 1 (by omega) 61 rfl
            have e2 : vals 2 = .pointer (some ⟨gp, 1, none⟩) := hv12 2 (by omega) 62 rfl
            have e3 : vals 3 = .slice ((some ⟨gQ, 0, none⟩)) (k) (dq) := hv12 3 (by omega) 63 rfl
            have e4 : vals 4 = .pointer (some ⟨gp, 1, none⟩) := hv12 4 (by omega) 64 rfl
            have e5 : vals 5 = .slice ((some ⟨gQ, 0, none⟩)) (k) (dq) := hv12 5 (by omega) 65 rfl
            have e6 : vals 6 = .int .i64 ((k : Nat)) := hv12 6 (by omega) 66 rfl
            have e7 : vals 7 = .int .i64 (((k - 1 : Nat) : Int)) := hv12 7 (by omega) 67 rfl
            have e8 : vals 8 = .pointer (some ((⟨gQ, 0, none⟩ : Addr).add (k - 1))) := hv12 8 (by omega) 68 rfl
            have e9 : vals 9 = .slice (E) (z) (y) := hv12 9 (by omega) 69 rfl
            simp only [putAll, Act.put, List.take_succ_cons, List.take_zero, List.drop_succ_cons, List.drop_zero, List.drop_nil, List.take_nil, Nat.reduceAdd, List.setIfInBounds_toArray, List.set_cons_succ, List.set_cons_zero, e0, e1, e2, e3, e4, e5, e6, e7, e8, e9]
            clear hv12 e0 e1 e2 e3 e4 e5 e6 e7 e8 e9
            have o2 := ownQ.ext hE12
            have hEw := hEr.trans hE12
            have st := o2.store (rE.ext hE12) hne 0 (by omega) hEw (by omega)
            have f0 := o2.frz 0
            obtain ⟨gR, E0, z0, y0, hR, hc0, _⟩ := o2.at_ (j := 0) (by omega)
            cases hR
            have b2 := (hBp.ext hE12).far (p := ⟨gQ, 0, none⟩) (by have := o2.apart_blk (hBp.ext hE12) (by decide); intro e; exact this (congrArg some e)) (.slice E z y)
            have r2 := (rC.ext hE12).grown (grown_set W12 ⟨gQ, 0, none⟩ (.slice E z y)) hGQ
            go_upto_region 13 with (fail)
            clear ownQ hBp rC hEr rQ hcl hcl0
            obtain ⟨ownQ, hEr⟩ := st
            have hBp := b2
            have rC := r2
            clear b2 r2
            generalize W12.setCell ⟨gQ, 0, none⟩ (.slice E z y) = w13 at *
            have rQ := ownQ.rbb
            refine par_ext (n := 8) (by kernel_rfl) [.is (.agg #[.slice (G) (ng) (cg), .slice ((some ⟨gQ, 0, none⟩)) (k) (dq), .int .i64 (q)]), .is (.bool (polB LG (Ls.set 0 (lb Ls (k - 1))) q)), .is (.agg #[.slice (G) (ng) (cg), .slice ((some ⟨gQ, 0, none⟩)) (k) (dq), .int .i64 (q)]), .is (.bool (polB LG (Ls.set 0 (lb Ls (k - 1))) q)), .is (.bool (true)), .is (.bool (true)), .is (.bool (true)), .is (.bool (true))] rfl ⟨?_, ?_, ?_, ?_, ?_, ?_, ?_, ?_, trivial⟩ ?_
            · refine stepE rfl fun sdn sa sw sE sd sk => ?_
              have h11 : sa.eval (.tmp 11) = .pointer (some ⟨gp, 0, none⟩) := sk.old 11 rfl
              exact Runs.load rfl h11 (load_part (hBp.ext sE) 0 (vs := [.slice (G) (ng) (cg), .slice ((some ⟨gQ, 0, none⟩)) (k) (dq), .int .i64 (q)]) rfl Try.underlying77 rfl (by kernel_rfl)) ⟨Ext.refl _, rfl⟩
            · refine stepE rfl fun sdn sa sw sE sd sk => ?_
              have h71 : sa.eval (.tmp 71) = .agg #[.slice (G) (ng) (cg), .slice ((some ⟨gQ, 0, none⟩)) (k) (dq), .int .i64 (q)] := sk.fact 0 71 rfl (sd 0 rfl)
              refine Runs.call (f := 42) (vs := [.agg #[.slice (G) (ng) (cg), .slice ((some ⟨gQ, 0, none⟩)) (k) (dq), .int .i64 (q)]]) rfl rfl rfl (by simp only [List.map_toArray, List.map_cons, List.map_nil, h71] <;> rfl) (ent42 _ _) ((cosright_any _ _ _ _ _ _ _ _ _ sw (rC.ext sE) (rQ.ext sE)).mono ?_); rintro e w' ⟨rfl, hx⟩; exact ⟨_, rfl, hx, rfl⟩
            · refine stepE rfl fun sdn sa sw sE sd sk => ?_
              have h11 : sa.eval (.tmp 11) = .pointer (some ⟨gp, 0, none⟩) := sk.old 11 rfl
              exact Runs.load rfl h11 (load_part (hBp.ext sE) 0 (vs := [.slice (G) (ng) (cg), .slice ((some ⟨gQ, 0, none⟩)) (k) (dq), .int .i64 (q)]) rfl Try.underlying77 rfl (by kernel_rfl)) ⟨Ext.refl _, rfl⟩
            · refine stepE rfl fun sdn sa sw sE sd sk => ?_
              have h73 : sa.eval (.tmp 73) = .agg #[.slice (G) (ng) (cg), .slice ((some ⟨gQ, 0, none⟩)) (k) (dq), .int .i64 (q)] := sk.fact 2 73 rfl (sd 2 rfl)
              refine Runs.call (f := 53) (vs := [.agg #[.slice (G) (ng) (cg), .slice ((some ⟨gQ, 0, none⟩)) (k) (dq), .int .i64 (q)]]) rfl rfl rfl (by simp only [List.map_toArray, List.map_cons, List.map_nil, h73] <;> rfl) (ent53 _ _) ((rpolicy_any _ _ _ _ _ _ _ _ _ sw (rC.ext sE) (rQ.ext sE)).mono ?_); rintro e w' ⟨rfl, hx⟩; exact ⟨_, rfl, hx, rfl⟩
            · refine stepE rfl fun sdn sa sw sE sd sk => ?_
              have h72 : sa.eval (.tmp 72) = .bool (polB LG (Ls.set 0 (lb Ls (k - 1))) q) := sk.fact 1 72 rfl (sd 1 rfl)
              have h74 : sa.eval (.tmp 74) = .bool (polB LG (Ls.set 0 (lb Ls (k - 1))) q) := sk.fact 3 74 rfl (sd 3 rfl)
              exact Runs.bin rfl h72 h74 (by rfl) (bin_eqb _ _) ⟨Ext.refl _, congrArg Value.bool (by simp)⟩
            · refine stepE rfl fun sdn sa sw sE sd sk => ?_
              have h75 : sa.eval (.tmp 75) = .bool (true) := sk.fact 4 75 rfl (sd 4 rfl)
              exact Runs.move rfl h75 ⟨Ext.refl _, rfl⟩
            · refine stepY (j := 5) (d := 76) (b := true) rfl rfl rfl (fun v w h => h) fun sdn sa sw sE sd sk => ?_
              refine Runs.call (f := 47) (vs := []) rfl rfl rfl (by simp only [List.map_toArray, List.map_cons, List.map_nil] <;> rfl) (ent47 _ _) ((known11_any sw).mono ?_); rintro e w' ⟨rfl, hx⟩; exact ⟨_, rfl, hx, rfl⟩
            · refine stepE rfl fun sdn sa sw sE sd sk => ?_
              have h76 : sa.eval (.tmp 76) = .bool (true) := sk.fact 5 76 rfl (sd 5 rfl)
              have h77 : sa.eval (.tmp 77) = .bool (true) := sk.fact 6 77 rfl (sd 6 rfl)
              exact Runs.pick rfl h76 ⟨Ext.refl _, by first | exact h77 | simpa using h77⟩
            intro vals W13 hE13 hv13
            have e0 : vals 0 = .agg #[.slice (G) (ng) (cg), .slice ((some ⟨gQ, 0, none⟩)) (k) (dq), .int .i64 (q)] := hv13 0 (by omega) 71 rfl
            have e1 : vals 1 = .bool (polB LG (Ls.set 0 (lb Ls (k - 1))) q) := hv13 1 (by omega) 72 rfl
            have e2 : vals 2 = .agg #[.slice (G) (ng) (cg), .slice ((some ⟨gQ, 0, none⟩)) (k) (dq), .int .i64 (q)] := hv13 2 (by omega) 73 rfl
            have e3 : vals 3 = .bool (polB LG (Ls.set 0 (lb Ls (k - 1))) q) := hv13 3 (by omega) 74 rfl
            have e4 : vals 4 = .bool (true) := hv13 4 (by omega) 75 rfl
            have e5 : vals 5 = .bool (true) := hv13 5 (by omega) 76 rfl
            have e6 : vals 6 = .bool (true) := hv13 6 (by omega) 77 rfl
            have e7 : vals 7 = .bool (true) := hv13 7 (by omega) 78 rfl
            simp only [putAll, Act.put, List.take_succ_cons, List.take_zero, List.drop_succ_cons, List.drop_zero, List.drop_nil, List.take_nil, Nat.reduceAdd, List.setIfInBounds_toArray, List.set_cons_succ, List.set_cons_zero, e0, e1, e2, e3, e4, e5, e6, e7]
            clear hv13 e0 e1 e2 e3 e4 e5 e6 e7
            go_wp2_with fail
            go_ret
            exact ⟨rfl, hEr.trans hE13⟩
          · have h1i : ¬ ((1 : Int) < (k : Int)) := by omega
            go_upto_region 13 with (fail)
            have rQ := ownQ.rbb
            refine par_ext (n := 8) (by kernel_rfl) [.is (.agg #[.slice (G) (ng) (cg), .slice (Q) (k) (dq), .int .i64 (q)]), .is (.bool (polB LG Ls q)), .is (.agg #[.slice (G) (ng) (cg), .slice (Q) (k) (dq), .int .i64 (q)]), .is (.bool (polB LG Ls q)), .is (.bool (true)), .is (.bool (true)), .is (.bool (true)), .is (.bool (true))] rfl ⟨?_, ?_, ?_, ?_, ?_, ?_, ?_, ?_, trivial⟩ ?_
            · refine stepE rfl fun sdn sa sw sE sd sk => ?_
              have h11 : sa.eval (.tmp 11) = .pointer (some ⟨gp, 0, none⟩) := sk.old 11 rfl
              exact Runs.load rfl h11 (load_part (hBp.ext sE) 0 (vs := [.slice (G) (ng) (cg), .slice (Q) (k) (dq), .int .i64 (q)]) rfl Try.underlying77 rfl (by kernel_rfl)) ⟨Ext.refl _, rfl⟩
            · refine stepE rfl fun sdn sa sw sE sd sk => ?_
              have h71 : sa.eval (.tmp 71) = .agg #[.slice (G) (ng) (cg), .slice (Q) (k) (dq), .int .i64 (q)] := sk.fact 0 71 rfl (sd 0 rfl)
              refine Runs.call (f := 42) (vs := [.agg #[.slice (G) (ng) (cg), .slice (Q) (k) (dq), .int .i64 (q)]]) rfl rfl rfl (by simp only [List.map_toArray, List.map_cons, List.map_nil, h71] <;> rfl) (ent42 _ _) ((cosright_any _ _ _ _ _ _ _ _ _ sw (rC.ext sE) (rQ.ext sE)).mono ?_); rintro e w' ⟨rfl, hx⟩; exact ⟨_, rfl, hx, rfl⟩
            · refine stepE rfl fun sdn sa sw sE sd sk => ?_
              have h11 : sa.eval (.tmp 11) = .pointer (some ⟨gp, 0, none⟩) := sk.old 11 rfl
              exact Runs.load rfl h11 (load_part (hBp.ext sE) 0 (vs := [.slice (G) (ng) (cg), .slice (Q) (k) (dq), .int .i64 (q)]) rfl Try.underlying77 rfl (by kernel_rfl)) ⟨Ext.refl _, rfl⟩
            · refine stepE rfl fun sdn sa sw sE sd sk => ?_
              have h73 : sa.eval (.tmp 73) = .agg #[.slice (G) (ng) (cg), .slice (Q) (k) (dq), .int .i64 (q)] := sk.fact 2 73 rfl (sd 2 rfl)
              refine Runs.call (f := 53) (vs := [.agg #[.slice (G) (ng) (cg), .slice (Q) (k) (dq), .int .i64 (q)]]) rfl rfl rfl (by simp only [List.map_toArray, List.map_cons, List.map_nil, h73] <;> rfl) (ent53 _ _) ((rpolicy_any _ _ _ _ _ _ _ _ _ sw (rC.ext sE) (rQ.ext sE)).mono ?_); rintro e w' ⟨rfl, hx⟩; exact ⟨_, rfl, hx, rfl⟩
            · refine stepE rfl fun sdn sa sw sE sd sk => ?_
              have h72 : sa.eval (.tmp 72) = .bool (polB LG Ls q) := sk.fact 1 72 rfl (sd 1 rfl)
              have h74 : sa.eval (.tmp 74) = .bool (polB LG Ls q) := sk.fact 3 74 rfl (sd 3 rfl)
              exact Runs.bin rfl h72 h74 (by rfl) (bin_eqb _ _) ⟨Ext.refl _, congrArg Value.bool (by simp)⟩
            · refine stepE rfl fun sdn sa sw sE sd sk => ?_
              have h75 : sa.eval (.tmp 75) = .bool (true) := sk.fact 4 75 rfl (sd 4 rfl)
              exact Runs.move rfl h75 ⟨Ext.refl _, rfl⟩
            · refine stepY (j := 5) (d := 76) (b := true) rfl rfl rfl (fun v w h => h) fun sdn sa sw sE sd sk => ?_
              refine Runs.call (f := 47) (vs := []) rfl rfl rfl (by simp only [List.map_toArray, List.map_cons, List.map_nil] <;> rfl) (ent47 _ _) ((known11_any sw).mono ?_); rintro e w' ⟨rfl, hx⟩; exact ⟨_, rfl, hx, rfl⟩
            · refine stepE rfl fun sdn sa sw sE sd sk => ?_
              have h76 : sa.eval (.tmp 76) = .bool (true) := sk.fact 5 76 rfl (sd 5 rfl)
              have h77 : sa.eval (.tmp 77) = .bool (true) := sk.fact 6 77 rfl (sd 6 rfl)
              exact Runs.pick rfl h76 ⟨Ext.refl _, by first | exact h77 | simpa using h77⟩
            intro vals W13 hE13 hv13
            have e0 : vals 0 = .agg #[.slice (G) (ng) (cg), .slice (Q) (k) (dq), .int .i64 (q)] := hv13 0 (by omega) 71 rfl
            have e1 : vals 1 = .bool (polB LG Ls q) := hv13 1 (by omega) 72 rfl
            have e2 : vals 2 = .agg #[.slice (G) (ng) (cg), .slice (Q) (k) (dq), .int .i64 (q)] := hv13 2 (by omega) 73 rfl
            have e3 : vals 3 = .bool (polB LG Ls q) := hv13 3 (by omega) 74 rfl
            have e4 : vals 4 = .bool (true) := hv13 4 (by omega) 75 rfl
            have e5 : vals 5 = .bool (true) := hv13 5 (by omega) 76 rfl
            have e6 : vals 6 = .bool (true) := hv13 6 (by omega) 77 rfl
            have e7 : vals 7 = .bool (true) := hv13 7 (by omega) 78 rfl
            simp only [putAll, Act.put, List.take_succ_cons, List.take_zero, List.drop_succ_cons, List.drop_zero, List.drop_nil, List.take_nil, Nat.reduceAdd, List.setIfInBounds_toArray, List.set_cons_succ, List.set_cons_zero, e0, e1, e2, e3, e4, e5, e6, e7]
            clear hv13 e0 e1 e2 e3 e4 e5 e6 e7
            go_wp2_with fail
            go_ret
            exact ⟨rfl, hEr.trans hE13⟩

theorem policies_any (A : Option Addr) (n c : Nat) (Ks : List (List UInt8)) (B : Option Addr) (m d : Nat) (M : List UInt8) (q : Int) (hq : -9223372036854775808 ≤ q ∧ q ≤ 9223372036854775807) (tw sz : Bool) (w : World) (hr : RBB w A n c Ks) (rG : RB w B m d M) :
    Calls Try.prog 11 #[.slice A n c, .slice B m d, .int .i64 q, .bool tw, .bool sz] w fun e w' => e = .returned (.bool true) ∧ Ext w w' := by
  cases sz with
  | true => exact policies_true A n c Ks B m d M q hq tw w hr rG
  | false => exact policies_false A n c Ks B m d M q hq tw w hr rG
end Go.Proofs.Ythggfbpdhkpkjaa
