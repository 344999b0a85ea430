/-
  check.Sign, check.Verify; ref10's Verify, walked. check.Put, check.Encode; ref10's Put, walked.
-/
import Derived.Test.YtkndgpjamijbbaaGreatLawNumbers22Q20
import Derived.Test.YtkndgpjamijbbaaGreatLawNumbers22Q4
import Derived.Test.YtkndgpjamijbbaaGreatLawNumbers22Q18
namespace Go.Proofs.YtkndgpjamijbbaaGreat
set_option maxRecDepth 100000
open Go Go.RowKit
theorem bodyC_len (t : List UInt8) (x : Int) (R : List UInt8) : (bodyC t x R).length ≤ t.length + 36 := by
  unfold bodyC
  split
  · rename_i h
    have := (rightC_true h).2.2
    have h4 : (bytesOf (keyW x)).length = 4 := rfl
    simp only [List.length_append, h4]
    omega
  · simp
theorem cbody_52 (x : Int) (A : Option Addr) (n c : Nat) (R : List UInt8) (w : World) (hr : RB w A n c R) (hc : rightC x R = true) :
    Calls Tryz.prog 63 #[.agg #[.int .i64 x, .slice A n c]] w fun e w' => ∃ B d, e = .returned (.slice B 52 d) ∧ RB w' B 52 d (bodyC checkL x R) ∧ Ext w w' := by
  refine (cbody_any x A n c R w hr).mono ?_
  rintro e w' ⟨h1, _, hE⟩
  obtain ⟨B, d, rfl, own⟩ := h1 hc
  exact ⟨B, d, rfl, own.rb, hE⟩
theorem sverify_len (B D P Q : Option Addr) (m e' nd cd np cp nq cq : Nat) (x : Int) (X M : List UInt8) (Ps Qs : List (List UInt8)) (w : World) (hX : RB w D nd cd X) (hM : RB w B m e' M) (hmn : M.length ≤ 1000000) (hp : RBB w P np cp Ps) (hq : RBB w Q nq cq Qs) :
    Calls Tryz.prog 62 #[.slice D nd cd, .slice B m e', .agg #[.int .i64 x, .slice P np cp, .slice Q nq cq]] w fun e w' => e = .returned (.bool (verB X M x Ps Qs)) ∧ Ext w w' :=
  sverify_any B D P Q m e' nd cd np cp nq cq x X M Ps Qs w hX hM (by have := hM.len; omega) hp hq
theorem rverify_len (B D P Q : Option Addr) (m e' nd cd np cp nq cq : Nat) (x : Int) (X M : List UInt8) (Ps Qs : List (List UInt8)) (w : World) (hX : RB w D nd cd X) (hM : RB w B m e' M) (hmn : M.length ≤ 1000000) (hp : RBB w P np cp Ps) (hq : RBB w Q nq cq Qs) :
    Calls Tryz.prog 34 #[.slice D nd cd, .slice B m e', .agg #[.int .i64 x, .slice P np cp, .slice Q nq cq]] w fun e w' => e = .returned (.bool (verB X M x Ps Qs)) ∧ Ext w w' :=
  rverify_any B D P Q m e' nd cd np cp nq cq x X M Ps Qs w hX hM (by have := hM.len; omega) hp hq
theorem lenW {x : Int} {R : List UInt8} : (bodyC checkL x R).length ≤ 1000000 := Nat.le_trans (bodyC_len _ _ _) (by decide)
theorem lenV {t : List UInt8} {x : Int} {R : List UInt8} (ht : t.length ≤ 100 := by decide) : (bodyC t x R).length ≤ 1000000 := Nat.le_trans (bodyC_len _ _ _) (by omega)
/-- what a key of an owner shows of a message -/
def sigP (S M : List UInt8) (k : Nat) : List (List UInt8) := (List.range 64).map (partS (digestW M) S (k : Int))
noncomputable def cverB (X : List UInt8) (x : Int) (R : List UInt8) (k : Int) (Ps Qs : List (List UInt8)) : Bool := rightC x R && verB X (bodyC checkL x R) k Ps Qs
/-- the result of a function that answers a signed checkpoint and an errno, or a bool -/
theorem setall5 {w : World} {g : Nat} {t : TypeId} {v0 v1 v2 v3 v4 : Value} (h : Blk w g t #[v0, v1, v2, v3, v4]) (u0 u1 u2 u3 u4 : Value) :
    Blk (((((w.setCell ⟨g, 0, none⟩ u0).setCell ⟨g, 1, none⟩ u1).setCell ⟨g, 2, none⟩ u2).setCell ⟨g, 3, none⟩ u3).setCell ⟨g, 4, none⟩ u4) g t #[u0, u1, u2, u3, u4] := ((((h.set 0 u0).set 1 u1).set 2 u2).set 3 u3).set 4 u4
theorem ext5 {a w : World} {g : Nat} (h : Ext a w) (hg : a.heap.size ≤ g) (u0 u1 u2 u3 u4 : Value) :
    Ext a (((((w.setCell ⟨g, 0, none⟩ u0).setCell ⟨g, 1, none⟩ u1).setCell ⟨g, 2, none⟩ u2).setCell ⟨g, 3, none⟩ u3).setCell ⟨g, 4, none⟩ u4) :=
  ((((h.set (p := ⟨g, 0, none⟩) hg u0).set (p := ⟨g, 1, none⟩) hg u1).set (p := ⟨g, 2, none⟩) hg u2).set (p := ⟨g, 3, none⟩) hg u3).set (p := ⟨g, 4, none⟩) hg u4
/-- the cells of a signed checkpoint -/
def sgdC (x : Int) (A : Option Addr) (n c : Nat) (k : Int) (P : Option Addr) (np cp : Nat) (Q : Option Addr) (nq cq : Nat) : Array Value := #[.int .i64 x, .slice A n c, .int .i64 k, .slice P np cp, .slice Q nq cq]
theorem sgd_no (x : Int) (A : Option Addr) (n c : Nat) (k : Int) (P : Option Addr) (np cp : Nat) (Q : Option Addr) (nq cq i : Nat) (y : Int) : (sgdC x A n c k P np cp Q nq cq)[i]? ≠ some (.int .u8 y) := by
  unfold sgdC
  rcases i with _ | _ | _ | _ | _ | i <;> simp
theorem RB.set5 {w : World} {A : Option Addr} {n c : Nat} {L : List UInt8} (h : RB w A n c L) {g : Nat} {t : TypeId} {x k : Int} {A0 P Q : Option Addr} {n0 c0 np cp nq cq : Nat} (hB : Blk w g t (sgdC x A0 n0 c0 k P np cp Q nq cq))
    (x' k' : Int) (A1 P1 Q1 : Option Addr) (n1 c1 np1 cp1 nq1 cq1 : Nat) : RB (((((w.setCell ⟨g, 0, none⟩ (.int .i64 x')).setCell ⟨g, 1, none⟩ (.slice A1 n1 c1)).setCell ⟨g, 2, none⟩ (.int .i64 k')).setCell ⟨g, 3, none⟩ (.slice P1 np1 cp1)).setCell ⟨g, 4, none⟩ (.slice Q1 nq1 cq1)) A n c L := by
  have b0 : Blk (w.setCell ⟨g, 0, none⟩ (.int .i64 x')) g t (sgdC x' A0 n0 c0 k P np cp Q nq cq) := hB.set 0 _
  have b1 : Blk _ g t (sgdC x' A1 n1 c1 k P np cp Q nq cq) := b0.set 1 (.slice A1 n1 c1)
  have b2 : Blk _ g t (sgdC x' A1 n1 c1 k' P np cp Q nq cq) := b1.set 2 (.int .i64 k')
  have b3 : Blk _ g t (sgdC x' A1 n1 c1 k' P1 np1 cp1 Q nq cq) := b2.set 3 (.slice P1 np1 cp1)
  have h0 := h.grown (grown_set w ⟨g, 0, none⟩ (.int .i64 x')) (h.apart5 hB (sgd_no _ _ _ _ _ _ _ _ _ _ _))
  have h1 := h0.grown (grown_set _ ⟨g, 1, none⟩ (.slice A1 n1 c1)) (h0.apart5 b0 (sgd_no _ _ _ _ _ _ _ _ _ _ _))
  have h2 := h1.grown (grown_set _ ⟨g, 2, none⟩ (.int .i64 k')) (h1.apart5 b1 (sgd_no _ _ _ _ _ _ _ _ _ _ _))
  have h3 := h2.grown (grown_set _ ⟨g, 3, none⟩ (.slice P1 np1 cp1)) (h2.apart5 b2 (sgd_no _ _ _ _ _ _ _ _ _ _ _))
  exact h3.grown (grown_set _ ⟨g, 4, none⟩ (.slice Q1 nq1 cq1)) (h3.apart5 b3 (sgd_no _ _ _ _ _ _ _ _ _ _ _))
theorem OBC.set5 {w : World} {base : Nat} {A : Option Addr} {n c : Nat} {L : List (List UInt8)} (h : OBC w base A n c L) {g : Nat} {t : TypeId} (ht : t ≠ 26) {x k : Int} {A0 P Q : Option Addr} {n0 c0 np cp nq cq : Nat} (hB : Blk w g t (sgdC x A0 n0 c0 k P np cp Q nq cq))
    (x' k' : Int) (A1 P1 Q1 : Option Addr) (n1 c1 np1 cp1 nq1 cq1 : Nat) : OBC (((((w.setCell ⟨g, 0, none⟩ (.int .i64 x')).setCell ⟨g, 1, none⟩ (.slice A1 n1 c1)).setCell ⟨g, 2, none⟩ (.int .i64 k')).setCell ⟨g, 3, none⟩ (.slice P1 np1 cp1)).setCell ⟨g, 4, none⟩ (.slice Q1 nq1 cq1)) base A n c L := by
  have b0 : Blk (w.setCell ⟨g, 0, none⟩ (.int .i64 x')) g t (sgdC x' A0 n0 c0 k P np cp Q nq cq) := hB.set 0 _
  have b1 : Blk _ g t (sgdC x' A1 n1 c1 k P np cp Q nq cq) := b0.set 1 (.slice A1 n1 c1)
  have b2 : Blk _ g t (sgdC x' A1 n1 c1 k' P np cp Q nq cq) := b1.set 2 (.int .i64 k')
  have b3 : Blk _ g t (sgdC x' A1 n1 c1 k' P1 np1 cp1 Q nq cq) := b2.set 3 (.slice P1 np1 cp1)
  exact ((((h.far hB ht (sgd_no _ _ _ _ _ _ _ _ _ _ _) (grown_set w ⟨g, 0, none⟩ (.int .i64 x'))).far b0 ht (sgd_no _ _ _ _ _ _ _ _ _ _ _) (grown_set _ ⟨g, 1, none⟩ (.slice A1 n1 c1))).far b1 ht (sgd_no _ _ _ _ _ _ _ _ _ _ _) (grown_set _ ⟨g, 2, none⟩ (.int .i64 k'))).far b2 ht (sgd_no _ _ _ _ _ _ _ _ _ _ _) (grown_set _ ⟨g, 3, none⟩ (.slice P1 np1 cp1))).far b3 ht (sgd_no _ _ _ _ _ _ _ _ _ _ _) (grown_set _ ⟨g, 4, none⟩ (.slice Q1 nq1 cq1))
set_option maxHeartbeats 4000000 in
theorem cverify_any (X B P Q : Option Addr) (nx cx n d np cp nq cq : Nat) (x k : Int) (XL R : List UInt8) (PS QS : List (List UInt8)) (w : World) (hX : RB w X nx cx XL) (rR : RB w B n d R) (rP : RBB w P np cp PS) (rQ : RBB w Q nq cq QS) :
    Calls Tryz.prog 39 #[.slice X nx cx, .agg #[.int .i64 x, .slice B n d, .int .i64 k, .slice P np cp, .slice Q nq cq]] w fun e w' => e = .returned (.bool (cverB XL x R k PS QS)) ∧ Ext w w' := by
  have hE0 := Ext.new w (.cells #[.int .i64 x, .slice B n d, .int .i64 k, .slice P np cp, .slice Q nq cq] 40)
  have hB0 := Blk.new w 40 #[.int .i64 x, .slice B n d, .int .i64 k, .slice P np cp, .slice Q nq cq]
  replace rR := rR.ext hE0
  replace hX := hX.ext hE0
  replace rP := rP.ext hE0
  replace rQ := rQ.ext hE0
  go_enter Tryz.func39, Tryz.ntmps39
  go_upto_region 1 with (fail)
  generalize w.alloc (.cells #[.int .i64 x, .slice B n d, .int .i64 k, .slice P np cp, .slice Q nq cq] 40) = w1 at *
  cases hc : rightC x R with
  | true =>
    refine par_ext (n := 12) (by kernel_rfl) [.is (.pointer (some ⟨w.heap.size, 0, none⟩)), .is (.agg #[.int .i64 (x), .slice (B) (n) (d)]), .is (.bool (true)), .is (.bool (true)), .is (.slice (X) (nx) (cx)), .is (.pointer (some ⟨w.heap.size, 0, none⟩)), .is (.agg #[.int .i64 (x), .slice (B) (n) (d)]), .rk (52) (bodyC checkL x R), .is (.pointer (some ⟨w.heap.size, 2, none⟩)), .is (.agg #[.int .i64 (k), .slice (P) (np) (cp), .slice (Q) (nq) (cq)]), .is (.bool (verB XL (bodyC checkL x R) k PS QS)), .is (.bool (verB XL (bodyC checkL x R) k PS QS))] rfl ⟨?_, ?_, ?_, ?_, ?_, ?_, ?_, ?_, ?_, ?_, ?_, ?_, trivial⟩ ?_
    · refine stepE rfl fun sdn sa sw sE sd sk => ?_
      have h3 : sa.eval (.tmp 3) = .pointer (some ⟨w.heap.size, 0, none⟩) := sk.old 3 rfl
      refine Runs.of_run (r := .pointer (some ⟨w.heap.size, 0, none⟩)) (w' := sw) ?_ ⟨Ext.refl _, rfl⟩
      unfold execOp
      simp only [h3]
      go_simp
    · refine stepE rfl fun sdn sa sw sE sd sk => ?_
      have h5 : sa.eval (.tmp 5) = .pointer (some ⟨w.heap.size, 0, none⟩) := sk.fact 0 5 rfl (sd 0 rfl)
      exact Runs.load rfl h5 (load_part (hB0.ext sE) 0 (vs := [.int .i64 (x), .slice (B) (n) (d)]) rfl Tryz.underlying36 rfl (by kernel_rfl)) ⟨Ext.refl _, rfl⟩
    · refine stepE rfl fun sdn sa sw sE sd sk => ?_
      have h6 : sa.eval (.tmp 6) = .agg #[.int .i64 (x), .slice (B) (n) (d)] := sk.fact 1 6 rfl (sd 1 rfl)
      refine Runs.call (f := 61) (vs := [.agg #[.int .i64 (x), .slice (B) (n) (d)]]) rfl rfl rfl (by simp only [List.map_toArray, List.map_cons, List.map_nil, h6] <;> rfl) (ent61 _ _) ((cright_any _ _ _ _ _ sw (rR.ext sE)).mono ?_); rintro e w' ⟨rfl, hx⟩; exact ⟨_, rfl, hx, congrArg Value.bool (hc)⟩
    · refine stepE rfl fun sdn sa sw sE sd sk => ?_
      have h7 : sa.eval (.tmp 7) = .bool (true) := sk.fact 2 7 rfl (sd 2 rfl)
      exact Runs.move rfl h7 ⟨Ext.refl _, rfl⟩
    · refine stepY (j := 3) (d := 8) (b := true) rfl rfl rfl (fun v w h => h) fun sdn sa sw sE sd sk => ?_
      have h0 : sa.eval (.tmp 0) = .slice (X) (nx) (cx) := sk.old 0 rfl
      exact Runs.move rfl h0 ⟨Ext.refl _, rfl⟩
    · refine stepY (j := 3) (d := 8) (b := true) rfl rfl rfl (fun v w h => h) fun sdn sa sw sE sd sk => ?_
      have h3 : sa.eval (.tmp 3) = .pointer (some ⟨w.heap.size, 0, none⟩) := sk.old 3 rfl
      refine Runs.of_run (r := .pointer (some ⟨w.heap.size, 0, none⟩)) (w' := sw) ?_ ⟨Ext.refl _, rfl⟩
      unfold execOp
      simp only [h3]
      go_simp
    · refine stepY (j := 3) (d := 8) (b := true) rfl rfl rfl (fun v w h => h) fun sdn sa sw sE sd sk => ?_
      have h10 : sa.eval (.tmp 10) = .pointer (some ⟨w.heap.size, 0, none⟩) := sk.fact 5 10 rfl (sd 5 rfl)
      exact Runs.load rfl h10 (load_part (hB0.ext sE) 0 (vs := [.int .i64 (x), .slice (B) (n) (d)]) rfl Tryz.underlying36 rfl (by kernel_rfl)) ⟨Ext.refl _, rfl⟩
    · refine stepY (j := 3) (d := 8) (b := true) rfl rfl rfl (fun v w h => h) fun sdn sa sw sE sd sk => ?_
      have h11 : sa.eval (.tmp 11) = .agg #[.int .i64 (x), .slice (B) (n) (d)] := sk.fact 6 11 rfl (sd 6 rfl)
      refine Runs.call (f := 63) (vs := [.agg #[.int .i64 (x), .slice (B) (n) (d)]]) rfl rfl rfl (by simp only [List.map_toArray, List.map_cons, List.map_nil, h11] <;> rfl) (ent63 _ _) ((cbody_52 _ _ _ _ _ sw (rR.ext sE) (hc)).mono ?_); rintro e w' ⟨A', c', rfl, own, hx⟩; exact ⟨_, rfl, hx, A', c', rfl, own⟩
    · refine stepY (j := 3) (d := 8) (b := true) rfl rfl rfl (fun v w h => h) fun sdn sa sw sE sd sk => ?_
      have h3 : sa.eval (.tmp 3) = .pointer (some ⟨w.heap.size, 0, none⟩) := sk.old 3 rfl
      refine Runs.of_run (r := .pointer (some ⟨w.heap.size, 2, none⟩)) (w' := sw) ?_ ⟨Ext.refl _, rfl⟩
      unfold execOp
      simp only [h3]
      go_simp
    · refine stepY (j := 3) (d := 8) (b := true) rfl rfl rfl (fun v w h => h) fun sdn sa sw sE sd sk => ?_
      have h13 : sa.eval (.tmp 13) = .pointer (some ⟨w.heap.size, 2, none⟩) := sk.fact 8 13 rfl (sd 8 rfl)
      exact Runs.load rfl h13 (load_part (hB0.ext sE) 2 (vs := [.int .i64 (k), .slice (P) (np) (cp), .slice (Q) (nq) (cq)]) rfl Tryz.underlying38 rfl (by kernel_rfl)) ⟨Ext.refl _, rfl⟩
    · refine stepY (j := 3) (d := 8) (b := true) rfl rfl rfl (fun v w h => h) fun sdn sa sw sE sd sk => ?_
      have h9 : sa.eval (.tmp 9) = .slice (X) (nx) (cx) := sk.fact 4 9 rfl (sd 4 rfl)
      obtain ⟨A12, c12, h12, r12⟩ := sk.fact 7 12 rfl (sd 7 rfl)
      have h14 : sa.eval (.tmp 14) = .agg #[.int .i64 (k), .slice (P) (np) (cp), .slice (Q) (nq) (cq)] := sk.fact 9 14 rfl (sd 9 rfl)
      refine Runs.call (f := 62) (vs := [.slice (X) (nx) (cx), .slice (A12) (52) (c12), .agg #[.int .i64 (k), .slice (P) (np) (cp), .slice (Q) (nq) (cq)]]) rfl rfl rfl (by simp only [List.map_toArray, List.map_cons, List.map_nil, h9, h12, h14] <;> rfl) (ent62 _ _) ((sverify_len _ _ _ _ _ _ _ _ _ _ _ _ _ _ _ _ _ sw (hX.ext sE) r12 lenV (rP.ext sE) (rQ.ext sE)).mono ?_); rintro e w' ⟨rfl, hx⟩; exact ⟨_, rfl, hx, rfl⟩
    · refine stepE rfl fun sdn sa sw sE sd sk => ?_
      have h8 : sa.eval (.tmp 8) = .bool (true) := sk.fact 3 8 rfl (sd 3 rfl)
      have h15 : sa.eval (.tmp 15) = .bool (verB XL (bodyC checkL x R) k PS QS) := sk.fact 10 15 rfl (sd 10 rfl)
      exact Runs.pick rfl h8 ⟨Ext.refl _, by first | exact h15 | simpa using h15⟩
    intro vals W1 hE hv
    have e0 : vals 0 = .pointer (some ⟨w.heap.size, 0, none⟩) := hv 0 (by omega) 5 rfl
    have e1 : vals 1 = .agg #[.int .i64 (x), .slice (B) (n) (d)] := hv 1 (by omega) 6 rfl
    have e2 : vals 2 = .bool (true) := hv 2 (by omega) 7 rfl
    have e3 : vals 3 = .bool (true) := hv 3 (by omega) 8 rfl
    have e4 : vals 4 = .slice (X) (nx) (cx) := hv 4 (by omega) 9 rfl
    have e5 : vals 5 = .pointer (some ⟨w.heap.size, 0, none⟩) := hv 5 (by omega) 10 rfl
    have e6 : vals 6 = .agg #[.int .i64 (x), .slice (B) (n) (d)] := hv 6 (by omega) 11 rfl
    obtain ⟨A12, c12, e7, r12⟩ := hv 7 (by omega) 12 rfl
    have e8 : vals 8 = .pointer (some ⟨w.heap.size, 2, none⟩) := hv 8 (by omega) 13 rfl
    have e9 : vals 9 = .agg #[.int .i64 (k), .slice (P) (np) (cp), .slice (Q) (nq) (cq)] := hv 9 (by omega) 14 rfl
    have e10 : vals 10 = .bool (verB XL (bodyC checkL x R) k PS QS) := hv 10 (by omega) 15 rfl
    have e11 : vals 11 = .bool (verB XL (bodyC checkL x R) k PS QS) := hv 11 (by omega) 16 rfl
    simp only [putAll, Act.put, List.take_succ_cons, List.take_zero, List.drop_succ_cons, List.drop_zero, List.drop_nil, List.take_nil, Nat.reduceAdd, List.setIfInBounds_toArray, List.set_cons_succ, List.set_cons_zero, e0, e1, e2, e3, e4, e5, e6, e7, e8, e9, e10, e11]
    clear hv e0 e1 e2 e3 e4 e5 e6 e7 e8 e9 e10 e11
    go_wp2_with fail
    go_ret
    refine ⟨?_, hE0.trans hE⟩
    unfold cverB
    rw [hc]
    rfl
  | false =>
    refine par_ext (n := 12) (by kernel_rfl) [.is (.pointer (some ⟨w.heap.size, 0, none⟩)), .is (.agg #[.int .i64 (x), .slice (B) (n) (d)]), .is (.bool (false)), .is (.bool (false)), .is undef, .is undef, .is undef, .is undef, .is undef, .is undef, .is undef, .is (.bool (false))] rfl ⟨?_, ?_, ?_, ?_, ?_, ?_, ?_, ?_, ?_, ?_, ?_, ?_, trivial⟩ ?_
    · refine stepE rfl fun sdn sa sw sE sd sk => ?_
      have h3 : sa.eval (.tmp 3) = .pointer (some ⟨w.heap.size, 0, none⟩) := sk.old 3 rfl
      refine Runs.of_run (r := .pointer (some ⟨w.heap.size, 0, none⟩)) (w' := sw) ?_ ⟨Ext.refl _, rfl⟩
      unfold execOp
      simp only [h3]
      go_simp
    · refine stepE rfl fun sdn sa sw sE sd sk => ?_
      have h5 : sa.eval (.tmp 5) = .pointer (some ⟨w.heap.size, 0, none⟩) := sk.fact 0 5 rfl (sd 0 rfl)
      exact Runs.load rfl h5 (load_part (hB0.ext sE) 0 (vs := [.int .i64 (x), .slice (B) (n) (d)]) rfl Tryz.underlying36 rfl (by kernel_rfl)) ⟨Ext.refl _, rfl⟩
    · refine stepE rfl fun sdn sa sw sE sd sk => ?_
      have h6 : sa.eval (.tmp 6) = .agg #[.int .i64 (x), .slice (B) (n) (d)] := sk.fact 1 6 rfl (sd 1 rfl)
      refine Runs.call (f := 61) (vs := [.agg #[.int .i64 (x), .slice (B) (n) (d)]]) rfl rfl rfl (by simp only [List.map_toArray, List.map_cons, List.map_nil, h6] <;> rfl) (ent61 _ _) ((cright_any _ _ _ _ _ sw (rR.ext sE)).mono ?_); rintro e w' ⟨rfl, hx⟩; exact ⟨_, rfl, hx, congrArg Value.bool (hc)⟩
    · refine stepE rfl fun sdn sa sw sE sd sk => ?_
      have h7 : sa.eval (.tmp 7) = .bool (false) := sk.fact 2 7 rfl (sd 2 rfl)
      exact Runs.move rfl h7 ⟨Ext.refl _, rfl⟩
    · exact stepN (j := 3) (d := 8) (b := false) rfl rfl rfl (fun v w h => h) fun w => rfl
    · exact stepN (j := 3) (d := 8) (b := false) rfl rfl rfl (fun v w h => h) fun w => rfl
    · exact stepN (j := 3) (d := 8) (b := false) rfl rfl rfl (fun v w h => h) fun w => rfl
    · exact stepN (j := 3) (d := 8) (b := false) rfl rfl rfl (fun v w h => h) fun w => rfl
    · exact stepN (j := 3) (d := 8) (b := false) rfl rfl rfl (fun v w h => h) fun w => rfl
    · exact stepN (j := 3) (d := 8) (b := false) rfl rfl rfl (fun v w h => h) fun w => rfl
    · exact stepN (j := 3) (d := 8) (b := false) rfl rfl rfl (fun v w h => h) fun w => rfl
    · refine stepE rfl fun sdn sa sw sE sd sk => ?_
      have h8 : sa.eval (.tmp 8) = .bool (false) := sk.fact 3 8 rfl (sd 3 rfl)
      exact Runs.pick rfl h8 ⟨Ext.refl _, rfl⟩
    intro vals W1 hE hv
    have e0 : vals 0 = .pointer (some ⟨w.heap.size, 0, none⟩) := hv 0 (by omega) 5 rfl
    have e1 : vals 1 = .agg #[.int .i64 (x), .slice (B) (n) (d)] := hv 1 (by omega) 6 rfl
    have e2 : vals 2 = .bool (false) := hv 2 (by omega) 7 rfl
    have e3 : vals 3 = .bool (false) := hv 3 (by omega) 8 rfl
    have e11 : vals 11 = .bool (false) := hv 11 (by omega) 16 rfl
    simp only [putAll, Act.put, List.take_succ_cons, List.take_zero, List.drop_succ_cons, List.drop_zero, List.drop_nil, List.take_nil, Nat.reduceAdd, List.setIfInBounds_toArray, List.set_cons_succ, List.set_cons_zero, e0, e1, e2, e3, e11]
    clear hv e0 e1 e2 e3 e11
    go_wp2_with fail
    go_ret
    refine ⟨?_, hE0.trans hE⟩
    unfold cverB
    rw [hc]
    rfl
set_option maxHeartbeats 4000000 in
theorem rcverify_any (X B P Q : Option Addr) (nx cx n d np cp nq cq : Nat) (x k : Int) (XL R : List UInt8) (PS QS : List (List UInt8)) (w : World) (hX : RB w X nx cx XL) (rR : RB w B n d R) (rP : RBB w P np cp PS) (rQ : RBB w Q nq cq QS) :
    Calls Tryz.prog 15 #[.slice X nx cx, .agg #[.int .i64 x, .slice B n d, .int .i64 k, .slice P np cp, .slice Q nq cq]] w fun e w' => e = .returned (.bool (cverB XL x R k PS QS)) ∧ Ext w w' := by
  have hE0 := Ext.new w (.cells #[.int .i64 x, .slice B n d, .int .i64 k, .slice P np cp, .slice Q nq cq] 40)
  have hB0 := Blk.new w 40 #[.int .i64 x, .slice B n d, .int .i64 k, .slice P np cp, .slice Q nq cq]
  replace rR := rR.ext hE0
  replace hX := hX.ext hE0
  replace rP := rP.ext hE0
  replace rQ := rQ.ext hE0
  go_enter Tryz.func15, Tryz.ntmps15
  go_upto_region 1 with (fail)
  generalize w.alloc (.cells #[.int .i64 x, .slice B n d, .int .i64 k, .slice P np cp, .slice Q nq cq] 40) = w1 at *
  cases hc : rightC x R with
  | true =>
    refine par_ext (n := 12) (by kernel_rfl) [.is (.pointer (some ⟨w.heap.size, 0, none⟩)), .is (.agg #[.int .i64 (x), .slice (B) (n) (d)]), .is (.bool (true)), .is (.bool (true)), .is (.slice (X) (nx) (cx)), .is (.pointer (some ⟨w.heap.size, 0, none⟩)), .is (.agg #[.int .i64 (x), .slice (B) (n) (d)]), .rb (bodyC checkL x R), .is (.pointer (some ⟨w.heap.size, 2, none⟩)), .is (.agg #[.int .i64 (k), .slice (P) (np) (cp), .slice (Q) (nq) (cq)]), .is (.bool (verB XL (bodyC checkL x R) k PS QS)), .is (.bool (verB XL (bodyC checkL x R) k PS QS))] rfl ⟨?_, ?_, ?_, ?_, ?_, ?_, ?_, ?_, ?_, ?_, ?_, ?_, trivial⟩ ?_
    · refine stepE rfl fun sdn sa sw sE sd sk => ?_
      have h3 : sa.eval (.tmp 3) = .pointer (some ⟨w.heap.size, 0, none⟩) := sk.old 3 rfl
      refine Runs.of_run (r := .pointer (some ⟨w.heap.size, 0, none⟩)) (w' := sw) ?_ ⟨Ext.refl _, rfl⟩
      unfold execOp
      simp only [h3]
      go_simp
    · refine stepE rfl fun sdn sa sw sE sd sk => ?_
      have h5 : sa.eval (.tmp 5) = .pointer (some ⟨w.heap.size, 0, none⟩) := sk.fact 0 5 rfl (sd 0 rfl)
      exact Runs.load rfl h5 (load_part (hB0.ext sE) 0 (vs := [.int .i64 (x), .slice (B) (n) (d)]) rfl Tryz.underlying36 rfl (by kernel_rfl)) ⟨Ext.refl _, rfl⟩
    · refine stepE rfl fun sdn sa sw sE sd sk => ?_
      have h6 : sa.eval (.tmp 6) = .agg #[.int .i64 (x), .slice (B) (n) (d)] := sk.fact 1 6 rfl (sd 1 rfl)
      refine Runs.call (f := 33) (vs := [.agg #[.int .i64 (x), .slice (B) (n) (d)]]) rfl rfl rfl (by simp only [List.map_toArray, List.map_cons, List.map_nil, h6] <;> rfl) (ent33 _ _) ((rcright_any _ _ _ _ _ sw (rR.ext sE)).mono ?_); rintro e w' ⟨rfl, hx⟩; exact ⟨_, rfl, hx, congrArg Value.bool (hc)⟩
    · refine stepE rfl fun sdn sa sw sE sd sk => ?_
      have h7 : sa.eval (.tmp 7) = .bool (true) := sk.fact 2 7 rfl (sd 2 rfl)
      exact Runs.move rfl h7 ⟨Ext.refl _, rfl⟩
    · refine stepY (j := 3) (d := 8) (b := true) rfl rfl rfl (fun v w h => h) fun sdn sa sw sE sd sk => ?_
      have h0 : sa.eval (.tmp 0) = .slice (X) (nx) (cx) := sk.old 0 rfl
      exact Runs.move rfl h0 ⟨Ext.refl _, rfl⟩
    · refine stepY (j := 3) (d := 8) (b := true) rfl rfl rfl (fun v w h => h) fun sdn sa sw sE sd sk => ?_
      have h3 : sa.eval (.tmp 3) = .pointer (some ⟨w.heap.size, 0, none⟩) := sk.old 3 rfl
      refine Runs.of_run (r := .pointer (some ⟨w.heap.size, 0, none⟩)) (w' := sw) ?_ ⟨Ext.refl _, rfl⟩
      unfold execOp
      simp only [h3]
      go_simp
    · refine stepY (j := 3) (d := 8) (b := true) rfl rfl rfl (fun v w h => h) fun sdn sa sw sE sd sk => ?_
      have h10 : sa.eval (.tmp 10) = .pointer (some ⟨w.heap.size, 0, none⟩) := sk.fact 5 10 rfl (sd 5 rfl)
      exact Runs.load rfl h10 (load_part (hB0.ext sE) 0 (vs := [.int .i64 (x), .slice (B) (n) (d)]) rfl Tryz.underlying36 rfl (by kernel_rfl)) ⟨Ext.refl _, rfl⟩
    · refine stepY (j := 3) (d := 8) (b := true) rfl rfl rfl (fun v w h => h) fun sdn sa sw sE sd sk => ?_
      have h11 : sa.eval (.tmp 11) = .agg #[.int .i64 (x), .slice (B) (n) (d)] := sk.fact 6 11 rfl (sd 6 rfl)
      refine Runs.call (f := 32) (vs := [.agg #[.int .i64 (x), .slice (B) (n) (d)]]) rfl rfl rfl (by simp only [List.map_toArray, List.map_cons, List.map_nil, h11] <;> rfl) (ent32 _ _) ((rbody_any _ _ _ _ _ sw (rR.ext sE)).mono ?_); rintro e w' ⟨A', n', c', rfl, own, hx⟩; exact ⟨_, rfl, hx, A', n', c', rfl, own⟩
    · refine stepY (j := 3) (d := 8) (b := true) rfl rfl rfl (fun v w h => h) fun sdn sa sw sE sd sk => ?_
      have h3 : sa.eval (.tmp 3) = .pointer (some ⟨w.heap.size, 0, none⟩) := sk.old 3 rfl
      refine Runs.of_run (r := .pointer (some ⟨w.heap.size, 2, none⟩)) (w' := sw) ?_ ⟨Ext.refl _, rfl⟩
      unfold execOp
      simp only [h3]
      go_simp
    · refine stepY (j := 3) (d := 8) (b := true) rfl rfl rfl (fun v w h => h) fun sdn sa sw sE sd sk => ?_
      have h13 : sa.eval (.tmp 13) = .pointer (some ⟨w.heap.size, 2, none⟩) := sk.fact 8 13 rfl (sd 8 rfl)
      exact Runs.load rfl h13 (load_part (hB0.ext sE) 2 (vs := [.int .i64 (k), .slice (P) (np) (cp), .slice (Q) (nq) (cq)]) rfl Tryz.underlying38 rfl (by kernel_rfl)) ⟨Ext.refl _, rfl⟩
    · refine stepY (j := 3) (d := 8) (b := true) rfl rfl rfl (fun v w h => h) fun sdn sa sw sE sd sk => ?_
      have h9 : sa.eval (.tmp 9) = .slice (X) (nx) (cx) := sk.fact 4 9 rfl (sd 4 rfl)
      obtain ⟨A12, n12, c12, h12, r12⟩ := sk.fact 7 12 rfl (sd 7 rfl)
      have h14 : sa.eval (.tmp 14) = .agg #[.int .i64 (k), .slice (P) (np) (cp), .slice (Q) (nq) (cq)] := sk.fact 9 14 rfl (sd 9 rfl)
      refine Runs.call (f := 34) (vs := [.slice (X) (nx) (cx), .slice (A12) (n12) (c12), .agg #[.int .i64 (k), .slice (P) (np) (cp), .slice (Q) (nq) (cq)]]) rfl rfl rfl (by simp only [List.map_toArray, List.map_cons, List.map_nil, h9, h12, h14] <;> rfl) (ent34 _ _) ((rverify_len _ _ _ _ _ _ _ _ _ _ _ _ _ _ _ _ _ sw (hX.ext sE) r12 lenV (rP.ext sE) (rQ.ext sE)).mono ?_); rintro e w' ⟨rfl, hx⟩; exact ⟨_, rfl, hx, rfl⟩
    · refine stepE rfl fun sdn sa sw sE sd sk => ?_
      have h8 : sa.eval (.tmp 8) = .bool (true) := sk.fact 3 8 rfl (sd 3 rfl)
      have h15 : sa.eval (.tmp 15) = .bool (verB XL (bodyC checkL x R) k PS QS) := sk.fact 10 15 rfl (sd 10 rfl)
      exact Runs.pick rfl h8 ⟨Ext.refl _, by first | exact h15 | simpa using h15⟩
    intro vals W1 hE hv
    have e0 : vals 0 = .pointer (some ⟨w.heap.size, 0, none⟩) := hv 0 (by omega) 5 rfl
    have e1 : vals 1 = .agg #[.int .i64 (x), .slice (B) (n) (d)] := hv 1 (by omega) 6 rfl
    have e2 : vals 2 = .bool (true) := hv 2 (by omega) 7 rfl
    have e3 : vals 3 = .bool (true) := hv 3 (by omega) 8 rfl
    have e4 : vals 4 = .slice (X) (nx) (cx) := hv 4 (by omega) 9 rfl
    have e5 : vals 5 = .pointer (some ⟨w.heap.size, 0, none⟩) := hv 5 (by omega) 10 rfl
    have e6 : vals 6 = .agg #[.int .i64 (x), .slice (B) (n) (d)] := hv 6 (by omega) 11 rfl
    obtain ⟨A12, n12, c12, e7, r12⟩ := hv 7 (by omega) 12 rfl
    have e8 : vals 8 = .pointer (some ⟨w.heap.size, 2, none⟩) := hv 8 (by omega) 13 rfl
    have e9 : vals 9 = .agg #[.int .i64 (k), .slice (P) (np) (cp), .slice (Q) (nq) (cq)] := hv 9 (by omega) 14 rfl
    have e10 : vals 10 = .bool (verB XL (bodyC checkL x R) k PS QS) := hv 10 (by omega) 15 rfl
    have e11 : vals 11 = .bool (verB XL (bodyC checkL x R) k PS QS) := hv 11 (by omega) 16 rfl
    simp only [putAll, Act.put, List.take_succ_cons, List.take_zero, List.drop_succ_cons, List.drop_zero, List.drop_nil, List.take_nil, Nat.reduceAdd, List.setIfInBounds_toArray, List.set_cons_succ, List.set_cons_zero, e0, e1, e2, e3, e4, e5, e6, e7, e8, e9, e10, e11]
    clear hv e0 e1 e2 e3 e4 e5 e6 e7 e8 e9 e10 e11
    go_wp2_with fail
    go_ret
    refine ⟨?_, hE0.trans hE⟩
    unfold cverB
    rw [hc]
    rfl
  | false =>
    refine par_ext (n := 12) (by kernel_rfl) [.is (.pointer (some ⟨w.heap.size, 0, none⟩)), .is (.agg #[.int .i64 (x), .slice (B) (n) (d)]), .is (.bool (false)), .is (.bool (false)), .is undef, .is undef, .is undef, .is undef, .is undef, .is undef, .is undef, .is (.bool (false))] rfl ⟨?_, ?_, ?_, ?_, ?_, ?_, ?_, ?_, ?_, ?_, ?_, ?_, trivial⟩ ?_
    · refine stepE rfl fun sdn sa sw sE sd sk => ?_
      have h3 : sa.eval (.tmp 3) = .pointer (some ⟨w.heap.size, 0, none⟩) := sk.old 3 rfl
      refine Runs.of_run (r := .pointer (some ⟨w.heap.size, 0, none⟩)) (w' := sw) ?_ ⟨Ext.refl _, rfl⟩
      unfold execOp
      simp only [h3]
      go_simp
    · refine stepE rfl fun sdn sa sw sE sd sk => ?_
      have h5 : sa.eval (.tmp 5) = .pointer (some ⟨w.heap.size, 0, none⟩) := sk.fact 0 5 rfl (sd 0 rfl)
      exact Runs.load rfl h5 (load_part (hB0.ext sE) 0 (vs := [.int .i64 (x), .slice (B) (n) (d)]) rfl Tryz.underlying36 rfl (by kernel_rfl)) ⟨Ext.refl _, rfl⟩
    · refine stepE rfl fun sdn sa sw sE sd sk => ?_
      have h6 : sa.eval (.tmp 6) = .agg #[.int .i64 (x), .slice (B) (n) (d)] := sk.fact 1 6 rfl (sd 1 rfl)
      refine Runs.call (f := 33) (vs := [.agg #[.int .i64 (x), .slice (B) (n) (d)]]) rfl rfl rfl (by simp only [List.map_toArray, List.map_cons, List.map_nil, h6] <;> rfl) (ent33 _ _) ((rcright_any _ _ _ _ _ sw (rR.ext sE)).mono ?_); rintro e w' ⟨rfl, hx⟩; exact ⟨_, rfl, hx, congrArg Value.bool (hc)⟩
    · refine stepE rfl fun sdn sa sw sE sd sk => ?_
      have h7 : sa.eval (.tmp 7) = .bool (false) := sk.fact 2 7 rfl (sd 2 rfl)
      exact Runs.move rfl h7 ⟨Ext.refl _, rfl⟩
    · exact stepN (j := 3) (d := 8) (b := false) rfl rfl rfl (fun v w h => h) fun w => rfl
    · exact stepN (j := 3) (d := 8) (b := false) rfl rfl rfl (fun v w h => h) fun w => rfl
    · exact stepN (j := 3) (d := 8) (b := false) rfl rfl rfl (fun v w h => h) fun w => rfl
    · exact stepN (j := 3) (d := 8) (b := false) rfl rfl rfl (fun v w h => h) fun w => rfl
    · exact stepN (j := 3) (d := 8) (b := false) rfl rfl rfl (fun v w h => h) fun w => rfl
    · exact stepN (j := 3) (d := 8) (b := false) rfl rfl rfl (fun v w h => h) fun w => rfl
    · exact stepN (j := 3) (d := 8) (b := false) rfl rfl rfl (fun v w h => h) fun w => rfl
    · refine stepE rfl fun sdn sa sw sE sd sk => ?_
      have h8 : sa.eval (.tmp 8) = .bool (false) := sk.fact 3 8 rfl (sd 3 rfl)
      exact Runs.pick rfl h8 ⟨Ext.refl _, rfl⟩
    intro vals W1 hE hv
    have e0 : vals 0 = .pointer (some ⟨w.heap.size, 0, none⟩) := hv 0 (by omega) 5 rfl
    have e1 : vals 1 = .agg #[.int .i64 (x), .slice (B) (n) (d)] := hv 1 (by omega) 6 rfl
    have e2 : vals 2 = .bool (false) := hv 2 (by omega) 7 rfl
    have e3 : vals 3 = .bool (false) := hv 3 (by omega) 8 rfl
    have e11 : vals 11 = .bool (false) := hv 11 (by omega) 16 rfl
    simp only [putAll, Act.put, List.take_succ_cons, List.take_zero, List.drop_succ_cons, List.drop_zero, List.drop_nil, List.take_nil, Nat.reduceAdd, List.setIfInBounds_toArray, List.set_cons_succ, List.set_cons_zero, e0, e1, e2, e3, e11]
    clear hv e0 e1 e2 e3 e11
    go_wp2_with fail
    go_ret
    refine ⟨?_, hE0.trans hE⟩
    unfold cverB
    rw [hc]
    rfl
end Go.Proofs.YtkndgpjamijbbaaGreat
namespace Go.Proofs.YtkndgpjamijbbaaGreat
set_option maxRecDepth 100000
open Go Go.RowKit
theorem Wtr.ext_ {w w' : World} {base p n c : Nat} {A : Option Addr} {L : List UInt8} (h : Wtr w base p A n c L) (e : Ext w w') : Wtr w' base p A n c L := ⟨h.blk.ext e, h.own.ext e, h.ne, h.base⟩
theorem Wtr.ext {w w' : World} {base p n c : Nat} {A : Option Addr} {L : List UInt8} (h : Wtr w base p A n c L) (e : Ext w w') : Wtr w' base p A n c L := h.ext_ e
theorem WP.of_ext {wI w w' : World} {p n c : Nat} {A : Option Addr} {L : List UInt8} (h : Wtr w wI.heap.size p A n c L) (e : Ext w w') : WP wI w p A n L w' := ⟨A, c, h.ext_ e, e.chg _ _, Later.refl _ _⟩
theorem WP.pre {wI w w1 w2 : World} {p N : Nat} {A : Option Addr} {M : List UInt8} (e : Ext w w1) (h : WP wI w1 p A N M w2) : WP wI w p A N M w2 := by
  obtain ⟨A', c', k1, k2, k3⟩ := h
  refine ⟨A', c', k1, (e.chg p A).trans (Later.refl _ _) k2, ?_⟩
  rcases k3 with k | k | ⟨q, k, hq⟩
  · exact .inl k
  · exact .inr (.inl k)
  · exact .inr (.inr ⟨q, k, Nat.le_trans e.size hq⟩)
end Go.Proofs.YtkndgpjamijbbaaGreat
