/-
  cosign.Sign, walked.
-/
import Derived.Test.YthggfbpdhkpkjaaLawNumbers11Q28
namespace Go.Proofs.Ythggfbpdhkpkjaa
set_option maxRecDepth 100000
open Go Go.RowKit
theorem setall4 {w : World} {g : Nat} {t : TypeId} {v0 v1 v2 v3 : Value} (h : Blk w g t #[v0, v1, v2, v3]) (u0 u1 u2 u3 : Value) :
    Blk ((((w.setCell ⟨g, 0, none⟩ u0).setCell ⟨g, 1, none⟩ u1).setCell ⟨g, 2, none⟩ u2).setCell ⟨g, 3, none⟩ u3) g t #[u0, u1, u2, u3] := (((h.set 0 u0).set 1 u1).set 2 u2).set 3 u3
theorem ext4 {a w : World} {g : Nat} (h : Ext a w) (hg : a.heap.size ≤ g) (u0 u1 u2 u3 : Value) :
    Ext a ((((w.setCell ⟨g, 0, none⟩ u0).setCell ⟨g, 1, none⟩ u1).setCell ⟨g, 2, none⟩ u2).setCell ⟨g, 3, none⟩ u3) :=
  (((h.set (p := ⟨g, 0, none⟩) hg u0).set (p := ⟨g, 1, none⟩) hg u1).set (p := ⟨g, 2, none⟩) hg u2).set (p := ⟨g, 3, none⟩) hg u3
/-- the cells of a cosignature -/
def cosC (x k : Int) (P : Option Addr) (np cp : Nat) (Q : Option Addr) (nq cq : Nat) : Array Value := #[.int .i64 x, .int .i64 k, .slice P np cp, .slice Q nq cq]
theorem cos_no (x k : Int) (P : Option Addr) (np cp : Nat) (Q : Option Addr) (nq cq i : Nat) (y : Int) : (cosC x k P np cp Q nq cq)[i]? ≠ some (.int .u8 y) := by
  unfold cosC
  rcases i with _ | _ | _ | _ | i <;> simp
theorem OBC.set4 {w : World} {base : Nat} {A : Option Addr} {n c : Nat} {L : List (List UInt8)} (h : OBC w base A n c L) {g : Nat} {t : TypeId} (ht : t ≠ 22) {x k : Int} {P Q : Option Addr} {np cp nq cq : Nat} (hB : Blk w g t (cosC x k P np cp Q nq cq))
    (x' k' : Int) (P1 Q1 : Option Addr) (np1 cp1 nq1 cq1 : Nat) : OBC ((((w.setCell ⟨g, 0, none⟩ (.int .i64 x')).setCell ⟨g, 1, none⟩ (.int .i64 k')).setCell ⟨g, 2, none⟩ (.slice P1 np1 cp1)).setCell ⟨g, 3, none⟩ (.slice Q1 nq1 cq1)) base A n c L := by
  have b0 : Blk (w.setCell ⟨g, 0, none⟩ (.int .i64 x')) g t (cosC x' k P np cp Q nq cq) := hB.set 0 _
  have b1 : Blk _ g t (cosC x' k' P np cp Q nq cq) := b0.set 1 (.int .i64 k')
  have b2 : Blk _ g t (cosC x' k' P1 np1 cp1 Q nq cq) := b1.set 2 (.slice P1 np1 cp1)
  exact (((h.far hB ht (cos_no _ _ _ _ _ _ _ _) (grown_set w ⟨g, 0, none⟩ (.int .i64 x'))).far b0 ht (cos_no _ _ _ _ _ _ _ _) (grown_set _ ⟨g, 1, none⟩ (.int .i64 k'))).far b1 ht (cos_no _ _ _ _ _ _ _ _) (grown_set _ ⟨g, 2, none⟩ (.slice P1 np1 cp1))).far b2 ht (cos_no _ _ _ _ _ _ _ _) (grown_set _ ⟨g, 3, none⟩ (.slice Q1 nq1 cq1))
/-- of a witness that there cannot be -/
theorem cosign_arg (A B : Option Addr) (m c n d : Nat) (k wn x : Int) (w : World) (hj : ¬ (0 ≤ wn ∧ wn < 4)) :
    Calls Try.prog 40 #[.slice A m c, .int .i64 k, .int .i64 wn, .agg #[.int .i64 x, .slice B n d]] w fun e w' => e = .returned (.tuple #[.agg #[.int .i64 0, .int .i64 0, .slice none 0 0, .slice none 0 0], .int .i64 1]) ∧ Ext w w' := by
  have hE0 := Ext.new w (.cells #[.int .i64 x, .slice B n d] 24)
  have hE1 := Ext.new (w.alloc (.cells #[.int .i64 x, .slice B n d] 24)) (.cells #[.int .i64 0, .int .i64 0, .slice none 0 0, .slice none 0 0] 69)
  have hB1 := Blk.new (w.alloc (.cells #[.int .i64 x, .slice B n d] 24)) 69 #[.int .i64 0, .int .i64 0, .slice none 0 0, .slice none 0 0]
  rw [World.size_alloc] at hB1
  have hE01 := hE0.trans hE1
  go_enter Try.func40, Try.ntmps40
  go_wp2_with fail
  generalize (w.alloc (.cells #[.int .i64 x, .slice B n d] 24)).alloc (.cells #[.int .i64 0, .int .i64 0, .slice none 0 0, .slice none 0 0] 69) = w1 at *
  refine (cwit_any wn w1).mono ?_
  rintro e w2 ⟨rfl, rfl⟩
  rw [decide_eq_false hj]
  clear hE0 hE1
  have fhB10 := hB1.frozen 0
  have fhB11 := hB1.frozen 1
  have fhB12 := hB1.frozen 2
  have fhB13 := hB1.frozen 3
  have xhB10 := hB1.cell (i := 0) rfl
  have xhB11 := hB1.cell (i := 1) rfl
  have xhB12 := hB1.cell (i := 2) rfl
  have xhB13 := hB1.cell (i := 3) rfl
  go_wp2_with fail
  refine bodyPost_ret (results_sig rfl _ _ (w.heap.size + 1) _ _ _ rfl (setall4 hB1 _ _ _ _) Try.underlying69 rfl rfl) rfl ?_
  exact ⟨rfl, ext4 hE01 (Nat.le_succ _) _ _ _ _⟩
/-- of a checkpoint that there cannot be -/
theorem cosign_no (A B : Option Addr) (m c n d : Nat) (k wn x : Int) (R : List UInt8) (w : World) (hj : 0 ≤ wn ∧ wn < 4) (hr : RB w B n d R) (hc : rightC x R = false) :
    Calls Try.prog 40 #[.slice A m c, .int .i64 k, .int .i64 wn, .agg #[.int .i64 x, .slice B n d]] w fun e w' => e = .returned (.tuple #[.agg #[.int .i64 0, .int .i64 0, .slice none 0 0, .slice none 0 0], .int .i64 12]) ∧ Ext w w' := by
  have hE0 := Ext.new w (.cells #[.int .i64 x, .slice B n d] 24)
  have hB0 := Blk.new w 24 #[.int .i64 x, .slice B n d]
  have hE1 := Ext.new (w.alloc (.cells #[.int .i64 x, .slice B n d] 24)) (.cells #[.int .i64 0, .int .i64 0, .slice none 0 0, .slice none 0 0] 69)
  have hB1 := Blk.new (w.alloc (.cells #[.int .i64 x, .slice B n d] 24)) 69 #[.int .i64 0, .int .i64 0, .slice none 0 0, .slice none 0 0]
  rw [World.size_alloc] at hB1
  replace hB0 := hB0.ext hE1
  have hE01 := hE0.trans hE1
  have rR := hr.ext hE01
  go_enter Try.func40, Try.ntmps40
  go_wp2_with fail
  generalize (w.alloc (.cells #[.int .i64 x, .slice B n d] 24)).alloc (.cells #[.int .i64 0, .int .i64 0, .slice none 0 0, .slice none 0 0] 69) = w1 at *
  refine (cwit_any wn w1).mono ?_
  rintro e w2 ⟨rfl, rfl⟩
  rw [decide_eq_true hj]
  have y0 := hB0.cell (i := 0) (v := .int .i64 x) rfl
  have y1 := hB0.cell (i := 1) (v := .slice B n d) rfl
  clear hE0 hE1 hj
  go_wp2_with fail
  refine (cright_any x B n d R w2 rR).mono ?_
  rintro e w3 ⟨rfl, hE⟩
  rw [hc]
  replace hB1 := hB1.ext hE
  replace hE01 := hE01.trans hE
  clear hE hc hr rR y0 y1 hB0
  have fhB10 := hB1.frozen 0
  have fhB11 := hB1.frozen 1
  have fhB12 := hB1.frozen 2
  have fhB13 := hB1.frozen 3
  have xhB10 := hB1.cell (i := 0) rfl
  have xhB11 := hB1.cell (i := 1) rfl
  have xhB12 := hB1.cell (i := 2) rfl
  have xhB13 := hB1.cell (i := 3) rfl
  go_wp2_with fail
  refine bodyPost_ret (results_sig rfl _ _ (w.heap.size + 1) _ _ _ rfl (setall4 hB1 _ _ _ _) Try.underlying69 rfl rfl) rfl ?_
  exact ⟨rfl, ext4 hE01 (Nat.le_succ _) _ _ _ _⟩
set_option maxHeartbeats 4000000 in
theorem cosign_yes (A B : Option Addr) (c n d k : Nat) (wn x : Int) (S R : List UInt8) (w : World) (hs : RB w A 32 c S) (hj : 0 ≤ wn ∧ wn < 4) (hr : RB w B n d R) (hc : rightC x R = true) (hk : k < 16) :
    Calls Try.prog 40 #[.slice A 32 c, .int .i64 (k : Int), .int .i64 wn, .agg #[.int .i64 x, .slice B n d]] w fun e w' => ∃ P d1 Q d2, e = .returned (.tuple #[.agg #[.int .i64 wn, .int .i64 (k : Int), .slice P 64 d1, .slice Q 4 d2], .int .i64 0]) ∧ RBB w' P 64 d1 (sigP S (bodyC cosignL x R) k) ∧ RBB w' Q 4 d2 (pathL S k) ∧ Ext w w' := by
  have hE0 := Ext.new w (.cells #[.int .i64 x, .slice B n d] 24)
  have hB0 := Blk.new w 24 #[.int .i64 x, .slice B n d]
  have hE1 := Ext.new (w.alloc (.cells #[.int .i64 x, .slice B n d] 24)) (.cells #[.int .i64 0, .int .i64 0, .slice none 0 0, .slice none 0 0] 69)
  have hB1 := Blk.new (w.alloc (.cells #[.int .i64 x, .slice B n d] 24)) 69 #[.int .i64 0, .int .i64 0, .slice none 0 0, .slice none 0 0]
  rw [World.size_alloc] at hB1
  replace hB0 := hB0.ext hE1
  have hE01 := hE0.trans hE1
  have rR := hr.ext hE01
  have rS := hs.ext hE01
  go_enter Try.func40, Try.ntmps40
  go_wp2_with fail
  generalize (w.alloc (.cells #[.int .i64 x, .slice B n d] 24)).alloc (.cells #[.int .i64 0, .int .i64 0, .slice none 0 0, .slice none 0 0] 69) = w1 at *
  refine (cwit_any wn w1).mono ?_
  rintro e w2 ⟨rfl, rfl⟩
  rw [decide_eq_true hj]
  have y0 := hB0.cell (i := 0) (v := .int .i64 x) rfl
  have y1 := hB0.cell (i := 1) (v := .slice B n d) rfl
  clear hE0 hE1 hj hr hs
  go_wp2_with fail
  refine (cright_any x B n d R w2 rR).mono ?_
  rintro e w3 ⟨rfl, hE⟩
  rw [hc]
  replace hB0 := hB0.ext hE
  replace hB1 := hB1.ext hE
  replace rR := rR.ext hE
  replace rS := rS.ext hE
  replace hE01 := hE01.trans hE
  clear hE y0 y1
  have y0 := hB0.cell (i := 0) (v := .int .i64 x) rfl
  have y1 := hB0.cell (i := 1) (v := .slice B n d) rfl
  have Hc := Lib.hid hc
  clear hc
  go_wp2_with fail
  refine (cosbody_53 x B n d R w3 rR Hc.out).mono ?_
  rintro e w4 ⟨B3, d3, rfl, own, hE⟩
  have rM := own
  obtain ⟨M, hM⟩ : ∃ M, M = bodyC cosignL x R := ⟨_, rfl⟩
  rw [← hM] at rM
  replace hB1 := hB1.ext hE
  replace rS := rS.ext hE
  replace hE01 := hE01.trans hE
  clear hE y0 y1 own hB0 rR
  go_wp2_with fail
  refine (ssign_own A B3 c 53 d3 k S M w4 rS rM (by omega) hk).mono ?_
  rintro e w5 ⟨P, d1, Q, d2, rfl, oP, oQ, hE⟩
  obtain ⟨PS, hPS⟩ : ∃ PS, PS = sigP S M k := ⟨_, rfl⟩
  obtain ⟨QS, hQS⟩ : ∃ QS, QS = pathL S k := ⟨_, rfl⟩
  replace oP : OBC w5 w4.heap.size P 64 d1 PS := by rw [hPS]; exact oP
  rw [← hQS] at oQ
  have HPS := Lib.hid hPS
  have HQS := Lib.hid hQS
  have HM := Lib.hid hM
  have hEn := Ext.new w5 (.cells #[.int .i64 (k : Int), .slice P 64 d1, .slice Q 4 d2] 39)
  replace hE := hE.trans hEn
  replace oP := oP.ext hEn
  replace oQ := oQ.ext hEn
  replace hB1 := hB1.ext hE
  replace hE01 := hE01.trans hE
  clear hEn hE rM rS hPS hQS hM
  have fhB10 := hB1.frozen 0
  have fhB11 := hB1.frozen 1
  have fhB12 := hB1.frozen 2
  have fhB13 := hB1.frozen 3
  have xhB10 := hB1.cell (i := 0) rfl
  have xhB11 := hB1.cell (i := 1) rfl
  have xhB12 := hB1.cell (i := 2) rfl
  have xhB13 := hB1.cell (i := 3) rfl
  go_wp2_with fail
  refine bodyPost_ret (results_sig rfl _ _ (w.heap.size + 1) _ _ _ rfl (setall4 hB1 _ _ _ _) Try.underlying69 rfl rfl) rfl ?_
  have e1 := HPS.out
  have e2 := HQS.out
  rw [HM.out] at e1
  subst e1 e2
  exact ⟨P, d1, Q, d2, rfl, (oP.set4 (by decide) hB1 _ _ _ _ _ _ _ _).rbb, (oQ.set4 (by decide) hB1 _ _ _ _ _ _ _ _).rbb, ext4 hE01 (Nat.le_succ _) _ _ _ _⟩
end Go.Proofs.Ythggfbpdhkpkjaa
