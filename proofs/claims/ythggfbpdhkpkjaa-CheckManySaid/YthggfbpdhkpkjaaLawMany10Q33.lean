/-
  check.Get, check.Decode, walked. A region that draws its order and ends by storing the first part of a tuple and handing on the second: the second part may be taken out before or behind the store. Plain theorems. check.Decode; ref10's Get, walked.
-/
import Derived.Test.YthggfbpdhkpkjaaLawMany10Q31
import Derived.Test.YthggfbpdhkpkjaaLawMany10Q32
import Derived.Test.YthggfbpdhkpkjaaLawMany10Q29
import Derived.Test.YthggfbpdhkpkjaaLawMany10Q28
import Derived.Deep.MidRow
namespace Go.Proofs.Ythggfbpdhkpkjaa
set_option maxRecDepth 100000
open Go Go.RowKit
/-- what is read of a reader's bytes as a signed checkpoint -/
def gS1 (L : List UInt8) (bad : Bool) : List UInt8 × Bool := (rtake L bad 4).2
def gS2 (L : List UInt8) (bad : Bool) : List UInt8 × Bool := (rtake (gS1 L bad).1 (gS1 L bad).2 32).2
def gS3 (L : List UInt8) (bad : Bool) : List UInt8 × Bool := (rtake (gS2 L bad).1 (gS2 L bad).2 2180).2
def gX (L : List UInt8) (bad : Bool) : Int := u32i (beNum (rtake L bad 4).1)
def gR (L : List UInt8) (bad : Bool) : List UInt8 := (rtake (gS1 L bad).1 (gS1 L bad).2 32).1
def gY (L : List UInt8) (bad : Bool) : List UInt8 := (rtake (gS2 L bad).1 (gS2 L bad).2 2180).1
noncomputable def gOK (L : List UInt8) (bad : Bool) : Bool := decOK5 (gY L bad) && rightC (gX L bad) (gR L bad)
theorem rtake_none {L : List UInt8} {bad : Bool} {z : Int} (h : (rtake L bad z).2.2 = true) : (rtake L bad z).1 = [] := by
  unfold rtake at h ⊢
  split
  · rfl
  · rename_i h1
    rw [if_neg h1] at h
    cases h
theorem rtake_good {L : List UInt8} {bad : Bool} {z : Int} (h : (rtake L bad z).2.2 = false) : bad = false ∧ (rtake L bad z).1.length = z.toNat := by
  unfold rtake at h ⊢
  split
  · rename_i h1
    rw [if_pos h1] at h
    cases h
  · rename_i h1
    refine ⟨by cases bad <;> simp_all, ?_⟩
    simp only [List.length_take]
    omega
theorem rtake_len (L : List UInt8) (bad : Bool) (z : Int) : (rtake L bad z).1.length ≤ z.toNat := by
  unfold rtake
  split
  · simp
  · simp only [List.length_take]
    omega
theorem gX_nonneg (L : List UInt8) (bad : Bool) : 0 ≤ gX L bad := by unfold gX u32i; omega
theorem gOK_iff (L : List UInt8) (bad : Bool) : gOK L bad = true ↔ (gS3 L bad).2 = false ∧ refOK (gY L bad) ∧ gX L bad ≤ 256 := by
  unfold gOK
  rw [Bool.and_eq_true, decOK5_iff]
  constructor
  · rintro ⟨h1, h2⟩
    refine ⟨?_, h1, (rightC_true h2).2.1⟩
    cases hb : (gS3 L bad).2 with
    | false => rfl
    | true =>
      have h3 : gY L bad = [] := rtake_none (z := 2180) hb
      have h4 := h1.1
      rw [h3] at h4
      cases h4
  · rintro ⟨h1, h2, h3⟩
    refine ⟨h2, ?_⟩
    have h4 : (gS2 L bad).2 = false := (rtake_good (z := 2180) h1).1
    have h5 : (gR L bad).length = 32 := (rtake_good (z := 32) h4).2
    have h6 := gX_nonneg L bad
    unfold rightC
    simp [h3, h5, h6]
theorem RdrS.lt_ {w : World} {base q : Nat} {L : List UInt8} {bad : Bool} (h : RdrS w base q L bad) : q < w.heap.size := by
  obtain ⟨_, cs, hb, _⟩ := h.blk_
  exact hb.lt
theorem RdrS.away {w w' : World} {base q : Nat} {L : List UInt8} {bad : Bool} (h : RdrS w base q L bad) {k : Nat} {t : TypeId} {cs : Array Value} (hb : Blk w k t cs) (ht : t ≠ 115) (hno : ∀ (i : Nat) (x : Int), cs[i]? ≠ some (.int .u8 x)) (g : w.grownBy w' (some k)) : RdrS w' base q L bad := by
  obtain ⟨A', n', c', hn, hR⟩ := h
  have hbA : 0 < n' → blk A' ≠ some k := hR.rb.apart5 hb hno
  refine ⟨A', n', c', hn, hR.blk.grown g (fun e => ?_), hR.rb.grown g hbA, hR.ne, hR.base, fun h0 k' hk => ?_⟩
  · injection e with e
    subst e
    have h1 := hR.blk
    unfold Blk at h1 hb
    rw [h1] at hb
    injection hb with hb
    injection hb with _ hb
    exact ht hb.symm
  · obtain ⟨cs', fr, h1⟩ := hR.ty h0 k' hk
    exact ⟨cs', fr, (g.block k' (Array.getElem?_eq_some_iff.1 h1).1 (fun e => hbA h0 (by rw [hk, e]))).trans h1⟩
theorem grown_new {a w : World} {row : Option Nat} (h : a.grownBy w row) {p : Addr} (hp : a.heap.size ≤ p.block) (u : Value) : a.grownBy (w.setCell p u) row :=
  ⟨h.os, h.tape, h.output, by simpa [World.setCell] using h.size, fun k hk hne => (Below.heap_setCell w p u k (by omega)).trans (h.block k hk hne)⟩
theorem grown5 {a w : World} {row : Option Nat} {g : Nat} (h : a.grownBy w row) (hg : a.heap.size ≤ g) (u0 u1 u2 u3 u4 : Value) :
    a.grownBy (((((w.setCell ⟨g, 0, none⟩ u0).setCell ⟨g, 1, none⟩ u1).setCell ⟨g, 2, none⟩ u2).setCell ⟨g, 3, none⟩ u3).setCell ⟨g, 4, none⟩ u4) row :=
  grown_new (p := ⟨g, 4, none⟩) (grown_new (p := ⟨g, 3, none⟩) (grown_new (p := ⟨g, 2, none⟩) (grown_new (p := ⟨g, 1, none⟩) (grown_new (p := ⟨g, 0, none⟩) h hg u0) hg u1) hg u2) hg u3) hg u4
theorem RdrS.set5 {w : World} {base q : Nat} {L : List UInt8} {bad : Bool} (h : RdrS w base q L bad) {g : Nat} {t : TypeId} (ht : t ≠ 115) {x k : Int} {A0 P Q : Option Addr} {n0 c0 np cp nq cq : Nat} (hB : Blk w g t (sgdC x A0 n0 c0 k P np cp Q nq cq))
    (x' k' : Int) (A1 P1 Q1 : Option Addr) (n1 c1 np1 cp1 nq1 cq1 : Nat) : RdrS (((((w.setCell ⟨g, 0, none⟩ (.int .i64 x')).setCell ⟨g, 1, none⟩ (.slice A1 n1 c1)).setCell ⟨g, 2, none⟩ (.int .i64 k')).setCell ⟨g, 3, none⟩ (.slice P1 np1 cp1)).setCell ⟨g, 4, none⟩ (.slice Q1 nq1 cq1)) base q L bad := by
  have b0 : Blk (w.setCell ⟨g, 0, none⟩ (.int .i64 x')) g t (sgdC x' A0 n0 c0 k P np cp Q nq cq) := hB.set 0 _
  have b1 : Blk _ g t (sgdC x' A1 n1 c1 k P np cp Q nq cq) := b0.set 1 (.slice A1 n1 c1)
  have b2 : Blk _ g t (sgdC x' A1 n1 c1 k' P np cp Q nq cq) := b1.set 2 (.int .i64 k')
  have b3 : Blk _ g t (sgdC x' A1 n1 c1 k' P1 np1 cp1 Q nq cq) := b2.set 3 (.slice P1 np1 cp1)
  exact ((((h.away hB ht (sgd_no _ _ _ _ _ _ _ _ _ _ _) (grown_set w ⟨g, 0, none⟩ (.int .i64 x'))).away b0 ht (sgd_no _ _ _ _ _ _ _ _ _ _ _) (grown_set _ ⟨g, 1, none⟩ (.slice A1 n1 c1))).away b1 ht (sgd_no _ _ _ _ _ _ _ _ _ _ _) (grown_set _ ⟨g, 2, none⟩ (.int .i64 k'))).away b2 ht (sgd_no _ _ _ _ _ _ _ _ _ _ _) (grown_set _ ⟨g, 3, none⟩ (.slice P1 np1 cp1))).away b3 ht (sgd_no _ _ _ _ _ _ _ _ _ _ _) (grown_set _ ⟨g, 4, none⟩ (.slice Q1 nq1 cq1))
set_option maxHeartbeats 8000000 in
theorem cget_any (w : World) (base q : Nat) (L : List UInt8) (bad : Bool) (hR : RdrS w base q L bad) :
    Calls Try.prog 26 #[.pointer (some ⟨q, 0, none⟩)] w fun e w' =>
      (gOK L bad = true → ∃ B d P d1 Q d2, e = .returned (.tuple #[.agg #[.int .i64 (gX L bad), .slice B 32 d, .int .i64 (decX (gY L bad)), .slice P 64 d1, .slice Q 4 d2], .bool true]) ∧ RB w' B 32 d (gR L bad) ∧ OBC w' w.heap.size P 64 d1 (decP (gY L bad)) ∧ OBC w' w.heap.size Q 4 d2 (decQ (gY L bad))) ∧
      (gOK L bad = false → e = .returned (.tuple #[.agg #[.int .i64 0, .slice none 0 0, .int .i64 0, .slice none 0 0, .slice none 0 0], .bool false])) ∧
      RdrS w' base q (gS3 L bad).1 (gS3 L bad).2 ∧ w.grownBy w' (some q) := by
  have hcx := fun w' => conv_u32_i64' (P := Try.prog) (w := w') Try.underlying101 Try.underlying3 (beNum (rtake L bad 4).1)
  have hqlt := hR.lt_
  have hE0 := Ext.new w (.cells #[.int .i64 0, .slice none 0 0, .int .i64 0, .slice none 0 0, .slice none 0 0] 41)
  have hB0 := Blk.new w 41 #[.int .i64 0, .slice none 0 0, .int .i64 0, .slice none 0 0, .slice none 0 0]
  have hG0 := hE0.grownBy (some q)
  have hR0 := hR.later hE0
  have hok : gOK L bad = (decOK5 (gY L bad) && rightC (gX L bad) (gR L bad)) := rfl
  have Hok := Lib.hid hok
  clear hR hE0 hok
  go_enter Try.func26, Try.ntmps26
  go_wp2_with fail
  generalize w.alloc (.cells #[.int .i64 0, .slice none 0 0, .int .i64 0, .slice none 0 0, .slice none 0 0] 41) = w0 at *
  refine (rnum_any w0 base q L bad hR0).mono ?_
  rintro e w1 ⟨rfl, hR1, hG1⟩
  have hqn : (some w.heap.size : Option Nat) ≠ some q := by intro e; injection e with e; omega
  have hB1 := hB0.grown hG1 hqn
  replace hG1 := hG0.trans hG1
  replace hR1 : RdrS w1 base q (gS1 L bad).1 (gS1 L bad).2 := hR1
  have hqlt1 := hR1.lt_
  clear hR0 hB0 hG0
  go_wp2_with fail
  refine (rraw_any w1 base q _ _ 32 hR1 (by omega) (by omega)).mono ?_
  rintro e w2 ⟨⟨B, m, d, rfl, own⟩, hR2, hG2⟩
  replace hB1 := hB1.grown hG2 hqn
  replace hG2 := hG1.trans hG2
  replace hR2 : RdrS w2 base q (gS2 L bad).1 (gS2 L bad).2 := hR2
  replace own : OB w2 w1.heap.size B m d (gR L bad) := own
  have hX : u32i (beNum (rtake L bad 4).1) = gX L bad := rfl
  have hqlt2 := hR2.lt_
  have hEn := Ext.new w2 (.cells #[.int .i64 (gX L bad), .slice B m d] 24)
  have hB4 := Blk.new w2 24 #[.int .i64 (gX L bad), .slice B m d]
  have hq4 : (some w2.heap.size : Option Nat) ≠ some q := by intro e; injection e with e; omega
  replace hB1 := hB1.ext hEn
  replace hR2 := hR2.later hEn
  replace own := own.ext hEn
  replace hG2 := hG2.trans (hEn.grownBy _)
  clear hEn hG1 hR1
  go_wp2_with fail
  generalize w2.alloc (.cells #[.int .i64 (gX L bad), .slice B m d] 24) = w3 at *
  generalize w2.heap.size = g4 at *
  clear hcx hX
  generalize hx : gX L bad = x at *
  have Hx := Lib.hid hx
  clear hx
  refine (rraw_any w3 base q _ _ 2180 hR2 (by omega) (by omega)).mono ?_
  rintro e w4 ⟨⟨Y, my, dy, rfl, ownY⟩, hR4, hG4⟩
  have hmy : my ≤ 2180 := by have h1 := ownY.len; have h2 := rtake_len (gS2 L bad).1 (gS2 L bad).2 2180; rw [h1] at h2; omega
  replace hB1 := hB1.grown hG4 hqn
  replace hB4 := hB4.grown hG4 hq4
  replace own := own.grown hG4 (own.not_blk hqlt1)
  replace hG2 := hG2.trans hG4
  replace hR4 : RdrS w4 base q (gS3 L bad).1 (gS3 L bad).2 := hR4
  replace ownY : OB w4 w3.heap.size Y my dy (gY L bad) := ownY
  generalize hs3 : gS3 L bad = s3 at *
  generalize hRL : gR L bad = R at *
  have Hs3 := Lib.hid hs3
  have HRL := Lib.hid hRL
  clear hs3 hRL
  clear hR2 hG4
  generalize hYL : gY L bad = YL at *
  have HYL := Lib.hid hYL
  clear hYL
  go_wp2_with fail
  refine (sdecode_any Y my dy YL w4 ownY.rb (by omega)).mono ?_
  rintro e w5 ⟨hyes, hno, hE5⟩
  have hsw := hG2.size
  replace hB1 := hB1.ext hE5
  replace hB4 := hB4.ext hE5
  replace own := own.ext hE5
  replace hR4 := hR4.later hE5
  replace hG2 := hG2.trans (hE5.grownBy _)
  clear hE5 ownY hqn hq4 hqlt hqlt1 hqlt2
  cases hd : decOK5 YL with
  | false =>
    obtain rfl := hno hd
    have hEn := Ext.new w5 (.cells #[.int .i64 0, .slice none 0 0, .slice none 0 0] 39)
    replace hB1 := hB1.ext hEn
    replace hR4 := hR4.later hEn
    replace hG2 := hG2.trans (hEn.grownBy _)
    rw [hd, Bool.false_and] at Hok
    clear hyes hno own hB4 hEn hd
    have fhB10 := hB1.frozen 0
    have fhB11 := hB1.frozen 1
    have fhB12 := hB1.frozen 2
    have fhB13 := hB1.frozen 3
    have fhB14 := hB1.frozen 4
    have xhB10 := hB1.cell (i := 0) rfl
    have xhB11 := hB1.cell (i := 1) rfl
    have xhB12 := hB1.cell (i := 2) rfl
    have xhB13 := hB1.cell (i := 3) rfl
    have xhB14 := hB1.cell (i := 4) rfl
    go_wp2_with fail
    refine bodyPost_ret (results_sig rfl _ _ w.heap.size _ _ _ rfl (setall5 hB1 _ _ _ _ _) Try.underlying41 rfl rfl) rfl ?_
    rw [Hx.out, Hs3.out, HRL.out, HYL.out]
    exact ⟨fun h => absurd (Hok.out.symm.trans h) (by decide), fun _ => rfl, hR4.set5 (by decide) hB1 _ _ _ _ _ _ _ _ _ _ _, grown5 hG2 (Nat.le_refl _) _ _ _ _ _⟩
  | true =>
    obtain ⟨P, d1, Q, d2, rfl, oP, oQ⟩ := hyes hd
    rw [hd, Bool.true_and] at Hok
    have hEn := Ext.new w5 (.cells #[.int .i64 (decX YL), .slice P 64 d1, .slice Q 4 d2] 39)
    have hB5 := Blk.new w5 39 #[.int .i64 (decX YL), .slice P 64 d1, .slice Q 4 d2]
    have oP := oP.obc.base hsw
    have oQ := oQ.obc.base hsw
    replace hB1 := hB1.ext hEn
    replace hB4 := hB4.ext hEn
    replace own := own.ext hEn
    replace hR4 := hR4.later hEn
    replace oP := oP.ext hEn
    replace oQ := oQ.ext hEn
    replace hG2 := hG2.trans (hEn.grownBy _)
    clear hyes hno hEn hd
    have y0 := hB4.cell (i := 0) (v := .int .i64 x) rfl
    have y1 := hB4.cell (i := 1) (v := .slice B m d) rfl
    obtain ⟨w6, hw6⟩ : ∃ w6, w6 = w5.alloc (.cells #[.int .i64 (decX YL), .slice P 64 d1, .slice Q 4 d2] 39) := ⟨_, rfl⟩
    rw [← hw6] at hB1 hB4 own hR4 oP oQ hG2 hB5
    go_wp2_with fail
    rw [← hw6]
    clear hw6
    generalize w5.heap.size = g5 at *
    refine (cright_any x B m d R w6 own.rb).mono ?_
    rintro e w7 ⟨rfl, hE7⟩
    replace hB1 := hB1.ext hE7
    replace hB4 := hB4.ext hE7
    replace hB5 := hB5.ext hE7
    replace own := own.ext hE7
    replace hR4 := hR4.later hE7
    replace oP := oP.ext hE7
    replace oQ := oQ.ext hE7
    replace hG2 := hG2.trans (hE7.grownBy _)
    clear hE7 y0 y1
    cases hc : rightC x R with
    | false =>
      rw [hc] at Hok
      clear hc own hB4 hB5 oP oQ
      have fhB10 := hB1.frozen 0
      have fhB11 := hB1.frozen 1
      have fhB12 := hB1.frozen 2
      have fhB13 := hB1.frozen 3
      have fhB14 := hB1.frozen 4
      have xhB10 := hB1.cell (i := 0) rfl
      have xhB11 := hB1.cell (i := 1) rfl
      have xhB12 := hB1.cell (i := 2) rfl
      have xhB13 := hB1.cell (i := 3) rfl
      have xhB14 := hB1.cell (i := 4) rfl
      go_wp2_with fail
      refine bodyPost_ret (results_sig rfl _ _ w.heap.size _ _ _ rfl (setall5 hB1 _ _ _ _ _) Try.underlying41 rfl rfl) rfl ?_
      rw [Hx.out, Hs3.out, HRL.out, HYL.out]
      exact ⟨fun h => absurd (Hok.out.symm.trans h) (by decide), fun _ => rfl, hR4.set5 (by decide) hB1 _ _ _ _ _ _ _ _ _ _ _, grown5 hG2 (Nat.le_refl _) _ _ _ _ _⟩
    | true =>
      obtain rfl : m = 32 := own.len.symm.trans (rightC_true hc).2.2
      rw [hc] at Hok
      clear hc
      have y0 := hB4.cell (i := 0) (v := .int .i64 x) rfl
      have y1 := hB4.cell (i := 1) (v := .slice B 32 d) rfl
      have z0 := hB5.cell (i := 0) (v := .int .i64 (decX YL)) rfl
      have z1 := hB5.cell (i := 1) (v := .slice P 64 d1) rfl
      have z2 := hB5.cell (i := 2) (v := .slice Q 4 d2) rfl
      have fhB10 := hB1.frozen 0
      have fhB11 := hB1.frozen 1
      have fhB12 := hB1.frozen 2
      have fhB13 := hB1.frozen 3
      have fhB14 := hB1.frozen 4
      have xhB10 := hB1.cell (i := 0) rfl
      have xhB11 := hB1.cell (i := 1) rfl
      have xhB12 := hB1.cell (i := 2) rfl
      have xhB13 := hB1.cell (i := 3) rfl
      have xhB14 := hB1.cell (i := 4) rfl
      go_wp2_with fail
      refine bodyPost_ret (results_sig rfl _ _ w.heap.size _ _ _ rfl (setall5 hB1 _ _ _ _ _) Try.underlying41 rfl rfl) rfl ?_
      rw [Hx.out, Hs3.out, HRL.out, HYL.out]
      exact ⟨fun _ => ⟨B, d, P, d1, Q, d2, rfl, own.rb.set5 hB1 _ _ _ _ _ _ _ _ _ _ _, oP.set5 (by decide) hB1 _ _ _ _ _ _ _ _ _ _ _, oQ.set5 (by decide) hB1 _ _ _ _ _ _ _ _ _ _ _⟩, fun h => absurd (Hok.out.symm.trans h) (by decide), hR4.set5 (by decide) hB1 _ _ _ _ _ _ _ _ _ _ _, grown5 hG2 (Nat.le_refl _) _ _ _ _ _⟩
end Go.Proofs.Ythggfbpdhkpkjaa
namespace Go.Proofs.Ythggfbpdhkpkjaa
set_option maxRecDepth 100000
open Go Go.RowKit
/-- a tuple: a struct whose slices are known by what they read, and a value -/
def MP.tp (l : List Sh) (r : Value) : MP Ext := ⟨fun u w => Sh.all l (fun vs => u = .tuple #[.agg vs.toArray, r]) w, fun _ _ _ e h => Sh.all_ext e _ _ h⟩
def noU8 (cs : Array Value) : Bool := cs.toList.all fun v => match v with | .int .u8 _ => false | _ => true
theorem nou8 {cs : Array Value} (h : noU8 cs = true) (i : Nat) (x : Int) : cs[i]? ≠ some (.int .u8 x) := by
  intro e
  have h1 := List.all_eq_true.1 h _ (Array.mem_toList_iff.2 (Array.mem_of_getElem? e))
  simp at h1
def isSl : Option Value → Bool
  | some (.slice _ _ _) => true
  | _ => false
def no3B (cs : Array Value) : Bool := (List.range cs.size).all fun i => !(isSl cs[i]? && isSl cs[i + 1]? && isSl cs[i + 2]?)
theorem no3 {cs : Array Value} (h : no3B cs = true) (i : Nat) (a b c : Value) (ha : cs[i]? = some a) (hb : cs[i + 1]? = some b) (hc : cs[i + 2]? = some c) : ¬ (isSl (some a) = true ∧ isSl (some b) = true ∧ isSl (some c) = true) := by
  have hi : i < cs.size := (Array.getElem?_eq_some_iff.1 ha).1
  have h1 := List.all_eq_true.1 h i (List.mem_range.2 hi)
  rw [ha, hb, hc] at h1
  rintro ⟨k1, k2, k3⟩
  rw [k1, k2, k3] at h1
  cases h1
end Go.Proofs.Ythggfbpdhkpkjaa
namespace Go.Proofs.Ythggfbpdhkpkjaa
set_option maxRecDepth 100000
open Go Go.RowKit
theorem RBB.away {w w' : World} {A : Option Addr} {n c : Nat} {Ls : List (List UInt8)} (h : RBB w A n c Ls) {k : Nat} {t : TypeId} {cs : Array Value} (hb : Blk w k t cs) (hno : ∀ (i : Nat) (x : Int), cs[i]? ≠ some (.int .u8 x)) (g : w.grownBy w' (some k)) (hA : 0 < n → blk A ≠ some k) : RBB w' A n c Ls :=
  ⟨h.len, h.room, h.cap, fun hn => by
    obtain ⟨ad, rfl, hc⟩ := h.cells hn
    refine ⟨ad, rfl, fun j hj => ?_⟩
    obtain ⟨B, m, d, h1, h2⟩ := hc j hj
    exact ⟨B, m, d, g.cell h1 (by rw [block_of_add]; exact hA hn), h2.grown g (h2.apart5 hb hno)⟩⟩
theorem RBB.apart_sgd {w : World} {A : Option Addr} {n c : Nat} {Ls : List (List UInt8)} (h : RBB w A n c Ls) (hn : 3 ≤ n) {g : Nat} {t : TypeId} {x k : Int} {A0 P Q : Option Addr} {n0 c0 np cp nq cq : Nat} (hB : Blk w g t (sgdC x A0 n0 c0 k P np cp Q nq cq)) : blk A ≠ some g := by
  obtain ⟨ad, rfl, hc⟩ := h.cells (by omega)
  intro e
  have e2 : ad.block = g := by
    have e3 : some ad.block = some g := e
    injection e3
  unfold Blk at hB
  have key : ∀ j v, w.cell? (ad.add j) = some v → (sgdC x A0 n0 c0 k P np cp Q nq cq)[ad.off + j]? = some v := by
    intro j v h1
    unfold World.cell? at h1
    have h3 : (ad.add j).block = g := by rw [block_of_add, e2]
    have h4 : (ad.add j).off = ad.off + j := by
      unfold Addr.add
      by_cases hj : j = 0
      · rw [if_pos hj, hj]; rfl
      · rw [if_neg hj]
    rw [h3, hB] at h1
    by_cases hs : (ad.add j).spot.isSome = true
    · simp [hs] at h1
    · simp only [hs] at h1
      rw [h4] at h1
      exact h1
  obtain ⟨B0, m0, d0, h0, _⟩ := hc 0 (by omega)
  obtain ⟨B1, m1, d1, h1, _⟩ := hc 1 (by omega)
  obtain ⟨B2, m2, d2, h2, _⟩ := hc 2 (by omega)
  have k0 := key _ _ h0
  have k1 := key _ _ h1
  have k2 := key _ _ h2
  unfold sgdC at k0 k1 k2
  generalize ad.off = o at *
  rcases o with _ | _ | _ | _ | _ | o <;> simp at k0 k1 k2
theorem RBB.apart3 {w : World} {A : Option Addr} {n c : Nat} {Ls : List (List UInt8)} (h : RBB w A n c Ls) {g : Nat} {t : TypeId} {cs : Array Value} (hB : Blk w g t cs) (hno : ∀ (i : Nat) (a b c : Value), cs[i]? = some a → cs[i + 1]? = some b → cs[i + 2]? = some c → ¬ (isSl (some a) = true ∧ isSl (some b) = true ∧ isSl (some c) = true)) (hn : 3 ≤ n) : blk A ≠ some g := by
  obtain ⟨ad, rfl, hc⟩ := h.cells (by omega)
  intro e
  have e2 : ad.block = g := by
    have e3 : some ad.block = some g := e
    injection e3
  unfold Blk at hB
  have key : ∀ j v, w.cell? (ad.add j) = some v → cs[ad.off + j]? = some v := by
    intro j v h1
    unfold World.cell? at h1
    have h3 : (ad.add j).block = g := by rw [block_of_add, e2]
    have h4 : (ad.add j).off = ad.off + j := by
      unfold Addr.add
      by_cases hj : j = 0
      · rw [if_pos hj, hj]; rfl
      · rw [if_neg hj]
    rw [h3, hB] at h1
    by_cases hs : (ad.add j).spot.isSome = true
    · simp [hs] at h1
    · simp only [hs] at h1
      rw [h4] at h1
      exact h1
  obtain ⟨B0, m0, d0, h0, _⟩ := hc 0 (by omega)
  obtain ⟨B1, m1, d1, h1, _⟩ := hc 1 (by omega)
  obtain ⟨B2, m2, d2, h2, _⟩ := hc 2 (by omega)
  exact hno _ _ _ _ (key _ _ h0) (key _ _ h1) (key _ _ h2) ⟨rfl, rfl, rfl⟩
theorem RBB.set5 {w : World} {A : Option Addr} {n c : Nat} {L : List (List UInt8)} (h : RBB w A n c L) (hn : 3 ≤ n) {g : Nat} {t : TypeId} {x k : Int} {A0 P Q : Option Addr} {n0 c0 np cp nq cq : Nat} (hB : Blk w g t (sgdC x A0 n0 c0 k P np cp Q nq cq))
    (x' k' : Int) (A1 P1 Q1 : Option Addr) (n1 c1 np1 cp1 nq1 cq1 : Nat) : RBB (((((w.setCell ⟨g, 0, none⟩ (.int .i64 x')).setCell ⟨g, 1, none⟩ (.slice A1 n1 c1)).setCell ⟨g, 2, none⟩ (.int .i64 k')).setCell ⟨g, 3, none⟩ (.slice P1 np1 cp1)).setCell ⟨g, 4, none⟩ (.slice Q1 nq1 cq1)) A n c L := by
  have b0 : Blk (w.setCell ⟨g, 0, none⟩ (.int .i64 x')) g t (sgdC x' A0 n0 c0 k P np cp Q nq cq) := hB.set 0 _
  have b1 : Blk _ g t (sgdC x' A1 n1 c1 k P np cp Q nq cq) := b0.set 1 (.slice A1 n1 c1)
  have b2 : Blk _ g t (sgdC x' A1 n1 c1 k' P np cp Q nq cq) := b1.set 2 (.int .i64 k')
  have b3 : Blk _ g t (sgdC x' A1 n1 c1 k' P1 np1 cp1 Q nq cq) := b2.set 3 (.slice P1 np1 cp1)
  have hA : 0 < n → blk A ≠ some g := fun _ => h.apart_sgd hn hB
  exact ((((h.away hB (sgd_no _ _ _ _ _ _ _ _ _ _ _) (grown_set w ⟨g, 0, none⟩ (.int .i64 x')) hA).away b0 (sgd_no _ _ _ _ _ _ _ _ _ _ _) (grown_set _ ⟨g, 1, none⟩ (.slice A1 n1 c1)) hA).away b1 (sgd_no _ _ _ _ _ _ _ _ _ _ _) (grown_set _ ⟨g, 2, none⟩ (.int .i64 k')) hA).away b2 (sgd_no _ _ _ _ _ _ _ _ _ _ _) (grown_set _ ⟨g, 3, none⟩ (.slice P1 np1 cp1)) hA).away b3 (sgd_no _ _ _ _ _ _ _ _ _ _ _) (grown_set _ ⟨g, 4, none⟩ (.slice Q1 nq1 cq1)) hA
theorem RR.away {w w' : World} {base q : Nat} {L : List UInt8} {bad : Bool} (h : RR w base q L bad) {k : Nat} {t : TypeId} {cs : Array Value} (hb : Blk w k t cs) (ht : t ≠ 98) (hno : ∀ (i : Nat) (x : Int), cs[i]? ≠ some (.int .u8 x)) (g : w.grownBy w' (some k)) : RR w' base q L bad := by
  obtain ⟨A, n', c', At, B, h1, h2, h3⟩ := h
  refine ⟨A, n', c', At, B, h1.grown g (fun e => ?_), h2.grown g (h2.apart5 hb hno), h3⟩
  injection e with e
  subst e
  unfold Blk at h1 hb
  rw [h1] at hb
  injection hb with hb
  injection hb with _ hb
  exact ht hb.symm
theorem RR.set5 {w : World} {base q : Nat} {L : List UInt8} {bad : Bool} (h : RR w base q L bad) {g : Nat} {t : TypeId} (ht : t ≠ 98) {x k : Int} {A0 P Q : Option Addr} {n0 c0 np cp nq cq : Nat} (hB : Blk w g t (sgdC x A0 n0 c0 k P np cp Q nq cq))
    (x' k' : Int) (A1 P1 Q1 : Option Addr) (n1 c1 np1 cp1 nq1 cq1 : Nat) : RR (((((w.setCell ⟨g, 0, none⟩ (.int .i64 x')).setCell ⟨g, 1, none⟩ (.slice A1 n1 c1)).setCell ⟨g, 2, none⟩ (.int .i64 k')).setCell ⟨g, 3, none⟩ (.slice P1 np1 cp1)).setCell ⟨g, 4, none⟩ (.slice Q1 nq1 cq1)) base q L bad := by
  have b0 : Blk (w.setCell ⟨g, 0, none⟩ (.int .i64 x')) g t (sgdC x' A0 n0 c0 k P np cp Q nq cq) := hB.set 0 _
  have b1 : Blk _ g t (sgdC x' A1 n1 c1 k P np cp Q nq cq) := b0.set 1 (.slice A1 n1 c1)
  have b2 : Blk _ g t (sgdC x' A1 n1 c1 k' P np cp Q nq cq) := b1.set 2 (.int .i64 k')
  have b3 : Blk _ g t (sgdC x' A1 n1 c1 k' P1 np1 cp1 Q nq cq) := b2.set 3 (.slice P1 np1 cp1)
  exact ((((h.away hB ht (sgd_no _ _ _ _ _ _ _ _ _ _ _) (grown_set w ⟨g, 0, none⟩ (.int .i64 x'))).away b0 ht (sgd_no _ _ _ _ _ _ _ _ _ _ _) (grown_set _ ⟨g, 1, none⟩ (.slice A1 n1 c1))).away b1 ht (sgd_no _ _ _ _ _ _ _ _ _ _ _) (grown_set _ ⟨g, 2, none⟩ (.int .i64 k'))).away b2 ht (sgd_no _ _ _ _ _ _ _ _ _ _ _) (grown_set _ ⟨g, 3, none⟩ (.slice P1 np1 cp1))).away b3 ht (sgd_no _ _ _ _ _ _ _ _ _ _ _) (grown_set _ ⟨g, 4, none⟩ (.slice Q1 nq1 cq1))
end Go.Proofs.Ythggfbpdhkpkjaa
