/-
  check.Decode; ref10's Get, walked. The statements' helpers, walked: Hash, Manifest, Item.
-/
import Derived.Test.YthggfbpdhkpkjaaLawNumbers10Q34
import Derived.Test.YthggfbpdhkpkjaaLawNumbers10Q35
import Derived.Test.YthggfbpdhkpkjaaLawNumbers10Q12
import Derived.Test.YthggfbpdhkpkjaaLawNumbers10Q14
import Derived.Test.YthggfbpdhkpkjaaLawNumbers10Q24
import Derived.Test.YthggfbpdhkpkjaaLawNumbers10Q31
namespace Go.Proofs.Ythggfbpdhkpkjaa
set_option maxRecDepth 100000
open Go Go.RowKit
theorem RBB.away {w w' : World} {A : Option Addr} {n c : Nat} {Ls : List (List UInt8)} (h : RBB w A n c Ls) {k : Nat} {t : TypeId} {cs : Array Value} (hb : Blk w k t cs) (hno : ∀ (i : Nat) (x : Int), cs[i]? ≠ some (.int .u8 x)) (g : w.grownBy w' (some k)) (hA : 0 < n → blk A ≠ some k) : RBB w' A n c Ls :=
  ⟨h.len, h.room, h.cap, fun hn => by
    obtain ⟨ad, rfl, hc⟩ := h.cells hn
    refine ⟨ad, rfl, fun j hj => ?_⟩
    obtain ⟨B, m, d, h1, h2⟩ := hc j hj
    exact ⟨B, m, d, g.cell h1 (by rw [block_of_add]; exact hA hn), h2.grown g (h2.apart5 hb hno)⟩⟩
theorem RBB.apart_sgd {w : World} {A : Option Addr} {n c : Nat} {Ls : List (List UInt8)} (h : RBB w A n c Ls) (hn : 3 ≤ n) {g : Nat} {t : TypeId} {x k : Int} {A0 P Q : Option Addr} {n0 c0 np cp nq cq : Nat} (hB : Blk w g t (sgdC x A0 n0 c0 k P np cp Q nq cq)) : blk A ≠ some g := by
  obtain ⟨ad, rfl, hc⟩ := h.cells (by omega)
  intro e
  have e2 : ad.block = g := by
    have e3 : some ad.block = some g := e
    injection e3
  unfold Blk at hB
  have key : ∀ j v, w.cell? (ad.add j) = some v → (sgdC x A0 n0 c0 k P np cp Q nq cq)[ad.off + j]? = some v := by
    intro j v h1
    unfold World.cell? at h1
    have h3 : (ad.add j).block = g := by rw [block_of_add, e2]
    have h4 : (ad.add j).off = ad.off + j := by
      unfold Addr.add
      by_cases hj : j = 0
      · rw [if_pos hj, hj]; rfl
      · rw [if_neg hj]
    rw [h3, hB] at h1
    by_cases hs : (ad.add j).spot.isSome = true
    · simp [hs] at h1
    · simp only [hs] at h1
      rw [h4] at h1
      exact h1
  obtain ⟨B0, m0, d0, h0, _⟩ := hc 0 (by omega)
  obtain ⟨B1, m1, d1, h1, _⟩ := hc 1 (by omega)
  obtain ⟨B2, m2, d2, h2, _⟩ := hc 2 (by omega)
  have k0 := key _ _ h0
  have k1 := key _ _ h1
  have k2 := key _ _ h2
  unfold sgdC at k0 k1 k2
  generalize ad.off = o at *
  rcases o with _ | _ | _ | _ | _ | o <;> simp at k0 k1 k2
theorem RBB.set5 {w : World} {A : Option Addr} {n c : Nat} {L : List (List UInt8)} (h : RBB w A n c L) (hn : 3 ≤ n) {g : Nat} {t : TypeId} {x k : Int} {A0 P Q : Option Addr} {n0 c0 np cp nq cq : Nat} (hB : Blk w g t (sgdC x A0 n0 c0 k P np cp Q nq cq))
    (x' k' : Int) (A1 P1 Q1 : Option Addr) (n1 c1 np1 cp1 nq1 cq1 : Nat) : RBB (((((w.setCell ⟨g, 0, none⟩ (.int .i64 x')).setCell ⟨g, 1, none⟩ (.slice A1 n1 c1)).setCell ⟨g, 2, none⟩ (.int .i64 k')).setCell ⟨g, 3, none⟩ (.slice P1 np1 cp1)).setCell ⟨g, 4, none⟩ (.slice Q1 nq1 cq1)) A n c L := by
  have b0 : Blk (w.setCell ⟨g, 0, none⟩ (.int .i64 x')) g t (sgdC x' A0 n0 c0 k P np cp Q nq cq) := hB.set 0 _
  have b1 : Blk _ g t (sgdC x' A1 n1 c1 k P np cp Q nq cq) := b0.set 1 (.slice A1 n1 c1)
  have b2 : Blk _ g t (sgdC x' A1 n1 c1 k' P np cp Q nq cq) := b1.set 2 (.int .i64 k')
  have b3 : Blk _ g t (sgdC x' A1 n1 c1 k' P1 np1 cp1 Q nq cq) := b2.set 3 (.slice P1 np1 cp1)
  have hA : 0 < n → blk A ≠ some g := fun _ => h.apart_sgd hn hB
  exact ((((h.away hB (sgd_no _ _ _ _ _ _ _ _ _ _ _) (grown_set w ⟨g, 0, none⟩ (.int .i64 x')) hA).away b0 (sgd_no _ _ _ _ _ _ _ _ _ _ _) (grown_set _ ⟨g, 1, none⟩ (.slice A1 n1 c1)) hA).away b1 (sgd_no _ _ _ _ _ _ _ _ _ _ _) (grown_set _ ⟨g, 2, none⟩ (.int .i64 k')) hA).away b2 (sgd_no _ _ _ _ _ _ _ _ _ _ _) (grown_set _ ⟨g, 3, none⟩ (.slice P1 np1 cp1)) hA).away b3 (sgd_no _ _ _ _ _ _ _ _ _ _ _) (grown_set _ ⟨g, 4, none⟩ (.slice Q1 nq1 cq1)) hA
theorem RR.away {w w' : World} {base q : Nat} {L : List UInt8} {bad : Bool} (h : RR w base q L bad) {k : Nat} {t : TypeId} {cs : Array Value} (hb : Blk w k t cs) (ht : t ≠ 98) (hno : ∀ (i : Nat) (x : Int), cs[i]? ≠ some (.int .u8 x)) (g : w.grownBy w' (some k)) : RR w' base q L bad := by
  obtain ⟨A, n', c', At, B, h1, h2, h3⟩ := h
  refine ⟨A, n', c', At, B, h1.grown g (fun e => ?_), h2.grown g (h2.apart5 hb hno), h3⟩
  injection e with e
  subst e
  unfold Blk at h1 hb
  rw [h1] at hb
  injection hb with hb
  injection hb with _ hb
  exact ht hb.symm
theorem RR.set5 {w : World} {base q : Nat} {L : List UInt8} {bad : Bool} (h : RR w base q L bad) {g : Nat} {t : TypeId} (ht : t ≠ 98) {x k : Int} {A0 P Q : Option Addr} {n0 c0 np cp nq cq : Nat} (hB : Blk w g t (sgdC x A0 n0 c0 k P np cp Q nq cq))
    (x' k' : Int) (A1 P1 Q1 : Option Addr) (n1 c1 np1 cp1 nq1 cq1 : Nat) : RR (((((w.setCell ⟨g, 0, none⟩ (.int .i64 x')).setCell ⟨g, 1, none⟩ (.slice A1 n1 c1)).setCell ⟨g, 2, none⟩ (.int .i64 k')).setCell ⟨g, 3, none⟩ (.slice P1 np1 cp1)).setCell ⟨g, 4, none⟩ (.slice Q1 nq1 cq1)) base q L bad := by
  have b0 : Blk (w.setCell ⟨g, 0, none⟩ (.int .i64 x')) g t (sgdC x' A0 n0 c0 k P np cp Q nq cq) := hB.set 0 _
  have b1 : Blk _ g t (sgdC x' A1 n1 c1 k P np cp Q nq cq) := b0.set 1 (.slice A1 n1 c1)
  have b2 : Blk _ g t (sgdC x' A1 n1 c1 k' P np cp Q nq cq) := b1.set 2 (.int .i64 k')
  have b3 : Blk _ g t (sgdC x' A1 n1 c1 k' P1 np1 cp1 Q nq cq) := b2.set 3 (.slice P1 np1 cp1)
  exact ((((h.away hB ht (sgd_no _ _ _ _ _ _ _ _ _ _ _) (grown_set w ⟨g, 0, none⟩ (.int .i64 x'))).away b0 ht (sgd_no _ _ _ _ _ _ _ _ _ _ _) (grown_set _ ⟨g, 1, none⟩ (.slice A1 n1 c1))).away b1 ht (sgd_no _ _ _ _ _ _ _ _ _ _ _) (grown_set _ ⟨g, 2, none⟩ (.int .i64 k'))).away b2 ht (sgd_no _ _ _ _ _ _ _ _ _ _ _) (grown_set _ ⟨g, 3, none⟩ (.slice P1 np1 cp1))).away b3 ht (sgd_no _ _ _ _ _ _ _ _ _ _ _) (grown_set _ ⟨g, 4, none⟩ (.slice Q1 nq1 cq1))
set_option maxHeartbeats 8000000 in
theorem cdecode_any (A : Option Addr) (n c : Nat) (L : List UInt8) (w : World) (hr : RB w A n c L) (hn : n ≤ 140737488355328) :
    Calls Try.prog 29 #[.slice A n c] w fun e w' =>
      (dOK L = true → ∃ B d P d1 Q d2, e = .returned (.tuple #[.agg #[.int .i64 (gX L false), .slice B 32 d, .int .i64 (decX (gY L false)), .slice P 64 d1, .slice Q 4 d2], .int .i64 0]) ∧ RB w' B 32 d (gR L false) ∧ RBB w' P 64 d1 (decP (gY L false)) ∧ RBB w' Q 4 d2 (decQ (gY L false))) ∧
      (dOK L = false → e = .returned (.tuple #[.agg #[.int .i64 0, .slice none 0 0, .int .i64 0, .slice none 0 0, .slice none 0 0], .int .i64 12])) ∧ Ext w w' := by
  have hE0 := Ext.new w (.cells #[.int .i64 0, .slice none 0 0, .int .i64 0, .slice none 0 0, .slice none 0 0] 41)
  have hB0 := Blk.new w 41 #[.int .i64 0, .slice none 0 0, .int .i64 0, .slice none 0 0, .slice none 0 0]
  have hok : dOK L = (gOK L false && (!(gS3 L false).2 && (gS3 L false).1.isEmpty)) := rfl
  have Hok := Lib.hid hok
  replace hr := hr.ext hE0
  clear hok
  go_enter Try.func29, Try.ntmps29
  go_wp2_with fail
  generalize w.alloc (.cells #[.int .i64 0, .slice none 0 0, .int .i64 0, .slice none 0 0, .slice none 0 0] 41) = w0 at *
  refine (rread_any A n c L w0 hr hn).mono ?_
  rintro e w1 ⟨q, rfl, hR, hE1⟩
  have hq := hR.blk_.1
  have hlt := hB0.lt
  replace hB0 := hB0.ext hE1
  replace hE0 := hE0.trans hE1
  clear hE1 hr
  go_wp2_with fail
  refine (cget_any w1 _ q L false hR).mono ?_
  rintro e w2 ⟨hyes, hno, hR2, hG⟩
  replace hB0 := hB0.grown hG (by intro e; injection e with e; omega)
  replace hE0 := hE0.then_grown hG (by intro k hk; cases hk; omega)
  clear hR hG hq hlt
  generalize gS3 L false = s3 at *
  cases hc : gOK L false with
  | false =>
    obtain rfl := hno hc
    rw [hc, Bool.false_and] at Hok
    have hEn := Ext.new w2 (.cells #[.int .i64 0, .slice none 0 0, .int .i64 0, .slice none 0 0, .slice none 0 0] 41)
    replace hB0 := hB0.ext hEn
    replace hE0 := hE0.trans hEn
    clear hyes hno hEn hc hR2
    have fhB00 := hB0.frozen 0
    have fhB01 := hB0.frozen 1
    have fhB02 := hB0.frozen 2
    have fhB03 := hB0.frozen 3
    have fhB04 := hB0.frozen 4
    have xhB00 := hB0.cell (i := 0) rfl
    have xhB01 := hB0.cell (i := 1) rfl
    have xhB02 := hB0.cell (i := 2) rfl
    have xhB03 := hB0.cell (i := 3) rfl
    have xhB04 := hB0.cell (i := 4) rfl
    go_wp2_with fail
    refine bodyPost_ret (results_sig rfl _ _ w.heap.size _ _ _ rfl (setall5 hB0 _ _ _ _ _) Try.underlying41 rfl rfl) rfl ?_
    exact ⟨fun h => absurd (Hok.out.symm.trans h) (by decide), fun _ => rfl, ext5 hE0 (Nat.le_refl _) _ _ _ _ _⟩
  | true =>
    obtain ⟨B, d, P, d1, Q, d2, rfl, rR, oP, oQ⟩ := hyes hc
    rw [hc, Bool.true_and] at Hok
    generalize hx : gX L false = x at *
    generalize hRL : gR L false = R at *
    generalize hYL : gY L false = YL at *
    have Hx := Lib.hid hx
    have HRL := Lib.hid hRL
    have HYL := Lib.hid hYL
    have hEn := Ext.new w2 (.cells #[.int .i64 x, .slice B 32 d, .int .i64 (decX YL), .slice P 64 d1, .slice Q 4 d2] 41)
    have hB5 := Blk.new w2 41 #[.int .i64 x, .slice B 32 d, .int .i64 (decX YL), .slice P 64 d1, .slice Q 4 d2]
    replace hB0 := hB0.ext hEn
    replace rR := rR.ext hEn
    replace oP := oP.ext hEn
    replace oQ := oQ.ext hEn
    replace hR2 := hR2.later hEn
    replace hE0 := hE0.trans hEn
    clear hyes hno hEn hc hx hRL hYL
    have hend := rend_any _ _ q s3.1 s3.2 hR2
    cases hb : (!s3.2 && s3.1.isEmpty) with
    | false =>
      rw [hb] at hend Hok
      clear hR2 hb rR oP oQ hB5
      have fhB00 := hB0.frozen 0
      have fhB01 := hB0.frozen 1
      have fhB02 := hB0.frozen 2
      have fhB03 := hB0.frozen 3
      have fhB04 := hB0.frozen 4
      have xhB00 := hB0.cell (i := 0) rfl
      have xhB01 := hB0.cell (i := 1) rfl
      have xhB02 := hB0.cell (i := 2) rfl
      have xhB03 := hB0.cell (i := 3) rfl
      have xhB04 := hB0.cell (i := 4) rfl
      go_wp2_with fail
      refine hend.mono ?_
      rintro e w4 ⟨rfl, rfl⟩
      go_wp2_with fail
      refine bodyPost_ret (results_sig rfl _ _ w.heap.size _ _ _ rfl (setall5 hB0 _ _ _ _ _) Try.underlying41 rfl rfl) rfl ?_
      exact ⟨fun h => absurd (Hok.out.symm.trans h) (by decide), fun _ => rfl, ext5 hE0 (Nat.le_refl _) _ _ _ _ _⟩
    | true =>
      rw [hb] at hend Hok
      clear hR2 hb
      have fhB00 := hB0.frozen 0
      have fhB01 := hB0.frozen 1
      have fhB02 := hB0.frozen 2
      have fhB03 := hB0.frozen 3
      have fhB04 := hB0.frozen 4
      have xhB00 := hB0.cell (i := 0) rfl
      have xhB01 := hB0.cell (i := 1) rfl
      have xhB02 := hB0.cell (i := 2) rfl
      have xhB03 := hB0.cell (i := 3) rfl
      have xhB04 := hB0.cell (i := 4) rfl
      have y0 := hB5.cell (i := 0) (v := .int .i64 x) rfl
      have y1 := hB5.cell (i := 1) (v := .slice B 32 d) rfl
      have y2 := hB5.cell (i := 2) (v := .int .i64 (decX YL)) rfl
      have y3 := hB5.cell (i := 3) (v := .slice P 64 d1) rfl
      have y4 := hB5.cell (i := 4) (v := .slice Q 4 d2) rfl
      go_wp2_with fail
      refine hend.mono ?_
      rintro e w4 ⟨rfl, rfl⟩
      go_wp2_with fail
      refine bodyPost_ret (results_sig rfl _ _ w.heap.size _ _ _ rfl (setall5 hB0 _ _ _ _ _) Try.underlying41 rfl rfl) rfl ?_
      rw [Hx.out, HRL.out, HYL.out]
      exact ⟨fun _ => ⟨B, d, P, d1, Q, d2, rfl, rR.set5 hB0 _ _ _ _ _ _ _ _ _ _ _, (oP.set5 (by decide) hB0 _ _ _ _ _ _ _ _ _ _ _).rbb, (oQ.set5 (by decide) hB0 _ _ _ _ _ _ _ _ _ _ _).rbb⟩, fun h => absurd (Hok.out.symm.trans h) (by decide), ext5 hE0 (Nat.le_refl _) _ _ _ _ _⟩
set_option maxHeartbeats 8000000 in
theorem rcget_any (w : World) (base q : Nat) (L : List UInt8) (bad : Bool) (hR : RR w base q L bad) :
    Calls Try.prog 76 #[.pointer (some ⟨q, 0, none⟩)] w fun e w' =>
      (gOK L bad = true → ∃ B d P d1 Q d2, e = .returned (.tuple #[.agg #[.int .i64 (gX L bad), .slice B 32 d, .int .i64 (decX (gY L bad)), .slice P 64 d1, .slice Q 4 d2], .bool true]) ∧ RB w' B 32 d (gR L bad) ∧ RBB w' P 64 d1 (decP (gY L bad)) ∧ RBB w' Q 4 d2 (decQ (gY L bad))) ∧
      (gOK L bad = false → e = .returned (.tuple #[.agg #[.int .i64 0, .slice none 0 0, .int .i64 0, .slice none 0 0, .slice none 0 0], .bool false])) ∧
      RR w' base q (gS3 L bad).1 (gS3 L bad).2 ∧ w.grownBy w' (some q) := by
  have hcx : ∀ w', (convert 101 3 (.int .u32 (gX L bad))).run Try.prog w' = .ok (.int .i64 (gX L bad)) w' := fun w' => conv_u32_i64' (P := Try.prog) (w := w') Try.underlying101 Try.underlying3 (beNum (rtake L bad 4).1)
  have hqlt := hR.lt
  have hE0 := Ext.new w (.cells #[.int .i64 0, .slice none 0 0, .int .i64 0, .slice none 0 0, .slice none 0 0] 41)
  have hB0 := Blk.new w 41 #[.int .i64 0, .slice none 0 0, .int .i64 0, .slice none 0 0, .slice none 0 0]
  have hG0 := hE0.grownBy (some q)
  have hR0 := hR.later hE0
  have hok := gOK_iff L bad
  have hrl : (gS3 L bad).2 = false → (gR L bad).length = 32 := fun h1 => (rtake_good (z := 32) (rtake_good (z := 2180) h1).1).2
  have Hok := Lib.hid hok
  have Hrl := Lib.hid hrl
  clear hR hE0 hok hrl
  go_enter Try.func76, Try.ntmps76
  go_wp2_with fail
  generalize w.alloc (.cells #[.int .i64 0, .slice none 0 0, .int .i64 0, .slice none 0 0, .slice none 0 0] 41) = w0 at *
  refine (r1number_any w0 base q L bad 4 hR0).mono ?_
  rintro e w1 ⟨rfl, hR1, hG1⟩
  have hqn : (some w.heap.size : Option Nat) ≠ some q := by intro e; injection e with e; omega
  have hB1 := hB0.grown hG1 hqn
  replace hG1 := hG0.trans hG1
  replace hR1 : RR w1 base q (gS1 L bad).1 (gS1 L bad).2 := hR1
  have hqlt1 := hR1.lt
  clear hR0 hB0 hG0
  go_wp2_with fail
  refine (r1raw_any w1 base q _ _ 32 hR1).mono ?_
  rintro e w2 ⟨⟨B, m, d, rfl, own⟩, hR2, hG2⟩
  replace hB1 := hB1.grown hG2 hqn
  replace hG2 := hG1.trans hG2
  replace hR2 : RR w2 base q (gS2 L bad).1 (gS2 L bad).2 := hR2
  replace own : OB w2 w1.heap.size B m d (gR L bad) := own
  have hX : u32i (beNum (rtake L bad 4).1) = gX L bad := rfl
  clear hG1 hR1
  go_wp2_with fail
  generalize hx : gX L bad = x at *
  have Hx := Lib.hid hx
  clear hx
  refine (r1raw_any w2 base q _ _ 2180 hR2).mono ?_
  rintro e w4 ⟨⟨Y, my, dy, rfl, ownY⟩, hR4, hG4⟩
  have hmy : my ≤ 2180 := by have h1 := ownY.len; have h2 := rtake_len (gS2 L bad).1 (gS2 L bad).2 2180; rw [h1] at h2; omega
  replace hB1 := hB1.grown hG4 hqn
  replace own := own.grown hG4 (own.not_blk hqlt1)
  replace hG2 := hG2.trans hG4
  replace hR4 : RR w4 base q (gS3 L bad).1 (gS3 L bad).2 := hR4
  replace ownY : OB w4 w2.heap.size Y my dy (gY L bad) := ownY
  generalize hs3 : gS3 L bad = s3 at *
  generalize hRL : gR L bad = R at *
  have Hs3 := Lib.hid hs3
  have HRL := Lib.hid hRL
  clear hs3 hRL hR2 hG4
  generalize hYL : gY L bad = YL at *
  have HYL := Lib.hid hYL
  clear hYL
  go_wp2_with fail
  refine (rdecode_any Y my dy YL w4 ownY.rb (by omega)).mono ?_
  rintro e w5 ⟨hyes, hno, hE5⟩
  replace hB1 := hB1.ext hE5
  replace own := own.ext hE5
  replace hR4 := hR4.later hE5
  replace hG2 := hG2.trans (hE5.grownBy _)
  clear hE5 ownY hqn hqlt hqlt1
  by_cases hd : refOK YL
  · obtain ⟨P, d1, Q, d2, rfl, rP, rQ⟩ := hyes hd
    have hEn := Ext.new w5 (.cells #[.int .i64 (decX YL), .slice P 64 d1, .slice Q 4 d2] 39)
    have hB5 := Blk.new w5 39 #[.int .i64 (decX YL), .slice P 64 d1, .slice Q 4 d2]
    replace hB1 := hB1.ext hEn
    replace own := own.ext hEn
    replace hR4 := hR4.later hEn
    replace rP := rP.ext hEn
    replace rQ := rQ.ext hEn
    replace hG2 := hG2.trans (hEn.grownBy _)
    clear hyes hno hEn
    have hR4' := hR4
    obtain ⟨A9, n9, c9, At9, B9, hb9, _⟩ := hR4'
    have z2 := hb9.cell (i := 2) (v := .bool s3.2) rfl
    cases hbad : s3.2 with
    | true =>
      rw [hbad] at z2
      have hgf : gOK L bad = false := by
        cases hg : gOK L bad with
        | false => rfl
        | true => have h1 := (Hok.out.1 hg).1; rw [Bool.eq_false_iff] at h1; exact absurd hbad h1
      have Hgf := Lib.hid hgf
      clear hgf hd rP rQ hB5
      have fhB10 := hB1.frozen 0
      have fhB11 := hB1.frozen 1
      have fhB12 := hB1.frozen 2
      have fhB13 := hB1.frozen 3
      have fhB14 := hB1.frozen 4
      have xhB10 := hB1.cell (i := 0) rfl
      have xhB11 := hB1.cell (i := 1) rfl
      have xhB12 := hB1.cell (i := 2) rfl
      have xhB13 := hB1.cell (i := 3) rfl
      have xhB14 := hB1.cell (i := 4) rfl
      go_wp2_with fail
      refine bodyPost_ret (results_sig rfl _ _ w.heap.size _ _ _ rfl (setall5 hB1 _ _ _ _ _) Try.underlying41 rfl rfl) rfl ?_
      rw [Hs3.out]
      exact ⟨fun h => absurd (Hgf.out.symm.trans h) (by decide), fun _ => rfl, hR4.set5 (by decide) hB1 _ _ _ _ _ _ _ _ _ _ _, grown5 hG2 (Nat.le_refl _) _ _ _ _ _⟩
    | false =>
      rw [hbad] at z2
      by_cases h256 : (256 : Int) < x
      · have hgf : gOK L bad = false := by
          cases hg : gOK L bad with
          | false => rfl
          | true => have h1 := (Hok.out.1 hg).2.2; omega
        have Hgf := Lib.hid hgf
        clear hgf hd rP rQ hB5
        have fhB10 := hB1.frozen 0
        have fhB11 := hB1.frozen 1
        have fhB12 := hB1.frozen 2
        have fhB13 := hB1.frozen 3
        have fhB14 := hB1.frozen 4
        have xhB10 := hB1.cell (i := 0) rfl
        have xhB11 := hB1.cell (i := 1) rfl
        have xhB12 := hB1.cell (i := 2) rfl
        have xhB13 := hB1.cell (i := 3) rfl
        have xhB14 := hB1.cell (i := 4) rfl
        go_wp2_with fail
        refine bodyPost_ret (results_sig rfl _ _ w.heap.size _ _ _ rfl (setall5 hB1 _ _ _ _ _) Try.underlying41 rfl rfl) rfl ?_
        rw [Hs3.out]
        exact ⟨fun h => absurd (Hgf.out.symm.trans h) (by decide), fun _ => rfl, hR4.set5 (by decide) hB1 _ _ _ _ _ _ _ _ _ _ _, grown5 hG2 (Nat.le_refl _) _ _ _ _ _⟩
      · have hgt : gOK L bad = true := Hok.out.2 ⟨hbad, hd, by omega⟩
        have Hgt := Lib.hid hgt
        obtain rfl : m = 32 := own.len.symm.trans (Hrl.out hbad)
        clear hgt hd
        have fhB10 := hB1.frozen 0
        have fhB11 := hB1.frozen 1
        have fhB12 := hB1.frozen 2
        have fhB13 := hB1.frozen 3
        have fhB14 := hB1.frozen 4
        have xhB10 := hB1.cell (i := 0) rfl
        have xhB11 := hB1.cell (i := 1) rfl
        have xhB12 := hB1.cell (i := 2) rfl
        have xhB13 := hB1.cell (i := 3) rfl
        have xhB14 := hB1.cell (i := 4) rfl
        have y0 := hB5.cell (i := 0) (v := .int .i64 (decX YL)) rfl
        have y1 := hB5.cell (i := 1) (v := .slice P 64 d1) rfl
        have y2 := hB5.cell (i := 2) (v := .slice Q 4 d2) rfl
        go_wp2_with fail
        refine bodyPost_ret (results_sig rfl _ _ w.heap.size _ _ _ rfl (setall5 hB1 _ _ _ _ _) Try.underlying41 rfl rfl) rfl ?_
        rw [Hx.out, Hs3.out, HRL.out, HYL.out]
        exact ⟨fun _ => ⟨B, d, P, d1, Q, d2, rfl, own.rb.set5 hB1 _ _ _ _ _ _ _ _ _ _ _, rP.set5 (by omega) hB1 _ _ _ _ _ _ _ _ _ _ _, rQ.set5 (by omega) hB1 _ _ _ _ _ _ _ _ _ _ _⟩, fun h => absurd (Hgt.out.symm.trans h) (by decide), hR4.set5 (by decide) hB1 _ _ _ _ _ _ _ _ _ _ _, grown5 hG2 (Nat.le_refl _) _ _ _ _ _⟩
  · obtain rfl := hno hd
    have hgf : gOK L bad = false := by
      cases hg : gOK L bad with
      | false => rfl
      | true => exact absurd (Hok.out.1 hg).2.1 hd
    have Hgf := Lib.hid hgf
    have hEn := Ext.new w5 (.cells #[.int .i64 0, .slice none 0 0, .slice none 0 0] 39)
    replace hB1 := hB1.ext hEn
    replace hR4 := hR4.later hEn
    replace hG2 := hG2.trans (hEn.grownBy _)
    clear hyes hno hEn hgf hd own
    have hR4' := hR4
    obtain ⟨A9, n9, c9, At9, B9, hb9, _⟩ := hR4'
    have z2 := hb9.cell (i := 2) (v := .bool s3.2) rfl
    have fhB10 := hB1.frozen 0
    have fhB11 := hB1.frozen 1
    have fhB12 := hB1.frozen 2
    have fhB13 := hB1.frozen 3
    have fhB14 := hB1.frozen 4
    have xhB10 := hB1.cell (i := 0) rfl
    have xhB11 := hB1.cell (i := 1) rfl
    have xhB12 := hB1.cell (i := 2) rfl
    have xhB13 := hB1.cell (i := 3) rfl
    have xhB14 := hB1.cell (i := 4) rfl
    cases hb3 : s3.2 with
    | true =>
      rw [hb3] at z2
      go_wp2_with fail
      refine bodyPost_ret (results_sig rfl _ _ w.heap.size _ _ _ rfl (setall5 hB1 _ _ _ _ _) Try.underlying41 rfl rfl) rfl ?_
      rw [Hs3.out]
      exact ⟨fun h => absurd (Hgf.out.symm.trans h) (by decide), fun _ => rfl, hR4.set5 (by decide) hB1 _ _ _ _ _ _ _ _ _ _ _, grown5 hG2 (Nat.le_refl _) _ _ _ _ _⟩
    | false =>
      rw [hb3] at z2
      go_wp2_with fail
      refine bodyPost_ret (results_sig rfl _ _ w.heap.size _ _ _ rfl (setall5 hB1 _ _ _ _ _) Try.underlying41 rfl rfl) rfl ?_
      rw [Hs3.out]
      exact ⟨fun h => absurd (Hgf.out.symm.trans h) (by decide), fun _ => rfl, hR4.set5 (by decide) hB1 _ _ _ _ _ _ _ _ _ _ _, grown5 hG2 (Nat.le_refl _) _ _ _ _ _⟩
end Go.Proofs.Ythggfbpdhkpkjaa
namespace Go.Proofs.Ythggfbpdhkpkjaa
set_option maxRecDepth 100000
open Go Go.RowKit
def u8of (x : Int) : UInt8 := UInt8.ofNat (x % 256).toNat
def khash (x : Int) : List UInt8 := tagged 98 [u8of (within x 0 100000)]
theorem conv_i64_u8x {P : Program} {w : World} {s t : TypeId} (hs : P.underlying s = some (.int .i64)) (ht : P.underlying t = some (.int .u8)) (x : Int) : (convert s t (.int .i64 x)).run P w = .ok (.int .u8 (u8i (u8of x))) w := by
  have e : IntKind.u8.wrap x = u8i (u8of x) := by
    unfold u8i u8of
    rw [IntKind.wrap_u8, UInt8.toNat_ofNat']
    omega
  simp [convert, run_underlying hs, run_underlying ht, Conv.intToInt, e]
theorem RBB.lit1 {w : World} {B : Option Addr} {m d : Nat} {L : List UInt8} (h : RB w B m d L) (t : TypeId) : RBB (w.alloc (.cells #[.slice B m d] t)) (some ⟨w.heap.size, 0, none⟩) 1 1 [L] :=
  ⟨rfl, Nat.le_refl _, small_maxLen (by decide), fun _ => ⟨_, rfl, fun j hj => by
    obtain rfl : j = 0 := by omega
    refine ⟨B, m, d, ?_, h.ext (Ext.new w _)⟩
    have e : (⟨w.heap.size, 0, none⟩ : Addr).add 0 = ⟨w.heap.size, 0, none⟩ := add_plain _ 0
    rw [e]
    exact (Blk.new w t _).cell rfl⟩⟩
set_option maxHeartbeats 1000000 in
theorem hash_any (x : Int) (w : World) (hx0 : -9223372036854775808 ≤ x) (hx1 : x ≤ 9223372036854775807) :
    Calls Try.prog 37 #[.int .i64 x] w fun e w' => ∃ A' c', e = .returned (.slice A' 32 c') ∧ OB w' w.heap.size A' 32 c' (khash x) ∧ Ext w w' := by
  have hc := fun w' : World => conv_i64_u8x (P := Try.prog) (w := w') Try.underlying3 Try.underlying5 (within x 0 100000)
  unfold khash
  obtain ⟨z, hz⟩ : ∃ z, z = within x 0 100000 := ⟨_, rfl⟩
  rw [← hz] at hc ⊢
  have Hz := Lib.hid hz
  clear hz
  go_enter Try.func37, Try.ntmps37
  go_wp2_with fail
  refine (within_any x 0 100000 w hx0 hx1 (by omega) (by omega) (by omega)).mono ?_
  rintro e w1 ⟨rfl, rfl⟩
  rw [← Hz.out]
  go_wp2_with fail
  have hb : RB (w.alloc (.cells #[.int .u8 (u8i (u8of z))] 5)) (some ⟨w.heap.size, 0, none⟩) 1 1 [u8of z] := RB.lit w [u8of z] rfl (small_maxLen (by simp))
  have hr := RBB.lit1 hb 22
  have hsz : (w.alloc (.cells #[.int .u8 (u8i (u8of z))] 5)).heap.size = w.heap.size + 1 := by
    show (w.heap.push _).size = _
    rw [Array.size_push]
  have hcon := rtagged_any 98 _ 1 1 [[u8of z]] _ hr (by simp)
  have e98 : u8i 98 = 98 := rfl
  rw [hsz, e98] at hcon
  refine hcon.mono ?_
  rintro e w2 ⟨A', c', rfl, own, hE⟩
  go_wp2_with fail
  go_ret
  have hE0 := ((Ext.refl w).alloc (.cells (bv [u8of z]).toArray 5)).alloc (.cells #[.slice (some ⟨w.heap.size, 0, none⟩) 1 1] 22)
  exact ⟨A', c', rfl, own.base hE0.size, hE0.trans hE⟩
end Go.Proofs.Ythggfbpdhkpkjaa
