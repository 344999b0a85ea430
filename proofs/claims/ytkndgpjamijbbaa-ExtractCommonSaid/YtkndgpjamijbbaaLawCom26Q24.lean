/-
  cosign.count, Count, Met; ref10's Count, walked. cosign.Sign, walked. law11's owners, walked: a row of owners. law11's policy, walked.
-/
import Derived.Test.YtkndgpjamijbbaaLawCom26Q23
namespace Go.Proofs.Ytkndgpjamijbbaa
set_option maxRecDepth 100000
open Go Go.RowKit
/-- a cosignature -/
structure CSig where
  wn : Int
  k : Int
  ps : List (List UInt8)
  qs : List (List UInt8)
def cz : CSig := ⟨0, 0, [], []⟩
def cg_ (gs : List CSig) (j : Nat) : CSig := gs.getD j cz
/-- a slice of cosignatures that is read -/
structure RCS (w : World) (A : Option Addr) (n c : Nat) (gs : List CSig) : Prop where
  len : gs.length = n
  room : n ≤ c
  cap : c ≤ maxLen
  cells : 0 < n → ∃ ad, A = some ad ∧ ∀ j, j < n → ∃ P np cp Q nq cq, w.cell? (ad.add (j * 4)) = some (.int .i64 (cg_ gs j).wn) ∧ w.cell? ((ad.add (j * 4)).add 1) = some (.int .i64 (cg_ gs j).k) ∧
    w.cell? ((ad.add (j * 4)).add 2) = some (.slice P np cp) ∧ w.cell? ((ad.add (j * 4)).add 3) = some (.slice Q nq cq) ∧ RBB w P np cp (cg_ gs j).ps ∧ RBB w Q nq cq (cg_ gs j).qs
theorem RCS.ext {w w' : World} {A : Option Addr} {n c : Nat} {gs : List CSig} (h : RCS w A n c gs) (e : Ext w w') : RCS w' A n c gs :=
  ⟨h.len, h.room, h.cap, fun hn => by
    obtain ⟨ad, ha, hc⟩ := h.cells hn
    refine ⟨ad, ha, fun j hj => ?_⟩
    obtain ⟨P, np, cp, Q, nq, cq, h1, h2, h3, h4, h5, h6⟩ := hc j hj
    exact ⟨P, np, cp, Q, nq, cq, e.cell h1, e.cell h2, e.cell h3, e.cell h4, h5.ext e, h6.ext e⟩⟩
def seenL (v : CSig → Bool) (gs : List CSig) (i : Nat) : Bool := gs.any fun g => decide (g.wn = (i : Int)) && v g
def b2i (b : Bool) : Int := if b = true then 1 else 0
/-- how many witnesses have one that verifies -/
def cntL (v : CSig → Bool) (gs : List CSig) : Int := b2i (seenL v gs 0) + b2i (seenL v gs 1) + b2i (seenL v gs 2) + b2i (seenL v gs 3)
theorem seenL_snoc (v : CSig → Bool) (gs : List CSig) (g : CSig) (i : Nat) : seenL v (gs ++ [g]) i = (seenL v gs i || (decide (g.wn = (i : Int)) && v g)) := by
  unfold seenL
  simp
theorem take_snoc_cg (gs : List CSig) (m : Nat) (hm : m < gs.length) : gs.take (m + 1) = gs.take m ++ [cg_ gs m] := by
  rw [List.take_succ_eq_append_getElem hm]
  congr 2
  simp [cg_, hm]
/-- one more that counts for nobody, or for somebody who has one -/
theorem cnt_same {v : CSig → Bool} {gs : List CSig} {g : CSig} (h : ∀ i : Nat, i < 4 → g.wn = (i : Int) → v g = true → seenL v gs i = true) : ∀ i, i < 4 → seenL v (gs ++ [g]) i = seenL v gs i := by
  intro i hi
  rw [seenL_snoc]
  by_cases h1 : g.wn = (i : Int)
  · cases hv : v g with
    | false => simp
    | true => rw [h i hi h1 hv]; simp
  · simp [h1]
theorem cntL_same {v : CSig → Bool} {gs gs' : List CSig} (h : ∀ i, i < 4 → seenL v gs' i = seenL v gs i) : cntL v gs' = cntL v gs := by
  unfold cntL
  rw [h 0 (by omega), h 1 (by omega), h 2 (by omega), h 3 (by omega)]
def boolsA (s : Nat → Bool) : Array Value := #[.bool (s 0), .bool (s 1), .bool (s 2), .bool (s 3)]
theorem boolsA_get (s : Nat → Bool) {j : Nat} (hj : j < 4) : (boolsA s)[j]? = some (.bool (s j)) := by
  match j, hj with
  | 0, _ => rfl
  | 1, _ => rfl
  | 2, _ => rfl
  | 3, _ => rfl
theorem boolsA_set (s s' : Nat → Bool) {j : Nat} (hj : j < 4) (h1 : s' j = true) (h2 : ∀ i, i < 4 → i ≠ j → s' i = s i) : (boolsA s).setIfInBounds j (.bool true) = boolsA s' := by
  unfold boolsA
  have hc : j = 0 ∨ j = 1 ∨ j = 2 ∨ j = 3 := by omega
  rcases hc with rfl | rfl | rfl | rfl
  · rw [h1, h2 1 (by omega) (by omega), h2 2 (by omega) (by omega), h2 3 (by omega) (by omega)]; rfl
  · rw [h1, h2 0 (by omega) (by omega), h2 2 (by omega) (by omega), h2 3 (by omega) (by omega)]; rfl
  · rw [h1, h2 0 (by omega) (by omega), h2 1 (by omega) (by omega), h2 3 (by omega) (by omega)]; rfl
  · rw [h1, h2 0 (by omega) (by omega), h2 1 (by omega) (by omega), h2 2 (by omega) (by omega)]; rfl
theorem boolsA_eq {s s' : Nat → Bool} (h : ∀ i, i < 4 → s' i = s i) : boolsA s' = boolsA s := by
  unfold boolsA
  rw [h 0 (by omega), h 1 (by omega), h 2 (by omega), h 3 (by omega)]
theorem cnt_more {v : CSig → Bool} {gs : List CSig} {g : CSig} {j : Nat} (hj : j < 4) (hw : g.wn = (j : Int)) (hv : v g = true) (hs : seenL v gs j = false) :
    seenL v (gs ++ [g]) j = true ∧ (∀ i, i < 4 → i ≠ j → seenL v (gs ++ [g]) i = seenL v gs i) ∧ cntL v (gs ++ [g]) = cntL v gs + 1 := by
  have h1 : seenL v (gs ++ [g]) j = true := by rw [seenL_snoc, hv]; simp [hw]
  have h2 : ∀ i, i < 4 → i ≠ j → seenL v (gs ++ [g]) i = seenL v gs i := by
    intro i hi hij
    rw [seenL_snoc]
    have : ¬ (g.wn = (i : Int)) := by omega
    simp [this]
  refine ⟨h1, h2, ?_⟩
  have hc : j = 0 ∨ j = 1 ∨ j = 2 ∨ j = 3 := by omega
  unfold cntL
  rcases hc with rfl | rfl | rfl | rfl
  · rw [h1, hs, h2 1 (by omega) (by omega), h2 2 (by omega) (by omega), h2 3 (by omega) (by omega)]; simp only [b2i]; simp; omega
  · rw [h1, hs, h2 0 (by omega) (by omega), h2 2 (by omega) (by omega), h2 3 (by omega) (by omega)]; simp only [b2i]; simp; omega
  · rw [h1, hs, h2 0 (by omega) (by omega), h2 1 (by omega) (by omega), h2 3 (by omega) (by omega)]; simp only [b2i]; simp; omega
  · rw [h1, hs, h2 0 (by omega) (by omega), h2 1 (by omega) (by omega), h2 2 (by omega) (by omega)]; simp only [b2i]; simp
theorem cntL_le (v : CSig → Bool) (gs : List CSig) : 0 ≤ cntL v gs ∧ cntL v gs ≤ 4 := by
  unfold cntL b2i
  refine ⟨?_, ?_⟩ <;> (repeat' split) <;> omega
end Go.Proofs.Ytkndgpjamijbbaa
namespace Go.Proofs.Ytkndgpjamijbbaa
set_option maxRecDepth 100000
open Go Go.RowKit
theorem setall4 {w : World} {g : Nat} {t : TypeId} {v0 v1 v2 v3 : Value} (h : Blk w g t #[v0, v1, v2, v3]) (u0 u1 u2 u3 : Value) :
    Blk ((((w.setCell ⟨g, 0, none⟩ u0).setCell ⟨g, 1, none⟩ u1).setCell ⟨g, 2, none⟩ u2).setCell ⟨g, 3, none⟩ u3) g t #[u0, u1, u2, u3] := (((h.set 0 u0).set 1 u1).set 2 u2).set 3 u3
theorem ext4 {a w : World} {g : Nat} (h : Ext a w) (hg : a.heap.size ≤ g) (u0 u1 u2 u3 : Value) :
    Ext a ((((w.setCell ⟨g, 0, none⟩ u0).setCell ⟨g, 1, none⟩ u1).setCell ⟨g, 2, none⟩ u2).setCell ⟨g, 3, none⟩ u3) :=
  (((h.set (p := ⟨g, 0, none⟩) hg u0).set (p := ⟨g, 1, none⟩) hg u1).set (p := ⟨g, 2, none⟩) hg u2).set (p := ⟨g, 3, none⟩) hg u3
/-- the cells of a cosignature -/
def cosC (x k : Int) (P : Option Addr) (np cp : Nat) (Q : Option Addr) (nq cq : Nat) : Array Value := #[.int .i64 x, .int .i64 k, .slice P np cp, .slice Q nq cq]
theorem cos_no (x k : Int) (P : Option Addr) (np cp : Nat) (Q : Option Addr) (nq cq i : Nat) (y : Int) : (cosC x k P np cp Q nq cq)[i]? ≠ some (.int .u8 y) := by
  unfold cosC
  rcases i with _ | _ | _ | _ | i <;> simp
theorem OBC.set4 {w : World} {base : Nat} {A : Option Addr} {n c : Nat} {L : List (List UInt8)} (h : OBC w base A n c L) {g : Nat} {t : TypeId} (ht : t ≠ 22) {x k : Int} {P Q : Option Addr} {np cp nq cq : Nat} (hB : Blk w g t (cosC x k P np cp Q nq cq))
    (x' k' : Int) (P1 Q1 : Option Addr) (np1 cp1 nq1 cq1 : Nat) : OBC ((((w.setCell ⟨g, 0, none⟩ (.int .i64 x')).setCell ⟨g, 1, none⟩ (.int .i64 k')).setCell ⟨g, 2, none⟩ (.slice P1 np1 cp1)).setCell ⟨g, 3, none⟩ (.slice Q1 nq1 cq1)) base A n c L := by
  have b0 : Blk (w.setCell ⟨g, 0, none⟩ (.int .i64 x')) g t (cosC x' k P np cp Q nq cq) := hB.set 0 _
  have b1 : Blk _ g t (cosC x' k' P np cp Q nq cq) := b0.set 1 (.int .i64 k')
  have b2 : Blk _ g t (cosC x' k' P1 np1 cp1 Q nq cq) := b1.set 2 (.slice P1 np1 cp1)
  exact (((h.far hB ht (cos_no _ _ _ _ _ _ _ _) (grown_set w ⟨g, 0, none⟩ (.int .i64 x'))).far b0 ht (cos_no _ _ _ _ _ _ _ _) (grown_set _ ⟨g, 1, none⟩ (.int .i64 k'))).far b1 ht (cos_no _ _ _ _ _ _ _ _) (grown_set _ ⟨g, 2, none⟩ (.slice P1 np1 cp1))).far b2 ht (cos_no _ _ _ _ _ _ _ _) (grown_set _ ⟨g, 3, none⟩ (.slice Q1 nq1 cq1))
end Go.Proofs.Ytkndgpjamijbbaa
namespace Go.Proofs.Ytkndgpjamijbbaa
set_option maxRecDepth 100000
open Go Go.RowKit
/-- an owner, with where its seed lies -/
def OwnS (w : World) (b g : Nat) (A : Option Addr) (S : List UInt8) : Prop :=
  ∃ c LA lc, RB w A 32 c S ∧ Blk w g 95 #[.slice A 32 c, .slice LA 5 lc] ∧ LevO w b LA 5 lc S
theorem OwnS.own {w : World} {b g : Nat} {A : Option Addr} {S : List UInt8} (h : OwnS w b g A S) : OwnR w b g S := by
  obtain ⟨c, LA, lc, h1, h2, h3⟩ := h
  exact ⟨A, c, LA, lc, h1, h2, h3⟩
theorem OwnS.ext {w w' : World} {b g : Nat} {A : Option Addr} {S : List UInt8} (h : OwnS w b g A S) (e : Ext w w') : OwnS w' b g A S := by
  obtain ⟨c, LA, lc, h1, h2, h3⟩ := h
  exact ⟨c, LA, lc, h1.ext e, h2.ext e, h3.ext e⟩
theorem OwnS.grown {w w' : World} {b g : Nat} {A : Option Addr} {S : List UInt8} {row : Option Nat} (h : OwnS w b g A S) (hb : ∀ k, row = some k → ∃ cs, Blk w k 37 cs) (hne : blk A ≠ row) (e : w.grownBy w' row) : OwnS w' b g A S := by
  cases row with
  | none => exact h.ext ((Ext.refl w).then_grown e (fun b hb => by cases hb))
  | some k =>
    obtain ⟨cs, hk⟩ := hb k rfl
    obtain ⟨c, LA, lc, h1, h2, h3⟩ := h
    refine ⟨c, LA, lc, h1.grown e (fun _ => hne), h2.grown e (fun e' => ?_), h3.far hk (by decide) (by decide) (by decide) e⟩
    injection e' with e'
    subst e'
    unfold Blk at h2 hk
    rw [h2] at hk
    injection hk with hk
    injection hk with _ hk
    revert hk
    decide
theorem OwnS.blk_lt {w : World} {b g : Nat} {A : Option Addr} {S : List UInt8} (h : OwnS w b g A S) {k : Nat} (hk : blk A = some k) : k < w.heap.size := by
  obtain ⟨c, LA, lc, h1, _⟩ := h
  exact rb_blk_lt h1 (by omega) k hk
set_option maxHeartbeats 4000000 in
theorem rnew_at (A : Option Addr) (c : Nat) (S : List UInt8) (w : World) (hr : RB w A 32 c S) :
    Calls Try.prog 22 #[.slice A 32 c] w fun e w' => e = .returned (.pointer (some ⟨w.heap.size, 0, none⟩)) ∧ OwnS w' w.heap.size w.heap.size A S ∧ Ext w w' := by
  go_enter Try.func22, Try.ntmps22
  have hE1 := Ext.new w (.cells #[.slice A 32 c, .slice none 0 0] 95)
  have hB1 := Blk.new w 95 #[.slice A 32 c, .slice none 0 0]
  go_wp2_with fail
  go_loopw [4, 5] (fun v i wr => LeavesI (w.alloc (.cells #[.slice A 32 c, .slice none 0 0] 95)) S v i wr) (fun _ i _ => 16 - (intOf i).toNat)
  case atStart => exact ⟨0, 0, none, by omega, rfl, rfl, OBD.none_ _ _, Ext.refl _⟩
  case round =>
    obtain ⟨k, d, P, hk, rfl, rfl, own, hEr⟩ := hrel
    have hB2 := hB1.ext hEr
    have hE2 := hE1.trans hEr
    by_cases hlt : k < 16
    · have hki : (k : Int) < 16 := by omega
      go_wp2_with fail
      refine (r4public_any A 32 c S k wr (hr.ext hE2) (by omega)).mono ?_
      rintro e w3 ⟨A3, c3, rfl, own3, hE3⟩
      obtain ⟨ad3, rfl, _⟩ := own3.rb.cells (by omega)
      obtain ⟨g3, rfl⟩ := own3.plain
      have hEw := hEr.trans hE3
      have hEa := Ext.new w3 (.cells #[.slice (some ⟨g3, 0, none⟩) 32 c3] 22)
      have hBa := Blk.new w3 22 #[.slice (some ⟨g3, 0, none⟩) 32 c3]
      have own4 := (own.ext hE3).ext hEa
      have hne : some g3 ≠ blk P := by
        intro e
        have h1 := own3.ge
        have h2 := own.lt e.symm
        omega
      go_wp2_with (refine appbd_law (base := (w.alloc (.cells #[.slice A 32 c, .slice none 0 0] 95)).heap.size) (Y := publicL S ((k : Nat) : Int)) rfl rfl rfl rfl (by rw [add_plain]; exact hBa.cell (i := 0) rfl) own4 ((own3.base hEr.size).ext hEa) hne (hEw.trans hEa).size (by omega) ?_; intro P5 d5 w5 own5 g5)
      go_roundw
      case rel =>
        refine ⟨k + 1, d5, P5, by omega, by go_num, rfl, ?_, (hEw.trans hEa).then_grown g5 (fun b hb => (own4.lt hb).1)⟩
        rw [range_snoc]
        exact own5
      case measure => simp [intOf]; omega
    · obtain rfl : k = 16 := by omega
      have ownB := own.base hE1.size
      have y0 : wr.cell? ⟨w.heap.size, 1, none⟩ = some (.slice none 0 0) := hB2.cell (i := 1) rfl
      obtain ⟨gP, rfl⟩ := own.plain (by omega)
      have hEa := Ext.new wr (.cells #[.slice (some ⟨gP, 0, none⟩) 16 d] 23)
      have hBa := Blk.new wr 23 #[.slice (some ⟨gP, 0, none⟩) 16 d]
      have own4 : OBD (wr.alloc (.cells #[.slice (some ⟨gP, 0, none⟩) 16 d] 23)) w.heap.size (some ⟨gP, 0, none⟩) (16 / 2 ^ 0) d (lev S 0) := ownB.ext hEa
      have hB4 := hB2.ext hEa
      have hEs := (hE2.trans hEa).size
      go_wp2_with (refine appl_law (b := w.heap.size) (n := 0) (g := gP) (d := d) (S := S) rfl rfl rfl rfl (by rw [add_plain]; exact hBa.cell (i := 0) rfl) (LevO.none_ _ _ _) own4 hEs (by omega) ?_; intro A5 c5 w5 lev5 own5 g5; have hB5 := hB4.grown g5 (by intro e; cases e); have y5 := hB5.cell (i := 1) (v := .slice none 0 0) rfl; have y6 := hB5.frozen 1)
      have gs := grown_set w5 ⟨w.heap.size, 1, none⟩ (.slice A5 1 c5)
      have lev6 := lev5.far hB5 (by decide) (by decide) (by decide) gs
      have own6 := own5.far gs (fun k hk => by cases hk; exact hB5.other (by decide) (by decide))
      have hB6 := hB5.set 1 (.slice A5 1 c5)
      have hE6 := ((hE2.trans hEa).then_grown g5 (fun b hb => by cases hb)).set (p := ⟨w.heap.size, 1, none⟩) (Nat.le_refl _) (.slice A5 1 c5)
      clear lev5 own5 g5 hB5 y5 y6 gs hB4 own4 hBa y0 ownB own hB2
      go_loopw [4] (fun v wr => NewI w A c S v wr) (fun v _ => sliceLen v)
      case atStart => exact ⟨0, d, c5, _, A5, by omega, rfl, own6, lev6, hB6, hE6⟩
      case round =>
        clear lev6 own6 hB6 hE6 hEs hB1 hEr hE1 hE2 hEa
        obtain ⟨h, d, c', P, A', hh, rfl, own, lv, hB, hEo⟩ := hrel
        obtain ⟨wo, rfl⟩ : ∃ wo, wo = wr := ⟨_, rfl⟩
        by_cases hlt : h < 4
        · obtain ⟨p1, p2, p3, p4⟩ := pow_step hlt
          have hap := fun (wx : World) (g5 d5 : Nat) (hown : OBD wx w.heap.size (some ⟨g5, 0, none⟩) (16 / 2 ^ h / 2) d5 (upL (lev S h))) => (show OBD wx w.heap.size (some ⟨g5, 0, none⟩) (16 / 2 ^ (h + 1)) d5 (lev S (h + 1)) by rw [p3] at hown; exact hown)
          have Hap := Lib.hid hap
          have HN := Lib.hid p3
          have h5 : 1 < 16 / 2 ^ h := by omega
          have hup : upL (lev S h) = (List.range (16 / 2 ^ h / 2)).map fun i => nodeV (lb (lev S h) (2 * i)) (lb (lev S h) (2 * i + 1)) := by unfold upL; rw [own.len]
          have Hup := Lib.hid hup
          clear hap p3 p4 hup
          generalize lev S h = LV at *
          generalize 16 / 2 ^ h = N at *
          have hN : (1 : Int) < (N : Int) := by omega
          obtain ⟨g, rfl⟩ := own.plain (by omega)
          go_wp2_with fail
          go_loopw [6, 7] (fun v i wi => AboveI wo N LV v i wi) (fun _ i _ => N - (intOf i).toNat)
          case atStart => exact ⟨0, 0, none, by omega, rfl, rfl, OBD.none_ _ _, Ext.refl _⟩
          case round =>
            obtain ⟨k, dk, Pk, hk, rfl, rfl, ownk, hEk⟩ := hrel
            by_cases hlt2 : 2 * k + 1 < N
            · have hki : ((2 * k : Nat) : Int) < (N : Int) := by omega
              obtain ⟨g1, d1, hc1, o1⟩ := (own.ext hEk).cell (j := 2 * k) (by omega)
              obtain ⟨g2, d2, hc2, o2⟩ := (own.ext hEk).cell (j := 2 * k + 1) (by omega)
              have r1 := o1.rb
              have r2 := o2.rb
              have hl1 := r1.len
              have hl2 := r2.len
              have Hl1 := Lib.hid hl1
              have Hl2 := Lib.hid hl2
              clear hl1 hl2 o1 o2
              obtain ⟨X, hX⟩ : ∃ X, X = lb LV (2 * k) := ⟨_, rfl⟩
              obtain ⟨Y, hY⟩ : ∃ Y, Y = lb LV (2 * k + 1) := ⟨_, rfl⟩
              rw [← hX] at r1 Hl1
              rw [← hY] at r2 Hl2
              have HX := Lib.hid hX
              have HY := Lib.hid hY
              clear hX hY
              go_upto_region 13 with (fail)
              refine par_ext (n := 13) (by kernel_rfl) [.is (.slice (Pk) (k) (dk)), .is (.slice (some ⟨g, 0, none⟩) (N) (d)), .is (.int .i64 (((2 * k : Nat) : Int))), .is (.pointer (some ((⟨g, 0, none⟩ : Addr).add ((2 * k))))), .is (.slice (some ⟨g1, 0, none⟩) (32) (d1)), .is (.slice (some ⟨g, 0, none⟩) (N) (d)), .is (.int .i64 (((2 * k : Nat) : Int))), .is (.int .i64 (((2 * k : Nat) : Int) + (1 : Int))), .is (.pointer (some ((⟨g, 0, none⟩ : Addr).add (((2 * k) + 1))))), .is (.slice (some ⟨g2, 0, none⟩) (32) (d2)), .rbb ([X, Y]), .ob32 (wr.heap.size) (nodeV X Y), .one32 (wr.heap.size) (nodeV X Y)] rfl ⟨?_, ?_, ?_, ?_, ?_, ?_, ?_, ?_, ?_, ?_, ?_, ?_, ?_, trivial⟩ ?_
              · refine stepE rfl fun sdn sa sw sE sd sk => ?_
                have h6 : sa.eval (.tmp 6) = .slice (Pk) (k) (dk) := sk.old 6 rfl
                exact Runs.move rfl h6 ⟨Ext.refl _, rfl⟩
              · refine stepE rfl fun sdn sa sw sE sd sk => ?_
                have h4 : sa.eval (.tmp 4) = .slice (some ⟨g, 0, none⟩) (N) (d) := sk.old 4 rfl
                exact Runs.move rfl h4 ⟨Ext.refl _, rfl⟩
              · refine stepE rfl fun sdn sa sw sE sd sk => ?_
                have h7 : sa.eval (.tmp 7) = .int .i64 (((2 * k : Nat) : Int)) := sk.old 7 rfl
                exact Runs.move rfl h7 ⟨Ext.refl _, rfl⟩
              · refine stepE rfl fun sdn sa sw sE sd sk => ?_
                have h41 : sa.eval (.tmp 41) = .slice (some ⟨g, 0, none⟩) (N) (d) := sk.fact 1 41 rfl (sd 1 rfl)
                have h42 : sa.eval (.tmp 42) = .int .i64 (((2 * k : Nat) : Int)) := sk.fact 2 42 rfl (sd 2 rfl)
                exact Runs.idx rfl h41 h42 (run_idx_sl1 Try.underlying23 infZZ_eq infZZ_size ((2 * k)) (by omega) (by omega)) ⟨Ext.refl _, rfl⟩
              · refine stepE rfl fun sdn sa sw sE sd sk => ?_
                have h43 : sa.eval (.tmp 43) = .pointer (some ((⟨g, 0, none⟩ : Addr).add ((2 * k)))) := sk.fact 3 43 rfl (sd 3 rfl)
                exact Runs.load rfl h43 (run_load1 Try.underlying22 rfl (sE.cell hc1)) ⟨Ext.refl _, rfl⟩
              · refine stepE rfl fun sdn sa sw sE sd sk => ?_
                have h4 : sa.eval (.tmp 4) = .slice (some ⟨g, 0, none⟩) (N) (d) := sk.old 4 rfl
                exact Runs.move rfl h4 ⟨Ext.refl _, rfl⟩
              · refine stepE rfl fun sdn sa sw sE sd sk => ?_
                have h7 : sa.eval (.tmp 7) = .int .i64 (((2 * k : Nat) : Int)) := sk.old 7 rfl
                exact Runs.move rfl h7 ⟨Ext.refl _, rfl⟩
              · refine stepE rfl fun sdn sa sw sE sd sk => ?_
                have h46 : sa.eval (.tmp 46) = .int .i64 (((2 * k : Nat) : Int)) := sk.fact 6 46 rfl (sd 6 rfl)
                exact Runs.bin rfl h46 rfl (eqGuard_bin rfl) (bin_add64 _ _ _ (by omega) (by omega)) ⟨Ext.refl _, rfl⟩
              · refine stepE rfl fun sdn sa sw sE sd sk => ?_
                have h45 : sa.eval (.tmp 45) = .slice (some ⟨g, 0, none⟩) (N) (d) := sk.fact 5 45 rfl (sd 5 rfl)
                have h47 : sa.eval (.tmp 47) = .int .i64 (((2 * k : Nat) : Int) + (1 : Int)) := sk.fact 7 47 rfl (sd 7 rfl)
                exact Runs.idx rfl h45 h47 (run_idx_sl1 Try.underlying23 infZZ_eq infZZ_size (((2 * k) + 1)) (by omega) (by omega)) ⟨Ext.refl _, rfl⟩
              · refine stepE rfl fun sdn sa sw sE sd sk => ?_
                have h48 : sa.eval (.tmp 48) = .pointer (some ((⟨g, 0, none⟩ : Addr).add (((2 * k) + 1)))) := sk.fact 8 48 rfl (sd 8 rfl)
                exact Runs.load rfl h48 (run_load1 Try.underlying22 rfl (sE.cell hc2)) ⟨Ext.refl _, rfl⟩
              · refine stepE rfl fun sdn sa sw sE sd sk => ?_
                have h44 : sa.eval (.tmp 44) = .slice (some ⟨g1, 0, none⟩) (32) (d1) := sk.fact 4 44 rfl (sd 4 rfl)
                have h49 : sa.eval (.tmp 49) = .slice (some ⟨g2, 0, none⟩) (32) (d2) := sk.fact 9 49 rfl (sd 9 rfl)
                exact Runs.ss2 rfl h44 h49 (r1.ext sE) (r2.ext sE) (fun w1 e1 b1 => ⟨e1, _, _, _, rfl, b1⟩)
              · refine stepE rfl fun sdn sa sw sE sd sk => ?_
                obtain ⟨A50, n50, c50, h50, r50⟩ := sk.fact 10 50 rfl (sd 10 rfl)
                refine Runs.call (f := 60) (vs := [.int .u8 (u8i (14 : UInt8)), .slice (A50) (n50) (c50)]) rfl rfl rfl (by simp only [List.map_toArray, List.map_cons, List.map_nil, h50] <;> rfl) (ent60 _ _) ((rtagged_any (14 : UInt8) _ _ _ _ sw r50 (by simp only [List.flatten_cons, List.flatten_nil, List.length_append, List.length_nil, Hl1.out, Hl2.out]; omega)).mono ?_); rintro e w' ⟨A', c', rfl, own, hx⟩; obtain ⟨ad', rfl, _⟩ := own.rb.cells (by omega); obtain ⟨g', rfl⟩ := own.plain; exact ⟨_, rfl, hx, g', c', rfl, (show OB w' sw.heap.size _ 32 c' (nodeV X Y) by simpa [nodeV] using own).base sE.size⟩
              · refine stepE rfl fun sdn sa sw sE sd sk => ?_
                obtain ⟨g51, d51, h51, o51⟩ := sk.fact 11 51 rfl (sd 11 rfl)
                exact Runs.one1 rfl h51 (fun w1 e1 b1 => ⟨e1, _, _, _, rfl, b1, o51.ext e1⟩)
              intro vals W1 hE hv
              have e0 : vals 0 = .slice (Pk) (k) (dk) := hv 0 (by omega) 40 rfl
              have e1 : vals 1 = .slice (some ⟨g, 0, none⟩) (N) (d) := hv 1 (by omega) 41 rfl
              have e2 : vals 2 = .int .i64 (((2 * k : Nat) : Int)) := hv 2 (by omega) 42 rfl
              have e3 : vals 3 = .pointer (some ((⟨g, 0, none⟩ : Addr).add ((2 * k)))) := hv 3 (by omega) 43 rfl
              have e4 : vals 4 = .slice (some ⟨g1, 0, none⟩) (32) (d1) := hv 4 (by omega) 44 rfl
              have e5 : vals 5 = .slice (some ⟨g, 0, none⟩) (N) (d) := hv 5 (by omega) 45 rfl
              have e6 : vals 6 = .int .i64 (((2 * k : Nat) : Int)) := hv 6 (by omega) 46 rfl
              have e7 : vals 7 = .int .i64 (((2 * k : Nat) : Int) + (1 : Int)) := hv 7 (by omega) 47 rfl
              have e8 : vals 8 = .pointer (some ((⟨g, 0, none⟩ : Addr).add (((2 * k) + 1)))) := hv 8 (by omega) 48 rfl
              have e9 : vals 9 = .slice (some ⟨g2, 0, none⟩) (32) (d2) := hv 9 (by omega) 49 rfl
              obtain ⟨A50, n50, c50, e10, r50⟩ := hv 10 (by omega) 50 rfl
              obtain ⟨g51, d51, e11, o51⟩ := hv 11 (by omega) 51 rfl
              obtain ⟨x52, g52, d52, e12, hc52, o52⟩ := hv 12 (by omega) 52 rfl
              simp only [putAll, Act.put, List.take_succ_cons, List.take_zero, List.drop_succ_cons, List.drop_zero, List.drop_nil, List.take_nil, Nat.reduceAdd, List.setIfInBounds_toArray, List.set_cons_succ, List.set_cons_zero, e0, e1, e2, e3, e4, e5, e6, e7, e8, e9, e10, e11, e12]
              clear hv e0 e1 e2 e3 e4 e5 e6 e7 e8 e9 e10 e11 e12
              have ownW := ownk.ext hE
              have hEw := hEk.trans hE
              have hne : some g52 ≠ blk Pk := by
                intro e
                have h1 := o52.ge
                have h2 := ownk.lt e.symm
                omega
              have oV := o52.base hEk.size
              go_wp2_with (refine appbd_law (base := wo.heap.size) (Y := nodeV X Y) rfl rfl rfl rfl hc52 ownW oV hne hEw.size (by omega) ?_; intro P5 d5 w5 own5 g5)
              go_roundw
              case rel =>
                refine ⟨k + 1, d5, P5, by omega, by go_num, rfl, ?_, hEw.then_grown g5 (fun b hb => (ownW.lt hb).1)⟩
                rw [range_snoc, ← HX.out, ← HY.out]
                exact own5
              case measure => simp [intOf]; omega
            · obtain rfl : k = N / 2 := by omega
              have hki : ¬ (((2 * (N / 2) : Nat) : Int) < (N : Int)) := by omega
              rw [← Hup.out] at ownk
              obtain ⟨gk, rfl⟩ := ownk.plain (by omega)
              have ownB := Hap.out _ _ _ (ownk.base hEo.size)
              have levk := lv.ext hEk
              have hBk := hB.ext hEk
              have hEok := hEo.trans hEk
              have y0 : wr.cell? ⟨w.heap.size, 1, none⟩ = some (.slice A' (h + 1) c') := hBk.cell (i := 1) rfl
              have hEa := Ext.new wr (.cells #[.slice (some ⟨gk, 0, none⟩) (N / 2) dk] 23)
              have hBa := Blk.new wr 23 #[.slice (some ⟨gk, 0, none⟩) (N / 2) dk]
              have hca := hBa.cell (i := 0) rfl
              have hca2 : (wr.alloc (.cells #[.slice (some ⟨gk, 0, none⟩) (N / 2) dk] 23)).cell? ((⟨wr.heap.size, 0, none⟩ : Addr).add 0) = some (.slice (some ⟨gk, 0, none⟩) (16 / 2 ^ (h + 1)) dk) := by rw [add_plain, ← HN.out]; exact hca
              have own4 := ownB.ext hEa
              have lev4 := levk.ext hEa
              have hB4 := hBk.ext hEa
              have hE4 := hEok.trans hEa
              have hne8 : some w.heap.size ≠ blk A' := by
                intro e
                obtain ⟨cs, t, fr, h1, h2, h3⟩ := lev4.other e.symm
                obtain ⟨vs, h4, _⟩ := lev4
                obtain ⟨cs', h5⟩ := row_type h4 (k := w.heap.size) (by rw [ownBlock_slice]; exact e.symm)
                rw [show _ = _ from hB4] at h5
                injection h5 with h5
                injection h5 with _ h5
                revert h5
                decide
              clear hB lv ownk levk hBk hEok ownB hBa hca own
              go_wp2_with (refine appl_law (b := w.heap.size) (n := h + 1) (g := gk) (d := dk) (S := S) rfl rfl rfl rfl hca2 lev4 own4 hE4.size (by omega) ?_; intro A5 c5 w5 lev5 own5 g5; have hB5 := hB4.grown g5 hne8; have y5 := hB5.cell (i := 1) (v := .slice A' (h + 1) c') rfl; have y6 := hB5.frozen 1)
              have gs := grown_set w5 ⟨w.heap.size, 1, none⟩ (.slice A5 (h + 1 + 1) c5)
              have lev6 := lev5.far hB5 (by decide) (by decide) (by decide) gs
              have own6 := own5.far gs (fun k hk => by cases hk; exact hB5.other (by decide) (by decide))
              have hB6 := hB5.set 1 (.slice A5 (h + 1 + 1) c5)
              have hE6 := (hE4.then_grown g5 (fun b hb => (lev4.lt hb).1)).set (p := ⟨w.heap.size, 1, none⟩) (Nat.le_refl _) (.slice A5 (h + 1 + 1) c5)
              clear lev5 own5 g5 hB5 y5 y6 gs hB4 own4 y0
              go_roundw
              case rel => exact ⟨h + 1, dk, c5, _, A5, by omega, by rw [HN.out], own6, lev6, hB6, hE6⟩
              case measure => simp [sliceLen]; omega
        · obtain rfl : h = 4 := by omega
          have e4 : (Value.slice P (16 / 2 ^ 4) d) = .slice P 1 d := rfl
          rw [e4]
          clear e4
          go_wp2_with fail
          go_ret
          exact ⟨rfl, ⟨c, A', c', hr.ext hEo, hB, lv⟩, hEo⟩

/-- a row of owners of the call's own -/
def OwO (w : World) (base : Nat) (A : Option Addr) (n c : Nat) (Ss : List (List UInt8)) : Prop :=
  ∃ vs : List Value, w.ownsRow base 37 1 (.slice A n c) n vs ∧ Ss.length = n ∧ ∀ j, j < n → ∃ g b B, vs[j]? = some (.pointer (some ⟨g, 0, none⟩)) ∧ OwnS w b g B (lb Ss j) ∧ blk B ≠ blk A
theorem OwO.none_ (w : World) (base : Nat) : OwO w base none 0 0 [] := ⟨[], World.ownsRow_nil w _ _ _, rfl, fun j hj => absurd hj (Nat.not_lt_zero _)⟩
theorem OwO.ext {w w' : World} {base : Nat} {A : Option Addr} {n c : Nat} {Ss : List (List UInt8)} (h : OwO w base A n c Ss) (e : Ext w w') : OwO w' base A n c Ss := by
  obtain ⟨vs, h1, h2, h3⟩ := h
  refine ⟨vs, World.ownsRow.kept h1 (e.grownBy none) ?_, h2, fun j hj => ?_⟩
  · cases hb : Value.ownBlock (.slice A n c) <;> simp
  · obtain ⟨g, b, B, h4, h5, h6⟩ := h3 j hj
    exact ⟨g, b, B, h4, h5.ext e, h6⟩
theorem OwO.lt {w : World} {base n c : Nat} {A : Option Addr} {Ss : List (List UInt8)} (h : OwO w base A n c Ss) {k : Nat} (hk : blk A = some k) : base ≤ k ∧ k < w.heap.size := by
  obtain ⟨vs, h1, _⟩ := h
  exact World.ownsRow.lt h1 k (by rw [ownBlock_slice]; exact hk)
theorem OwO.cell {w : World} {base n c : Nat} {A : Option Addr} {Ss : List (List UInt8)} (h : OwO w base A n c Ss) {j : Nat} (hj : j < n) :
    ∃ gA g b B, A = some ⟨gA, 0, none⟩ ∧ w.cell? ⟨gA, j, none⟩ = some (.pointer (some ⟨g, 0, none⟩)) ∧ OwnS w b g B (lb Ss j) := by
  obtain ⟨vs, h1, h2, h3⟩ := h
  obtain ⟨g, b, B, h4, h5, _⟩ := h3 j hj
  have hr := h1.2
  rcases hr with ⟨_, hn⟩ | ⟨gA, cap, cur, hv, hb, hg, hnc, hcm, hcs, ht⟩
  · omega
  · injection hv with e1 e2 e3
    subst e1
    have hc := World.ownsRow.cells h1 (g := gA) rfl j _ h4
    rw [add_plain] at hc
    exact ⟨gA, g, b, B, rfl, hc, h5⟩
theorem info_po : (Try.prog.info? 37).map (fun i => (i.zero, i.size, i.bytes)) = some (some (.pointer none), 1, 8) := by kernel_rfl
end Go.Proofs.Ytkndgpjamijbbaa
namespace Go.Proofs.Ytkndgpjamijbbaa
set_option maxRecDepth 100000
open Go Go.RowKit
noncomputable def infO : TypeInfo := (Try.prog.info? 37).getD default
theorem infO_eq : Try.prog.info? 37 = some infO := by kernel_rfl
theorem infO_size : infO.size = 1 := by kernel_rfl
theorem rpublic_own (g b : Nat) (S : List UInt8) (w : World) (h : OwnR w b g S) :
    Calls Try.prog 27 #[.pointer (some ⟨g, 0, none⟩)] w fun e w' => ∃ g' c', e = .returned (.slice (some ⟨g', 0, none⟩) 32 c') ∧ OB w' b (some ⟨g', 0, none⟩) 32 c' (ownP S) ∧ Ext w w' := by
  obtain ⟨A, c, LA, lc, h1, h2, h3⟩ := h
  obtain ⟨gl, rfl⟩ := h3.plain (by omega)
  obtain ⟨g4, d4, hc4, o4⟩ := h3.cell (j := 4) (by omega)
  have e4 : (Value.slice (some (⟨g4, 0, none⟩ : Addr)) (16 / 2 ^ 4) d4) = .slice (some ⟨g4, 0, none⟩) 1 d4 := rfl
  rw [e4, add_plain] at hc4
  have o4' : OBD w b (some ⟨g4, 0, none⟩) 1 d4 (lev S 4) := o4
  obtain ⟨g5, d5, hc5, o5⟩ := o4'.cell (j := 0) (by omega)
  rw [add_plain] at hc5
  have y1 : w.cell? ⟨g, 1, none⟩ = some (.slice (some ⟨gl, 0, none⟩) 5 lc) := h2.cell (i := 1) rfl
  clear e4 o4 h1
  go_enter Try.func27, Try.ntmps27
  go_wp2_with fail
  go_ret
  exact ⟨_, d5, rfl, o5, Ext.refl _⟩

theorem OwO.room {w : World} {base n c : Nat} {A : Option Addr} {Ss : List (List UInt8)} (h : OwO w base A n c Ss) : n ≤ c := by
  obtain ⟨vs, h1, _⟩ := h
  rcases h1.2 with ⟨hv, hn⟩ | ⟨g, cap, cur, hv, hb, hg, hnc, hcm, hcs, ht⟩
  · omega
  · injection hv with e1 e2 e3
    omega
theorem OB.apart {w : World} {b b' n c n' c' : Nat} {A : Option Addr} {L : List UInt8} {B : Option Addr} {Ls : List (List UInt8)} (h : OB w b A n c L) (h' : OBC w b' B n' c' Ls) : blk A = none ∨ blk A ≠ blk B := by
  cases hA : blk A with
  | none => exact .inl rfl
  | some k =>
    refine .inr fun e => ?_
    obtain ⟨cs, hcs⟩ := row_type h (k := k) (by rw [ownBlock_slice]; exact hA)
    obtain ⟨vs, r1, _⟩ := h'
    exact row_ne r1 hcs (by decide) (by rw [ownBlock_slice]; exact e.symm)
theorem OB.apart_blk {w : World} {b n c g : Nat} {A : Option Addr} {L : List UInt8} {t : TypeId} {cs : Array Value} (h : OB w b A n c L) (hb : Blk w g t cs) (ht : t ≠ 5) : blk A = none ∨ blk A ≠ some g := by
  refine .inr fun e => ?_
  exact row_ne h hb ht (by rw [ownBlock_slice]; exact e)
theorem OBC.apart_blk {w : World} {b n c g : Nat} {A : Option Addr} {Ls : List (List UInt8)} {t : TypeId} {cs : Array Value} (h : OBC w b A n c Ls) (hb : Blk w g t cs) (ht : t ≠ 22) : some g ≠ blk A := by
  intro e
  obtain ⟨vs, r1, _⟩ := h
  exact row_ne r1 hb ht (by rw [ownBlock_slice]; exact e.symm)
end Go.Proofs.Ytkndgpjamijbbaa
