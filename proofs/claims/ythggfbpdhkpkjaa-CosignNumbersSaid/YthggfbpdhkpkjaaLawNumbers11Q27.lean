/-
  cosign.count, Count, Met; ref10's Count, walked.
-/
import Derived.Test.YthggfbpdhkpkjaaLawNumbers11Q26
namespace Go.Proofs.Ythggfbpdhkpkjaa
set_option maxRecDepth 100000
open Go Go.RowKit
/-- a cosignature -/
structure CSig where
  wn : Int
  k : Int
  ps : List (List UInt8)
  qs : List (List UInt8)
def cz : CSig := ⟨0, 0, [], []⟩
def cg_ (gs : List CSig) (j : Nat) : CSig := gs.getD j cz
/-- a slice of cosignatures that is read -/
structure RCS (w : World) (A : Option Addr) (n c : Nat) (gs : List CSig) : Prop where
  len : gs.length = n
  room : n ≤ c
  cap : c ≤ maxLen
  cells : 0 < n → ∃ ad, A = some ad ∧ ∀ j, j < n → ∃ P np cp Q nq cq, w.cell? (ad.add (j * 4)) = some (.int .i64 (cg_ gs j).wn) ∧ w.cell? ((ad.add (j * 4)).add 1) = some (.int .i64 (cg_ gs j).k) ∧
    w.cell? ((ad.add (j * 4)).add 2) = some (.slice P np cp) ∧ w.cell? ((ad.add (j * 4)).add 3) = some (.slice Q nq cq) ∧ RBB w P np cp (cg_ gs j).ps ∧ RBB w Q nq cq (cg_ gs j).qs
theorem RCS.ext {w w' : World} {A : Option Addr} {n c : Nat} {gs : List CSig} (h : RCS w A n c gs) (e : Ext w w') : RCS w' A n c gs :=
  ⟨h.len, h.room, h.cap, fun hn => by
    obtain ⟨ad, ha, hc⟩ := h.cells hn
    refine ⟨ad, ha, fun j hj => ?_⟩
    obtain ⟨P, np, cp, Q, nq, cq, h1, h2, h3, h4, h5, h6⟩ := hc j hj
    exact ⟨P, np, cp, Q, nq, cq, e.cell h1, e.cell h2, e.cell h3, e.cell h4, h5.ext e, h6.ext e⟩⟩
def seenL (v : CSig → Bool) (gs : List CSig) (i : Nat) : Bool := gs.any fun g => decide (g.wn = (i : Int)) && v g
def b2i (b : Bool) : Int := if b = true then 1 else 0
/-- how many witnesses have one that verifies -/
def cntL (v : CSig → Bool) (gs : List CSig) : Int := b2i (seenL v gs 0) + b2i (seenL v gs 1) + b2i (seenL v gs 2) + b2i (seenL v gs 3)
theorem seenL_snoc (v : CSig → Bool) (gs : List CSig) (g : CSig) (i : Nat) : seenL v (gs ++ [g]) i = (seenL v gs i || (decide (g.wn = (i : Int)) && v g)) := by
  unfold seenL
  simp
theorem take_snoc_cg (gs : List CSig) (m : Nat) (hm : m < gs.length) : gs.take (m + 1) = gs.take m ++ [cg_ gs m] := by
  rw [List.take_succ_eq_append_getElem hm]
  congr 2
  simp [cg_, hm]
/-- one more that counts for nobody, or for somebody who has one -/
theorem cnt_same {v : CSig → Bool} {gs : List CSig} {g : CSig} (h : ∀ i : Nat, i < 4 → g.wn = (i : Int) → v g = true → seenL v gs i = true) : ∀ i, i < 4 → seenL v (gs ++ [g]) i = seenL v gs i := by
  intro i hi
  rw [seenL_snoc]
  by_cases h1 : g.wn = (i : Int)
  · cases hv : v g with
    | false => simp
    | true => rw [h i hi h1 hv]; simp
  · simp [h1]
theorem cntL_same {v : CSig → Bool} {gs gs' : List CSig} (h : ∀ i, i < 4 → seenL v gs' i = seenL v gs i) : cntL v gs' = cntL v gs := by
  unfold cntL
  rw [h 0 (by omega), h 1 (by omega), h 2 (by omega), h 3 (by omega)]
def boolsA (s : Nat → Bool) : Array Value := #[.bool (s 0), .bool (s 1), .bool (s 2), .bool (s 3)]
theorem boolsA_get (s : Nat → Bool) {j : Nat} (hj : j < 4) : (boolsA s)[j]? = some (.bool (s j)) := by
  match j, hj with
  | 0, _ => rfl
  | 1, _ => rfl
  | 2, _ => rfl
  | 3, _ => rfl
theorem boolsA_set (s s' : Nat → Bool) {j : Nat} (hj : j < 4) (h1 : s' j = true) (h2 : ∀ i, i < 4 → i ≠ j → s' i = s i) : (boolsA s).setIfInBounds j (.bool true) = boolsA s' := by
  unfold boolsA
  have hc : j = 0 ∨ j = 1 ∨ j = 2 ∨ j = 3 := by omega
  rcases hc with rfl | rfl | rfl | rfl
  · rw [h1, h2 1 (by omega) (by omega), h2 2 (by omega) (by omega), h2 3 (by omega) (by omega)]; rfl
  · rw [h1, h2 0 (by omega) (by omega), h2 2 (by omega) (by omega), h2 3 (by omega) (by omega)]; rfl
  · rw [h1, h2 0 (by omega) (by omega), h2 1 (by omega) (by omega), h2 3 (by omega) (by omega)]; rfl
  · rw [h1, h2 0 (by omega) (by omega), h2 1 (by omega) (by omega), h2 2 (by omega) (by omega)]; rfl
theorem boolsA_eq {s s' : Nat → Bool} (h : ∀ i, i < 4 → s' i = s i) : boolsA s' = boolsA s := by
  unfold boolsA
  rw [h 0 (by omega), h 1 (by omega), h 2 (by omega), h 3 (by omega)]
theorem cnt_more {v : CSig → Bool} {gs : List CSig} {g : CSig} {j : Nat} (hj : j < 4) (hw : g.wn = (j : Int)) (hv : v g = true) (hs : seenL v gs j = false) :
    seenL v (gs ++ [g]) j = true ∧ (∀ i, i < 4 → i ≠ j → seenL v (gs ++ [g]) i = seenL v gs i) ∧ cntL v (gs ++ [g]) = cntL v gs + 1 := by
  have h1 : seenL v (gs ++ [g]) j = true := by rw [seenL_snoc, hv]; simp [hw]
  have h2 : ∀ i, i < 4 → i ≠ j → seenL v (gs ++ [g]) i = seenL v gs i := by
    intro i hi hij
    rw [seenL_snoc]
    have : ¬ (g.wn = (i : Int)) := by omega
    simp [this]
  refine ⟨h1, h2, ?_⟩
  have hc : j = 0 ∨ j = 1 ∨ j = 2 ∨ j = 3 := by omega
  unfold cntL
  rcases hc with rfl | rfl | rfl | rfl
  · rw [h1, hs, h2 1 (by omega) (by omega), h2 2 (by omega) (by omega), h2 3 (by omega) (by omega)]; simp only [b2i]; simp; omega
  · rw [h1, hs, h2 0 (by omega) (by omega), h2 2 (by omega) (by omega), h2 3 (by omega) (by omega)]; simp only [b2i]; simp; omega
  · rw [h1, hs, h2 0 (by omega) (by omega), h2 1 (by omega) (by omega), h2 3 (by omega) (by omega)]; simp only [b2i]; simp; omega
  · rw [h1, hs, h2 0 (by omega) (by omega), h2 1 (by omega) (by omega), h2 2 (by omega) (by omega)]; simp only [b2i]; simp
theorem cntL_le (v : CSig → Bool) (gs : List CSig) : 0 ≤ cntL v gs ∧ cntL v gs ≤ 4 := by
  unfold cntL b2i
  refine ⟨?_, ?_⟩ <;> (repeat' split) <;> omega
def CntI (w : World) (g3 g4 gS : Nat) (po ch : Array Value) (v : CSig → Bool) (gs : List CSig) (x i : Value) (wr : World) : Prop :=
  ∃ m : Nat, m ≤ gs.length ∧ i = .int .i64 m ∧ x = .int .i64 (cntL v (gs.take m)) ∧ Blk wr gS 143 (boolsA (seenL v (gs.take m))) ∧ Blk wr g3 77 po ∧ Blk wr g4 24 ch ∧ Ext w wr
set_option maxHeartbeats 16000000 in
theorem ccount_any (G A B L : Option Addr) (ng cg n c nb d nl cl : Nat) (q x : Int) (LG R : List UInt8) (Ws : List (List UInt8)) (gs : List CSig) (w : World) (rG : RB w G ng cg LG) (rW : RBB w A n c Ws) (rR : RB w B nb d R) (rL : RCS w L nl cl gs) :
    Calls Try.prog 89 #[.agg #[.slice G ng cg, .slice A n c, .int .i64 q], .agg #[.int .i64 x, .slice B nb d], .slice L nl cl, .func (.func 49) #[] #[]] w fun e w' => e = .returned (.int .i64 (cntL (fun g => cosB LG Ws q x R g.wn g.k g.ps g.qs) gs)) ∧ Ext w w' := by
  obtain ⟨v, hv⟩ : ∃ v : CSig → Bool, v = fun g => cosB LG Ws q x R g.wn g.k g.ps g.qs := ⟨_, rfl⟩
  rw [← hv]
  have Hv := Lib.hid hv
  have hll := rL.len
  have Hll := Lib.hid hll
  have hcap := rL.cap
  have hroom := rL.room
  unfold maxLen at hcap
  clear hv hll
  go_enter Try.func89, Try.ntmps89
  go_wp2_with fail
  have hEa := Ext.new w (.cells #[.slice G ng cg, .slice A n c, .int .i64 q] 77)
  have hB3 := Blk.new w 77 #[.slice G ng cg, .slice A n c, .int .i64 q]
  have hEn := Ext.new (w.alloc (.cells #[.slice G ng cg, .slice A n c, .int .i64 q] 77)) (.cells #[.int .i64 x, .slice B nb d] 24)
  have hB4 := Blk.new (w.alloc (.cells #[.slice G ng cg, .slice A n c, .int .i64 q] 77)) 24 #[.int .i64 x, .slice B nb d]
  rw [World.size_alloc] at hB4
  have hEm := Ext.new ((w.alloc (.cells #[.slice G ng cg, .slice A n c, .int .i64 q] 77)).alloc (.cells #[.int .i64 x, .slice B nb d] 24)) (.cells #[.bool false, .bool false, .bool false, .bool false] 143)
  have hBS := Blk.new ((w.alloc (.cells #[.slice G ng cg, .slice A n c, .int .i64 q] 77)).alloc (.cells #[.int .i64 x, .slice B nb d] 24)) 143 #[.bool false, .bool false, .bool false, .bool false]
  rw [World.size_alloc, World.size_alloc] at hBS
  replace hB3 := (hB3.ext hEn).ext hEm
  replace hB4 := hB4.ext hEm
  replace hEa := (hEa.trans hEn).trans hEm
  clear hEn hEm
  generalize ((w.alloc (.cells #[.slice G ng cg, .slice A n c, .int .i64 q] 77)).alloc (.cells #[.int .i64 x, .slice B nb d] 24)).alloc (.cells #[.bool false, .bool false, .bool false, .bool false] 143) = w1 at *
  have hg3 : w.heap.size ≤ w.heap.size + 1 + 1 := by omega
  have hd1 : w.heap.size ≠ w.heap.size + 1 + 1 := by omega
  have hd2 : w.heap.size + 1 ≠ w.heap.size + 1 + 1 := by omega
  generalize w.heap.size + 1 + 1 = gS at *
  generalize w.heap.size + 1 = g4 at *
  obtain ⟨g3, hg⟩ : ∃ g3, g3 = w.heap.size := ⟨_, rfl⟩
  rw [← hg] at hB3 hd1 hg3 ⊢
  replace hBS : Blk w1 gS 143 (boolsA (seenL v (gs.take 0))) := hBS
  have Hg := Lib.hid (And.intro hg hg3)
  clear hg3 hg
  go_loopw [15, 9] (fun i x_ wr => CntI w g3 g4 gS #[.slice G ng cg, .slice A n c, .int .i64 q] #[.int .i64 x, .slice B nb d] v gs x_ i wr) (fun i _ _ => nl - (intOf i).toNat)
  case atStart => exact ⟨0, by omega, rfl, rfl, hBS, hB3, hB4, hEa⟩
  case round =>
    clear hBS hB3 hB4 hEa
    obtain ⟨m, hm, rfl, rfl, hBS, hB3, hB4, hEr⟩ := hrel
    rw [Hll.out] at hm
    by_cases hlt : m < nl
    · have hmi : (m : Int) < (nl : Int) := by omega
      have hsn := take_snoc_cg gs m (by rw [Hll.out]; exact hlt)
      have Hsn := Lib.hid hsn
      obtain ⟨ad, rfl, hcl⟩ := (rL.ext hEr).cells (by omega)
      obtain ⟨P, np, cp, Q, nq, cq, k0, k1, k2, k3, rP, rQ⟩ := hcl m hlt
      have hvg : v (cg_ gs m) = cosB LG Ws q x R (cg_ gs m).wn (cg_ gs m).k (cg_ gs m).ps (cg_ gs m).qs := by rw [Hv.out]
      clear hcl hsn
      generalize cg_ gs m = g at *
      obtain ⟨wn, k, PS, QS⟩ := g
      have Hvg := Lib.hid hvg
      clear hvg
      obtain ⟨w1', hw1'⟩ : ∃ w1', w1' = wr.alloc (.cells #[.int .i64 wn, .int .i64 k, .slice P np cp, .slice Q nq cq] 69) := ⟨_, rfl⟩
      have hEn := Ext.new wr (.cells #[.int .i64 wn, .int .i64 k, .slice P np cp, .slice Q nq cq] 69)
      have hB12 := Blk.new wr 69 #[.int .i64 wn, .int .i64 k, .slice P np cp, .slice Q nq cq]
      have r1 : wr.cell? ⟨(ad.add (m * 4)).block, (ad.add (m * 4)).off + 1, none⟩ = some (.int .i64 k) := k1
      have r2 : wr.cell? ⟨(ad.add (m * 4)).block, (ad.add (m * 4)).off + 2, none⟩ = some (.slice P np cp) := k2
      have r3 : wr.cell? ⟨(ad.add (m * 4)).block, (ad.add (m * 4)).off + 3, none⟩ = some (.slice Q nq cq) := k3
      clear k1 k2 k3
      have y0 := hB12.cell (i := 0) (v := .int .i64 wn) rfl
      rw [← hw1'] at hEn hB12 y0
      have hBS0 := hBS
      replace hBS := hBS.ext hEn
      replace hB3 := hB3.ext hEn
      replace hB4 := hB4.ext hEn
      replace hEr := hEr.trans hEn
      have hdS : gS ≠ wr.heap.size := by
        intro h
        have := hBS0.lt
        omega
      clear hBS0
      go_wp2_with fail
      rw [← hw1']
      clear hw1' r1 r2 r3 k0
      refine (cwit_any wn w1').mono ?_
      rintro e w2 ⟨rfl, rfl⟩
      by_cases hj : 0 ≤ wn ∧ wn < 4
      · obtain ⟨j, rfl⟩ : ∃ j : Nat, wn = (j : Int) := ⟨wn.toNat, by omega⟩
        have hj4 : j < 4 := by omega
        rw [decide_eq_true hj]
        have y5 := hBS.cell (boolsA_get (seenL v (gs.take m)) hj4)
        clear hj
        have hfj := hBS.frozen j
        cases hs : seenL v (gs.take m) j with
        | true =>
          rw [hs] at y5
          have hcs := cnt_same (v := v) (gs := gs.take m) (g := ⟨(j : Int), k, PS, QS⟩) (fun i hi h1 _ => by
            have h2 : (j : Int) = (i : Int) := h1
            obtain rfl : j = i := by omega
            exact hs)
          rw [← Hsn.out] at hcs
          have hcn := cntL_same hcs
          have Hcs := Lib.hid hcs
          have Hcn := Lib.hid hcn
          clear hcs hcn hs
          go_wp2_with fail
          go_roundw
          case rel => exact ⟨m + 1, by rw [Hll.out]; omega, rfl, by rw [Hcn.out], by rw [boolsA_eq Hcs.out]; exact hBS, hB3, hB4, hEr⟩
          case measure => simp [intOf]; omega
        | false =>
          rw [hs] at y5
          have Hs := Lib.hid hs
          clear hs
          have y30 := hB3.cell (i := 0) (v := .slice G ng cg) rfl
          have y31 := hB3.cell (i := 1) (v := .slice A n c) rfl
          have y32 := hB3.cell (i := 2) (v := .int .i64 q) rfl
          have y40 := hB4.cell (i := 0) (v := .int .i64 x) rfl
          have y41 := hB4.cell (i := 1) (v := .slice B nb d) rfl
          have y120 := hB12.cell (i := 0) (v := .int .i64 (j : Int)) rfl
          have y121 := hB12.cell (i := 1) (v := .int .i64 k) rfl
          have y122 := hB12.cell (i := 2) (v := .slice P np cp) rfl
          have y123 := hB12.cell (i := 3) (v := .slice Q nq cq) rfl
          go_wp2_with fail
          have rG2 := rG.ext hEr
          have rW2 := rW.ext hEr
          have rR2 := rR.ext hEr
          replace rP := rP.ext hEn
          replace rQ := rQ.ext hEn
          refine (cosverify_any G A B P Q ng cg n c nb d np cp nq cq q x (j : Int) k LG R Ws PS QS w2 rG2 rW2 rR2 rP rQ).mono ?_
          rintro e w3 ⟨rfl, hE⟩
          rw [← Hvg.out]
          clear rG2 rW2 rR2 rP rQ y30 y31 y32 y40 y41 y120 y121 y122 y123 y0 y5 hfj
          replace hBS := hBS.ext hE
          replace hB3 := hB3.ext hE
          replace hB4 := hB4.ext hE
          replace hB12 := hB12.ext hE
          replace hEr := hEr.trans hE
          have y0 := hB12.cell (i := 0) (v := .int .i64 (j : Int)) rfl
          cases hv : v ⟨(j : Int), k, PS, QS⟩ with
          | false =>
            have hcs := cnt_same (v := v) (gs := gs.take m) (g := ⟨(j : Int), k, PS, QS⟩) (fun i hi _ h2 => by rw [hv] at h2; cases h2)
            rw [← Hsn.out] at hcs
            have hcn := cntL_same hcs
            have Hcs := Lib.hid hcs
            have Hcn := Lib.hid hcn
            clear hcs hcn hv Hvg
            go_wp2_with fail
            go_roundw
            case rel => exact ⟨m + 1, by rw [Hll.out]; omega, rfl, by rw [Hcn.out], by rw [boolsA_eq Hcs.out]; exact hBS, hB3, hB4, hEr⟩
            case measure => simp [intOf]; omega
          | true =>
            obtain ⟨c1, c2, c3⟩ := cnt_more (v := v) (gs := gs.take m) (g := ⟨(j : Int), k, PS, QS⟩) hj4 rfl hv Hs.out
            rw [← Hsn.out] at c1 c2 c3
            have y5 := hBS.cell (boolsA_get (seenL v (gs.take m)) hj4)
            have hfj := hBS.frozen j
            have hset := hBS.set j (.bool true)
            rw [boolsA_set _ _ hj4 c1 c2] at hset
            have hb := cntL_le v (gs.take m)
            have hb1 := hb.1
            have hb2 := hb.2
            have H3 := Lib.hid c3
            have hBS' := hset
            have hB3' := hB3.far (p := ⟨gS, j, none⟩) hd1 (.bool true)
            have hB4' := hB4.far (p := ⟨gS, j, none⟩) hd2 (.bool true)
            have hEr' := hEr.set (p := ⟨gS, j, none⟩) (by show w.heap.size ≤ gS; have h1 := Hg.out.1; have h2 := Hg.out.2; omega) (.bool true)
            clear c1 c2 c3 hb hv Hvg hset
            go_wp2_with fail
            go_roundw
            case rel => exact ⟨m + 1, by rw [Hll.out]; omega, rfl, by rw [H3.out], hBS', hB3', hB4', hEr'⟩
            case measure => simp [intOf]; omega
      · rw [decide_eq_false hj]
        go_wp2_with fail
        have hcs := cnt_same (v := v) (gs := gs.take m) (g := ⟨wn, k, PS, QS⟩) (fun i hi h1 _ => absurd ⟨by have : wn = (i : Int) := h1; omega, by have : wn = (i : Int) := h1; omega⟩ hj)
        rw [← Hsn.out] at hcs
        have hcn := cntL_same hcs
        go_roundw
        case rel => exact ⟨m + 1, by rw [Hll.out]; omega, rfl, by rw [hcn], by rw [boolsA_eq hcs]; exact hBS, hB3, hB4, hEr⟩
        case measure => simp [intOf]; omega
    · obtain rfl : m = nl := by omega
      have hall : gs.take m = gs := List.take_of_length_le (by rw [Hll.out]; exact Nat.le_refl _)
      rw [hall]
      go_wp2_with fail
      go_ret
      exact ⟨rfl, hEr⟩
end Go.Proofs.Ythggfbpdhkpkjaa
