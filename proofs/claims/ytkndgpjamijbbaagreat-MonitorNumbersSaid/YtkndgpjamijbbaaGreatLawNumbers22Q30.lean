/-
  Rows of byte slices are appended to an own row: pure run and laws. Plain theorems. Facts of rows and structs that stay under the run-time's marks. Plain theorems. An own row of cosignatures; append to it. Rows of cosignatures: what they hold; append. The plain law of law11's known: the two keys differ, the cosignature verifies, it counts once. CosignApart, walked (under way). law11's made, walked (under way). ExtractPrefixes, walked.
-/
import Derived.Test.YtkndgpjamijbbaaGreatLawNumbers22Q15
import Derived.Test.YtkndgpjamijbbaaGreatLawNumbers22Q27
import Derived.Test.YtkndgpjamijbbaaGreatLawNumbers22Q16
import Derived.Test.YtkndgpjamijbbaaGreatLawNumbers22Q4
import Derived.Test.YtkndgpjamijbbaaGreatLawNumbers22Q26
import Derived.Test.YtkndgpjamijbbaaGreatLawNumbers22Q1
import Derived.Test.YtkndgpjamijbbaaGreatLawNumbers22Q14
import Derived.Test.YtkndgpjamijbbaaGreatLawNumbers22Q28
import Derived.Lib.AppendZerosOnto
import Derived.Test.YtkndgpjamijbbaaGreatLawNumbers22Q21
namespace Go.Proofs.YtkndgpjamijbbaaGreat
set_option maxRecDepth 100000
open Go Go.RowKit
theorem OBC.lit0 (w : World) : OBC (w.alloc (.cells #[] 26)) w.heap.size (some ⟨w.heap.size, 0, none⟩) 0 0 [] :=
  ⟨[], ⟨rfl, .inr ⟨w.heap.size, 0, #[], rfl, Nat.le_refl _, heap_alloc_new w _, Nat.le_refl _, Nat.zero_le _, rfl, rfl⟩⟩, rfl, fun j hj => absurd hj (Nat.not_lt_zero _)⟩
theorem lb_app_l {Ls Ms : List (List UInt8)} {j : Nat} (h : j < Ls.length) : lb (Ls ++ Ms) j = lb Ls j := by unfold lb; simp [List.getElem?_append_left h]
theorem lb_app_r {Ls Ms : List (List UInt8)} {j : Nat} (h : Ls.length ≤ j) : lb (Ls ++ Ms) j = lb Ms (j - Ls.length) := by unfold lb; simp [List.getElem?_append_right h]
theorem run_apprb (ty : TypeId) {w0 w : World} {base n c k d : Nat} {A B : Option Addr} {Ls Ms : List (List UInt8)} (hown : OBC w base A n c Ls) (hx : RBB w0 B k d Ms) (e : Ext w0 w) (hb : w0.heap.size ≤ base) (hbase : base ≤ w.heap.size) (hnk : n + k ≤ 1000000) :
    ∃ A' c' w', (Builtin.append_ #[33, 33] ty #[.slice A n c, .slice B k d]).run Tryz.prog w = .ok (.slice A' (n + k) c') w' ∧ OBC w' base A' (n + k) c' (Ls ++ Ms) ∧ w.grownBy w' (blk A) ∧ (blk A' = blk A ∨ blk A' = some w.heap.size) := by
  obtain ⟨i0, hi0, hz0, hz1, hz2⟩ := info_parts info_bb'
  have hm := hx.len
  rcases B with _ | ad
  · obtain rfl : k = 0 := by
      rcases Nat.eq_zero_or_pos k with h0 | h0
      · exact h0
      · obtain ⟨ad, h1, _⟩ := hx.cells h0
        cases h1
    obtain rfl : Ms = [] := List.eq_nil_of_length_eq_zero hm
    refine ⟨A, c, w, ?_, by simpa using hown, World.grownBy.refl w _, .inl rfl⟩
    obtain ⟨vs, own, hl, h3⟩ := hown
    rcases own.2 with ⟨e1, h0⟩ | ⟨g, cap, cur, e1, _, _, hnc, _⟩
    · injection e1 with e1 e2 e3
      subst e1 e2 e3
      simp [Builtin.append_, run_underlying Tryz.underlying33, sizeOf, typeInfo, hi0, Builtin.lenOf, Builtin.firstCells]
    · injection e1 with e1 e2 e3
      subst e1 e3
      simp [Builtin.append_, run_underlying Tryz.underlying33, sizeOf, typeInfo, hi0, Builtin.lenOf, Builtin.firstCells, hnc, storeCells]
  · have hx' := hx.ext e
    obtain ⟨us, hul, hcells, hone, hus⟩ := hx.vals
    obtain ⟨vs, own, hl, h3⟩ := hown
    obtain ⟨v', w', hrun, r1, r2, _, r4⟩ := run_append_own_at (P := Tryz.prog) w base 33 ty 26 i0 (.slice none 0 0) 1 24 Tryz.underlying33 hi0 hz0 hz1 hz2 rfl (by decide) (.slice A n c) n vs own ad k d us (by rw [hul, Nat.mul_one]) (fun j u hu => e.cell (hcells ad rfl j u hu)) hone (small_maxLen hnk) (by omega) hbase
    obtain ⟨A', c', rfl⟩ : ∃ A' c', v' = .slice A' (n + k) c' := by
      rcases r1.2 with ⟨rfl, h0⟩ | ⟨g, cap, _, rfl, _⟩
      · exact ⟨none, 0, by rw [h0]⟩
      · exact ⟨_, cap, rfl⟩
    rw [ownBlock_slice] at r2
    rw [ownBlock_slice, ownBlock_slice] at r4
    have hvl : vs.length = n := by have := own.1; omega
    have hAlt : ∀ q, blk A = some q → base ≤ q ∧ q < w.heap.size := fun q hq => World.ownsRow.lt own q (by rw [ownBlock_slice]; exact hq)
    refine ⟨A', c', w', hrun, ⟨vs ++ us, r1, by rw [List.length_append]; omega, fun j hj => ?_⟩, r2, r4⟩
    by_cases hjn : j < n
    · obtain ⟨E, m, d', h4, h5, h6⟩ := h3 j hjn
      rw [lb_app_l (by omega)]
      refine ⟨E, m, d', by rw [List.getElem?_append_left (by omega)]; exact h4, h5.grown r2 h6, fun hm e' => ?_⟩
      rcases r4 with r4 | r4
      · exact h6 hm (e'.trans r4)
      · have := rb_blk_lt h5 hm _ (e'.trans r4)
        omega
    · obtain ⟨E, m, d', h4, h5⟩ := hus (j - n) (by omega)
      rw [lb_app_r (by omega), hl]
      have hlt : 0 < m → ∀ q, blk E = some q → q < w0.heap.size := fun hm q hq => rb_blk_lt h5 hm q hq
      have he : 0 < m → ∃ q, blk E = some q := by
        intro hm
        obtain ⟨ad', h1, _⟩ := h5.cells hm
        rw [h1]
        exact ⟨_, rfl⟩
      refine ⟨E, m, d', by rw [List.getElem?_append_right (by omega), hvl]; exact h4, (h5.ext e).grown r2 (fun hm e' => ?_), fun hm e' => ?_⟩
      · obtain ⟨q, hq⟩ := he hm
        have h7 := hlt hm q hq
        have h8 := (hAlt q (e'.symm.trans hq)).1
        omega
      · obtain ⟨q, hq⟩ := he hm
        have h7 := hlt hm q hq
        rcases r4 with r4 | r4
        · have h8 := (hAlt q ((e'.trans r4).symm.trans hq)).1
          omega
        · have h9 := (e'.trans r4).symm.trans hq
          injection h9 with h9
          have := e.size
          omega
theorem apprb_law {ops : Array Oper} {rest : List Oper} {o : Oper} {a : Act} {Q : Exit → Act → World → Prop} {w0 w : World} (hgd : o.guard = none) {s x : Operand} (ho : o.op = .call { callee := .builtin .append, args := #[s, x], argTypes := #[33, 33] })
    {A B : Option Addr} {n c k d : Nat} (hs : a.eval s = .slice A n c) (hx : a.eval x = .slice B k d) {base : Nat} {Ls Ms : List (List UInt8)} (hown : OBC w base A n c Ls) (hr : RBB w0 B k d Ms) (e : Ext w0 w) (hb : w0.heap.size ≤ base) (hbase : base ≤ w.heap.size) (hnk : n + k ≤ 1000000)
    (h : ∀ A' c' w', OBC w' base A' (n + k) c' (Ls ++ Ms) → w.grownBy w' (blk A) → (blk A' = blk A ∨ blk A' = some w.heap.size) → wpList Tryz.prog ops Q rest (a.put o.dst (.slice A' (n + k) c')) w') : wpList Tryz.prog ops Q (o :: rest) a w := by
  obtain ⟨A', c', w', hrun, h1, h2, h3⟩ := run_apprb o.type hown hr e hb hbase hnk
  refine run_law hgd (v := .slice A' (n + k) c') (w' := w') ?_ (h A' c' w' h1 h2 h3)
  unfold execOp
  simp only [ho, resolve, invoke, builtin, Sem.run_bind, Sem.run_pure, Result.andThen_ok, List.map_toArray, List.map_cons, List.map_nil, hs, hx, hrun]
end Go.Proofs.YtkndgpjamijbbaaGreat
namespace Go.Proofs.YtkndgpjamijbbaaGreat
set_option maxRecDepth 100000
open Go Go.RowKit
theorem RBB.mk_ {w w' : World} {A : Option Addr} {n c : Nat} {Ls : List (List UInt8)} (h : RBB w A n c Ls) (e : Mk w w') : RBB w' A n c Ls :=
  ⟨h.len, h.room, h.cap, fun hn => by
    obtain ⟨ad, ha, hc⟩ := h.cells hn
    refine ⟨ad, ha, fun j hj => ?_⟩
    obtain ⟨B, m, d, h1, h2⟩ := hc j hj
    exact ⟨B, m, d, e.cell h1, h2.mk_ e⟩⟩
end Go.Proofs.YtkndgpjamijbbaaGreat
namespace Go.Proofs.YtkndgpjamijbbaaGreat
set_option maxRecDepth 100000
open Go Go.RowKit
/-- two words, two slices, two words .. -/
def ShapeL (l : List Value) : Prop := ∀ i v, l[i]? = some v → (i % 4 < 2 → ∃ x, v = .int .i64 x) ∧ (2 ≤ i % 4 → ∃ P n c, v = .slice P n c)
theorem ShapeL.nil : ShapeL [] := by
  intro i v h
  cases h
theorem ShapeL.app {xs ys : List Value} (hx : ShapeL xs) (hy : ShapeL ys) (h4 : xs.length % 4 = 0) : ShapeL (xs ++ ys) := by
  intro i v h
  by_cases hi : i < xs.length
  · rw [List.getElem?_append_left hi] at h
    exact hx i v h
  · rw [List.getElem?_append_right (by omega)] at h
    have h2 := hy _ v h
    have e : (i - xs.length) % 4 = i % 4 := by omega
    rw [e] at h2
    exact h2
theorem ShapeL.take {xs : List Value} (hx : ShapeL xs) (k : Nat) : ShapeL (xs.take k) := by
  intro i v h
  by_cases hi : i < k
  · rw [List.getElem?_take_of_lt hi] at h
    exact hx i v h
  · rw [List.getElem?_eq_none (by simp; omega)] at h
    cases h
theorem ShapeL.drop {xs : List Value} (hx : ShapeL xs) (k : Nat) (h4 : k % 4 = 0) : ShapeL (xs.drop k) := by
  intro i v h
  rw [List.getElem?_drop] at h
  have h2 := hx _ v h
  have e : (k + i) % 4 = i % 4 := by omega
  rw [e] at h2
  exact h2
end Go.Proofs.YtkndgpjamijbbaaGreat
namespace Go.Proofs.YtkndgpjamijbbaaGreat
set_option maxRecDepth 100000
open Go Go.RowKit
structure CV where
  wn : Int
  k : Int
  P : Option Addr
  cp : Nat
  Q : Option Addr
  cq : Nat
def CV.cells (v : CV) : List Value := [.int .i64 v.wn, .int .i64 v.k, .slice v.P 64 v.cp, .slice v.Q 4 v.cq]
def vz : CV := ⟨0, 0, none, 0, none, 0⟩
def cv_ (vs : List CV) (j : Nat) : CV := vs.getD j vz
structure CVR (w : World) (v : CV) (g : CSig) : Prop where
  wn : g.wn = v.wn
  k : g.k = v.k
  ps : RBB w v.P 64 v.cp g.ps
  qs : RBB w v.Q 4 v.cq g.qs
theorem CVR.ext {w w' : World} {v : CV} {g : CSig} (h : CVR w v g) (e : Ext w w') : CVR w' v g := ⟨h.wn, h.k, h.ps.ext e, h.qs.ext e⟩
theorem CVR.away {w w' : World} {v : CV} {g : CSig} (h : CVR w v g) {k : Nat} {t : TypeId} {cs : Array Value} (hb : Blk w k t cs) (h8 : ∀ (i : Nat) (x : Int), cs[i]? ≠ some (.int .u8 x))
    (h3 : ∀ (i : Nat) (a b c : Value), cs[i]? = some a → cs[i + 1]? = some b → cs[i + 2]? = some c → ¬ (isSl (some a) = true ∧ isSl (some b) = true ∧ isSl (some c) = true)) (e : w.grownBy w' (some k)) : CVR w' v g :=
  ⟨h.wn, h.k, h.ps.away hb h8 e (fun _ => h.ps.apart3 hb h3 (by omega)), h.qs.away hb h8 e (fun _ => h.qs.apart3 hb h3 (by omega))⟩
theorem fm_get (vs : List CV) : ∀ (j i : Nat), i < 4 → j < vs.length → (vs.flatMap CV.cells)[j * 4 + i]? = (cv_ vs j).cells[i]? := by
  induction vs with
  | nil => intro j i _ h; exact absurd h (Nat.not_lt_zero _)
  | cons v vs ih =>
    intro j i hi hj
    have h4 : v.cells.length = 4 := rfl
    rw [List.flatMap_cons]
    cases j with
    | zero =>
      rw [List.getElem?_append_left (by omega)]
      rw [Nat.zero_mul, Nat.zero_add]
      rfl
    | succ j =>
      rw [List.getElem?_append_right (by omega)]
      rw [show (j + 1) * 4 + i - v.cells.length = j * 4 + i by rw [h4]; omega]
      exact ih j i hi (by rw [List.length_cons] at hj; omega)
/-- a slice of cosignatures that is read, its cells -/
structure RCV (w : World) (A : Option Addr) (n c : Nat) (vs : List CV) (gs : List CSig) : Prop where
  lv : vs.length = n
  lg : gs.length = n
  room : n ≤ c
  cap : c ≤ maxLen
  cells : 0 < n → ∃ ad, A = some ad ∧ ∀ j u, (vs.flatMap CV.cells)[j]? = some u → w.cell? (ad.add j) = some u
  each : ∀ j, j < n → CVR w (cv_ vs j) (cg_ gs j)
theorem RCV.ext {w w' : World} {A : Option Addr} {n c : Nat} {vs : List CV} {gs : List CSig} (h : RCV w A n c vs gs) (e : Ext w w') : RCV w' A n c vs gs :=
  ⟨h.lv, h.lg, h.room, h.cap, fun hn => by
    obtain ⟨ad, ha, hc⟩ := h.cells hn
    exact ⟨ad, ha, fun j u hu => e.cell (hc j u hu)⟩, fun j hj => (h.each j hj).ext e⟩
theorem add_lit_ (ad : Addr) (j i : Nat) : (ad.add j).add i = ad.add (j + i) := by
  unfold Addr.add
  by_cases hj : j = 0 <;> by_cases hi : i = 0 <;> simp [hj, hi]
  omega
theorem RCV.at_ {w : World} {ad : Addr} {n c : Nat} {vs : List CV} {gs : List CSig} (h : RCV w (some ad) n c vs gs) {j : Nat} (hj : j < n) :
    w.cell? (ad.add (j * 4)) = some (.int .i64 (cv_ vs j).wn) ∧ w.cell? ((ad.add (j * 4)).add 1) = some (.int .i64 (cv_ vs j).k) ∧ w.cell? ((ad.add (j * 4)).add 2) = some (.slice (cv_ vs j).P 64 (cv_ vs j).cp) ∧ w.cell? ((ad.add (j * 4)).add 3) = some (.slice (cv_ vs j).Q 4 (cv_ vs j).cq) := by
  obtain ⟨ad', ha, hc⟩ := h.cells (by omega)
  injection ha with ha
  subst ha
  have hl := h.lv
  have k := fun i (hi : i < 4) => fm_get vs j i hi (by omega)
  refine ⟨?_, ?_, ?_, ?_⟩
  · exact hc _ _ (k 0 (by omega))
  · rw [add_lit_]; exact hc _ _ (k 1 (by omega))
  · rw [add_lit_]; exact hc _ _ (k 2 (by omega))
  · rw [add_lit_]; exact hc _ _ (k 3 (by omega))
end Go.Proofs.YtkndgpjamijbbaaGreat
namespace Go.Proofs.YtkndgpjamijbbaaGreat
set_option maxRecDepth 100000
open Go Go.RowKit
/-- a slice of two like cosignatures in a block of its own -/
theorem RCS.two {w : World} {b : Nat} {P Q : Option Addr} {np cp nq cq : Nat} {x k : Int} {PS QS : List (List UInt8)} {t : TypeId}
    (hB : Blk w b t #[.int .i64 x, .int .i64 k, .slice P np cp, .slice Q nq cq, .int .i64 x, .int .i64 k, .slice P np cp, .slice Q nq cq]) (rP : RBB w P np cp PS) (rQ : RBB w Q nq cq QS) :
    RCS w (some ⟨b, 0, none⟩) 2 2 [⟨x, k, PS, QS⟩, ⟨x, k, PS, QS⟩] := by
  refine ⟨rfl, Nat.le_refl _, small_maxLen (by decide), fun _ => ⟨_, rfl, fun j hj => ?_⟩⟩
  have h : j = 0 ∨ j = 1 := by omega
  rcases h with rfl | rfl
  · exact ⟨P, np, cp, Q, nq, cq, hB.cell (i := 0) rfl, hB.cell (i := 1) rfl, hB.cell (i := 2) rfl, hB.cell (i := 3) rfl, rP, rQ⟩
  · exact ⟨P, np, cp, Q, nq, cq, hB.cell (i := 4) rfl, hB.cell (i := 5) rfl, hB.cell (i := 6) rfl, hB.cell (i := 7) rfl, rP, rQ⟩
theorem RCS.one {w : World} {b : Nat} {P Q : Option Addr} {np cp nq cq : Nat} {x k : Int} {PS QS : List (List UInt8)} {t : TypeId}
    (hB : Blk w b t #[.int .i64 x, .int .i64 k, .slice P np cp, .slice Q nq cq]) (rP : RBB w P np cp PS) (rQ : RBB w Q nq cq QS) :
    RCS w (some ⟨b, 0, none⟩) 1 1 [⟨x, k, PS, QS⟩] := by
  refine ⟨rfl, Nat.le_refl _, small_maxLen (by decide), fun _ => ⟨_, rfl, fun j hj => ?_⟩⟩
  obtain rfl : j = 0 := by omega
  exact ⟨P, np, cp, Q, nq, cq, hB.cell (i := 0) rfl, hB.cell (i := 1) rfl, hB.cell (i := 2) rfl, hB.cell (i := 3) rfl, rP, rQ⟩
end Go.Proofs.YtkndgpjamijbbaaGreat
namespace Go.Proofs.YtkndgpjamijbbaaGreat
set_option maxRecDepth 100000
open Go Go.RowKit
theorem RBB.apart_cos {w : World} {A : Option Addr} {n c : Nat} {Ls : List (List UInt8)} (h : RBB w A n c Ls) (hn : 3 ≤ n) {g : Nat} {t : TypeId} {x k : Int} {P Q : Option Addr} {np cp nq cq : Nat} (hB : Blk w g t (cosC x k P np cp Q nq cq)) : blk A ≠ some g := by
  refine h.apart3 hB (fun i a b c h1 h2 h3 => ?_) hn
  unfold cosC at h1 h2 h3
  rcases i with _ | _ | i
  · injection h1 with h1
    subst h1
    rintro ⟨h4, _⟩
    exact Bool.false_ne_true h4
  · injection h1 with h1
    subst h1
    rintro ⟨h4, _⟩
    exact Bool.false_ne_true h4
  · simp at h3
theorem RBB.set4 {w : World} {A : Option Addr} {n c : Nat} {L : List (List UInt8)} (h : RBB w A n c L) (hn : 3 ≤ n) {g : Nat} {t : TypeId} {x k : Int} {P Q : Option Addr} {np cp nq cq : Nat} (hB : Blk w g t (cosC x k P np cp Q nq cq))
    (x' k' : Int) (P1 Q1 : Option Addr) (np1 cp1 nq1 cq1 : Nat) : RBB ((((w.setCell ⟨g, 0, none⟩ (.int .i64 x')).setCell ⟨g, 1, none⟩ (.int .i64 k')).setCell ⟨g, 2, none⟩ (.slice P1 np1 cp1)).setCell ⟨g, 3, none⟩ (.slice Q1 nq1 cq1)) A n c L := by
  have b0 : Blk (w.setCell ⟨g, 0, none⟩ (.int .i64 x')) g t (cosC x' k P np cp Q nq cq) := hB.set 0 _
  have b1 : Blk _ g t (cosC x' k' P np cp Q nq cq) := b0.set 1 (.int .i64 k')
  have b2 : Blk _ g t (cosC x' k' P1 np1 cp1 Q nq cq) := b1.set 2 (.slice P1 np1 cp1)
  have h0 := h.away hB (cos_no _ _ _ _ _ _ _ _) (grown_set w ⟨g, 0, none⟩ (.int .i64 x')) (fun _ => h.apart_cos hn hB)
  have h1 := h0.away b0 (cos_no _ _ _ _ _ _ _ _) (grown_set _ ⟨g, 1, none⟩ (.int .i64 k')) (fun _ => h0.apart_cos hn b0)
  have h2 := h1.away b1 (cos_no _ _ _ _ _ _ _ _) (grown_set _ ⟨g, 2, none⟩ (.slice P1 np1 cp1)) (fun _ => h1.apart_cos hn b1)
  exact h2.away b2 (cos_no _ _ _ _ _ _ _ _) (grown_set _ ⟨g, 3, none⟩ (.slice Q1 nq1 cq1)) (fun _ => h2.apart_cos hn b2)
end Go.Proofs.YtkndgpjamijbbaaGreat
namespace Go.Proofs.YtkndgpjamijbbaaGreat
set_option maxRecDepth 100000
open Go Go.RowKit
structure DRec where
  who : Int
  said : Int
  ix : Int
  ot : Bool
def dz : DRec := ⟨0, 0, 0, false⟩
def dr_ (ds : List DRec) (j : Nat) : DRec := ds.getD j dz
def inR (x : Int) : Prop := -9223372036854775808 ≤ x ∧ x ≤ 9223372036854775807
/-- a slice of draws that is read -/
structure RDS (w : World) (A : Option Addr) (n c : Nat) (ds : List DRec) : Prop where
  len : ds.length = n
  room : n ≤ c
  cap : c ≤ maxLen
  cells : 0 < n → ∃ ad, A = some ad ∧ ∀ j, j < n → w.cell? (ad.add (j * 4)) = some (.int .i64 (dr_ ds j).who) ∧ w.cell? ((ad.add (j * 4)).add 1) = some (.int .i64 (dr_ ds j).said) ∧
    w.cell? ((ad.add (j * 4)).add 2) = some (.int .i64 (dr_ ds j).ix) ∧ w.cell? ((ad.add (j * 4)).add 3) = some (.bool (dr_ ds j).ot) ∧ inR (dr_ ds j).who ∧ inR (dr_ ds j).said ∧ inR (dr_ ds j).ix
theorem RDS.ext {w w' : World} {A : Option Addr} {n c : Nat} {ds : List DRec} (h : RDS w A n c ds) (e : Ext w w') : RDS w' A n c ds :=
  ⟨h.len, h.room, h.cap, fun hn => by
    obtain ⟨ad, ha, hc⟩ := h.cells hn
    refine ⟨ad, ha, fun j hj => ?_⟩
    obtain ⟨h1, h2, h3, h4, h5⟩ := hc j hj
    exact ⟨e.cell h1, e.cell h2, e.cell h3, e.cell h4, h5⟩⟩
end Go.Proofs.YtkndgpjamijbbaaGreat
namespace Go.Proofs.YtkndgpjamijbbaaGreat
set_option maxRecDepth 100000
open Go Go.RowKit
theorem lb_mem {Ls : List (List UInt8)} {k : Nat} (h : k < Ls.length) : lb Ls k ∈ Ls := by
  unfold lb
  rw [List.getD_eq_getElem?_getD, List.getElem?_eq_getElem h]
  exact List.getElem_mem _
end Go.Proofs.YtkndgpjamijbbaaGreat
