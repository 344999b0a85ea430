/-
  cosign.count, Count, Met; ref10's Count, walked. law11's owners, walked: a row of owners. law11's policy, walked. An own row of cosignatures; append to it. Rows of cosignatures: what they hold; append. The plain law of law11's known: the two keys differ, the cosignature verifies, it counts once. law11's made, walked (under way). ExtractPrefixes, walked.
-/
import Derived.Test.YtkndgpjamijbbaaLawForg26Q29
import Derived.Test.YtkndgpjamijbbaaLawForg26Q22
import Derived.Deep.MidRow
import Derived.Test.YtkndgpjamijbbaaLawForg26Q1
import Derived.Test.YtkndgpjamijbbaaLawForg26Q16
import Derived.Test.YtkndgpjamijbbaaLawForg26Q30
import Derived.Test.YtkndgpjamijbbaaLawForg26Q24
namespace Go.Proofs.Ytkndgpjamijbbaa
set_option maxRecDepth 100000
open Go Go.RowKit
/-- a cosignature -/
structure CSig where
  wn : Int
  k : Int
  ps : List (List UInt8)
  qs : List (List UInt8)
def cz : CSig := ⟨0, 0, [], []⟩
def cg_ (gs : List CSig) (j : Nat) : CSig := gs.getD j cz
/-- a slice of cosignatures that is read -/
structure RCS (w : World) (A : Option Addr) (n c : Nat) (gs : List CSig) : Prop where
  len : gs.length = n
  room : n ≤ c
  cap : c ≤ maxLen
  cells : 0 < n → ∃ ad, A = some ad ∧ ∀ j, j < n → ∃ P np cp Q nq cq, w.cell? (ad.add (j * 4)) = some (.int .i64 (cg_ gs j).wn) ∧ w.cell? ((ad.add (j * 4)).add 1) = some (.int .i64 (cg_ gs j).k) ∧
    w.cell? ((ad.add (j * 4)).add 2) = some (.slice P np cp) ∧ w.cell? ((ad.add (j * 4)).add 3) = some (.slice Q nq cq) ∧ RBB w P np cp (cg_ gs j).ps ∧ RBB w Q nq cq (cg_ gs j).qs
theorem RCS.ext {w w' : World} {A : Option Addr} {n c : Nat} {gs : List CSig} (h : RCS w A n c gs) (e : Ext w w') : RCS w' A n c gs :=
  ⟨h.len, h.room, h.cap, fun hn => by
    obtain ⟨ad, ha, hc⟩ := h.cells hn
    refine ⟨ad, ha, fun j hj => ?_⟩
    obtain ⟨P, np, cp, Q, nq, cq, h1, h2, h3, h4, h5, h6⟩ := hc j hj
    exact ⟨P, np, cp, Q, nq, cq, e.cell h1, e.cell h2, e.cell h3, e.cell h4, h5.ext e, h6.ext e⟩⟩
end Go.Proofs.Ytkndgpjamijbbaa
namespace Go.Proofs.Ytkndgpjamijbbaa
set_option maxRecDepth 100000
open Go Go.RowKit
/-- an owner, with where its seed lies -/
def OwnS (w : World) (b g : Nat) (A : Option Addr) (S : List UInt8) : Prop :=
  ∃ c LA lc, RB w A 32 c S ∧ Blk w g 95 #[.slice A 32 c, .slice LA 5 lc] ∧ LevO w b LA 5 lc S
theorem OwnS.own {w : World} {b g : Nat} {A : Option Addr} {S : List UInt8} (h : OwnS w b g A S) : OwnR w b g S := by
  obtain ⟨c, LA, lc, h1, h2, h3⟩ := h
  exact ⟨A, c, LA, lc, h1, h2, h3⟩
theorem OwnS.ext {w w' : World} {b g : Nat} {A : Option Addr} {S : List UInt8} (h : OwnS w b g A S) (e : Ext w w') : OwnS w' b g A S := by
  obtain ⟨c, LA, lc, h1, h2, h3⟩ := h
  exact ⟨c, LA, lc, h1.ext e, h2.ext e, h3.ext e⟩
theorem OwnS.grown {w w' : World} {b g : Nat} {A : Option Addr} {S : List UInt8} {row : Option Nat} (h : OwnS w b g A S) (hb : ∀ k, row = some k → ∃ cs, Blk w k 37 cs) (hne : blk A ≠ row) (e : w.grownBy w' row) : OwnS w' b g A S := by
  cases row with
  | none => exact h.ext ((Ext.refl w).then_grown e (fun b hb => by cases hb))
  | some k =>
    obtain ⟨cs, hk⟩ := hb k rfl
    obtain ⟨c, LA, lc, h1, h2, h3⟩ := h
    refine ⟨c, LA, lc, h1.grown e (fun _ => hne), h2.grown e (fun e' => ?_), h3.far hk (by decide) (by decide) (by decide) e⟩
    injection e' with e'
    subst e'
    unfold Blk at h2 hk
    rw [h2] at hk
    injection hk with hk
    injection hk with _ hk
    revert hk
    decide
/-- a row of owners of the call's own -/
def OwO (w : World) (base : Nat) (A : Option Addr) (n c : Nat) (Ss : List (List UInt8)) : Prop :=
  ∃ vs : List Value, w.ownsRow base 37 1 (.slice A n c) n vs ∧ Ss.length = n ∧ ∀ j, j < n → ∃ g b B, vs[j]? = some (.pointer (some ⟨g, 0, none⟩)) ∧ OwnS w b g B (lb Ss j) ∧ blk B ≠ blk A
theorem OwO.none_ (w : World) (base : Nat) : OwO w base none 0 0 [] := ⟨[], World.ownsRow_nil w _ _ _, rfl, fun j hj => absurd hj (Nat.not_lt_zero _)⟩
theorem OwO.ext {w w' : World} {base : Nat} {A : Option Addr} {n c : Nat} {Ss : List (List UInt8)} (h : OwO w base A n c Ss) (e : Ext w w') : OwO w' base A n c Ss := by
  obtain ⟨vs, h1, h2, h3⟩ := h
  refine ⟨vs, World.ownsRow.kept h1 (e.grownBy none) ?_, h2, fun j hj => ?_⟩
  · cases hb : Value.ownBlock (.slice A n c) <;> simp
  · obtain ⟨g, b, B, h4, h5, h6⟩ := h3 j hj
    exact ⟨g, b, B, h4, h5.ext e, h6⟩
theorem OwO.lt {w : World} {base n c : Nat} {A : Option Addr} {Ss : List (List UInt8)} (h : OwO w base A n c Ss) {k : Nat} (hk : blk A = some k) : base ≤ k ∧ k < w.heap.size := by
  obtain ⟨vs, h1, _⟩ := h
  exact World.ownsRow.lt h1 k (by rw [ownBlock_slice]; exact hk)
theorem OwO.cell {w : World} {base n c : Nat} {A : Option Addr} {Ss : List (List UInt8)} (h : OwO w base A n c Ss) {j : Nat} (hj : j < n) :
    ∃ gA g b B, A = some ⟨gA, 0, none⟩ ∧ w.cell? ⟨gA, j, none⟩ = some (.pointer (some ⟨g, 0, none⟩)) ∧ OwnS w b g B (lb Ss j) := by
  obtain ⟨vs, h1, h2, h3⟩ := h
  obtain ⟨g, b, B, h4, h5, _⟩ := h3 j hj
  have hr := h1.2
  rcases hr with ⟨_, hn⟩ | ⟨gA, cap, cur, hv, hb, hg, hnc, hcm, hcs, ht⟩
  · omega
  · injection hv with e1 e2 e3
    subst e1
    have hc := World.ownsRow.cells h1 (g := gA) rfl j _ h4
    rw [add_plain] at hc
    exact ⟨gA, g, b, B, rfl, hc, h5⟩
end Go.Proofs.Ytkndgpjamijbbaa
namespace Go.Proofs.Ytkndgpjamijbbaa
set_option maxRecDepth 100000
open Go Go.RowKit
theorem OwO.room {w : World} {base n c : Nat} {A : Option Addr} {Ss : List (List UInt8)} (h : OwO w base A n c Ss) : n ≤ c := by
  obtain ⟨vs, h1, _⟩ := h
  rcases h1.2 with ⟨hv, hn⟩ | ⟨g, cap, cur, hv, hb, hg, hnc, hcm, hcs, ht⟩
  · omega
  · injection hv with e1 e2 e3
    omega
theorem OB.apart {w : World} {b b' n c n' c' : Nat} {A : Option Addr} {L : List UInt8} {B : Option Addr} {Ls : List (List UInt8)} (h : OB w b A n c L) (h' : OBC w b' B n' c' Ls) : blk A = none ∨ blk A ≠ blk B := by
  cases hA : blk A with
  | none => exact .inl rfl
  | some k =>
    refine .inr fun e => ?_
    obtain ⟨cs, hcs⟩ := row_type h (k := k) (by rw [ownBlock_slice]; exact hA)
    obtain ⟨vs, r1, _⟩ := h'
    exact row_ne r1 hcs (by decide) (by rw [ownBlock_slice]; exact e.symm)
end Go.Proofs.Ytkndgpjamijbbaa
namespace Go.Proofs.Ytkndgpjamijbbaa
set_option maxRecDepth 100000
open Go Go.RowKit
/-- two words, two slices, two words .. -/
def ShapeL (l : List Value) : Prop := ∀ i v, l[i]? = some v → (i % 4 < 2 → ∃ x, v = .int .i64 x) ∧ (2 ≤ i % 4 → ∃ P n c, v = .slice P n c)
theorem ShapeL.nil : ShapeL [] := by
  intro i v h
  cases h
theorem ShapeL.take {xs : List Value} (hx : ShapeL xs) (k : Nat) : ShapeL (xs.take k) := by
  intro i v h
  by_cases hi : i < k
  · rw [List.getElem?_take_of_lt hi] at h
    exact hx i v h
  · rw [List.getElem?_eq_none (by simp; omega)] at h
    cases h
theorem ShapeL.drop {xs : List Value} (hx : ShapeL xs) (k : Nat) (h4 : k % 4 = 0) : ShapeL (xs.drop k) := by
  intro i v h
  rw [List.getElem?_drop] at h
  have h2 := hx _ v h
  have e : (k + i) % 4 = i % 4 := by omega
  rw [e] at h2
  exact h2
/-- an own row of cosignatures: its cells -/
def OwZ (w : World) (base : Nat) (A : Option Addr) (n c : Nat) (xs : List Value) : Prop :=
  xs.length = n * 4 ∧ ((A = none ∧ n = 0 ∧ c = 0) ∨ ∃ g cs, A = some ⟨g, 0, none⟩ ∧ base ≤ g ∧ Blk w g 104 cs ∧ n ≤ c ∧ c ≤ maxLen ∧ cs.size = c * 4 ∧ ShapeL cs.toList ∧ cs.toList.take (n * 4) = xs)
theorem OwZ.none_ (w : World) (base : Nat) : OwZ w base none 0 0 [] := ⟨rfl, .inl ⟨rfl, rfl, rfl⟩⟩
theorem OwZ.ext {w w' : World} {base n c : Nat} {A : Option Addr} {xs : List Value} (h : OwZ w base A n c xs) (e : Ext w w') : OwZ w' base A n c xs := by
  obtain ⟨h1, h2⟩ := h
  refine ⟨h1, ?_⟩
  rcases h2 with h2 | ⟨g, cs, k1, k2, k3, k4⟩
  · exact .inl h2
  · exact .inr ⟨g, cs, k1, k2, k3.ext e, k4⟩
theorem OwZ.grown {w w' : World} {base n c : Nat} {A : Option Addr} {xs : List Value} (h : OwZ w base A n c xs) {row : Option Nat} (e : w.grownBy w' row) (hne : ∀ g, blk A = some g → some g ≠ row) : OwZ w' base A n c xs := by
  obtain ⟨h1, h2⟩ := h
  refine ⟨h1, ?_⟩
  rcases h2 with h2 | ⟨g, cs, rfl, k2, k3, k4⟩
  · exact .inl h2
  · exact .inr ⟨g, cs, rfl, k2, k3.grown e (hne g rfl), k4⟩
theorem OwZ.lt {w : World} {base n c : Nat} {A : Option Addr} {xs : List Value} (h : OwZ w base A n c xs) {k : Nat} (hk : blk A = some k) : base ≤ k ∧ k < w.heap.size := by
  rcases h.2 with ⟨rfl, _⟩ | ⟨g, cs, rfl, k2, k3, _⟩
  · cases hk
  · have e : some g = some k := hk
    injection e with e
    subst e
    exact ⟨k2, k3.lt⟩
end Go.Proofs.Ytkndgpjamijbbaa
namespace Go.Proofs.Ytkndgpjamijbbaa
set_option maxRecDepth 100000
open Go Go.RowKit
structure CV where
  wn : Int
  k : Int
  P : Option Addr
  cp : Nat
  Q : Option Addr
  cq : Nat
def CV.cells (v : CV) : List Value := [.int .i64 v.wn, .int .i64 v.k, .slice v.P 64 v.cp, .slice v.Q 4 v.cq]
def vz : CV := ⟨0, 0, none, 0, none, 0⟩
def cv_ (vs : List CV) (j : Nat) : CV := vs.getD j vz
structure CVR (w : World) (v : CV) (g : CSig) : Prop where
  wn : g.wn = v.wn
  k : g.k = v.k
  ps : RBB w v.P 64 v.cp g.ps
  qs : RBB w v.Q 4 v.cq g.qs
theorem CVR.ext {w w' : World} {v : CV} {g : CSig} (h : CVR w v g) (e : Ext w w') : CVR w' v g := ⟨h.wn, h.k, h.ps.ext e, h.qs.ext e⟩
theorem fm_get (vs : List CV) : ∀ (j i : Nat), i < 4 → j < vs.length → (vs.flatMap CV.cells)[j * 4 + i]? = (cv_ vs j).cells[i]? := by
  induction vs with
  | nil => intro j i _ h; exact absurd h (Nat.not_lt_zero _)
  | cons v vs ih =>
    intro j i hi hj
    have h4 : v.cells.length = 4 := rfl
    rw [List.flatMap_cons]
    cases j with
    | zero =>
      rw [List.getElem?_append_left (by omega)]
      rw [Nat.zero_mul, Nat.zero_add]
      rfl
    | succ j =>
      rw [List.getElem?_append_right (by omega)]
      rw [show (j + 1) * 4 + i - v.cells.length = j * 4 + i by rw [h4]; omega]
      exact ih j i hi (by rw [List.length_cons] at hj; omega)
/-- a slice of cosignatures that is read, its cells -/
structure RCV (w : World) (A : Option Addr) (n c : Nat) (vs : List CV) (gs : List CSig) : Prop where
  lv : vs.length = n
  lg : gs.length = n
  room : n ≤ c
  cap : c ≤ maxLen
  cells : 0 < n → ∃ ad, A = some ad ∧ ∀ j u, (vs.flatMap CV.cells)[j]? = some u → w.cell? (ad.add j) = some u
  each : ∀ j, j < n → CVR w (cv_ vs j) (cg_ gs j)
theorem RCV.ext {w w' : World} {A : Option Addr} {n c : Nat} {vs : List CV} {gs : List CSig} (h : RCV w A n c vs gs) (e : Ext w w') : RCV w' A n c vs gs :=
  ⟨h.lv, h.lg, h.room, h.cap, fun hn => by
    obtain ⟨ad, ha, hc⟩ := h.cells hn
    exact ⟨ad, ha, fun j u hu => e.cell (hc j u hu)⟩, fun j hj => (h.each j hj).ext e⟩
theorem add_lit_ (ad : Addr) (j i : Nat) : (ad.add j).add i = ad.add (j + i) := by
  unfold Addr.add
  by_cases hj : j = 0 <;> by_cases hi : i = 0 <;> simp [hj, hi]
  omega
theorem RCV.at_ {w : World} {ad : Addr} {n c : Nat} {vs : List CV} {gs : List CSig} (h : RCV w (some ad) n c vs gs) {j : Nat} (hj : j < n) :
    w.cell? (ad.add (j * 4)) = some (.int .i64 (cv_ vs j).wn) ∧ w.cell? ((ad.add (j * 4)).add 1) = some (.int .i64 (cv_ vs j).k) ∧ w.cell? ((ad.add (j * 4)).add 2) = some (.slice (cv_ vs j).P 64 (cv_ vs j).cp) ∧ w.cell? ((ad.add (j * 4)).add 3) = some (.slice (cv_ vs j).Q 4 (cv_ vs j).cq) := by
  obtain ⟨ad', ha, hc⟩ := h.cells (by omega)
  injection ha with ha
  subst ha
  have hl := h.lv
  have k := fun i (hi : i < 4) => fm_get vs j i hi (by omega)
  refine ⟨?_, ?_, ?_, ?_⟩
  · exact hc _ _ (k 0 (by omega))
  · rw [add_lit_]; exact hc _ _ (k 1 (by omega))
  · rw [add_lit_]; exact hc _ _ (k 2 (by omega))
  · rw [add_lit_]; exact hc _ _ (k 3 (by omega))
/-- an own row of cosignatures -/
def OCS (w : World) (base : Nat) (A : Option Addr) (n c : Nat) (vs : List CV) (gs : List CSig) : Prop :=
  vs.length = n ∧ gs.length = n ∧ OwZ w base A n c (vs.flatMap CV.cells) ∧ ∀ j, j < n → CVR w (cv_ vs j) (cg_ gs j)
theorem OCS.none_ (w : World) (base : Nat) : OCS w base none 0 0 [] [] := ⟨rfl, rfl, OwZ.none_ _ _, fun j hj => absurd hj (Nat.not_lt_zero _)⟩
theorem OCS.ext {w w' : World} {base n c : Nat} {A : Option Addr} {vs : List CV} {gs : List CSig} (h : OCS w base A n c vs gs) (e : Ext w w') : OCS w' base A n c vs gs :=
  ⟨h.1, h.2.1, h.2.2.1.ext e, fun j hj => (h.2.2.2 j hj).ext e⟩
theorem OCS.lt {w : World} {base n c : Nat} {A : Option Addr} {vs : List CV} {gs : List CSig} (h : OCS w base A n c vs gs) {k : Nat} (hk : blk A = some k) : base ≤ k ∧ k < w.heap.size := h.2.2.1.lt hk
/-- one cosignature in a block of its own, as 'append' lays it -/
theorem RCV.one {w : World} {g : Nat} {wn k : Int} {P Q : Option Addr} {cp cq : Nat} {ps qs : List (List UInt8)} (hb : Blk w g 104 #[.int .i64 wn, .int .i64 k, .slice P 64 cp, .slice Q 4 cq]) (rP : RBB w P 64 cp ps) (rQ : RBB w Q 4 cq qs) :
    RCV w (some ⟨g, 0, none⟩) 1 1 [⟨wn, k, P, cp, Q, cq⟩] [⟨wn, k, ps, qs⟩] := by
  refine ⟨rfl, rfl, Nat.le_refl _, by unfold maxLen; omega, fun _ => ⟨_, rfl, fun j u hu => ?_⟩, fun j hj => ?_⟩
  · rw [add_plain]
    refine hb.cell ?_
    rw [← hu]
    show _ = (CV.cells ⟨wn, k, P, cp, Q, cq⟩ ++ [])[j]?
    rw [List.append_nil]
    exact List.getElem?_toArray
  · obtain rfl : j = 0 := by omega
    exact ⟨rfl, rfl, rP, rQ⟩
end Go.Proofs.Ytkndgpjamijbbaa
namespace Go.Proofs.Ytkndgpjamijbbaa
set_option maxRecDepth 100000
open Go Go.RowKit
/-- a slice of two like cosignatures in a block of its own -/
theorem RCS.two {w : World} {b : Nat} {P Q : Option Addr} {np cp nq cq : Nat} {x k : Int} {PS QS : List (List UInt8)} {t : TypeId}
    (hB : Blk w b t #[.int .i64 x, .int .i64 k, .slice P np cp, .slice Q nq cq, .int .i64 x, .int .i64 k, .slice P np cp, .slice Q nq cq]) (rP : RBB w P np cp PS) (rQ : RBB w Q nq cq QS) :
    RCS w (some ⟨b, 0, none⟩) 2 2 [⟨x, k, PS, QS⟩, ⟨x, k, PS, QS⟩] := by
  refine ⟨rfl, Nat.le_refl _, small_maxLen (by decide), fun _ => ⟨_, rfl, fun j hj => ?_⟩⟩
  have h : j = 0 ∨ j = 1 := by omega
  rcases h with rfl | rfl
  · exact ⟨P, np, cp, Q, nq, cq, hB.cell (i := 0) rfl, hB.cell (i := 1) rfl, hB.cell (i := 2) rfl, hB.cell (i := 3) rfl, rP, rQ⟩
  · exact ⟨P, np, cp, Q, nq, cq, hB.cell (i := 4) rfl, hB.cell (i := 5) rfl, hB.cell (i := 6) rfl, hB.cell (i := 7) rfl, rP, rQ⟩
theorem RCS.one {w : World} {b : Nat} {P Q : Option Addr} {np cp nq cq : Nat} {x k : Int} {PS QS : List (List UInt8)} {t : TypeId}
    (hB : Blk w b t #[.int .i64 x, .int .i64 k, .slice P np cp, .slice Q nq cq]) (rP : RBB w P np cp PS) (rQ : RBB w Q nq cq QS) :
    RCS w (some ⟨b, 0, none⟩) 1 1 [⟨x, k, PS, QS⟩] := by
  refine ⟨rfl, Nat.le_refl _, small_maxLen (by decide), fun _ => ⟨_, rfl, fun j hj => ?_⟩⟩
  obtain rfl : j = 0 := by omega
  exact ⟨P, np, cp, Q, nq, cq, hB.cell (i := 0) rfl, hB.cell (i := 1) rfl, hB.cell (i := 2) rfl, hB.cell (i := 3) rfl, rP, rQ⟩
end Go.Proofs.Ytkndgpjamijbbaa
namespace Go.Proofs.Ytkndgpjamijbbaa
set_option maxRecDepth 100000
open Go Go.RowKit
structure DRec where
  who : Int
  said : Int
  ix : Int
  ot : Bool
def dz : DRec := ⟨0, 0, 0, false⟩
def dr_ (ds : List DRec) (j : Nat) : DRec := ds.getD j dz
def inR (x : Int) : Prop := -9223372036854775808 ≤ x ∧ x ≤ 9223372036854775807
/-- a slice of draws that is read -/
structure RDS (w : World) (A : Option Addr) (n c : Nat) (ds : List DRec) : Prop where
  len : ds.length = n
  room : n ≤ c
  cap : c ≤ maxLen
  cells : 0 < n → ∃ ad, A = some ad ∧ ∀ j, j < n → w.cell? (ad.add (j * 4)) = some (.int .i64 (dr_ ds j).who) ∧ w.cell? ((ad.add (j * 4)).add 1) = some (.int .i64 (dr_ ds j).said) ∧
    w.cell? ((ad.add (j * 4)).add 2) = some (.int .i64 (dr_ ds j).ix) ∧ w.cell? ((ad.add (j * 4)).add 3) = some (.bool (dr_ ds j).ot) ∧ inR (dr_ ds j).who ∧ inR (dr_ ds j).said ∧ inR (dr_ ds j).ix
theorem RDS.ext {w w' : World} {A : Option Addr} {n c : Nat} {ds : List DRec} (h : RDS w A n c ds) (e : Ext w w') : RDS w' A n c ds :=
  ⟨h.len, h.room, h.cap, fun hn => by
    obtain ⟨ad, ha, hc⟩ := h.cells hn
    refine ⟨ad, ha, fun j hj => ?_⟩
    obtain ⟨h1, h2, h3, h4, h5⟩ := hc j hj
    exact ⟨e.cell h1, e.cell h2, e.cell h3, e.cell h4, h5⟩⟩
end Go.Proofs.Ytkndgpjamijbbaa
namespace Go.Proofs.Ytkndgpjamijbbaa
set_option maxRecDepth 100000
open Go Go.RowKit
theorem fewL_len (most : Nat) (Ls : List (List UInt8)) : (fewL most Ls).length = Ls.length := by simp [fewL]
end Go.Proofs.Ytkndgpjamijbbaa
