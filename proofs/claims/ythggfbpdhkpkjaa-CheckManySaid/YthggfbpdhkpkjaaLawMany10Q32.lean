/-
  ref5.Decode, walked. slices.EqualFunc of byte slices and sign.Same, walked. What is written as a signature is read as that one; what is read is what the document reads. Plain theorems.
-/
import Derived.Test.YthggfbpdhkpkjaaLawMany10Q27
import Derived.Test.YthggfbpdhkpkjaaLawMany10Q31
import Derived.Test.YthggfbpdhkpkjaaLawMany10Q26
namespace Go.Proofs.Ythggfbpdhkpkjaa
set_option maxRecDepth 100000
open Go Go.RowKit
theorem RR.blk_ {w : World} {base q : Nat} {L : List UInt8} {bad : Bool} (h : RR w base q L bad) : ∃ cs, Blk w q 98 cs ∧ ∀ (i : Nat) (x : Int), cs[i]? ≠ some (.int .u8 x) := by
  obtain ⟨A, n, c, At, B, h1, _⟩ := h
  exact ⟨_, h1, rd_no _ _ _ _ _⟩
theorem RR.row {w w' : World} {base q : Nat} {L : List UInt8} {bad : Bool} (h : RR w base q L bad) {P : Option Addr} {n c : Nat} {vs : List Value} (own : w.ownsRow base 22 1 (.slice P n c) n vs) (g : w.grownBy w' (blk P)) : RR w' base q L bad := by
  obtain ⟨A, n', c', At, B, h1, h2, h3, h4, h5, h6, h7, h8⟩ := h
  have hlt : ∀ k, blk P = some k → base ≤ k := fun k hk => (World.ownsRow.lt own k (by rw [ownBlock_slice]; exact hk)).1
  refine ⟨A, n', c', At, B, h1.grown g (fun e => ?_), h2.grown g (fun h0 e => ?_), h3, h4, h5, h6, h7, h8⟩
  · exact row_ne own h1 (by decide) (by rw [ownBlock_slice]; exact e.symm)
  · cases hA : blk A with
    | none =>
      obtain ⟨ad, e1, _⟩ := h2.cells h0
      rw [e1] at hA
      cases hA
    | some k =>
      have := h8 h0 k hA
      have := hlt k (e.symm.trans hA)
      omega
theorem RR.far {w w' : World} {base q : Nat} {L : List UInt8} {bad : Bool} (h : RR w base q L bad) {k : Nat} {cs : Array Value} (hb : Blk w k 39 cs) (hno : ∀ (i : Nat) (x : Int), cs[i]? ≠ some (.int .u8 x)) (g : w.grownBy w' (some k)) : RR w' base q L bad := by
  obtain ⟨A, n', c', At, B, h1, h2, h3⟩ := h
  refine ⟨A, n', c', At, B, h1.grown g (fun e => ?_), h2.grown g (h2.apart5 hb hno), h3⟩
  injection e with e
  subst e
  unfold Blk at h1 hb
  rw [h1] at hb
  injection hb with hb
  injection hb with _ hb
  revert hb
  decide
theorem Chg.step {a b c : World} {p : Nat} {A : Option Addr} {row : Option Nat} (h : Chg a b p A) (g : b.grownBy c row) (hr : ∀ k, row = some k → k = p ∨ blk A = some k ∨ a.heap.size ≤ k) : Chg a c p A :=
  ⟨g.os.trans h.os, g.tape.trans h.tape, g.output.trans h.output, Nat.le_trans h.size g.size, fun i hi h1 h2 => (g.block i (Nat.lt_of_lt_of_le hi h.size) (fun e => by
    rcases hr i e.symm with e' | e' | e'
    · exact h1 e'
    · exact h2 e'
    · omega)).trans (h.block i hi h1 h2)⟩
theorem OBC.chg {w w' : World} {base n c p g : Nat} {A : Option Addr} {Ls : List (List UInt8)} (h : OBC w base A n c Ls) (k : Chg w w' p (some ⟨g, 0, none⟩)) {tp tg : TypeId} {cp cg : Array Value} (hp : Blk w p tp cp) (hg : Blk w g tg cg) (htp : tp ≠ 22) (htg : tg ≠ 22)
    (np : ∀ (i : Nat) (x : Int), cp[i]? ≠ some (.int .u8 x)) (ng : ∀ (i : Nat) (x : Int), cg[i]? ≠ some (.int .u8 x)) : OBC w' base A n c Ls := by
  obtain ⟨vs, h1, h2, h3⟩ := h
  refine ⟨vs, row_chg h1 k (row_ne h1 hp htp) (fun b hb => by cases hb; exact row_ne h1 hg htg), h2, fun j hj => ?_⟩
  obtain ⟨B, m, d, h4, h5, h6⟩ := h3 j hj
  refine ⟨B, m, d, h4, h5.chg k (fun hm b hb => ⟨fun e => ?_, fun e => ?_⟩), h6⟩
  · exact h5.apart5 hp np hm (by rw [hb, e])
  · exact h5.apart5 hg ng hm (by rw [hb]; exact e.symm)
/-- what the document reads -/
def refOK (L : List UInt8) : Prop := L.length = 2180 ∧ decX L < 16
end Go.Proofs.Ythggfbpdhkpkjaa
namespace Go.Proofs.Ythggfbpdhkpkjaa
set_option maxRecDepth 100000
open Go Go.RowKit
theorem list_eq_lb {Ls Ms : List (List UInt8)} (hl : Ls.length = Ms.length) (h : ∀ j, j < Ls.length → lb Ls j = lb Ms j) : Ls = Ms := by
  apply List.ext_getElem hl
  intro j h1 h2
  have := h j h1
  simpa [lb, h1, h2] using this
end Go.Proofs.Ythggfbpdhkpkjaa
namespace Go.Proofs.Ythggfbpdhkpkjaa
set_option maxRecDepth 100000
open Go Go.RowKit
theorem rtake_yes_ {L : List UInt8} {z : Nat} (h : z ≤ L.length) : rtake L false (z : Int) = (L.take z, L.drop z, false) := by
  unfold rtake
  rw [if_neg (by rintro (h1 | h1 | h1) <;> first | (cases h1; done) | omega)]
  rfl
theorem someS_yes (X : List UInt8) : ∀ n, 32 * n ≤ X.length → someS (X, false) n = (X.drop (32 * n), false) := by
  intro n
  induction n with
  | zero => intro _; simp [someS]
  | succ n ih =>
    intro h
    show (rtake (someS (X, false) n).1 (someS (X, false) n).2 ((32 : Nat) : Int)).2 = _
    rw [ih (by omega)]
    rw [rtake_yes_ (by rw [List.length_drop]; omega)]
    show ((X.drop (32 * n)).drop 32, false) = _
    rw [List.drop_drop]
    congr 2
theorem someP_yes (X : List UInt8) (k : Nat) (h : 32 * (k + 1) ≤ X.length) : someP (X, false) k = (X.drop (32 * k)).take 32 := by
  unfold someP
  rw [someS_yes X k (by omega)]
  show (rtake (X.drop (32 * k)) false ((32 : Nat) : Int)).1 = _
  rw [rtake_yes_ (by rw [List.length_drop]; omega)]
theorem dS1_yes {L : List UInt8} (h : L.length = 2180) : dS1 L = (L.drop 4, false) := by
  unfold dS1
  show (rtake L false ((4 : Nat) : Int)).2 = _
  rw [rtake_yes_ (by omega)]
theorem dS2_yes {L : List UInt8} (h : L.length = 2180) : dS2 L = (L.drop 2052, false) := by
  unfold dS2
  rw [dS1_yes h, someS_yes _ 64 (by rw [List.length_drop]; omega), List.drop_drop]
theorem dS3_yes {L : List UInt8} (h : L.length = 2180) : dS3 L = ([], false) := by
  unfold dS3
  rw [dS2_yes h, someS_yes _ 4 (by rw [List.length_drop]; omega), List.drop_drop, List.drop_eq_nil_of_le (by omega)]
theorem decP_at {L : List UInt8} (h : L.length = 2180) {i : Nat} (hi : i < 64) : lb (decP L) i = (L.drop (4 + 32 * i)).take 32 := by
  unfold decP
  rw [lb_range _ hi, dS1_yes h, someP_yes _ i (by rw [List.length_drop]; omega), List.drop_drop]
theorem decQ_at {L : List UInt8} (h : L.length = 2180) {i : Nat} (hi : i < 4) : lb (decQ L) i = (L.drop (2052 + 32 * i)).take 32 := by
  unfold decQ
  rw [lb_range _ hi, dS2_yes h, someP_yes _ i (by rw [List.length_drop]; omega), List.drop_drop]
theorem decX_nonneg (L : List UInt8) : 0 ≤ decX L := by unfold decX u32i; omega
theorem decOK5_iff (L : List UInt8) : decOK5 L = true ↔ refOK L := by
  constructor
  · intro h
    refine ⟨decOK5_len h, ?_⟩
    unfold decOK5 rightB at h
    simp only [Bool.and_eq_true, decide_eq_true_eq] at h
    exact h.2.1.1.2
  · rintro ⟨h, hx⟩
    unfold decOK5
    rw [dS3_yes h]
    have h1 : all32 (decP L) := by
      intro i hi
      have hi' : i < 64 := by simpa [decP] using hi
      rw [decP_at h hi', List.length_take, List.length_drop]
      omega
    have h2 : all32 (decQ L) := by
      intro i hi
      have hi' : i < 4 := by simpa [decQ] using hi
      rw [decQ_at h hi', List.length_take, List.length_drop]
      omega
    rw [right_yes (decX_nonneg L) hx (by simp [decP]) (by simp [decQ]) h1 h2]
    rfl
theorem flat_at : ∀ (Ls : List (List UInt8)), (∀ i, i < Ls.length → (lb Ls i).length = 32) → Ls.flatten.length = 32 * Ls.length ∧ ∀ i, i < Ls.length → (Ls.flatten.drop (32 * i)).take 32 = lb Ls i := by
  intro Ls
  induction Ls with
  | nil => intro _; exact ⟨rfl, fun i hi => by simp at hi⟩
  | cons X Ls ih =>
    intro h
    have hX : X.length = 32 := h 0 (by simp)
    obtain ⟨h1, h2⟩ := ih (fun i hi => h (i + 1) (by simp; omega))
    refine ⟨by rw [List.flatten_cons, List.length_append, hX, h1, List.length_cons]; omega, fun i hi => ?_⟩
    cases i with
    | zero =>
      rw [List.flatten_cons]
      show ((X ++ Ls.flatten).drop 0).take 32 = X
      rw [List.drop_zero, List.take_left' hX]
    | succ i =>
      rw [List.flatten_cons]
      have e : (X ++ Ls.flatten).drop (32 * (i + 1)) = Ls.flatten.drop (32 * i) := by
        rw [List.drop_append, hX, show 32 * (i + 1) - 32 = 32 * i from by omega, List.drop_eq_nil_of_le (by omega), List.nil_append]
      rw [e, h2 i (by simpa using hi)]
      rfl
theorem beNum_bytesOf (x : UInt32) : beNum (bytesOf x) = x := by
  rw [← beBytes_four]
  exact beNum_beBytes4 x
theorem list_of_lb {Ls Ms : List (List UInt8)} (hl : Ls.length = Ms.length) (h : ∀ j, j < Ls.length → lb Ls j = lb Ms j) : Ls = Ms := list_eq_lb hl h
theorem dec_enc5 {k : Nat} (hk : k < 16) {Ps Qs : List (List UInt8)} (hp : Ps.length = 64) (hq : Qs.length = 4) (hp32 : ∀ i, i < 64 → (lb Ps i).length = 32) (hq32 : ∀ i, i < 4 → (lb Qs i).length = 32) :
    refOK (encS (k : Int) Ps Qs) ∧ decX (encS (k : Int) Ps Qs) = (k : Int) ∧ decP (encS (k : Int) Ps Qs) = Ps ∧ decQ (encS (k : Int) Ps Qs) = Qs := by
  have hLs : (Ps ++ Qs).length = 68 := by rw [List.length_append, hp, hq]
  have hlb0 : ∀ i, i < 64 → lb (Ps ++ Qs) i = lb Ps i := by
    intro i hi
    unfold lb
    simp [List.getElem?_append_left (show i < Ps.length by omega)]
  have hlb1 : ∀ i, i < 4 → lb (Ps ++ Qs) (64 + i) = lb Qs i := by
    intro i hi
    unfold lb
    simp [List.getElem?_append_right (show Ps.length ≤ 64 + i by omega), hp]
  have h32 : ∀ i, i < (Ps ++ Qs).length → (lb (Ps ++ Qs) i).length = 32 := by
    intro i hi
    by_cases h : i < 64
    · rw [hlb0 i h]; exact hp32 i h
    · have := hlb1 (i - 64) (by omega)
      rw [show 64 + (i - 64) = i from by omega] at this
      rw [this]
      exact hq32 _ (by omega)
  obtain ⟨hfl, hfa⟩ := flat_at _ h32
  have hb4 : (bytesOf (keyW (k : Int))).length = 4 := bytesOf_length _
  have hl : (encS (k : Int) Ps Qs).length = 2180 := by unfold encS; rw [List.length_append, hb4, hfl, hLs]
  have hd : ∀ i, (encS (k : Int) Ps Qs).drop (4 + i) = (Ps ++ Qs).flatten.drop i := by
    intro i
    unfold encS
    rw [List.drop_append, hb4, show 4 + i - 4 = i from by omega, List.drop_eq_nil_of_le (by omega), List.nil_append]
  have hx : decX (encS (k : Int) Ps Qs) = (k : Int) := by
    unfold decX
    have e : (rtake (encS (k : Int) Ps Qs) false 4).1 = bytesOf (keyW (k : Int)) := by
      show (rtake (encS (k : Int) Ps Qs) false ((4 : Nat) : Int)).1 = _
      rw [rtake_yes_ (by omega)]
      unfold encS
      exact List.take_left' hb4
    rw [e, beNum_bytesOf]
    unfold keyW u32i
    rw [UInt32.toNat_ofNat']
    omega
  refine ⟨⟨hl, by rw [hx]; omega⟩, hx, list_of_lb (by rw [hp]; simp [decP]) (fun i hi => ?_), list_of_lb (by rw [hq]; simp [decQ]) (fun i hi => ?_)⟩
  · have hi' : i < 64 := by simpa [decP] using hi
    rw [decP_at hl hi', hd, hfa i (by omega), hlb0 i hi']
  · have hi' : i < 4 := by simpa [decQ] using hi
    rw [decQ_at hl hi', show 2052 + 32 * i = 4 + 32 * (64 + i) from by omega, hd, hfa (64 + i) (by omega), hlb1 i hi']
end Go.Proofs.Ythggfbpdhkpkjaa
