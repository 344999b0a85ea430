/-
  check.Put, check.Encode; ref10's Put, walked. A row of byte slices of the call's own, each of its own block, all unlike. Plain theorems. law5.turned, walked. law5.SignNumbers, walked. Package manifest, walked: name, Right, Encode. manifest.Encode, walked. A region whose calls turn one object of the call's own, one behind the other, with other operations between in any order. Plain theorems. manifest.Decode, walked. The reference's Reader, walked.
-/
import Derived.Test.YthggfbpdhkpkjaaLawMany10Q30
import Derived.Test.YthggfbpdhkpkjaaLawMany10Q25
import Derived.Test.YthggfbpdhkpkjaaLawMany10Q22
import Derived.Test.YthggfbpdhkpkjaaLawMany10Q14
import Derived.Test.YthggfbpdhkpkjaaLawMany10Q21
import Derived.Test.YthggfbpdhkpkjaaLawMany10Q18
import Derived.Test.YthggfbpdhkpkjaaLawMany10Q27
import Derived.Test.YthggfbpdhkpkjaaLawMany10Q26
import Derived.Test.YthggfbpdhkpkjaaLawMany10Q5
namespace Go.Proofs.Ythggfbpdhkpkjaa
set_option maxRecDepth 100000
open Go Go.RowKit
noncomputable def putOK (x : Int) (R : List UInt8) (k : Int) (Ps Qs : List (List UInt8)) : Bool := rightC x R && rightB k Ps Qs
noncomputable def putL (x : Int) (R : List UInt8) (k : Int) (Ps Qs : List (List UInt8)) : List UInt8 := if putOK x R k Ps Qs = true then bytesOf (keyW x) ++ (R ++ encS k Ps Qs) else []
theorem putL_yes {x : Int} {R : List UInt8} {k : Int} {Ps Qs : List (List UInt8)} (h : putOK x R k Ps Qs = true) : putL x R k Ps Qs = bytesOf (keyW x) ++ (R ++ encS k Ps Qs) := by unfold putL; rw [if_pos h]
theorem putL_no {x : Int} {R : List UInt8} {k : Int} {Ps Qs : List (List UInt8)} (h : putOK x R k Ps Qs = false) : putL x R k Ps Qs = [] := by unfold putL; rw [h]; rfl
theorem Wtr.ext_ {w w' : World} {base p n c : Nat} {A : Option Addr} {L : List UInt8} (h : Wtr w base p A n c L) (e : Ext w w') : Wtr w' base p A n c L := ⟨h.blk.ext e, h.own.ext e, h.ne, h.base⟩
theorem Wtr.ext {w w' : World} {base p n c : Nat} {A : Option Addr} {L : List UInt8} (h : Wtr w base p A n c L) (e : Ext w w') : Wtr w' base p A n c L := h.ext_ e
theorem Wtr.lt_ {w : World} {base p n c : Nat} {A : Option Addr} {L : List UInt8} (h : Wtr w base p A n c L) : p < w.heap.size ∧ ∀ k, Go.Proofs.Ythggfbpdhkpkjaa.blk A = some k → k < w.heap.size := ⟨h.blk.lt, fun k hk => (h.own.lt hk).2⟩
theorem Blk.chg_ {w w' : World} {g : Nat} {t : TypeId} {cs : Array Value} {p : Nat} {A : Option Addr} (h : Blk w g t cs) (k : Chg w w' p A) (h1 : g ≠ p) (h2 : blk A ≠ some g) : Blk w' g t cs := (k.block g h.lt h1 h2).trans h
theorem WP.of_ext {wI w w' : World} {p n c : Nat} {A : Option Addr} {L : List UInt8} (h : Wtr w wI.heap.size p A n c L) (e : Ext w w') : WP wI w p A n L w' := ⟨A, c, h.ext_ e, e.chg _ _, Later.refl _ _⟩
theorem WP.pre {wI w w1 w2 : World} {p N : Nat} {A : Option Addr} {M : List UInt8} (e : Ext w w1) (h : WP wI w1 p A N M w2) : WP wI w p A N M w2 := by
  obtain ⟨A', c', k1, k2, k3⟩ := h
  refine ⟨A', c', k1, (e.chg p A).trans (Later.refl _ _) k2, ?_⟩
  rcases k3 with k | k | ⟨q, k, hq⟩
  · exact .inl k
  · exact .inr (.inl k)
  · exact .inr (.inr ⟨q, k, Nat.le_trans e.size hq⟩)
set_option maxHeartbeats 4000000 in
theorem cput_any (wI w : World) (p n0 c0 : Nat) (A0 : Option Addr) (X0 : List UInt8) (B P Q : Option Addr) (n d np cp nq cq : Nat) (x k : Int) (R : List UInt8) (PS QS : List (List UInt8)) (hEI : Ext wI w) (hW : Wtr w wI.heap.size p A0 n0 c0 X0) (hn : n0 ≤ 1000000) (rR : RB w B n d R) (ha : Away B n p A0) (rP : RBB w P np cp PS) (rQ : RBB w Q nq cq QS) :
    Calls Try.prog 23 #[.pointer (some ⟨p, 0, none⟩), .agg #[.int .i64 x, .slice B n d, .int .i64 k, .slice P np cp, .slice Q nq cq]] w fun e w' => e = .returned (.bool (putOK x R k PS QS)) ∧ WP wI w p A0 (n0 + (putL x R k PS QS).length) (X0 ++ putL x R k PS QS) w' := by
  have hck := fun w' => conv_key (P := Try.prog) (w := w') Try.underlying3 Try.underlying101 x
  have hE := Ext.new w (.cells #[.int .i64 x, .slice B n d, .int .i64 k, .slice P np cp, .slice Q nq cq] 41)
  have hB := Blk.new w 41 #[.int .i64 x, .slice B n d, .int .i64 k, .slice P np cp, .slice Q nq cq]
  have hpw := hW.lt_
  go_enter Try.func23, Try.ntmps23
  go_wp2_with fail
  refine (sencode_any k P Q np cp nq cq PS QS _ (rP.ext hE) (rQ.ext hE)).mono ?_
  rintro e w2 ⟨hyes, hno, hE2⟩
  replace hB := hB.ext hE2
  replace hE := hE.trans hE2
  have hsz := (Ext.new w (.cells #[.int .i64 x, .slice B n d, .int .i64 k, .slice P np cp, .slice Q nq cq] 41)).size
  clear hE2 rP rQ
  cases hb : rightB k PS QS with
  | false =>
    obtain rfl := hno hb
    have hv : putOK x R k PS QS = false := by unfold putOK; rw [hb]; simp
    have hl : putL x R k PS QS = [] := putL_no hv
    have Hv := Lib.hid hv
    have Hl := Lib.hid hl
    clear hyes hno hck hb hv hl
    go_wp2_with fail
    go_ret
    rw [Hv.out, Hl.out]
    exact ⟨rfl, by simpa using WP.of_ext hW hE⟩
  | true =>
    obtain ⟨G, dg, rfl, own⟩ := hyes hb
    clear hyes hno
    have y0 := hB.cell (i := 0) (v := .int .i64 x) rfl
    have y1 := hB.cell (i := 1) (v := .slice B n d) rfl
    have Hb := Lib.hid hb
    clear hb
    go_wp2_with fail
    refine (cright_any x B n d R w2 (rR.ext hE)).mono ?_
    rintro e w3 ⟨rfl, hE3⟩
    replace hB := hB.ext hE3
    replace hE := hE.trans hE3
    replace own := own.ext hE3
    clear hE3 y0 y1
    cases hc : rightC x R with
    | false =>
      have hv : putOK x R k PS QS = false := by unfold putOK; rw [hc]; simp
      have hl : putL x R k PS QS = [] := putL_no hv
      have Hv := Lib.hid hv
      have Hl := Lib.hid hl
      clear hck hv hl hc
      go_wp2_with fail
      go_ret
      rw [Hv.out, Hl.out]
      exact ⟨rfl, by simpa using WP.of_ext hW hE⟩
    | true =>
      have hv : putOK x R k PS QS = true := by unfold putOK; rw [hc, Hb.out]; rfl
      have hl := putL_yes hv
      have h32 := (rightC_true hc).2.2
      obtain rfl : n = 32 := rR.len.symm.trans h32
      have Hl2 := own.len
      have hlen : (bytesOf (keyW x) ++ (R ++ encS k PS QS)).length = 4 + 32 + 2180 := by
        have h4 : (bytesOf (keyW x)).length = 4 := rfl
        simp only [List.length_append, h4, h32, Hl2]
      have Hlen := Lib.hid hlen
      have Hv := Lib.hid hv
      have Hl := Lib.hid hl
      have Happ := Lib.hid (show X0 ++ (bytesOf (keyW x) ++ (R ++ encS k PS QS)) = X0 ++ beBytes (keyW x) 4 ++ R ++ encS k PS QS by rw [beBytes_four]; simp only [List.append_assoc])
      clear hv hl hlen h32 Hl2 hc Hb
      have hW3 := hW.ext_ hE
      have rR3 := rR.ext hE
      have hEI3 := hEI.trans hE
      have y0 := hB.cell (i := 0) (v := .int .i64 x) rfl
      have y1 := hB.cell (i := 1) (v := .slice B 32 d) rfl
      have hgs := hB.lt
      have hWn := wnum_any wI w3 p n0 c0 A0 X0 (keyW x) hEI3 hW3 (by omega)
      have HWn := Lib.hid hWn
      clear hWn
      go_wp2_with fail
      refine HWn.out.mono ?_
      rintro e w4 ⟨rfl, A4, c4, hW4, hC4, hL4⟩
      have hB4 := hB.chg_ hC4 (by omega) (fun e => by have := hpw.2 _ e; omega)
      have rR4 := rR3.chg hC4 ha
      have ha4 := ha.later hL4 (fun h0 q hq => rR3.blk_lt h0 q hq)
      have rG := own.rb
      have haG : Away G 2180 p A0 := fun _ q hq => by have := (own.lt hq).1; exact ⟨by omega, fun e => by have := hpw.2 _ e; omega⟩
      have rG4 := rG.chg hC4 haG
      have haG4 := haG.later hL4 (fun h0 q hq => rG.blk_lt h0 q hq)
      have hEI4 := hW3.chg_ext hEI3 hC4
      have y0 := hB4.cell (i := 0) (v := .int .i64 x) rfl
      have y1 := hB4.cell (i := 1) (v := .slice B 32 d) rfl
      have hWn := wraw_any wI w4 p (n0 + 4) c4 32 d A4 B (X0 ++ beBytes (keyW x) 4) R hEI4 hW4 rR4 (by omega)
      have HWr := Lib.hid hWn
      clear hWn HWn hB rG hck
      go_wp2_with fail
      refine HWr.out.mono ?_
      rintro e w5 ⟨rfl, A5, c5, hW5, hC5, hL5⟩
      have rG5 := rG4.chg hC5 haG4
      have hEI5 := hW4.chg_ext hEI4 hC5
      have hWn := wraw_any wI w5 p (n0 + 4 + 32) c5 2180 dg A5 G (X0 ++ beBytes (keyW x) 4 ++ R) (encS k PS QS) hEI5 hW5 rG5 (by omega)
      have HWs := Lib.hid hWn
      clear hWn HWr y0 y1
      go_wp2_with fail
      refine HWs.out.mono ?_
      rintro e w6 ⟨rfl, k6⟩
      go_wp2_with fail
      go_ret
      rw [Hv.out, Hl.out, Hlen.out, Happ.out]
      refine ⟨rfl, ?_⟩
      have k4 := WP.trans hW4 hC4 hL4 (k6.trans hW5 hC5 hL5)
      exact WP.pre hE (by simpa [Nat.add_assoc] using k4)
theorem encS_len {k : Int} {PS QS : List (List UInt8)} (h : rightB k PS QS = true) : (encS k PS QS).length = 2180 := by
  obtain ⟨_, ⟨hpl, hp32⟩, hql, hq32⟩ := rightB_true h
  unfold encS
  have hL : (PS ++ QS).length = 68 := by rw [List.length_append, hpl, hql]
  have hf := flatten_take_len (PS ++ QS) 68 (by omega) (fun i hi => by
    by_cases h64 : i < 64
    · unfold lb
      rw [List.getD_eq_getElem?_getD, List.getElem?_append_left (by omega), ← List.getD_eq_getElem?_getD]
      exact hp32 i (by omega)
    · unfold lb
      rw [List.getD_eq_getElem?_getD, List.getElem?_append_right (by omega), ← List.getD_eq_getElem?_getD, hpl]
      exact hq32 (i - 64) (by omega))
  rw [List.take_of_length_le (by omega)] at hf
  simp only [List.length_append, hf]
  rfl
end Go.Proofs.Ythggfbpdhkpkjaa
namespace Go.Proofs.Ythggfbpdhkpkjaa
set_option maxRecDepth 100000
open Go Go.RowKit
/-- blocks of b and beyond, below u; the elements' ones rise -/
def OBX (w : World) (b u : Nat) (A : Option Addr) (n c : Nat) (Ls : List (List UInt8)) : Prop :=
  ∃ (vs : List Value) (f d : Nat → Nat), w.ownsRow b 22 1 (.slice A n c) n vs ∧ Ls.length = n ∧ (∀ j, j < n → vs[j]? = some (.slice (some ⟨f j, 0, none⟩) 32 (d j)) ∧ OB w b (some ⟨f j, 0, none⟩) 32 (d j) (lb Ls j) ∧ f j < u) ∧ (∀ i j, i < j → j < n → f i < f j) ∧ ∀ k, blk A = some k → k < u
section
variable {w w' : World} {b u n c : Nat} {A : Option Addr} {Ls : List (List UInt8)}
theorem OBX.none_ (w : World) (b u : Nat) : OBX w b u none 0 0 [] := ⟨[], fun _ => 0, fun _ => 0, World.ownsRow_nil w _ _ _, rfl, fun j hj => absurd hj (Nat.not_lt_zero _), fun i j _ hj => absurd hj (Nat.not_lt_zero _), fun k hk => by cases hk⟩
theorem OBX.len (h : OBX w b u A n c Ls) : Ls.length = n := by
  obtain ⟨vs, f, d, h1, h2, _⟩ := h
  exact h2
theorem OBX.lt (h : OBX w b u A n c Ls) {k : Nat} (hk : blk A = some k) : b ≤ k ∧ k < w.heap.size := by
  obtain ⟨vs, f, d, h1, _⟩ := h
  exact World.ownsRow.lt h1 k (by rw [ownBlock_slice]; exact hk)
theorem OBX.kept (h : OBX w b u A n c Ls) {row : Option Nat} (e : w.grownBy w' row) (h1' : ∀ k, row = some k → blk A ≠ some k) (h2' : ∀ (k g m d : Nat) (Y : List UInt8), row = some k → OB w b (some ⟨g, 0, none⟩) m d Y → g < u → g ≠ k) : OBX w' b u A n c Ls := by
  obtain ⟨vs, f, d, h1, h2, h3, h4, h5⟩ := h
  refine ⟨vs, f, d, World.ownsRow.kept h1 e ?_, h2, fun j hj => ⟨(h3 j hj).1, (h3 j hj).2.1.grown e ?_, (h3 j hj).2.2⟩, h4, h5⟩
  · cases row with
    | none => cases hb : Value.ownBlock (.slice A n c) <;> simp
    | some k => exact .inr (by rw [ownBlock_slice]; exact h1' k rfl)
  · cases row with
    | none => exact .inr (by intro e; cases e)
    | some k => exact .inr (fun e => by
        have e2 : some (f j) = some k := e
        injection e2 with e2
        exact h2' k (f j) _ _ _ rfl (h3 j hj).2.1 (h3 j hj).2.2 e2)
theorem OBX.ext (h : OBX w b u A n c Ls) (e : Ext w w') : OBX w' b u A n c Ls := h.kept (e.grownBy none) (fun k hk => by cases hk) (fun k _ _ _ _ hk => by cases hk)
theorem OBX.far (h : OBX w b u A n c Ls) {row : Option Nat} (e : w.grownBy w' row) (hr : ∀ k, row = some k → Other w k) : OBX w' b u A n c Ls := by
  refine h.kept e (fun k hk e => ?_) (fun k g _ _ _ hk ho _ e => ho.other (hr k hk) (by rw [e]))
  obtain ⟨cs, t, fr, g1, g2, g3⟩ := hr k hk
  obtain ⟨vs, f, d, h1, _⟩ := h
  exact row_ne h1 g1 g2 (by rw [ownBlock_slice]; exact e)
theorem OBX.plain (h : OBX w b u A n c Ls) (hn : 0 < n) : ∃ g, A = some ⟨g, 0, none⟩ := by
  obtain ⟨vs, f, d, h1, _⟩ := h
  rcases h1.2 with ⟨_, h0⟩ | ⟨g, cap, cur, e, _⟩
  · omega
  · injection e with e1
    exact ⟨g, e1⟩
theorem OBX.ne_blk {g k : Nat} {t : TypeId} {cs : Array Value} (h : OBX w b u (some ⟨g, 0, none⟩) n c Ls) (hb : Blk w k t cs) (ht : t ≠ 22) : k ≠ g := by
  obtain ⟨vs, f, d, h1, _⟩ := h
  intro e
  exact row_ne h1 hb ht (by rw [ownBlock_slice, e]; rfl)
theorem OB.ne_blk {g k : Nat} {t : TypeId} {cs : Array Value} {L : List UInt8} (h : OB w b (some ⟨g, 0, none⟩) n c L) (hb : Blk w k t cs) (ht : t ≠ 5) : k ≠ g := by
  intro e
  exact row_ne h hb ht (by rw [ownBlock_slice, e]; rfl)
theorem OBX.obc (h : OBX w b u A n c Ls) : OBC w b A n c Ls := by
  obtain ⟨vs, f, d, h1, h2, h3, h4, h5⟩ := h
  refine ⟨vs, h1, h2, fun j hj => ?_⟩
  obtain ⟨g1, g2, g3⟩ := h3 j hj
  refine ⟨_, _, _, g1, g2.rb, fun _ e => ?_⟩
  obtain ⟨cs, hcs⟩ := row_type g2 (k := f j) (by rw [ownBlock_slice]; rfl)
  exact row_ne h1 hcs (by decide) (by rw [ownBlock_slice]; exact e.symm)
/-- an element, opened to be turned -/
theorem OBX.at_ {g : Nat} (h : OBX w b u (some ⟨g, 0, none⟩) n c Ls) {i : Nat} (hi : i < n) :
    ∃ g' d', w.cell? ⟨g, i, none⟩ = some (.slice (some ⟨g', 0, none⟩) 32 d') ∧ OB w b (some ⟨g', 0, none⟩) 32 d' (lb Ls i) ∧ g' < u ∧ g' ≠ g ∧
      ∀ (q : Nat) (x : UInt8), OBX (w.setCell ⟨g', q, none⟩ (.int .u8 (u8i x))) b u (some ⟨g, 0, none⟩) n c (Ls.set i ((lb Ls i).set q x)) := by
  obtain ⟨vs, f, d, h1, h2, h3, h4, h5⟩ := h
  obtain ⟨g1, g2, g3⟩ := h3 i hi
  have hne : f i ≠ g := by
    intro e
    obtain ⟨cs, hcs⟩ := row_type g2 (k := f i) (by rw [ownBlock_slice]; rfl)
    exact row_ne h1 hcs (by decide) (by rw [ownBlock_slice, e]; rfl)
  have hc := World.ownsRow.cells h1 (g := g) (by rw [ownBlock_slice]; rfl) i _ g1
  rw [add_plain] at hc
  refine ⟨f i, d i, hc, g2, g3, hne, fun q x => ?_⟩
  have gs := grown_set w ⟨f i, q, none⟩ (.int .u8 (u8i x))
  refine ⟨vs, f, d, World.ownsRow.kept h1 gs (.inr (by rw [ownBlock_slice]; intro e; injection e with e; exact hne e.symm)), by rw [List.length_set]; exact h2, fun j hj => ?_, h4, h5⟩
  obtain ⟨k1, k2, k3⟩ := h3 j hj
  refine ⟨k1, ?_, k3⟩
  rw [lb_set (by omega)]
  by_cases hji : j = i
  · subst hji
    rw [if_pos rfl]
    exact (g2.set q x).1
  · rw [if_neg hji]
    refine k2.grown gs (.inr fun e => ?_)
    have e2 : f j = f i := by
      have e3 : some (f j) = some (f i) := e
      injection e3
    rcases Nat.lt_or_ge j i with h6 | h6
    · have := h4 j i h6 hi; omega
    · have := h4 i j (by omega) hj; omega
end
end Go.Proofs.Ythggfbpdhkpkjaa
namespace Go.Proofs.Ythggfbpdhkpkjaa
set_option maxRecDepth 100000
open Go Go.RowKit
def TurnPost (w : World) (x how : Int) (i : Nat) (t : UInt8) (Ps Qs : List (List UInt8)) (e : Ending) (w' : World) : Prop :=
  ∃ x' P' n c Q' m d Ps' Qs', e = .returned (.agg #[.int .i64 x', .slice P' n c, .slice Q' m d]) ∧ RBB w' P' n c Ps' ∧ RBB w' Q' m d Qs' ∧ (how = 1 → x' = x ∧ Qs' = Qs ∧ Ps' = Ps.set i ((lb Ps i).set 0 (ub (lb Ps i) 0 ^^^ t))) ∧ Ext w w'
theorem TurnPost.mk {w : World} {x how : Int} {i : Nat} {t : UInt8} {Ps Qs : List (List UInt8)} {e : Ending} {w' : World} (h : ∃ x' P' n c Q' m d Ps' Qs', e = .returned (.agg #[.int .i64 x', .slice P' n c, .slice Q' m d]) ∧ RBB w' P' n c Ps' ∧ RBB w' Q' m d Qs' ∧ (how = 1 → x' = x ∧ Qs' = Qs ∧ Ps' = Ps.set i ((lb Ps i).set 0 (ub (lb Ps i) 0 ^^^ t))) ∧ Ext w w') : TurnPost w x how i t Ps Qs e w' := h
end Go.Proofs.Ythggfbpdhkpkjaa
namespace Go.Proofs.Ythggfbpdhkpkjaa
set_option maxRecDepth 100000
open Go Go.RowKit
theorem rtake_ok {L : List UInt8} {bad : Bool} {z : Nat} (h : (rtake L bad z).2.2 = false) : bad = false ∧ z ≤ L.length ∧ (rtake L bad z).2.1 = L.drop z ∧ (rtake L bad z).1 = L.take z := by
  unfold rtake at h ⊢
  by_cases hc : bad = true ∨ (z : Int) < 0 ∨ (L.length : Int) < z
  · rw [if_pos hc] at h; cases h
  · rw [if_neg hc]
    have hb : bad = false := by
      cases bad with
      | false => rfl
      | true => exact absurd (.inl rfl) hc
    refine ⟨hb, by omega, rfl, rfl⟩
theorem someS_ok (s : List UInt8 × Bool) : ∀ n, (someS s n).2 = false → s.2 = false ∧ 32 * n ≤ s.1.length ∧ (someS s n).1 = s.1.drop (32 * n) := by
  intro n
  induction n with
  | zero => intro h; exact ⟨h, by omega, by simp [someS]⟩
  | succ n ih =>
    intro h
    have h' : (rtake (someS s n).1 (someS s n).2 ((32 : Nat) : Int)).2.2 = false := h
    obtain ⟨h1, h2, h3, _⟩ := rtake_ok h'
    obtain ⟨i1, i2, i3⟩ := ih h1
    rw [i3, List.length_drop] at h2
    refine ⟨i1, by omega, ?_⟩
    have h4 : (someS s (n + 1)).1 = (rtake (someS s n).1 (someS s n).2 ((32 : Nat) : Int)).2.1 := rfl
    rw [h4, h3, i3, List.drop_drop]
    congr 1
theorem decOK5_len {L : List UInt8} (h : decOK5 L = true) : L.length = 2180 := by
  unfold decOK5 at h
  simp only [Bool.and_eq_true, Bool.not_eq_true', List.isEmpty_iff] at h
  obtain ⟨⟨h1, h2⟩, _⟩ := h
  obtain ⟨a1, a2, a3⟩ := someS_ok (dS2 L) 4 h1
  obtain ⟨b1, b2, b3⟩ := someS_ok (dS1 L) 64 a1
  have h' : (rtake L false ((4 : Nat) : Int)).2.2 = false := b1
  obtain ⟨_, c2, c3, _⟩ := rtake_ok h'
  have c4 : (dS1 L).1 = L.drop 4 := c3
  have d1 : (dS2 L).1 = (dS1 L).1.drop (32 * 64) := b3
  have d2 : (dS3 L).1 = (dS2 L).1.drop (32 * 4) := a3
  have e : ((dS3 L).1).length = 0 := by rw [h2]; rfl
  rw [d2, d1, c4, List.length_drop, List.length_drop, List.length_drop] at e
  rw [d1, c4, List.length_drop, List.length_drop] at a2
  rw [c4, List.length_drop] at b2
  omega
end Go.Proofs.Ythggfbpdhkpkjaa
namespace Go.Proofs.Ythggfbpdhkpkjaa
set_option maxRecDepth 100000
open Go Go.RowKit
/-- a manifest's value, as it is handed on -/
def manV (m : Man) (F : Option Addr) (nf cf : Nat) (N : Option Addr) (nn cn : Nat) : Value := .agg #[.string (str m.name), .int .u32 (u32i m.ver), .slice F nf cf, .slice N nn cn]
end Go.Proofs.Ythggfbpdhkpkjaa
namespace Go.Proofs.Ythggfbpdhkpkjaa
set_option maxRecDepth 100000
open Go Go.RowKit
theorem Blk.chg {w w' : World} {g : Nat} {t : TypeId} {cs : Array Value} {p : Nat} {A : Option Addr} (h : Blk w g t cs) (k : Chg w w' p A) (h1 : g ≠ p) (h2 : blk A ≠ some g) : Blk w' g t cs := (k.block g h.lt h1 h2).trans h
end Go.Proofs.Ythggfbpdhkpkjaa
namespace Go.Proofs.Ythggfbpdhkpkjaa
set_option maxRecDepth 100000
open Go Go.RowKit
def StaysQ (q : Nat) (m : MP Ext) : Prop := ∀ u w w', w.grownBy w' (some q) → m.p u w → m.p u w'
def StaysQL (q : Nat) : List (MP Ext) → Prop
  | [] => True
  | m :: l => StaysQ q m ∧ StaysQL q l
theorem StaysQL.at_ {q : Nat} {F : List (MP Ext)} : ∀ {j : Nat} {m : MP Ext}, StaysQL q F → F[j]? = some m → StaysQ q m := by
  induction F with
  | nil => intro j m _ h; simp at h
  | cons x l ih =>
    intro j m h hj
    cases j with
    | zero =>
      simp only [List.getElem?_cons_zero, Option.some.injEq] at hj
      subst hj
      exact h.1
    | succ j => exact ih (j := j) h.2 (by simpa only [List.getElem?_cons_succ] using hj)
section
variable {ops : Array Oper} {H : List Tmp} {F : List (MP Ext)} {a0 : Act} {w0 wI : World} {q : Nat} {cs : List Nat} {S : Nat → World → Prop} {i : Nat} {o : Oper}
end
end Go.Proofs.Ythggfbpdhkpkjaa
namespace Go.Proofs.Ythggfbpdhkpkjaa
set_option maxRecDepth 100000
open Go Go.RowKit
def MP.man (q : Nat) (m : Man) : MP Ext := ⟨fun u w => ∃ F nf cf N nn cn, u = manV m F nf cf N nn cn ∧ RB w F nf cf m.fw ∧ RB w N nn cn m.notes ∧ (0 < nf → blk F ≠ some q) ∧ (0 < nn → blk N ≠ some q),
  fun _ _ _ e ⟨F, nf, cf, N, nn, cn, h1, h2, h3, h4, h5⟩ => ⟨F, nf, cf, N, nn, cn, h1, h2.ext e, h3.ext e, h4, h5⟩⟩
theorem RB.apart {w : World} {A : Option Addr} {n c : Nat} {L : List UInt8} (h : RB w A n c L) {g : Nat} {t : TypeId} {cs : Array Value} (hb : Blk w g t cs) (hno : ∀ (i : Nat) (x : Int), cs[i]? ≠ some (.int .u8 x)) : 0 < n → blk A ≠ some g := by
  intro hn e
  obtain ⟨ad, rfl, hc⟩ := h.cells hn
  have h1 := hc 0 hn
  have h2 : ad.block = g := by simpa [blk] using e
  unfold World.cell? at h1
  have h3 : (ad.add 0).block = ad.block := rfl
  rw [h3, h2, show w.heap[g]? = _ from hb] at h1
  by_cases hs : (ad.add 0).spot.isSome = true
  · simp [hs] at h1
  · simp only [hs] at h1
    exact hno _ _ h1
end Go.Proofs.Ythggfbpdhkpkjaa
namespace Go.Proofs.Ythggfbpdhkpkjaa
set_option maxRecDepth 100000
open Go Go.RowKit
/-- The reference's Reader at block q: what is left of it reads as L. -/
def RR (w : World) (base q : Nat) (L : List UInt8) (bad : Bool) : Prop :=
  ∃ (A : Option Addr) (n c At : Nat) (B : List UInt8), Blk w q 98 #[.slice A n c, .int .i64 (At : Int), .bool bad] ∧ RB w A n c B ∧ At ≤ n ∧ n ≤ 140737488355328 ∧ base ≤ q ∧ (bad = false → L = B.drop At) ∧ (bad = true → L = []) ∧ (0 < n → ∀ k, blk A = some k → k < base)
theorem rd_no (A : Option Addr) (n c : Nat) (x : Int) (b : Bool) (i : Nat) (y : Int) : (#[.slice A n c, .int .i64 x, .bool b] : Array Value)[i]? ≠ some (.int .u8 y) := by
  rcases i with _ | _ | _ | i <;> simp
theorem RR.later {w w' : World} {base q : Nat} {L : List UInt8} {bad : Bool} (h : RR w base q L bad) (e : Ext w w') : RR w' base q L bad := by
  obtain ⟨A, n, c, At, B, h1, h2, h3⟩ := h
  exact ⟨A, n, c, At, B, h1.ext e, h2.ext e, h3⟩
theorem RR.ge {w : World} {base q : Nat} {L : List UInt8} {bad : Bool} (h : RR w base q L bad) : base ≤ q := by
  obtain ⟨A, n, c, At, B, h1, h2, h3, h4, h5, h6⟩ := h
  exact h5
theorem RR.lt {w : World} {base q : Nat} {L : List UInt8} {bad : Bool} (h : RR w base q L bad) : q < w.heap.size := by
  obtain ⟨A, n, c, At, B, h1, h2⟩ := h
  exact h1.lt
end Go.Proofs.Ythggfbpdhkpkjaa
