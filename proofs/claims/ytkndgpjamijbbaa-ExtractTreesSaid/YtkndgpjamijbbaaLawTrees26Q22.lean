/-
  The first two texts that are unlike and of one hash: plain Lean, no program in sight. extract's Pair, walked. sign.Sign, walked. Rows of unlike types lie in unlike blocks. Plain theorems. Appending many slices to a row of the call's own.
-/
import Derived.Test.YtkndgpjamijbbaaLawTrees26Q5
import Derived.Test.YtkndgpjamijbbaaLawTrees26Q21
import Derived.Test.YtkndgpjamijbbaaLawTrees26Q16
import Derived.Test.YtkndgpjamijbbaaLawTrees26Q14
namespace Go.Proofs.Ytkndgpjamijbbaa
set_option maxRecDepth 100000
/-- pairs of places, the later one first, in the order in which they are looked at -/
def pairsN (n : Nat) : List (Nat × Nat) := (List.range n).flatMap fun i => (List.range i).map fun k => (i, k)
def clashB (Ls : List (List UInt8)) (p : Nat × Nat) : Bool := decide (sha (lb Ls p.2) = sha (lb Ls p.1)) && decide (lb Ls p.2 ≠ lb Ls p.1)
def pairL (Ls : List (List UInt8)) : Option (Nat × Nat) := (pairsN Ls.length).find? (clashB Ls)
/-- nothing among what was looked at ahead of (i, k) -/
def noneTo (Ls : List (List UInt8)) (i k : Nat) : Prop := (pairsN i ++ (List.range k).map fun k => (i, k)).find? (clashB Ls) = none
theorem pairsN_succ (i : Nat) : pairsN (i + 1) = pairsN i ++ (List.range i).map fun k => (i, k) := by
  unfold pairsN
  rw [List.range_succ, List.flatMap_append]
  simp
theorem noneTo_zero (Ls : List (List UInt8)) : noneTo Ls 0 0 := rfl
theorem noneTo_next {Ls : List (List UInt8)} {i : Nat} (h : noneTo Ls i i) : noneTo Ls (i + 1) 0 := by
  unfold noneTo at h ⊢
  rw [pairsN_succ]
  simpa using h
theorem noneTo_step {Ls : List (List UInt8)} {i k : Nat} (h : noneTo Ls i k) (hc : clashB Ls (i, k) = false) : noneTo Ls i (k + 1) := by
  unfold noneTo at h ⊢
  rw [List.range_succ, List.map_append, ← List.append_assoc, List.find?_append, h]
  simp [hc]
theorem noneTo_all {Ls : List (List UInt8)} {n : Nat} (hn : Ls.length = n) (h : noneTo Ls n 0) : pairL Ls = none := by
  unfold noneTo at h
  unfold pairL
  rw [hn]
  simpa using h
theorem pairsN_split {n i : Nat} (hi : i < n) : ∃ r, pairsN n = pairsN (i + 1) ++ r := by
  induction n with
  | zero => omega
  | succ n ih =>
    by_cases h : i = n
    · subst h
      exact ⟨[], by simp⟩
    · obtain ⟨r, hr⟩ := ih (by omega)
      exact ⟨r ++ (List.range n).map fun k => (n, k), by rw [pairsN_succ, hr, List.append_assoc]⟩
theorem range_split {i k : Nat} (h : k < i) : ∃ r, List.range i = List.range k ++ k :: r := by
  induction i with
  | zero => omega
  | succ i ih =>
    by_cases e : k = i
    · subst e
      exact ⟨[], by rw [List.range_succ]⟩
    · obtain ⟨r, hr⟩ := ih (by omega)
      exact ⟨r ++ [i], by rw [List.range_succ, hr]; simp⟩
theorem found_at {Ls : List (List UInt8)} {n i k : Nat} (hn : Ls.length = n) (hi : i < n) (hk : k < i) (h : noneTo Ls i k) (hc : clashB Ls (i, k) = true) : pairL Ls = some (i, k) := by
  obtain ⟨r, hr⟩ := pairsN_split hi
  obtain ⟨s, hs⟩ := range_split hk
  unfold noneTo at h
  unfold pairL
  rw [hn, hr, pairsN_succ, hs, List.map_append, ← List.append_assoc, List.append_assoc, List.find?_append, h]
  simp [hc]
end Go.Proofs.Ytkndgpjamijbbaa
namespace Go.Proofs.Ytkndgpjamijbbaa
set_option maxRecDepth 100000
open Go Go.RowKit
def pairA (Ls : List (List UInt8)) : List UInt8 := match pairL Ls with | some p => lb Ls p.2 | none => []
def pairB (Ls : List (List UInt8)) : List UInt8 := match pairL Ls with | some p => lb Ls p.1 | none => []
def PairI (w : World) (Ls : List (List UInt8)) (v i : Value) (wr : World) : Prop :=
  ∃ (p d : Nat) (P : Option Addr), p ≤ Ls.length ∧ i = .int .i64 p ∧ v = .slice P p d ∧ OBC wr w.heap.size P p d ((Ls.take p).map sha) ∧ noneTo Ls p 0 ∧ Ext w wr
def PairJ (w : World) (Ls : List (List UInt8)) (p : Nat) (i : Value) (wr : World) : Prop :=
  ∃ k : Nat, k ≤ p ∧ i = .int .i64 k ∧ noneTo Ls p k ∧ wr = w
theorem sha_snoc (Ls : List (List UInt8)) {p : Nat} (hp : p < Ls.length) : (Ls.take (p + 1)).map sha = (Ls.take p).map sha ++ [sha (lb Ls p)] := by
  rw [List.take_succ_eq_append_getElem hp, List.map_append]
  simp [lb, hp]
theorem sha_at (Ls : List (List UInt8)) {p k : Nat} (hk : k < p) (hp : p ≤ Ls.length) : lb ((Ls.take p).map sha) k = sha (lb Ls k) := by
  unfold lb
  rw [List.getD_eq_getElem?_getD, List.getElem?_map, List.getElem?_take_of_lt hk, List.getD_eq_getElem?_getD, List.getElem?_eq_getElem (by omega)]
  rfl
set_option maxHeartbeats 8000000 in
theorem pair_any (A : Option Addr) (n c : Nat) (Ls : List (List UInt8)) (w : World) (hr : RBB w A n c Ls) (hn : n ≤ 100000) (hb : ∀ a ∈ Ls, a.length ≤ 1000000) :
    Calls Try.prog 13 #[.slice A n c] w fun e w' => ∃ P np cp Q nq cq, e = .returned (.tuple #[.slice P np cp, .slice Q nq cq, .bool (pairL Ls).isSome]) ∧ RB w' P np cp (pairA Ls) ∧ RB w' Q nq cq (pairB Ls) ∧ Ext w w' := by
  have hl := hr.len
  have Hl := Lib.hid hl
  clear hl
  have hcap := hr.cap
  have hroom := hr.room
  unfold maxLen at hcap
  go_enter Try.func13, Try.ntmps13
  go_wp2_with fail
  go_loopw [5, 13] (fun v i wr => PairI w Ls v i wr) (fun _ i _ => n - (intOf i).toNat)
  case atStart => exact ⟨0, 0, none, by omega, rfl, rfl, OBC.none_ _ _, noneTo_zero _, Ext.refl _⟩
  case round =>
    obtain ⟨p, d, P, hp, rfl, rfl, own, hno, hEr⟩ := hrel
    rw [Hl.out] at hp
    have Hno := Lib.hid hno
    clear hno
    by_cases hlt : p < n
    · have hpn : (p : Int) < (n : Int) := by omega
      obtain ⟨ad, rfl, hc⟩ := hr.cells (by omega)
      obtain ⟨E, z, y, hcell, hrE⟩ := hc p (by omega)
      have y1 := hEr.cell hcell
      have rE := hrE.ext hEr
      have hz : z ≤ 1000000 := by
        have h1 := hrE.len
        have h2 := hb (lb Ls p) (by unfold lb; rw [List.getD_eq_getElem?_getD, List.getElem?_eq_getElem (by rw [Hl.out]; omega)]; exact List.getElem_mem _)
        omega
      have hcu := hsum_any E z y _ wr rE (by omega)
      have Hcu := Lib.hid hcu
      clear hcu hcell
      go_wp2_with fail
      refine Hcu.out.mono ?_
      rintro e w2 ⟨E1, z1, rfl, ownC, hE2⟩
      clear Hcu
      have own2 := own.ext hE2
      have hEr2 := hEr.trans hE2
      have rS := own2.rbb
      have rE2 := rE.ext hE2
      have hpi : ¬ (p : Int) < 0 := by omega
      go_wp2_with fail
      obtain ⟨wo, rfl⟩ : ∃ wo, wo = wr := ⟨_, rfl⟩
      go_loopw [24] (fun i wr => PairJ w2 Ls p i wr) (fun i _ => p - (intOf i).toNat)
      case atStart => exact ⟨0, by omega, rfl, Hno.out, rfl⟩
      case round =>
        obtain ⟨k, hk, rfl, hno, rfl⟩ := hrel
        have Hno2 := Lib.hid hno
        clear hno
        by_cases hlk : k < p
        · have hki : (k : Int) < (p : Int) := by omega
          obtain ⟨sd, rfl, hsc⟩ := rS.cells (by omega)
          obtain ⟨F, zf, yf, hcf, rF⟩ := hsc k hlk
          rw [sha_at Ls hlk (by rw [Hl.out]; omega)] at rF
          obtain ⟨G, zg, yg, hcg, rG0⟩ := hc k (by omega)
          have rG := rG0.ext hEr2
          have hcg2 := hEr2.cell hcg
          have hzg : zg ≤ 1000000 := by
            have h1 := rG.len
            have h2 := hb (lb Ls k) (by unfold lb; rw [List.getD_eq_getElem?_getD, List.getElem?_eq_getElem (by rw [Hl.out]; omega)]; exact List.getElem_mem _)
            omega
          have h1 := hsame_any F E1 zf yf 32 z1 _ _ wr rF ownC.rb
          have H1 := Lib.hid h1
          have h2 := hsame_any G E zg yg z y _ _ wr rG rE2
          have H2 := Lib.hid h2
          have hcl : clashB Ls (p, k) = (decide (sha (lb Ls k) = sha (lb Ls p)) && !decide (lb Ls k = lb Ls p)) := by unfold clashB; simp
          have Hcl := Lib.hid hcl
          clear h1 h2 hcl hcg hsc
          go_wp2_with fail
          refine H1.out.mono ?_
          rintro e w3 ⟨rfl, rfl⟩
          by_cases hs : sha (lb Ls k) = sha (lb Ls p)
          · rw [decide_eq_true hs] at Hcl ⊢
            clear hs
            go_wp2_with fail
            refine H2.out.mono ?_
            rintro e w3 ⟨rfl, rfl⟩
            by_cases he : lb Ls k = lb Ls p
            · rw [decide_eq_true he] at Hcl ⊢
              clear he
              go_wp2_with fail
              go_roundw
              case rel => exact ⟨k + 1, by omega, by go_num, noneTo_step Hno2.out (by rw [Hcl.out]; rfl), rfl⟩
              case measure => simp [intOf]; omega
            · rw [decide_eq_false he] at Hcl ⊢
              have hfound := found_at Hl.out hlt hlk Hno2.out (by rw [Hcl.out]; rfl)
              have Hf := Lib.hid hfound
              clear he hfound
              go_wp2_with fail
              refine (clone_any G zg yg _ wr rG (by omega)).mono ?_
              rintro e w4 ⟨U, cu, rfl, oU, hE4⟩
              go_wp2_with fail
              refine (clone_any E z y _ w4 (rE2.ext hE4) (by omega)).mono ?_
              rintro e w5 ⟨V, cv, rfl, oV, hE5⟩
              go_wp2_with fail
              go_ret3
              have e1 : pairA Ls = lb Ls k := by unfold pairA; rw [Hf.out]
              have e2 : pairB Ls = lb Ls p := by unfold pairB; rw [Hf.out]
              rw [e1, e2, Hf.out]
              exact ⟨_, _, _, _, _, _, rfl, oU.rb.ext hE5, oV.rb, (hEr2.trans hE4).trans hE5⟩
          · rw [decide_eq_false hs] at Hcl ⊢
            clear hs
            go_wp2_with fail
            go_roundw
            case rel => exact ⟨k + 1, by omega, by go_num, noneTo_step Hno2.out (by rw [Hcl.out]; rfl), rfl⟩
            case measure => simp [intOf]; omega
        · obtain rfl : k = p := by omega
          have hki : ¬ (k : Int) < (k : Int) := by omega
          have hEa := Ext.new wr (.cells #[.slice E1 32 z1] 22)
          have hBa := Blk.new wr 22 #[.slice E1 32 z1]
          have own4 := own2.ext hEa
          have hne : 0 < 32 → blk E1 ≠ blk P := by
            intro hz e
            obtain ⟨b, hb⟩ : ∃ b, blk E1 = some b := by
              obtain ⟨ad', h1, _⟩ := ownC.rb.cells (by omega)
              rw [h1]
              exact ⟨_, rfl⟩
            have h1 := ownC.lt hb
            have h2 := own.lt (e.symm.trans hb)
            omega
          go_wp2_with (refine appbc_law (base := w.heap.size) (Y := sha (lb Ls k)) rfl rfl rfl rfl (by rw [add_plain]; exact hBa.cell (i := 0) rfl) own4 (ownC.rb.ext hEa) hne (hEr2.trans hEa).size (by omega) ?_; intro P5 d5 w5 own5 g5)
          go_roundw
          case rel =>
            rw [← sha_snoc Ls (by rw [Hl.out]; omega)] at own5
            exact ⟨k + 1, d5, P5, by rw [Hl.out]; omega, by go_num, rfl, own5, noneTo_next Hno2.out, (hEr2.trans hEa).then_grown g5 (fun b hb => (own4.lt hb).1)⟩
          case measure => simp [intOf]; omega
    · obtain rfl : p = n := by omega
      have hpn : ¬ (p : Int) < (p : Int) := by omega
      have hnone := noneTo_all Hl.out Hno.out
      have Hnn := Lib.hid hnone
      clear hnone
      go_wp2_with fail
      go_ret3
      have e1 : pairA Ls = [] := by unfold pairA; rw [Hnn.out]
      have e2 : pairB Ls = [] := by unfold pairB; rw [Hnn.out]
      rw [e1, e2, Hnn.out]
      exact ⟨none, 0, 0, none, 0, 0, rfl, RB.nil_ _, RB.nil_ _, hEr⟩
end Go.Proofs.Ytkndgpjamijbbaa
namespace Go.Proofs.Ytkndgpjamijbbaa
set_option maxRecDepth 100000
open Go Go.RowKit
theorem grown_set (w : World) (a : Addr) (u : Value) : w.grownBy (w.setCell a u) (some a.block) := ⟨rfl, rfl, rfl, by simp [World.setCell], fun i _ hne => Below.heap_setCell w a u i fun e => hne (by rw [e])⟩
theorem bin_xor1 {P : Program} {w : World} (t : TypeId) (q : Nat) (hq : q < 16) : (binOp .xor t (.int .i64 (q : Int)) (.int .i64 1)).run P w = .ok (.int .i64 ((q + 1 - 2 * (q % 2) : Nat) : Int)) w := by
  have h : q = 0 ∨ q = 1 ∨ q = 2 ∨ q = 3 ∨ q = 4 ∨ q = 5 ∨ q = 6 ∨ q = 7 ∨ q = 8 ∨ q = 9 ∨ q = 10 ∨ q = 11 ∨ q = 12 ∨ q = 13 ∨ q = 14 ∨ q = 15 := by omega
  rcases h with rfl | rfl | rfl | rfl | rfl | rfl | rfl | rfl | rfl | rfl | rfl | rfl | rfl | rfl | rfl | rfl
  all_goals rfl
def sliceLen : Value → Nat
  | .slice _ n _ => n
  | _ => 0
theorem OBC.base {w : World} {base base' n c : Nat} {A : Option Addr} {Ls : List (List UInt8)} (h : OBC w base A n c Ls) (hb : base' ≤ base) : OBC w base' A n c Ls := by
  obtain ⟨vs, h1, h2⟩ := h
  exact ⟨vs, ownsRow_base h1 hb, h2⟩
end Go.Proofs.Ytkndgpjamijbbaa
namespace Go.Proofs.Ytkndgpjamijbbaa
set_option maxRecDepth 100000
open Go Go.RowKit
/-- the block of this number holds cells of another type than byte slices and bytes -/
def Other (w : World) (k : Nat) : Prop := ∃ cs t fr, w.heap[k]? = some (.cells cs t fr) ∧ t ≠ 22 ∧ t ≠ 5
theorem Blk.other {w : World} {g : Nat} {t : TypeId} {cs : Array Value} (h : Blk w g t cs) (h1 : t ≠ 22) (h2 : t ≠ 5) : Other w g := ⟨cs, t, (0, 0), h, h1, h2⟩
theorem row_type {w : World} {base : Nat} {e : TypeId} {s : Nat} {v : Value} {n : Nat} {xs : List Value} (h : w.ownsRow base e s v n xs) {k : Nat} (hk : v.ownBlock = some k) : ∃ cs, w.heap[k]? = some (.cells cs e (0, 0)) := by
  rcases h.2 with ⟨e, _⟩ | ⟨g, cap, cur, e, _, h1, _⟩
  · rw [e] at hk; cases hk
  · rw [e] at hk
    have h2 : some g = some k := hk
    injection h2 with h2
    subst h2
    exact ⟨cur, h1⟩
theorem row_other {w : World} {base : Nat} {e : TypeId} {s : Nat} {v : Value} {n : Nat} {xs : List Value} (h : w.ownsRow base e s v n xs) (h1 : e ≠ 22) (h2 : e ≠ 5) {k : Nat} (hk : v.ownBlock = some k) : Other w k := by
  obtain ⟨cs, hc⟩ := row_type h hk
  exact ⟨cs, e, (0, 0), hc, h1, h2⟩
theorem row_ne {w : World} {base : Nat} {e : TypeId} {s : Nat} {v : Value} {n : Nat} {xs : List Value} (h : w.ownsRow base e s v n xs) {k : Nat} {cs : Array Value} {t : TypeId} {fr : Nat × Nat} (hk : w.heap[k]? = some (.cells cs t fr)) (ht : t ≠ e) : v.ownBlock ≠ some k := by
  intro he
  obtain ⟨cs', hc⟩ := row_type h he
  rw [hc] at hk
  injection hk with hk
  injection hk with _ h2
  exact ht h2.symm
theorem OB.other {w : World} {base g n c : Nat} {L : List UInt8} (h : OB w base (some ⟨g, 0, none⟩) n c L) {k : Nat} (hk : Other w k) : some g ≠ some k := by
  obtain ⟨cs, t, fr, h1, h2, h3⟩ := hk
  have := row_ne h h1 h3
  rw [ownBlock_slice] at this
  exact this
theorem OBD.far {w w' : World} {base n c : Nat} {A : Option Addr} {Ls : List (List UInt8)} (h : OBD w base A n c Ls) {row : Option Nat} (e : w.grownBy w' row) (ht : ∀ k, row = some k → Other w k) : OBD w' base A n c Ls := by
  obtain ⟨vs, h1, h2, h3⟩ := h
  refine ⟨vs, World.ownsRow.kept h1 e ?_, h2, fun j hj => ?_⟩
  · cases row with
    | none => cases hb : Value.ownBlock (.slice A n c) <;> simp
    | some k =>
      obtain ⟨cs, t, fr, g1, g2, g3⟩ := ht k rfl
      exact .inr (row_ne h1 g1 g2)
  · obtain ⟨g, d, h4, h5, h6⟩ := h3 j hj
    refine ⟨g, d, h4, h5.grown e (.inr fun e' => ?_), h6⟩
    cases row with
    | none => cases e'
    | some k => exact h5.other (ht k rfl) e'
theorem RB.apart5 {w : World} {A : Option Addr} {n c : Nat} {L : List UInt8} (h : RB w A n c L) {g : Nat} {t : TypeId} {cs : Array Value} (hb : Blk w g t cs) (hno : ∀ (i : Nat) (x : Int), cs[i]? ≠ some (.int .u8 x)) : 0 < n → blk A ≠ some g := by
  intro hn e
  obtain ⟨ad, rfl, hc⟩ := h.cells hn
  have h1 := hc 0 hn
  have h2 : ad.block = g := by simpa [blk] using e
  unfold World.cell? at h1
  have h3 : (ad.add 0).block = ad.block := rfl
  rw [h3, h2, show w.heap[g]? = _ from hb] at h1
  by_cases hs : (ad.add 0).spot.isSome = true
  · simp [hs] at h1
  · simp only [hs] at h1
    exact hno _ _ h1
theorem sig_no (x : Int) (P Q : Option Addr) (np cp nq cq i : Nat) (y : Int) : (#[.int .i64 x, .slice P np cp, .slice Q nq cq] : Array Value)[i]? ≠ some (.int .u8 y) := by
  rcases i with _ | _ | _ | i <;> simp
theorem OBC.far {w w' : World} {base n c : Nat} {A : Option Addr} {Ls : List (List UInt8)} (h : OBC w base A n c Ls) {g : Nat} {t : TypeId} {cs : Array Value} (hb : Blk w g t cs) (ht : t ≠ 22) (hno : ∀ (i : Nat) (x : Int), cs[i]? ≠ some (.int .u8 x)) (e : w.grownBy w' (some g)) : OBC w' base A n c Ls := by
  obtain ⟨vs, h1, h2, h3⟩ := h
  refine ⟨vs, World.ownsRow.kept h1 e (.inr (row_ne h1 hb ht)), h2, fun j hj => ?_⟩
  obtain ⟨B, m, d, h4, h5, h6⟩ := h3 j hj
  exact ⟨B, m, d, h4, h5.grown e (h5.apart5 hb hno), h6⟩
/-- the levels of an owner's tree, each a row of the call's own -/
def LevO (w : World) (b : Nat) (A : Option Addr) (n c : Nat) (S : List UInt8) : Prop :=
  ∃ vs : List Value, w.ownsRow b 23 1 (.slice A n c) n vs ∧ ∀ j, j < n → ∃ g d, vs[j]? = some (.slice (some ⟨g, 0, none⟩) (16 / 2 ^ j) d) ∧ OBD w b (some ⟨g, 0, none⟩) (16 / 2 ^ j) d (lev S j)
theorem LevO.none_ (w : World) (b : Nat) (S : List UInt8) : LevO w b none 0 0 S := ⟨[], World.ownsRow_nil w _ _ _, fun j hj => absurd hj (Nat.not_lt_zero _)⟩
theorem LevO.lt {w : World} {b n c : Nat} {A : Option Addr} {S : List UInt8} (h : LevO w b A n c S) {k : Nat} (hk : blk A = some k) : b ≤ k ∧ k < w.heap.size := by
  obtain ⟨vs, h1, _⟩ := h
  exact World.ownsRow.lt h1 k (by rw [ownBlock_slice]; exact hk)
theorem LevO.other {w : World} {b n c : Nat} {A : Option Addr} {S : List UInt8} (h : LevO w b A n c S) {k : Nat} (hk : blk A = some k) : Other w k := by
  obtain ⟨vs, h1, _⟩ := h
  exact row_other h1 (by decide) (by decide) (by rw [ownBlock_slice]; exact hk)
theorem LevO.ext {w w' : World} {b n c : Nat} {A : Option Addr} {S : List UInt8} (h : LevO w b A n c S) (e : Ext w w') : LevO w' b A n c S := by
  obtain ⟨vs, h1, h3⟩ := h
  refine ⟨vs, World.ownsRow.kept h1 (e.grownBy none) ?_, fun j hj => ?_⟩
  · cases hb : Value.ownBlock (.slice A n c) <;> simp
  · obtain ⟨g, d, h4, h5⟩ := h3 j hj
    exact ⟨g, d, h4, h5.ext e⟩
theorem LevO.far {w w' : World} {b n c : Nat} {A : Option Addr} {S : List UInt8} (h : LevO w b A n c S) {g : Nat} {t : TypeId} {cs : Array Value} (hb : Blk w g t cs) (h1 : t ≠ 23) (h2 : t ≠ 22) (h3 : t ≠ 5) (e : w.grownBy w' (some g)) : LevO w' b A n c S := by
  obtain ⟨vs, r1, r3⟩ := h
  refine ⟨vs, World.ownsRow.kept r1 e (.inr (row_ne r1 hb h1)), fun j hj => ?_⟩
  obtain ⟨g', d, h4, h5⟩ := r3 j hj
  exact ⟨g', d, h4, h5.far e (fun k hk => by cases hk; exact hb.other h2 h3)⟩
theorem LevO.cell {w : World} {b n c g : Nat} {S : List UInt8} (h : LevO w b (some ⟨g, 0, none⟩) n c S) {j : Nat} (hj : j < n) :
    ∃ g' d', w.cell? ((⟨g, 0, none⟩ : Addr).add j) = some (.slice (some ⟨g', 0, none⟩) (16 / 2 ^ j) d') ∧ OBD w b (some ⟨g', 0, none⟩) (16 / 2 ^ j) d' (lev S j) := by
  obtain ⟨vs, h1, h3⟩ := h
  obtain ⟨g', d', h4, h5⟩ := h3 j hj
  exact ⟨g', d', World.ownsRow.cells h1 (g := g) (by rw [ownBlock_slice]; rfl) j _ h4, h5⟩
theorem LevO.plain {w : World} {b n c : Nat} {A : Option Addr} {S : List UInt8} (h : LevO w b A n c S) (hn : 0 < n) : ∃ g, A = some ⟨g, 0, none⟩ := by
  obtain ⟨vs, h1, _⟩ := h
  rcases h1.2 with ⟨_, h0⟩ | ⟨g, cap, cur, e, _⟩
  · omega
  · injection e with e1
    exact ⟨g, e1⟩
theorem LevO.room {w : World} {b n c : Nat} {A : Option Addr} {S : List UInt8} (h : LevO w b A n c S) : n ≤ c := by
  obtain ⟨vs, h1, _⟩ := h
  rcases h1.2 with ⟨e, h0⟩ | ⟨g, cap, cur, e, _, _, h2, _⟩
  · omega
  · injection e with e1 e2 e3
    omega
theorem LevO.base {w : World} {b b' n c : Nat} {A : Option Addr} {S : List UInt8} (h : LevO w b A n c S) (hb : b' ≤ b) : LevO w b' A n c S := by
  obtain ⟨vs, h1, h3⟩ := h
  refine ⟨vs, ownsRow_base h1 hb, fun j hj => ?_⟩
  obtain ⟨g, d, h4, h5⟩ := h3 j hj
  exact ⟨g, d, h4, h5.base hb⟩
theorem info_sss : (Try.prog.info? 23).map (fun i => (i.zero, i.size, i.bytes)) = some (some (.slice none 0 0), 1, 24) := by kernel_rfl
theorem appl_law {ops : Array Oper} {rest : List Oper} {o : Oper} {a : Act} {Q : Exit → Act → World → Prop} {w : World} (hgd : o.guard = none) {s x : Operand} (ho : o.op = .call { callee := .builtin .append, args := #[s, x], argTypes := #[33, 33] })
    {A : Option Addr} {n c : Nat} (hs : a.eval s = .slice A n c) {ad : Addr} (hx : a.eval x = .slice (some ad) 1 1) {b : Nat} {S : List UInt8} {g d : Nat} (hcell : w.cell? (ad.add 0) = some (.slice (some ⟨g, 0, none⟩) (16 / 2 ^ n) d))
    (hown : LevO w b A n c S) (hB : OBD w b (some ⟨g, 0, none⟩) (16 / 2 ^ n) d (lev S n)) (hbase : b ≤ w.heap.size) (hnk : n + 1 ≤ 1000000)
    (h : ∀ A' c' w', LevO w' b A' (n + 1) c' S → OBD w' b (some ⟨g, 0, none⟩) (16 / 2 ^ n) d (lev S n) → w.grownBy w' (blk A) → wpList Try.prog ops Q rest (a.put o.dst (.slice A' (n + 1) c')) w') : wpList Try.prog ops Q (o :: rest) a w := by
  obtain ⟨i0, hi0, hz0, hz1, hz2⟩ := info_parts info_sss
  have hoth := fun k (hk : blk A = some k) => hown.other hk
  obtain ⟨vs, h1, h3⟩ := hown
  obtain ⟨v', w', hrun, r1, r2, _, r4⟩ := run_append_own_at (P := Try.prog) w b 33 o.type 23 i0 (.slice none 0 0) 1 24 Try.underlying33 hi0 hz0 hz1 hz2 rfl (by decide) (.slice A n c) n vs h1 ad 1 1 [.slice (some ⟨g, 0, none⟩) (16 / 2 ^ n) d] rfl
    (by
      intro j u hu
      rcases j with _ | j
      · injection hu with hu
        subst hu
        exact hcell
      · cases hu) (by simp [Value.oneCell']) (small_maxLen hnk) (by omega) hbase
  obtain ⟨A', c', rfl⟩ : ∃ A' c', v' = .slice A' (n + 1) c' := by
    rcases r1.2 with ⟨_, h0⟩ | ⟨g, cap, _, rfl, _⟩
    · omega
    · exact ⟨_, cap, rfl⟩
  rw [ownBlock_slice] at r2
  have hvl : vs.length = n := by have := h1.1; omega
  refine run_law hgd (v := .slice A' (n + 1) c') (w' := w') ?_ (h A' c' w' ⟨vs ++ [.slice (some ⟨g, 0, none⟩) (16 / 2 ^ n) d], r1, fun j hj => ?_⟩ (hB.far r2 hoth) r2)
  · unfold execOp
    simp only [ho, resolve, invoke, builtin, Sem.run_bind, Sem.run_pure, Result.andThen_ok, List.map_toArray, List.map_cons, List.map_nil, hs, hx, hrun]
  · by_cases hjn : j < n
    · obtain ⟨g', d', h4, h5⟩ := h3 j hjn
      exact ⟨g', d', by rw [List.getElem?_append_left (by omega)]; exact h4, h5.far r2 hoth⟩
    · obtain rfl : j = n := by omega
      exact ⟨g, d, by rw [List.getElem?_append_right (by omega), hvl]; simp, hB.far r2 hoth⟩
end Go.Proofs.Ytkndgpjamijbbaa
namespace Go.Proofs.Ytkndgpjamijbbaa
set_option maxRecDepth 100000
open Go Go.RowKit
theorem RBB.vals {w : World} {A : Option Addr} {n c : Nat} {Ls : List (List UInt8)} (h : RBB w A n c Ls) :
    ∃ us : List Value, us.length = n ∧ (∀ ad, A = some ad → ∀ j u, us[j]? = some u → w.cell? (ad.add j) = some u) ∧ (∀ u ∈ us, u.oneCell' = true) ∧ ∀ j, j < n → ∃ B m d, us[j]? = some (.slice B m d) ∧ RB w B m d (lb Ls j) := by
  by_cases hn : n = 0
  · subst hn
    exact ⟨[], rfl, fun _ _ j u hu => by simp at hu, fun u hu => by simp at hu, fun j hj => absurd hj (Nat.not_lt_zero _)⟩
  · obtain ⟨ad, rfl, hc⟩ := h.cells (by omega)
    have pick : ∃ f : Nat → Value, ∀ j, j < n → w.cell? (ad.add j) = some (f j) ∧ ∃ B m d, f j = .slice B m d ∧ RB w B m d (lb Ls j) :=
      ⟨fun j => (w.cell? (ad.add j)).getD undef, fun j hj => by
        obtain ⟨B, m, d, h1, h2⟩ := hc j hj
        have e : (w.cell? (ad.add j)).getD undef = .slice B m d := by rw [h1]; rfl
        exact ⟨by show w.cell? (ad.add j) = some ((w.cell? (ad.add j)).getD undef); rw [e]; exact h1, B, m, d, e, h2⟩⟩
    obtain ⟨f, hf⟩ := pick
    have hget : ∀ j, j < n → ((List.range n).map f)[j]? = some (f j) := fun j hj => by simp [hj]
    refine ⟨(List.range n).map f, by simp, fun ad' e j u hu => ?_, fun u hu => ?_, fun j hj => ?_⟩
    · cases e
      have hj : j < n := by
        rcases Nat.lt_or_ge j n with h1 | h1
        · exact h1
        · rw [List.getElem?_eq_none (by simpa using h1)] at hu; cases hu
      rw [hget j hj] at hu
      injection hu with hu
      subst hu
      exact (hf j hj).1
    · simp only [List.mem_map, List.mem_range] at hu
      obtain ⟨j, hj, rfl⟩ := hu
      obtain ⟨_, B, m, d, h1, _⟩ := hf j hj
      rw [h1]
      simp [Value.oneCell']
    · obtain ⟨_, B, m, d, h1, h2⟩ := hf j hj
      exact ⟨B, m, d, by rw [hget j hj, h1], h2⟩
end Go.Proofs.Ytkndgpjamijbbaa
