/-
  CosignApart, walked (under way). law11's made, walked (under way). CosignNumbers: a key that there is not; the plain law of what counts. keep.Few, walked; a slice is stored in a row of the call's own. CosignPolicies, walked (under way).
-/
import Derived.Test.YthggfbpdhkpkjaaLawNumbers11Q37
import Derived.Test.YthggfbpdhkpkjaaLawNumbers11Q32
import Derived.Test.YthggfbpdhkpkjaaLawNumbers11Q15
import Derived.Test.YthggfbpdhkpkjaaLawNumbers11Q20
namespace Go.Proofs.Ythggfbpdhkpkjaa
set_option maxRecDepth 100000
open Go Go.RowKit
theorem RBB.apart_cos {w : World} {A : Option Addr} {n c : Nat} {Ls : List (List UInt8)} (h : RBB w A n c Ls) (hn : 3 ≤ n) {g : Nat} {t : TypeId} {x k : Int} {P Q : Option Addr} {np cp nq cq : Nat} (hB : Blk w g t (cosC x k P np cp Q nq cq)) : blk A ≠ some g := by
  refine h.apart3 hB (fun i a b c h1 h2 h3 => ?_) hn
  unfold cosC at h1 h2 h3
  rcases i with _ | _ | i
  · injection h1 with h1
    subst h1
    rintro ⟨h4, _⟩
    exact Bool.false_ne_true h4
  · injection h1 with h1
    subst h1
    rintro ⟨h4, _⟩
    exact Bool.false_ne_true h4
  · simp at h3
theorem RBB.set4 {w : World} {A : Option Addr} {n c : Nat} {L : List (List UInt8)} (h : RBB w A n c L) (hn : 3 ≤ n) {g : Nat} {t : TypeId} {x k : Int} {P Q : Option Addr} {np cp nq cq : Nat} (hB : Blk w g t (cosC x k P np cp Q nq cq))
    (x' k' : Int) (P1 Q1 : Option Addr) (np1 cp1 nq1 cq1 : Nat) : RBB ((((w.setCell ⟨g, 0, none⟩ (.int .i64 x')).setCell ⟨g, 1, none⟩ (.int .i64 k')).setCell ⟨g, 2, none⟩ (.slice P1 np1 cp1)).setCell ⟨g, 3, none⟩ (.slice Q1 nq1 cq1)) A n c L := by
  have b0 : Blk (w.setCell ⟨g, 0, none⟩ (.int .i64 x')) g t (cosC x' k P np cp Q nq cq) := hB.set 0 _
  have b1 : Blk _ g t (cosC x' k' P np cp Q nq cq) := b0.set 1 (.int .i64 k')
  have b2 : Blk _ g t (cosC x' k' P1 np1 cp1 Q nq cq) := b1.set 2 (.slice P1 np1 cp1)
  have h0 := h.away hB (cos_no _ _ _ _ _ _ _ _) (grown_set w ⟨g, 0, none⟩ (.int .i64 x')) (fun _ => h.apart_cos hn hB)
  have h1 := h0.away b0 (cos_no _ _ _ _ _ _ _ _) (grown_set _ ⟨g, 1, none⟩ (.int .i64 k')) (fun _ => h0.apart_cos hn b0)
  have h2 := h1.away b1 (cos_no _ _ _ _ _ _ _ _) (grown_set _ ⟨g, 2, none⟩ (.slice P1 np1 cp1)) (fun _ => h1.apart_cos hn b1)
  exact h2.away b2 (cos_no _ _ _ _ _ _ _ _) (grown_set _ ⟨g, 3, none⟩ (.slice Q1 nq1 cq1)) (fun _ => h2.apart_cos hn b2)
end Go.Proofs.Ythggfbpdhkpkjaa
namespace Go.Proofs.Ythggfbpdhkpkjaa
set_option maxRecDepth 100000
open Go Go.RowKit
structure DRec where
  who : Int
  said : Int
  ix : Int
  ot : Bool
def dz : DRec := ⟨0, 0, 0, false⟩
def dr_ (ds : List DRec) (j : Nat) : DRec := ds.getD j dz
def inR (x : Int) : Prop := -9223372036854775808 ≤ x ∧ x ≤ 9223372036854775807
/-- a slice of draws that is read -/
structure RDS (w : World) (A : Option Addr) (n c : Nat) (ds : List DRec) : Prop where
  len : ds.length = n
  room : n ≤ c
  cap : c ≤ maxLen
  cells : 0 < n → ∃ ad, A = some ad ∧ ∀ j, j < n → w.cell? (ad.add (j * 4)) = some (.int .i64 (dr_ ds j).who) ∧ w.cell? ((ad.add (j * 4)).add 1) = some (.int .i64 (dr_ ds j).said) ∧
    w.cell? ((ad.add (j * 4)).add 2) = some (.int .i64 (dr_ ds j).ix) ∧ w.cell? ((ad.add (j * 4)).add 3) = some (.bool (dr_ ds j).ot) ∧ inR (dr_ ds j).who ∧ inR (dr_ ds j).said ∧ inR (dr_ ds j).ix
theorem RDS.ext {w w' : World} {A : Option Addr} {n c : Nat} {ds : List DRec} (h : RDS w A n c ds) (e : Ext w w') : RDS w' A n c ds :=
  ⟨h.len, h.room, h.cap, fun hn => by
    obtain ⟨ad, ha, hc⟩ := h.cells hn
    refine ⟨ad, ha, fun j hj => ?_⟩
    obtain ⟨h1, h2, h3, h4, h5⟩ := hc j hj
    exact ⟨e.cell h1, e.cell h2, e.cell h3, e.cell h4, h5⟩⟩
end Go.Proofs.Ythggfbpdhkpkjaa
namespace Go.Proofs.Ythggfbpdhkpkjaa
set_option maxRecDepth 100000
open Go Go.RowKit
set_option maxHeartbeats 4000000 in
theorem cosign_used (A B : Option Addr) (c n d : Nat) (k wn x : Int) (S R : List UInt8) (w : World) (hs : RB w A 32 c S) (hj : 0 ≤ wn ∧ wn < 4) (hr : RB w B n d R) (hc : rightC x R = true) (hk : k < 0 ∨ 16 ≤ k) :
    Calls Try.prog 40 #[.slice A 32 c, .int .i64 k, .int .i64 wn, .agg #[.int .i64 x, .slice B n d]] w fun e w' => e = .returned (.tuple #[.agg #[.int .i64 0, .int .i64 0, .slice none 0 0, .slice none 0 0], .int .i64 23]) ∧ Ext w w' := by
  have hE0 := Ext.new w (.cells #[.int .i64 x, .slice B n d] 24)
  have hB0 := Blk.new w 24 #[.int .i64 x, .slice B n d]
  have hE1 := Ext.new (w.alloc (.cells #[.int .i64 x, .slice B n d] 24)) (.cells #[.int .i64 0, .int .i64 0, .slice none 0 0, .slice none 0 0] 69)
  have hB1 := Blk.new (w.alloc (.cells #[.int .i64 x, .slice B n d] 24)) 69 #[.int .i64 0, .int .i64 0, .slice none 0 0, .slice none 0 0]
  rw [World.size_alloc] at hB1
  replace hB0 := hB0.ext hE1
  have hE01 := hE0.trans hE1
  have rR := hr.ext hE01
  have rS := hs.ext hE01
  go_enter Try.func40, Try.ntmps40
  go_wp2_with fail
  generalize (w.alloc (.cells #[.int .i64 x, .slice B n d] 24)).alloc (.cells #[.int .i64 0, .int .i64 0, .slice none 0 0, .slice none 0 0] 69) = w1 at *
  refine (cwit_any wn w1).mono ?_
  rintro e w2 ⟨rfl, rfl⟩
  rw [decide_eq_true hj]
  have y0 := hB0.cell (i := 0) (v := .int .i64 x) rfl
  have y1 := hB0.cell (i := 1) (v := .slice B n d) rfl
  clear hE0 hE1 hj hr hs
  go_wp2_with fail
  refine (cright_any x B n d R w2 rR).mono ?_
  rintro e w3 ⟨rfl, hE⟩
  rw [hc]
  replace hB0 := hB0.ext hE
  replace hB1 := hB1.ext hE
  replace rR := rR.ext hE
  replace rS := rS.ext hE
  replace hE01 := hE01.trans hE
  clear hE y0 y1
  have y0 := hB0.cell (i := 0) (v := .int .i64 x) rfl
  have y1 := hB0.cell (i := 1) (v := .slice B n d) rfl
  have Hc := Lib.hid hc
  clear hc
  go_wp2_with fail
  refine (cosbody_53 x B n d R w3 rR Hc.out).mono ?_
  rintro e w4 ⟨B3, d3, rfl, own, hE⟩
  have rM := own
  obtain ⟨M, hM⟩ : ∃ M, M = bodyC cosignL x R := ⟨_, rfl⟩
  rw [← hM] at rM
  replace hB1 := hB1.ext hE
  replace rS := rS.ext hE
  replace hE01 := hE01.trans hE
  clear hE y0 y1 own hB0 rR
  go_wp2_with fail
  refine (ssign_used A B3 c 53 d3 k w4 hk).mono ?_
  rintro e w5 ⟨rfl, hE⟩
  have hEn := Ext.new w5 (.cells #[.int .i64 0, .slice none 0 0, .slice none 0 0] 39)
  replace hE := hE.trans hEn
  replace hB1 := hB1.ext hE
  replace hE01 := hE01.trans hE
  clear hEn hE rM rS hM
  have fhB10 := hB1.frozen 0
  have fhB11 := hB1.frozen 1
  have fhB12 := hB1.frozen 2
  have fhB13 := hB1.frozen 3
  have xhB10 := hB1.cell (i := 0) rfl
  have xhB11 := hB1.cell (i := 1) rfl
  have xhB12 := hB1.cell (i := 2) rfl
  have xhB13 := hB1.cell (i := 3) rfl
  go_wp2_with fail
  refine bodyPost_ret (results_sig rfl _ _ (w.heap.size + 1) _ _ _ rfl (setall4 hB1 _ _ _ _) Try.underlying69 rfl rfl) rfl ?_
  exact ⟨rfl, ext4 hE01 (Nat.le_succ _) _ _ _ _⟩
noncomputable def nsig (R : List UInt8) (j : Nat) : CSig := ⟨(j : Int), (j : Int), sigP (seedL ((j : Nat) : Int)) (bodyC cosignL 2 R) j, pathL (seedL ((j : Nat) : Int)) j⟩
noncomputable def nsigs (R : List UInt8) (k : Nat) : List CSig := (List.range k).map (nsig R)
theorem nsigs_snoc (R : List UInt8) (k : Nat) : nsigs R (k + 1) = nsigs R k ++ [nsig R k] := range_snoc _ _
theorem nsig_ok {R : List UInt8} (hc : rightC 2 R = true) {q : Int} (hq : 1 ≤ q ∧ q ≤ 4) {j : Nat} (hj : j < 4) : cosB (khash 9) (keys 4) q 2 R (nsig R j).wn (nsig R j).k (nsig R j).ps (nsig R j).qs = true :=
  cos_own (n := 4) (j := j) (k := j) hj (by omega) (q := q) (x := 2) (y := 9) (R := R) (by omega) hc (by omega)
theorem seen_nsigs {R : List UInt8} {v : CSig → Bool} (hv : ∀ j, j < 4 → v (nsig R j) = true) {k : Nat} (hk : k ≤ 4) (i : Nat) : seenL v (nsigs R k) i = decide (i < k) := by
  by_cases h : i < k
  · rw [decide_eq_true h]
    unfold seenL
    rw [List.any_eq_true]
    refine ⟨nsig R i, ?_, ?_⟩
    · unfold nsigs
      rw [List.mem_map]
      exact ⟨i, List.mem_range.2 h, rfl⟩
    · rw [hv i (by omega)]
      simp [nsig]
  · rw [decide_eq_false h]
    unfold seenL
    rw [List.any_eq_false]
    intro g hg h2
    unfold nsigs at hg
    rw [List.mem_map] at hg
    obtain ⟨j, hj, rfl⟩ := hg
    rw [List.mem_range] at hj
    simp only [Bool.and_eq_true, decide_eq_true_eq] at h2
    have h3 : ((j : Nat) : Int) = (i : Int) := h2.1
    omega
theorem num_cnt {R : List UInt8} (hc : rightC 2 R = true) {q : Int} (hq : 1 ≤ q ∧ q ≤ 4) {k : Nat} (hk : k ≤ 4) : cntL (fun g => cosB (khash 9) (keys 4) q 2 R g.wn g.k g.ps g.qs) (nsigs R k) = (k : Int) := by
  have hs := seen_nsigs (R := R) (v := fun g => cosB (khash 9) (keys 4) q 2 R g.wn g.k g.ps g.qs) (fun j hj => nsig_ok hc hq hj) hk
  have h4 : k = 0 ∨ k = 1 ∨ k = 2 ∨ k = 3 ∨ k = 4 := by omega
  unfold cntL
  rw [hs 0, hs 1, hs 2, hs 3]
  rcases h4 with rfl | rfl | rfl | rfl | rfl <;> rfl
theorem pol_five {LG : List UInt8} {Ws : List (List UInt8)} {q : Int} (h : 4 < Ws.length) : polB LG Ws q = false := polB_no fun h' => by omega
theorem pol_log {Ws : List (List UInt8)} {q : Int} : polB [] Ws q = false := polB_no fun h' => by have := h'.1; simp at this
theorem pol_twice {LG a : List UInt8} {q : Int} : polB LG [a, a] q = false := polB_noW fun h => (h 1 (by simp)).2 0 (by omega) rfl
end Go.Proofs.Ythggfbpdhkpkjaa
namespace Go.Proofs.Ythggfbpdhkpkjaa
set_option maxRecDepth 100000
open Go Go.RowKit
theorem OBC.store {w a : World} {base n c g z y : Nat} {E : Option Addr} {Ls : List (List UInt8)} {Y : List UInt8} (h : OBC w base (some ⟨g, 0, none⟩) n c Ls) (hE : RB w E z y Y) (hne : 0 < z → blk E ≠ some g) (i : Nat) (hi : i < n) (ha : Ext a w) (hab : a.heap.size ≤ base) :
    OBC (w.setCell ⟨g, i, none⟩ (.slice E z y)) base (some ⟨g, 0, none⟩) n c (Ls.set i Y) ∧ Ext a (w.setCell ⟨g, i, none⟩ (.slice E z y)) := by
  have hlt := h.lt (k := g) rfl
  obtain ⟨vs, h1, h2, h3⟩ := h
  have hvl : vs.length = n := by have := h1.1; omega
  have s := World.ownsRow.stored h1 i (.slice E z y)
  refine ⟨⟨vs.set i (.slice E z y), s.1, by simp [h2], fun j hj => ?_⟩, ha.then_grown s.2 (by intro k hk; cases hk; omega)⟩
  rw [lb_set (by omega)]
  by_cases hji : j = i
  · subst hji
    rw [if_pos rfl]
    exact ⟨E, z, y, by simp [hvl, hj], hE.grown s.2 hne, hne⟩
  · rw [if_neg hji]
    obtain ⟨B, m, d, h4, h5, h6⟩ := h3 j hj
    exact ⟨B, m, d, by rw [List.getElem?_set_ne (Ne.symm hji)]; exact h4, h5.grown s.2 h6, h6⟩
end Go.Proofs.Ythggfbpdhkpkjaa
namespace Go.Proofs.Ythggfbpdhkpkjaa
set_option maxRecDepth 100000
open Go Go.RowKit
theorem OBC.at_ {w : World} {base n c : Nat} {A : Option Addr} {Ls : List (List UInt8)} (h : OBC w base A n c Ls) {j : Nat} (hj : j < n) :
    ∃ g B m d, A = some ⟨g, 0, none⟩ ∧ w.cell? ⟨g, j, none⟩ = some (.slice B m d) ∧ RB w B m d (lb Ls j) ∧ (0 < m → blk B ≠ some g) ∧ base ≤ g ∧ w.frozen? ⟨g, 0, none⟩ = false ∧ n ≤ c := by
  obtain ⟨vs, h1, h2, h3⟩ := h
  rcases h1.2 with ⟨hv, hn⟩ | ⟨g, cap, cur, hv, hb, hg, hnc, hcm, hcs, ht⟩
  · omega
  · injection hv with e1 e2 e3
    subst e1 e3
    obtain ⟨B, m, d, h4, h5, h6⟩ := h3 j hj
    refine ⟨g, B, m, d, rfl, ?_, h5, h6, hb, World.ownsRow.frozenAt h1 0, hnc⟩
    have h7 := World.ownsRow.cells h1 (g := g) rfl j _ h4
    rw [add_plain] at h7
    exact h7
theorem OBC.frz {w : World} {base n c g : Nat} {Ls : List (List UInt8)} (h : OBC w base (some ⟨g, 0, none⟩) n c Ls) (i : Nat) : w.frozen? ⟨g, i, none⟩ = false := by
  obtain ⟨vs, h1, _⟩ := h
  exact World.ownsRow.frozenAt h1 i
end Go.Proofs.Ythggfbpdhkpkjaa
