/-
  CosignApart, walked (under way). law11's made, walked (under way). ExtractPrefixes, walked.
-/
import Derived.Test.YtkndgpjamijbbaaLawPieces22Q27
import Derived.Test.YtkndgpjamijbbaaLawPieces22Q26
import Derived.Test.YtkndgpjamijbbaaLawPieces22Q32
import Derived.Test.YtkndgpjamijbbaaLawPieces22Q30
import Derived.Lib.AppendZerosOnto
import Derived.Test.YtkndgpjamijbbaaLawPieces22Q5
import Derived.Test.YtkndgpjamijbbaaLawPieces22Q23
import Derived.Test.YtkndgpjamijbbaaLawPieces22Q1
import Derived.Test.YtkndgpjamijbbaaLawPieces22Q28
namespace Go.Proofs.Ytkndgpjamijbbaa
set_option maxRecDepth 100000
open Go Go.RowKit
theorem RBB.apart_cos {w : World} {A : Option Addr} {n c : Nat} {Ls : List (List UInt8)} (h : RBB w A n c Ls) (hn : 3 ≤ n) {g : Nat} {t : TypeId} {x k : Int} {P Q : Option Addr} {np cp nq cq : Nat} (hB : Blk w g t (cosC x k P np cp Q nq cq)) : blk A ≠ some g := by
  refine h.apart3 hB (fun i a b c h1 h2 h3 => ?_) hn
  unfold cosC at h1 h2 h3
  rcases i with _ | _ | i
  · injection h1 with h1
    subst h1
    rintro ⟨h4, _⟩
    exact Bool.false_ne_true h4
  · injection h1 with h1
    subst h1
    rintro ⟨h4, _⟩
    exact Bool.false_ne_true h4
  · simp at h3
theorem RBB.set4 {w : World} {A : Option Addr} {n c : Nat} {L : List (List UInt8)} (h : RBB w A n c L) (hn : 3 ≤ n) {g : Nat} {t : TypeId} {x k : Int} {P Q : Option Addr} {np cp nq cq : Nat} (hB : Blk w g t (cosC x k P np cp Q nq cq))
    (x' k' : Int) (P1 Q1 : Option Addr) (np1 cp1 nq1 cq1 : Nat) : RBB ((((w.setCell ⟨g, 0, none⟩ (.int .i64 x')).setCell ⟨g, 1, none⟩ (.int .i64 k')).setCell ⟨g, 2, none⟩ (.slice P1 np1 cp1)).setCell ⟨g, 3, none⟩ (.slice Q1 nq1 cq1)) A n c L := by
  have b0 : Blk (w.setCell ⟨g, 0, none⟩ (.int .i64 x')) g t (cosC x' k P np cp Q nq cq) := hB.set 0 _
  have b1 : Blk _ g t (cosC x' k' P np cp Q nq cq) := b0.set 1 (.int .i64 k')
  have b2 : Blk _ g t (cosC x' k' P1 np1 cp1 Q nq cq) := b1.set 2 (.slice P1 np1 cp1)
  have h0 := h.away hB (cos_no _ _ _ _ _ _ _ _) (grown_set w ⟨g, 0, none⟩ (.int .i64 x')) (fun _ => h.apart_cos hn hB)
  have h1 := h0.away b0 (cos_no _ _ _ _ _ _ _ _) (grown_set _ ⟨g, 1, none⟩ (.int .i64 k')) (fun _ => h0.apart_cos hn b0)
  have h2 := h1.away b1 (cos_no _ _ _ _ _ _ _ _) (grown_set _ ⟨g, 2, none⟩ (.slice P1 np1 cp1)) (fun _ => h1.apart_cos hn b1)
  exact h2.away b2 (cos_no _ _ _ _ _ _ _ _) (grown_set _ ⟨g, 3, none⟩ (.slice Q1 nq1 cq1)) (fun _ => h2.apart_cos hn b2)
end Go.Proofs.Ytkndgpjamijbbaa
namespace Go.Proofs.Ytkndgpjamijbbaa
set_option maxRecDepth 100000
open Go Go.RowKit
structure DRec where
  who : Int
  said : Int
  ix : Int
  ot : Bool
def dz : DRec := ⟨0, 0, 0, false⟩
def dr_ (ds : List DRec) (j : Nat) : DRec := ds.getD j dz
def inR (x : Int) : Prop := -9223372036854775808 ≤ x ∧ x ≤ 9223372036854775807
/-- a slice of draws that is read -/
structure RDS (w : World) (A : Option Addr) (n c : Nat) (ds : List DRec) : Prop where
  len : ds.length = n
  room : n ≤ c
  cap : c ≤ maxLen
  cells : 0 < n → ∃ ad, A = some ad ∧ ∀ j, j < n → w.cell? (ad.add (j * 4)) = some (.int .i64 (dr_ ds j).who) ∧ w.cell? ((ad.add (j * 4)).add 1) = some (.int .i64 (dr_ ds j).said) ∧
    w.cell? ((ad.add (j * 4)).add 2) = some (.int .i64 (dr_ ds j).ix) ∧ w.cell? ((ad.add (j * 4)).add 3) = some (.bool (dr_ ds j).ot) ∧ inR (dr_ ds j).who ∧ inR (dr_ ds j).said ∧ inR (dr_ ds j).ix
theorem RDS.ext {w w' : World} {A : Option Addr} {n c : Nat} {ds : List DRec} (h : RDS w A n c ds) (e : Ext w w') : RDS w' A n c ds :=
  ⟨h.len, h.room, h.cap, fun hn => by
    obtain ⟨ad, ha, hc⟩ := h.cells hn
    refine ⟨ad, ha, fun j hj => ?_⟩
    obtain ⟨h1, h2, h3, h4, h5⟩ := hc j hj
    exact ⟨e.cell h1, e.cell h2, e.cell h3, e.cell h4, h5⟩⟩
end Go.Proofs.Ytkndgpjamijbbaa
namespace Go.Proofs.Ytkndgpjamijbbaa
set_option maxRecDepth 100000
open Go Go.RowKit
theorem lb_mem {Ls : List (List UInt8)} {k : Nat} (h : k < Ls.length) : lb Ls k ∈ Ls := by
  unfold lb
  rw [List.getD_eq_getElem?_getD, List.getElem?_eq_getElem h]
  exact List.getElem_mem _
end Go.Proofs.Ytkndgpjamijbbaa
