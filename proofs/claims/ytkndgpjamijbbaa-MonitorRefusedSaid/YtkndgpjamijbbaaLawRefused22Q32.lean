/-
  law11's made, walked (under way). ExtractPrefixes, walked.
-/
import Derived.Test.YtkndgpjamijbbaaLawRefused22Q31
import Derived.Test.YtkndgpjamijbbaaLawRefused22Q29
import Derived.Lib.AppendZerosOnto
import Derived.Test.YtkndgpjamijbbaaLawRefused22Q4
import Derived.Test.YtkndgpjamijbbaaLawRefused22Q26
import Derived.Test.YtkndgpjamijbbaaLawRefused22Q25
import Derived.Test.YtkndgpjamijbbaaLawRefused22Q22
import Derived.Test.YtkndgpjamijbbaaLawRefused22Q1
import Derived.Test.YtkndgpjamijbbaaLawRefused22Q27
namespace Go.Proofs.Ytkndgpjamijbbaa
set_option maxRecDepth 100000
open Go Go.RowKit
structure DRec where
  who : Int
  said : Int
  ix : Int
  ot : Bool
def dz : DRec := ⟨0, 0, 0, false⟩
def dr_ (ds : List DRec) (j : Nat) : DRec := ds.getD j dz
def inR (x : Int) : Prop := -9223372036854775808 ≤ x ∧ x ≤ 9223372036854775807
/-- a slice of draws that is read -/
structure RDS (w : World) (A : Option Addr) (n c : Nat) (ds : List DRec) : Prop where
  len : ds.length = n
  room : n ≤ c
  cap : c ≤ maxLen
  cells : 0 < n → ∃ ad, A = some ad ∧ ∀ j, j < n → w.cell? (ad.add (j * 4)) = some (.int .i64 (dr_ ds j).who) ∧ w.cell? ((ad.add (j * 4)).add 1) = some (.int .i64 (dr_ ds j).said) ∧
    w.cell? ((ad.add (j * 4)).add 2) = some (.int .i64 (dr_ ds j).ix) ∧ w.cell? ((ad.add (j * 4)).add 3) = some (.bool (dr_ ds j).ot) ∧ inR (dr_ ds j).who ∧ inR (dr_ ds j).said ∧ inR (dr_ ds j).ix
theorem RDS.ext {w w' : World} {A : Option Addr} {n c : Nat} {ds : List DRec} (h : RDS w A n c ds) (e : Ext w w') : RDS w' A n c ds :=
  ⟨h.len, h.room, h.cap, fun hn => by
    obtain ⟨ad, ha, hc⟩ := h.cells hn
    refine ⟨ad, ha, fun j hj => ?_⟩
    obtain ⟨h1, h2, h3, h4, h5⟩ := hc j hj
    exact ⟨e.cell h1, e.cell h2, e.cell h3, e.cell h4, h5⟩⟩
end Go.Proofs.Ytkndgpjamijbbaa
namespace Go.Proofs.Ytkndgpjamijbbaa
set_option maxRecDepth 100000
open Go Go.RowKit
theorem lb_mem {Ls : List (List UInt8)} {k : Nat} (h : k < Ls.length) : lb Ls k ∈ Ls := by
  unfold lb
  rw [List.getD_eq_getElem?_getD, List.getElem?_eq_getElem h]
  exact List.getElem_mem _
end Go.Proofs.Ytkndgpjamijbbaa
