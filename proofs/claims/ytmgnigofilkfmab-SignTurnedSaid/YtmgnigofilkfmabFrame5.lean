/-
  What the frames of the statements hand on of a signature that came in, in the words of the walks. Plain theorems.
-/
import Derived.Lib.SmallJoins
import Derived.Test.YtmgnigofilkfmabFrameB
namespace Go.Proofs.Ytmgnigofilkfmab
set_option maxRecDepth 100000
open Go Go.RowKit Go.ChangeShapes Go.WideShapes Go.Deep
variable {H : Type} {enc : TypeId × Value → H} {w : World} {base : Nat} {held : Bool}
theorem open_sig {r : Reach} {b0 : Nat} {v : Value} {d : DataW H} {p : List MemPlace} (hv : Value.okWide Try.prog w r b0 52 v) (h : DataW.Trod enc Try.prog w base (fun _ => true) held 52 v d p) :
    ∃ (x : Int) (P Q : Option Addr) (np cp nq cq : Nat) (Ps Qs : List (List UInt8)), v = .agg #[.int .i64 x, .slice P np cp, .slice Q nq cq] ∧ RBB w P np cp Ps ∧ RBB w Q nq cq Qs := by
  obtain ⟨v0, v1, v2, y0, y1, y2, n, rfl, _, _, h0, h1, h2⟩ := Go.Joins.open_agg3 Try.underlying52 (by kernel_rfl) (by kernel_rfl) hv h
  obtain ⟨i, e0, _, hi⟩ := DataW.trod_int Try.underlying3 h0
  obtain ⟨P, np, cp, Ps, e1, r1⟩ := rows_arg h1
  obtain ⟨Q, nq, cq, Qs, e2, r2⟩ := rows_arg h2
  injection e0 with e0 _
  injection e1 with e1 _
  injection e2 with e2 _
  subst e0 e1 e2
  exact ⟨i, P, Q, np, cp, nq, cq, Ps, Qs, rfl, r1, r2⟩
end Go.Proofs.Ytmgnigofilkfmab
