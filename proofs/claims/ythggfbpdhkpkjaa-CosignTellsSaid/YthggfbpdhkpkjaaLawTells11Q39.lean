/-
  Draws and policies that came in, in the words of the walks. Plain theorems.
-/
import Derived.Lib.SmallJoins
import Derived.Test.YthggfbpdhkpkjaaLawTells11Q4
import Derived.Test.YthggfbpdhkpkjaaLawTells11Q38
namespace Go.Proofs.Ythggfbpdhkpkjaa
set_option maxRecDepth 100000
open Go Go.RowKit Go.ChangeShapes Go.WideShapes Go.Deep
variable {H : Type} {enc : TypeId × Value → H} {w : World} {base : Nat} {held : Bool}
theorem draw_arg {n : Nat} {a : Addr} {cs : List Value} {y : DataW H × List MemPlace} (hcs : w.cells? base a 4 = some cs) (h : DataW.trod enc Try.prog w base (fun _ => true) held n 131 cs = some y) :
    ∃ d : DRec, w.cell? a = some (.int .i64 d.who) ∧ w.cell? (a.add 1) = some (.int .i64 d.said) ∧ w.cell? (a.add 2) = some (.int .i64 d.ix) ∧ w.cell? (a.add 3) = some (.bool d.ot) ∧ inR d.who ∧ inR d.said ∧ inR d.ix := by
  obtain ⟨_, hl, hc⟩ := World.cells?_some hcs
  obtain ⟨y0, y1, y2, y3, m, _, hlen, h0, h1, h2, h3⟩ := Go.Joins.trod_struct4 Try.underlying131 h
  have ki : Try.prog.cellsOf 3 = 1 := by kernel_rfl
  have kb : Try.prog.cellsOf 4 = 1 := by kernel_rfl
  have hn4 : cs.length = 4 := hl
  match cs, hn4 with
  | [c0, c1, c2, c3], _ =>
    simp only [ki, kb] at h0 h1 h2 h3
    obtain ⟨i0, e0, _, w0⟩ := DataW.trod_int Try.underlying3 h0
    obtain ⟨i1, e1, _, w1⟩ := DataW.trod_int Try.underlying3 h1
    obtain ⟨i2, e2, _, w2⟩ := DataW.trod_int Try.underlying3 h2
    obtain ⟨b3, e3, _⟩ := DataW.trod_bool Try.underlying4 h3
    simp at e0 e1 e2 e3
    subst e0 e1 e2 e3
    refine ⟨⟨i0, i1, i2, b3⟩, ?_, hc 1 (by omega), hc 2 (by omega), hc 3 (by omega), wf_i64 w0, wf_i64 w1, wf_i64 w2⟩
    exact hc 0 (by omega)
theorem draws_arg {fuel : Nat} {cs : List Value} {x : DataW H × List MemPlace} (h : DataW.trod enc Try.prog w base (fun _ => true) held fuel 82 cs = some x) :
    ∃ (A : Option Addr) (n c : Nat) (ds : List DRec), cs = [.slice A n c] ∧ RDS w A n c ds := by
  have h1 : Try.prog.cellsOf 131 = 4 := by kernel_rfl
  rcases DataW.trod_slice Try.underlying82 h with ⟨hcs, _⟩ | ⟨a, len, cap, elems, rest, n, _, rfl, rfl, hb, hl, hm, hlen, hel, hsp, hns⟩
  · exact ⟨none, 0, 0, [], hcs, ⟨rfl, Nat.le_refl _, Nat.zero_le _, fun h => absurd h (Nat.lt_irrefl _)⟩⟩
  · have each : ∀ i, i < len → ∃ d : DRec, w.cell? (a.add (i * 4)) = some (.int .i64 d.who) ∧ w.cell? ((a.add (i * 4)).add 1) = some (.int .i64 d.said) ∧ w.cell? ((a.add (i * 4)).add 2) = some (.int .i64 d.ix) ∧ w.cell? ((a.add (i * 4)).add 3) = some (.bool d.ot) ∧ inR d.who ∧ inR d.said ∧ inR d.ix := by
      intro i hi
      have hy := hel i hi
      rw [h1, List.getElem?_eq_getElem (by omega), Option.bind_eq_some_iff] at hy
      obtain ⟨cs', hcs, hy'⟩ := hy
      exact draw_arg hcs hy'
    have pick : ∃ f : Nat → DRec, ∀ i, i < len → w.cell? (a.add (i * 4)) = some (.int .i64 (f i).who) ∧ w.cell? ((a.add (i * 4)).add 1) = some (.int .i64 (f i).said) ∧ w.cell? ((a.add (i * 4)).add 2) = some (.int .i64 (f i).ix) ∧ w.cell? ((a.add (i * 4)).add 3) = some (.bool (f i).ot) ∧ inR (f i).who ∧ inR (f i).said ∧ inR (f i).ix :=
      ⟨fun i => if h : i < len then (each i h).choose else dz, fun i hi => by
        have e : (if h : i < len then (each i h).choose else dz) = (each i hi).choose := dif_pos hi
        simp only [e]
        exact (each i hi).choose_spec⟩
    obtain ⟨f, hf⟩ := pick
    refine ⟨some a, len, cap, (List.range len).map f, rfl, ⟨by simp, hl, hm, fun _ => ⟨a, rfl, fun j hj => ?_⟩⟩⟩
    have e : dr_ ((List.range len).map f) j = f j := by simp [dr_, hj]
    rw [e]
    exact hf j hj
theorem open_pol {r : Reach} {b0 : Nat} {v : Value} {d : DataW H} {p : List MemPlace} (hv : Value.okWide Try.prog w r b0 77 v) (h : DataW.Trod enc Try.prog w base (fun _ => true) held 77 v d p) :
    ∃ (G Q : Option Addr) (ng cg nq cq : Nat) (q : Int) (LG : List UInt8) (Ws : List (List UInt8)), v = .agg #[.slice G ng cg, .slice Q nq cq, .int .i64 q] ∧ RB w G ng cg LG ∧ RBB w Q nq cq Ws ∧ inR q := by
  obtain ⟨v0, v1, v2, y0, y1, y2, n, rfl, _, _, h0, h1, h2⟩ := Go.Joins.open_agg3 Try.underlying77 (by kernel_rfl) (by kernel_rfl) hv h
  obtain ⟨G, ng, cg, LG, e0, r0⟩ := row_arg h0
  obtain ⟨Q, nq, cq, Ws, e1, r1⟩ := rows_arg h1
  obtain ⟨q, e2, _, hq⟩ := DataW.trod_int Try.underlying3 h2
  injection e0 with e0 _
  injection e1 with e1 _
  injection e2 with e2 _
  subst e0 e1 e2
  exact ⟨G, Q, ng, cg, nq, cq, q, LG, Ws, rfl, r0, r1, wf_i64 hq⟩
end Go.Proofs.Ythggfbpdhkpkjaa
