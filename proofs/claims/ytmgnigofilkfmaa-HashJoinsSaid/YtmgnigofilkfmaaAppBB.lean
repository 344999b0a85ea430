/-
  Rows of byte slices of the call's own, and appends to them. Plain theorems.
-/
import Derived.Test.YtmgnigofilkfmaaParts
namespace Go.Proofs.Ytmgnigofilkfmaa
set_option maxRecDepth 100000
open Go Go.RowKit
/-- a row of byte slices of the call's own; what they read was there when the call began -/
def OBB (w0 w : World) (A : Option Addr) (n c : Nat) (Ls : List (List UInt8)) : Prop :=
  ∃ vs : List Value, w.ownsRow w0.heap.size 22 1 (.slice A n c) n vs ∧ Ls.length = n ∧ ∀ j, j < n → ∃ B m d, vs[j]? = some (.slice B m d) ∧ RB w0 B m d (lb Ls j)
theorem OBB.none_ (w0 w : World) : OBB w0 w none 0 0 [] := ⟨[], World.ownsRow_nil w _ _ _, rfl, fun j hj => absurd hj (Nat.not_lt_zero _)⟩
theorem OBB.ext {w0 w w' : World} {A : Option Addr} {n c : Nat} {Ls : List (List UInt8)} (h : OBB w0 w A n c Ls) (e : Ext w w') : OBB w0 w' A n c Ls := by
  obtain ⟨vs, h1, h2⟩ := h
  refine ⟨vs, World.ownsRow.kept h1 (e.grownBy none) ?_, h2⟩
  cases hb : Value.ownBlock (.slice A n c) <;> simp
theorem OBB.rbb {w0 w : World} {A : Option Addr} {n c : Nat} {Ls : List (List UInt8)} (h : OBB w0 w A n c Ls) (e : Ext w0 w) : RBB w A n c Ls := by
  obtain ⟨vs, h1, h2, h3⟩ := h
  rcases h1.2 with ⟨hv, hn⟩ | ⟨g, cap, cur, hv, hb, hg, hnc, hcm, hcs, ht⟩
  · injection hv with e1 e2 e3
    subst e1 e2 e3
    exact ⟨h2, Nat.le_refl _, Nat.zero_le _, fun h => absurd h (Nat.lt_irrefl _)⟩
  · injection hv with e1 e2 e3
    subst e1 e3
    refine ⟨h2, hnc, hcm, fun hn => ⟨_, rfl, fun j hj => ?_⟩⟩
    obtain ⟨B, m, d, h4, h5⟩ := h3 j hj
    exact ⟨B, m, d, World.ownsRow.cells h1 (g := g) rfl j _ h4, h5.ext e⟩
theorem info_bb : (Try.prog.info? 22).map (fun i => (i.zero, i.size, i.bytes)) = some (some (.slice none 0 0), 1, 24) := by kernel_rfl
theorem appbb_law {ops : Array Oper} {rest : List Oper} {o : Oper} {a : Act} {Q : Exit → Act → World → Prop} {w0 w : World} (hgd : o.guard = none) {s x : Operand} (ho : o.op = .call { callee := .builtin .append, args := #[s, x], argTypes := #[32, 32] })
    {A : Option Addr} {n c : Nat} (hs : a.eval s = .slice A n c) {ad : Addr} {k d : Nat} (hx : a.eval x = .slice (some ad) k d) (hE : Ext w0 w) {Ls Ms : List (List UInt8)} (hown : OBB w0 w A n c Ls)
    {us : List Value} (hul : us.length = k) (hus : ∀ j u, us[j]? = some u → w.cell? (ad.add j) = some u) (hum : ∀ j, j < k → ∃ B m d, us[j]? = some (.slice B m d) ∧ RB w0 B m d (lb Ms j)) (hml : Ms.length = k) (hk : 0 < k) (hnk : n + k ≤ 1000000)
    (h : ∀ A' c' w', OBB w0 w' A' (n + k) c' (Ls ++ Ms) → Ext w0 w' → wpList Try.prog ops Q rest (a.put o.dst (.slice A' (n + k) c')) w') : wpList Try.prog ops Q (o :: rest) a w := by
  obtain ⟨i0, hi0, hz0, hz1, hz2⟩ := info_parts info_bb
  obtain ⟨vs, h1, h2, h3⟩ := hown
  have hone : ∀ u ∈ us, u.oneCell' = true := by
    intro u hu
    obtain ⟨j, hj, e⟩ := List.getElem_of_mem hu
    obtain ⟨B, m, d', h4, _⟩ := hum j (by omega)
    rw [List.getElem?_eq_getElem hj, e] at h4
    injection h4 with h4
    subst h4
    rfl
  obtain ⟨v', w', hrun, r1, r2, r3⟩ := run_append_own (P := Try.prog) w w0.heap.size 32 o.type 22 i0 (.slice none 0 0) 1 24 Try.underlying32 hi0 hz0 hz1 hz2 rfl (by decide) (.slice A n c) n vs h1 ad k d us (by omega) hus hone (small_maxLen hnk) (by omega) hE.size
  obtain ⟨A', c', rfl⟩ : ∃ A' c', v' = .slice A' (n + k) c' := by
    rcases r1.2 with ⟨_, h0⟩ | ⟨g, cap, _, rfl, _⟩
    · omega
    · exact ⟨_, cap, rfl⟩
  refine run_law hgd (v := .slice A' (n + k) c') (w' := w') ?_ (h A' c' w' ⟨vs ++ us, r1, by rw [List.length_append]; omega, fun j hj => ?_⟩ (hE.then_grown r2 (fun b hb => (World.ownsRow.lt h1 b hb).1)))
  · unfold execOp
    simp only [ho, resolve, invoke, builtin, Sem.run_bind, Sem.run_pure, Result.andThen_ok, List.map_toArray, List.map_cons, List.map_nil, hs, hx, hrun]
  · have hvl : vs.length = n := by have := h1.1; omega
    by_cases hjn : j < n
    · obtain ⟨B, m, d', h4, h5⟩ := h3 j hjn
      refine ⟨B, m, d', by rw [List.getElem?_append_left (by omega)]; exact h4, ?_⟩
      have e : lb (Ls ++ Ms) j = lb Ls j := by unfold lb; simp [List.getElem?_append_left (show j < Ls.length by omega)]
      rw [e]
      exact h5
    · obtain ⟨B, m, d', h4, h5⟩ := hum (j - n) (by omega)
      refine ⟨B, m, d', by rw [List.getElem?_append_right (by omega), hvl]; exact h4, ?_⟩
      have e : lb (Ls ++ Ms) j = lb Ms (j - n) := by unfold lb; simp [List.getElem?_append_right (show Ls.length ≤ j by omega), h2]
      rw [e]
      exact h5
end Go.Proofs.Ytmgnigofilkfmaa
