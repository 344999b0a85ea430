/-
  Appending many slices to a row of the call's own.
-/
import Derived.Test.YtmgnigofilkfmaaOnce3
namespace Go.Proofs.Ytmgnigofilkfmaa
set_option maxRecDepth 100000
open Go Go.RowKit
theorem RBB.vals {w : World} {A : Option Addr} {n c : Nat} {Ls : List (List UInt8)} (h : RBB w A n c Ls) :
    ∃ us : List Value, us.length = n ∧ (∀ ad, A = some ad → ∀ j u, us[j]? = some u → w.cell? (ad.add j) = some u) ∧ (∀ u ∈ us, u.oneCell' = true) ∧ ∀ j, j < n → ∃ B m d, us[j]? = some (.slice B m d) ∧ RB w B m d (lb Ls j) := by
  by_cases hn : n = 0
  · subst hn
    exact ⟨[], rfl, fun _ _ j u hu => by simp at hu, fun u hu => by simp at hu, fun j hj => absurd hj (Nat.not_lt_zero _)⟩
  · obtain ⟨ad, rfl, hc⟩ := h.cells (by omega)
    have pick : ∃ f : Nat → Value, ∀ j, j < n → w.cell? (ad.add j) = some (f j) ∧ ∃ B m d, f j = .slice B m d ∧ RB w B m d (lb Ls j) :=
      ⟨fun j => (w.cell? (ad.add j)).getD undef, fun j hj => by
        obtain ⟨B, m, d, h1, h2⟩ := hc j hj
        have e : (w.cell? (ad.add j)).getD undef = .slice B m d := by rw [h1]; rfl
        exact ⟨by show w.cell? (ad.add j) = some ((w.cell? (ad.add j)).getD undef); rw [e]; exact h1, B, m, d, e, h2⟩⟩
    obtain ⟨f, hf⟩ := pick
    have hget : ∀ j, j < n → ((List.range n).map f)[j]? = some (f j) := fun j hj => by simp [hj]
    refine ⟨(List.range n).map f, by simp, fun ad' e j u hu => ?_, fun u hu => ?_, fun j hj => ?_⟩
    · cases e
      have hj : j < n := by
        rcases Nat.lt_or_ge j n with h1 | h1
        · exact h1
        · rw [List.getElem?_eq_none (by simpa using h1)] at hu; cases hu
      rw [hget j hj] at hu
      injection hu with hu
      subst hu
      exact (hf j hj).1
    · simp only [List.mem_map, List.mem_range] at hu
      obtain ⟨j, hj, rfl⟩ := hu
      obtain ⟨_, B, m, d, h1, _⟩ := hf j hj
      rw [h1]
      simp [Value.oneCell']
    · obtain ⟨_, B, m, d, h1, h2⟩ := hf j hj
      exact ⟨B, m, d, by rw [hget j hj, h1], h2⟩
theorem appvs_law {ops : Array Oper} {rest : List Oper} {o : Oper} {a : Act} {Q : Exit → Act → World → Prop} {w : World} (hgd : o.guard = none) {s x : Operand} (ho : o.op = .call { callee := .builtin .append, args := #[s, x], argTypes := #[32, 32] })
    {A : Option Addr} {n c : Nat} (hs : a.eval s = .slice A n c) {ad : Addr} {k d : Nat} (hx : a.eval x = .slice (some ad) k d) {base : Nat} {vs us : List Value}
    (hown : w.ownsRow base 22 1 (.slice A n c) n vs) (hul : us.length = k) (hcells : ∀ j u, us[j]? = some u → w.cell? (ad.add j) = some u) (hone : ∀ u ∈ us, u.oneCell' = true) (hk : 0 < k) (hbase : base ≤ w.heap.size) (hnk : n + k ≤ 1000000)
    (h : ∀ A' c' w', w'.ownsRow base 22 1 (.slice A' (n + k) c') (n + k) (vs ++ us) → w.grownBy w' (blk A) → wpList Try.prog ops Q rest (a.put o.dst (.slice A' (n + k) c')) w') : wpList Try.prog ops Q (o :: rest) a w := by
  obtain ⟨i0, hi0, hz0, hz1, hz2⟩ := info_parts info_bb'
  obtain ⟨v', w', hrun, r1, r2, _, r4⟩ := run_append_own_at (P := Try.prog) w base 32 o.type 22 i0 (.slice none 0 0) 1 24 Try.underlying32 hi0 hz0 hz1 hz2 rfl (by decide) (.slice A n c) n vs hown ad k d us (by rw [hul, Nat.mul_one]) hcells hone (small_maxLen hnk) (by omega) hbase
  obtain ⟨A', c', rfl⟩ : ∃ A' c', v' = .slice A' (n + k) c' := by
    rcases r1.2 with ⟨_, h0⟩ | ⟨g, cap, _, rfl, _⟩
    · omega
    · exact ⟨_, cap, rfl⟩
  rw [ownBlock_slice] at r2
  refine run_law hgd (v := .slice A' (n + k) c') (w' := w') ?_ (h A' c' w' r1 r2)
  unfold execOp
  simp only [ho, resolve, invoke, builtin, Sem.run_bind, Sem.run_pure, Result.andThen_ok, List.map_toArray, List.map_cons, List.map_nil, hs, hx, hrun]
theorem OBC.of_vals {w0 w : World} {base n c : Nat} {A : Option Addr} {vs : List Value} {Ls : List (List UInt8)} (h : w.ownsRow base 22 1 (.slice A n c) n vs) (hb : w0.heap.size ≤ base) (e : Ext w0 w) (hl : Ls.length = n)
    (hv : ∀ j, j < n → ∃ B m d, vs[j]? = some (.slice B m d) ∧ RB w0 B m d (lb Ls j)) : OBC w base A n c Ls := by
  refine ⟨vs, h, hl, fun j hj => ?_⟩
  obtain ⟨B, m, d, h1, h2⟩ := hv j hj
  refine ⟨B, m, d, h1, h2.ext e, fun hm e' => ?_⟩
  cases hB : blk B with
  | none =>
    obtain ⟨ad, rfl, _⟩ := h2.cells hm
    cases hB
  | some k =>
    have h3 := rb_blk_lt h2 hm k hB
    rw [hB] at e'
    have h4 := (World.ownsRow.lt h k (by rw [ownBlock_slice]; exact e'.symm)).1
    omega
end Go.Proofs.Ytmgnigofilkfmaa
