/-
  An append to a full slice: nothing older is turned. Plain theorems.
-/
import Derived.Test.YtmgnigofilkfmaaParApp
namespace Go.Proofs.Ytmgnigofilkfmaa
set_option maxRecDepth 100000
open Go Go.RowKit
theorem run_app_full (ty : TypeId) {w : World} {ad : Addr} {n c : Nat} {B : Option Addr} {m d : Nat} {L M : List UInt8} (hr : RB w (some ad) n c L) (hx : RB w B m d M) (hfull : c < n + m) (hnm : n + m ≤ 140737488355328) :
    ∃ A' c' w', (Builtin.append_ #[22, 22] ty #[.slice (some ad) n c, .slice B m d]).run Try.prog w = .ok (.slice A' (n + m) c') w' ∧ OB w' w.heap.size A' (n + m) c' (L ++ M) ∧ Ext w w' := by
  obtain ⟨i0, hi0, hz0, hz1, hz2⟩ := info_parts info_u8
  have hl := hr.len
  have hm := hx.len
  have hnc := hr.room
  obtain ⟨bd, rfl, hb⟩ := hx.cells (by omega)
  have ha : 0 < n → ∀ j, j < n → w.cell? (ad.add j) = some (.int .u8 (u8i (ub L j))) := by
    intro hn
    obtain ⟨ad', h1, h2⟩ := hr.cells hn
    injection h1 with h1
    subst h1
    exact h2
  have hcA : ∀ j u, (bv L)[j]? = some u → w.cell? (ad.add j) = some u := by
    intro j u hu
    have hj : j < (bv L).length := by
      rcases Nat.lt_or_ge j (bv L).length with h1 | h1
      · exact h1
      · rw [List.getElem?_eq_none h1] at hu; cases hu
    rw [bv_length, hl] at hj
    rw [bv_get (by omega)] at hu
    injection hu with hu
    rw [← hu]
    exact ha (by omega) j hj
  have hcB : ∀ j u, (bv M)[j]? = some u → w.cell? (bd.add j) = some u := by
    intro j u hu
    have hj : j < (bv M).length := by
      rcases Nat.lt_or_ge j (bv M).length with h1 | h1
      · exact h1
      · rw [List.getElem?_eq_none h1] at hu; cases hu
    rw [bv_length, hm] at hj
    rw [bv_get (by omega)] at hu
    injection hu with hu
    rw [← hu]
    exact hb j hj
  have hrun := run_append_grow (P := Try.prog) w 22 ty 5 i0 (.int .u8 0) Try.underlying22 hi0 hz0 ad n c (bv L) (by rw [bv_length, hz1]; omega) hcA bd m d (bv M) (by rw [bv_length, hz1]; omega) hcB hfull (by omega) (by rw [hz2]; exact growslice_fits hfull (by omega))
  have hge := grownCap_ge w (n + m) c 5
  have hcm : grownCap w (n + m) c 5 ≤ maxLen := grownCap_le_maxLen w (n + m) c 5 (by unfold maxLen; omega)
  refine ⟨_, _, _, hrun, ⟨by rw [bv_length, List.length_append]; omega, .inr ⟨w.heap.size, _, _, rfl, Nat.le_refl _, heap_alloc_new w.drew _, hge, hcm, ?_, ?_⟩⟩, ((Ext.refl w).drew).alloc _⟩
  · simp only [Array.size_append, List.size_toArray, size_zeroCells, bv_length]
    have : (Value.cells (.int .u8 0)).size = 1 := rfl
    rw [this]
    omega
  · simp only [Array.toList_append, List.append_assoc]
    rw [bv_append, ← List.append_assoc]
    exact List.take_left' (by rw [List.length_append, bv_length, bv_length]; omega)
theorem Runs.appFull {o : Oper} {ρ : Operand → Value} {w : World} {G : Value → World → Prop} {s x : Operand} {ad : Addr} {n c : Nat} {B : Option Addr} {m d : Nat} {L M : List UInt8} (ho : o.op = .call { callee := .builtin .append, args := #[s, x], argTypes := #[22, 22] })
    (hs : ρ s = .slice (some ad) n c) (hx : ρ x = .slice B m d) (hr : RB w (some ad) n c L) (hb : RB w B m d M) (hfull : c < n + m) (hnm : n + m ≤ 140737488355328)
    (h : ∀ A' c' w', OB w' w.heap.size A' (n + m) c' (L ++ M) → Ext w w' → G (.slice A' (n + m) c') w') : Runs Try.prog o ρ w G := by
  obtain ⟨A', c', w', hrun, h2, h3⟩ := run_app_full o.type hr hb hfull hnm
  refine Runs.of_run (r := .slice A' (n + m) c') (w' := w') ?_ (h A' c' w' h2 h3)
  unfold execOp
  simp only [ho, resolve, invoke, builtin, Sem.run_bind, Sem.run_pure, Result.andThen_ok, List.map_toArray, List.map_cons, List.map_nil, hs, hx, hrun]
theorem app_full {ops : Array Oper} {rest : List Oper} {o : Oper} {a : Act} {Q : Exit → Act → World → Prop} {w : World} {s x : Operand} {ad : Addr} {n c : Nat} {B : Option Addr} {m d : Nat} {L M : List UInt8} (hgd : o.guard = none) (ho : o.op = .call { callee := .builtin .append, args := #[s, x], argTypes := #[22, 22] })
    (hs : a.eval s = .slice (some ad) n c) (hx : a.eval x = .slice B m d) (hr : RB w (some ad) n c L) (hb : RB w B m d M) (hfull : c < n + m) (hnm : n + m ≤ 140737488355328)
    (h : ∀ A' c' w', OB w' w.heap.size A' (n + m) c' (L ++ M) → Ext w w' → wpList Try.prog ops Q rest (a.put o.dst (.slice A' (n + m) c')) w') : wpList Try.prog ops Q (o :: rest) a w := by
  obtain ⟨A', c', w', hrun, h2, h3⟩ := run_app_full o.type hr hb hfull hnm
  refine run_law hgd (v := .slice A' (n + m) c') (w' := w') ?_ (h A' c' w' h2 h3)
  unfold execOp
  simp only [ho, resolve, invoke, builtin, Sem.run_bind, Sem.run_pure, Result.andThen_ok, List.map_toArray, List.map_cons, List.map_nil, hs, hx, hrun]
theorem run_app_zero (ty : TypeId) {w : World} {ad : Addr} {n c : Nat} {B : Option Addr} {d : Nat} (hnc : n ≤ c) :
    (Builtin.append_ #[22, 22] ty #[.slice (some ad) n c, .slice B 0 d]).run Try.prog w = .ok (.slice (some ad) n c) w := by
  obtain ⟨i0, hi0, hz0, hz1, hz2⟩ := info_parts info_u8
  have e : (List.range' 0 0) = [] := rfl
  cases B <;> simp [Builtin.append_, run_underlying Try.underlying22, sizeOf, typeInfo, hi0, Builtin.lenOf, Builtin.firstCells, hnc, storeCells, loadCells, loadCellsFrom]
theorem Runs.appZero {o : Oper} {ρ : Operand → Value} {w : World} {G : Value → World → Prop} {s x : Operand} {ad : Addr} {n c : Nat} {B : Option Addr} {d : Nat} (ho : o.op = .call { callee := .builtin .append, args := #[s, x], argTypes := #[22, 22] })
    (hs : ρ s = .slice (some ad) n c) (hx : ρ x = .slice B 0 d) (hnc : n ≤ c) (h : G (.slice (some ad) n c) w) : Runs Try.prog o ρ w G := by
  refine Runs.of_run (r := .slice (some ad) n c) (w' := w) ?_ h
  unfold execOp
  simp only [ho, resolve, invoke, builtin, Sem.run_bind, Sem.run_pure, Result.andThen_ok, List.map_toArray, List.map_cons, List.map_nil, hs, hx, run_app_zero o.type hnc]
end Go.Proofs.Ytmgnigofilkfmaa
