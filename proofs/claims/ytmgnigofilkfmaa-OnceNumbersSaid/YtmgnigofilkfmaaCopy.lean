/-
  make and copy of bytes; keep.Sized, walked.
-/
import Derived.Test.YtmgnigofilkfmaaKeep
import Derived.Laws.CopyOwn
namespace Go.Proofs.Ytmgnigofilkfmaa
set_option maxRecDepth 100000
open Go Go.RowKit
theorem make_law {ops : Array Oper} {rest : List Oper} {o : Oper} {a : Act} {Q : Exit → Act → World → Prop} {w : World} (hgd : o.guard = none) {x y : Operand} {k : Nat} (ho : o.op = .makeSlice 22 x y) (hx : a.eval x = .int .i64 (k : Int)) (hy : a.eval y = .int .i64 (k : Int)) (hk : k ≤ 281474976710656)
    (h : ∀ w', OB w' w.heap.size (some ⟨w.heap.size, 0, none⟩) k k (List.replicate k 0) → Ext w w' → wpList Try.prog ops Q rest (a.put o.dst (.slice (some ⟨w.heap.size, 0, none⟩) k k)) w') : wpList Try.prog ops Q (o :: rest) a w := by
  obtain ⟨i0, hi0, hz0, hz1, hz2⟩ := info_parts info_u8
  obtain ⟨w', hr, h1, h2⟩ := run_make_full (P := Try.prog) w w.heap.size 22 5 i0 (.int .u8 0) 1 Try.underlying22 hi0 hz0 hz1 .i64 .i64 k (by rw [hz2]; omega) (big_maxLen hk) (Nat.le_refl _)
  refine run_law hgd (v := .slice (some ⟨w.heap.size, 0, none⟩) k k) (w' := w') ?_ (h w' ?_ (Ext.grown h2))
  · unfold execOp
    simp only [ho, hx, hy, Sem.run_bind, hr, Result.andThen_ok, Sem.run_pure]
  · unfold OB
    have e : bv (List.replicate k 0) = (madeCells (Value.int .u8 0).cells (k * 1)).toList := by
      rw [Nat.mul_one, show (Value.int .u8 0).cells = #[.int .u8 0] from rfl, toList_madeCells_one]
      unfold bv
      rw [List.map_replicate]
      rfl
    rw [e]
    exact h1
theorem OB.full {w : World} {base g k : Nat} {D : List UInt8} (h : OB w base (some ⟨g, 0, none⟩) k k D) : w.heap[g]? = some (.cells (bv D).toArray 5 (0, 0)) ∧ base ≤ g := by
  rcases h.2 with ⟨e, _⟩ | ⟨g', cap, cur, e, hb, hg, _, _, hs, ht⟩
  · cases e
  · injection e with e1 e2 e3
    injection e1 with e1
    injection e1 with e1 e4
    subst e1 e3
    refine ⟨?_, hb⟩
    rw [hg, ← ht, List.take_of_length_le (by rw [Array.length_toList, hs]; exact Nat.le_refl _)]
/-- copy(d, s), d a row of the call's own of full length -/
theorem copy_law {ops : Array Oper} {rest : List Oper} {o : Oper} {a : Act} {Q : Exit → Act → World → Prop} {w w0 : World} (hgd : o.guard = none) {d s : Operand} (ho : o.op = .call { callee := .builtin .copy, args := #[d, s], argTypes := #[22, 22] })
    {g k m c : Nat} {B : Option Addr} {D M : List UInt8} (hd : a.eval d = .slice (some ⟨g, 0, none⟩) k k) (hs : a.eval s = .slice B m c) (hD : OB w w0.heap.size (some ⟨g, 0, none⟩) k k D) (hr : RB w B m c M) (hk : k ≤ 281474976710656) (hE : Ext w0 w)
    (h : ∀ w' v, OB w' w0.heap.size (some ⟨g, 0, none⟩) k k (M.take k ++ D.drop (min m k)) → Ext w0 w' → wpList Try.prog ops Q rest (a.put o.dst v) w') : wpList Try.prog ops Q (o :: rest) a w := by
  obtain ⟨i0, hi0, hz0, hz1, hz2⟩ := info_parts info_u8
  have hDl := hD.len
  have hMl := hr.len
  obtain ⟨hg, hbg⟩ := hD.full
  have hlt : (M.take k).length = min m k := by simp [hMl, Nat.min_comm]
  refine Go.wpList_copy_splice hgd d s 22 22 ho 5 Try.underlying22 (by rw [hi0]; simp [hz1]) _ B k k m c hd hs g 0 (bv D) 5 hg (bv (M.take k)) (by rw [bv_length, hlt]) (fun hp => ⟨rfl, ?_⟩)
    (by rw [bv_length, bv_length, hlt]; omega) bv_one w0.heap.size w0 hE hbg ?_
  · rw [bv_length, hlt] at hp
    obtain ⟨ad, rfl, hc⟩ := hr.cells (by omega)
    refine ⟨ad, rfl, fun j v hv => ?_⟩
    have hj : j < (bv (M.take k)).length := by
      rcases Nat.lt_or_ge j (bv (M.take k)).length with h1 | h1
      · exact h1
      · rw [List.getElem?_eq_none h1] at hv; cases hv
    rw [bv_length, hlt] at hj
    rw [bv_get (by rw [hlt]; exact hj)] at hv
    injection hv with hv
    rw [← hv, ub_take (by omega)]
    exact hc j (by omega)
  · intro w' hw' hb'
    have e : splice (bv D) 0 (bv (M.take k)) = bv (M.take k ++ D.drop (min m k)) := by
      unfold splice bv
      simp only [List.take_zero, List.nil_append, Nat.zero_add, List.length_map, hlt, List.map_append, List.map_drop]
    have hh := hw'.out
    rw [e] at hh
    refine h w' _ ⟨?_, .inr ⟨g, k, _, rfl, hbg, hh, Nat.le_refl _, big_maxLen hk, ?_, ?_⟩⟩ hb'
    · rw [bv_length, List.length_append, List.length_drop, hlt]; omega
    · rw [List.size_toArray, bv_length, List.length_append, List.length_drop, hlt]; omega
    · rw [List.toList_toArray, List.take_of_length_le]
      rw [bv_length, List.length_append, List.length_drop, hlt]; omega
def sizedL (L : List UInt8) (k : Nat) : List UInt8 := L.take k ++ (List.replicate k 0).drop (min L.length k)
theorem sizedL_length (L : List UInt8) (k : Nat) : (sizedL L k).length = k := by
  unfold sizedL
  simp only [List.length_append, List.length_take, List.length_drop, List.length_replicate]
  omega
set_option maxHeartbeats 1000000 in
theorem sized_any (A : Option Addr) (n c k : Nat) (L : List UInt8) (w : World) (hr : RB w A n c L) (hk : k ≤ 1000000) :
    Calls Try.prog 41 #[.slice A n c, .int .i64 (k : Int)] w fun e w' => e = .returned (.slice (some ⟨w.heap.size, 0, none⟩) k k) ∧ OB w' w.heap.size (some ⟨w.heap.size, 0, none⟩) k k (sizedL L k) ∧ Ext w w' := by
  have hl := hr.len
  have Hl := Lib.hid hl
  clear hl
  go_enter Try.func41, Try.ntmps41
  go_wp2_with (first | (refine make_law rfl rfl rfl rfl (by omega) ?_; intro w1 own1 hE1) | (refine copy_law rfl rfl rfl rfl own1 (hr.ext hE1) (by omega) hE1 ?_; intro w2 v2 own2 hE2))
  go_ret
  refine ⟨rfl, ?_, hE2⟩
  rw [← Hl.out] at own2
  exact own2
end Go.Proofs.Ytmgnigofilkfmaa
