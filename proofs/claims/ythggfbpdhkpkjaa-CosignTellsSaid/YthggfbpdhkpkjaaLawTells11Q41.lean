/-
  keep.Few, walked; a slice is stored in a row of the call's own.
-/
import Derived.Test.YthggfbpdhkpkjaaLawTells11Q15
namespace Go.Proofs.Ythggfbpdhkpkjaa
set_option maxRecDepth 100000
open Go Go.RowKit
def fewL (most : Nat) (Ls : List (List UInt8)) : List (List UInt8) := Ls.map (·.take most)
theorem fewL_snoc (most : Nat) (Ls : List (List UInt8)) {p : Nat} (hp : p < Ls.length) : fewL most (Ls.take (p + 1)) = fewL most (Ls.take p) ++ [(lb Ls p).take most] := by
  unfold fewL
  rw [List.take_succ_eq_append_getElem hp, List.map_append]
  simp [lb, hp]
def FewI (w : World) (most : Nat) (Ls : List (List UInt8)) (q : Nat) (v i : Value) (wr : World) : Prop :=
  ∃ (p d : Nat) (P : Option Addr), p ≤ q ∧ i = .int .i64 p ∧ v = .slice P p d ∧ OBC wr w.heap.size P p d (fewL most (Ls.take p)) ∧ Ext w wr
set_option maxHeartbeats 2000000 in
theorem few_any (A : Option Addr) (n c k most : Nat) (Ls : List (List UInt8)) (w : World) (hr : RBB w A n c Ls) (hk : k ≤ 1000) (hmost : most ≤ 1000) :
    Calls Try.prog 51 #[.slice A n c, .int .i64 (k : Int), .int .i64 (most : Int)] w fun e w' => ∃ P d, e = .returned (.slice P (min n k) d) ∧ OBC w' w.heap.size P (min n k) d (fewL most (Ls.take k)) ∧ Ext w w' := by
  have hl := hr.len
  have Hl := Lib.hid hl
  clear hl
  have hcap := hr.cap
  have hroom := hr.room
  unfold maxLen at hcap
  obtain ⟨q, hq⟩ : ∃ q, q = min n k := ⟨_, rfl⟩
  have hqn : q ≤ n := by omega
  have hqk : q ≤ k := by omega
  have hqq : q = n ∨ q = k := by omega
  have he : fewL most (Ls.take k) = fewL most (Ls.take q) := by
    rw [hq, ← Hl.out]
    congr 1
    rw [Nat.min_def]
    split
    · rw [List.take_of_length_le (by omega), List.take_of_length_le (Nat.le_refl _)]
    · rfl
  rw [← hq, he]
  clear hq he
  go_enter Try.func51, Try.ntmps51
  go_wp2_with fail
  go_loopw [7, 8] (fun v i wr => FewI w most Ls q v i wr) (fun _ i _ => q - (intOf i).toNat)
  case atStart => exact ⟨0, 0, none, by omega, rfl, rfl, OBC.none_ _ _, Ext.refl _⟩
  case round =>
    obtain ⟨p, d, P, hp, rfl, rfl, own, hEr⟩ := hrel
    by_cases hlt : p < q
    · have hpn : (p : Int) < (n : Int) := by omega
      have hpk : (p : Int) < (k : Int) := by omega
      obtain ⟨ad, rfl, hc⟩ := hr.cells (by omega)
      obtain ⟨E, z, y, hcell, hrE⟩ := hc p (by omega)
      have y1 := hEr.cell hcell
      have rE := hrE.ext hEr
      have hcu := cut_any E z y most _ wr rE (by omega)
      have Hcu := Lib.hid hcu
      clear hcu hc hcell
      go_wp2_with fail
      refine Hcu.out.mono ?_
      rintro e w2 ⟨⟨rfl, rC⟩, rfl⟩
      clear Hcu
      have hEa := Ext.new wr (.cells #[.slice E (min z most) y] 22)
      have hBa := Blk.new wr 22 #[.slice E (min z most) y]
      have own4 := own.ext hEa
      have hne : 0 < min z most → blk E ≠ blk P := by
        intro hz e
        obtain ⟨b, hb⟩ : ∃ b, blk E = some b := by
          obtain ⟨ad', h1, _⟩ := hrE.cells (by omega)
          rw [h1]
          exact ⟨_, rfl⟩
        have h1 := rb_blk_lt hrE (by omega) _ hb
        have h2 := own.lt (e.symm.trans hb)
        omega
      have hY : RB wr E (min z most) y ((lb Ls p).take most) := rC
      go_wp2_with (refine appbc_law (base := w.heap.size) (Y := (lb Ls p).take most) rfl rfl rfl rfl (by rw [add_plain]; exact hBa.cell (i := 0) rfl) own4 (hY.ext hEa) hne (hEr.trans hEa).size (by omega) ?_; intro P5 d5 w5 own5 g5)
      go_roundw
      case rel =>
        rw [← fewL_snoc most Ls (by rw [Hl.out]; omega)] at own5
        exact ⟨p + 1, d5, P5, by omega, by go_num, rfl, own5, (hEr.trans hEa).then_grown g5 (fun b hb => (own4.lt hb).1)⟩
      case measure => simp [intOf]; omega
    · obtain rfl : p = q := by omega
      by_cases hpn : p < n
      · have a1 : (p : Int) < (n : Int) := by omega
        have a2 : ¬ ((p : Int) < (k : Int)) := by omega
        go_wp2_with fail
        go_ret
        exact ⟨P, d, rfl, own, hEr⟩
      · have a1 : ¬ ((p : Int) < (n : Int)) := by omega
        go_wp2_with fail
        go_ret
        exact ⟨P, d, rfl, own, hEr⟩
theorem OBC.store {w a : World} {base n c g z y : Nat} {E : Option Addr} {Ls : List (List UInt8)} {Y : List UInt8} (h : OBC w base (some ⟨g, 0, none⟩) n c Ls) (hE : RB w E z y Y) (hne : 0 < z → blk E ≠ some g) (i : Nat) (hi : i < n) (ha : Ext a w) (hab : a.heap.size ≤ base) :
    OBC (w.setCell ⟨g, i, none⟩ (.slice E z y)) base (some ⟨g, 0, none⟩) n c (Ls.set i Y) ∧ Ext a (w.setCell ⟨g, i, none⟩ (.slice E z y)) := by
  have hlt := h.lt (k := g) rfl
  obtain ⟨vs, h1, h2, h3⟩ := h
  have hvl : vs.length = n := by have := h1.1; omega
  have s := World.ownsRow.stored h1 i (.slice E z y)
  refine ⟨⟨vs.set i (.slice E z y), s.1, by simp [h2], fun j hj => ?_⟩, ha.then_grown s.2 (by intro k hk; cases hk; omega)⟩
  rw [lb_set (by omega)]
  by_cases hji : j = i
  · subst hji
    rw [if_pos rfl]
    exact ⟨E, z, y, by simp [hvl, hj], hE.grown s.2 hne, hne⟩
  · rw [if_neg hji]
    obtain ⟨B, m, d, h4, h5, h6⟩ := h3 j hj
    exact ⟨B, m, d, by rw [List.getElem?_set_ne (Ne.symm hji)]; exact h4, h5.grown s.2 h6, h6⟩
end Go.Proofs.Ythggfbpdhkpkjaa
