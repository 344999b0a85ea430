/-
  law2.HashGiven, walked.
-/
import Derived.Test.YtmgnigofilkfmaaKnown2
import Derived.Test.YtmgnigofilkfmaaKeep
import Derived.Laws.OwnMore
namespace Go.Proofs.Ytmgnigofilkfmaa
set_option maxRecDepth 100000
open Go Go.RowKit
theorem OB.plain {w : World} {base n c : Nat} {ad : Addr} {L : List UInt8} (h : OB w base (some ad) n c L) : ∃ g, ad = ⟨g, 0, none⟩ := by
  rcases h.2 with ⟨e, _⟩ | ⟨g', cap, cur, e, _⟩
  · cases e
  · injection e with e1 e2 e3
    injection e1 with e1
    exact ⟨g', e1⟩
theorem OB.set {w : World} {base n c g : Nat} {L : List UInt8} (h : OB w base (some ⟨g, 0, none⟩) n c L) (i : Nat) (b : UInt8) :
    OB (w.setCell ⟨g, i, none⟩ (.int .u8 (u8i b))) base (some ⟨g, 0, none⟩) n c (L.set i b) ∧ w.grownBy (w.setCell ⟨g, i, none⟩ (.int .u8 (u8i b))) (some g) := by
  have h2 := World.ownsRow.stored h i (.int .u8 (u8i b))
  have e : bv (L.set i b) = (bv L).set i (.int .u8 (u8i b)) := by simp [bv, List.map_set]
  unfold OB
  rw [e]
  exact h2
theorem OB.cell {w : World} {base n c g : Nat} {L : List UInt8} (h : OB w base (some ⟨g, 0, none⟩) n c L) {i : Nat} (hi : i < n) : w.cell? ⟨g, i, none⟩ = some (.int .u8 (u8i (ub L i))) := by
  obtain ⟨ad, e, hc⟩ := h.rb.cells (by omega)
  injection e with e
  subst e
  have := hc i hi
  rw [add_plain] at this
  exact this
theorem OB.frozen {w : World} {base n c g : Nat} {L : List UInt8} (h : OB w base (some ⟨g, 0, none⟩) n c L) (i : Nat) : w.frozen? ⟨g, i, none⟩ = false := World.ownsRow.frozenAt h i
theorem OB.ge {w : World} {base n c g : Nat} {L : List UInt8} (h : OB w base (some ⟨g, 0, none⟩) n c L) : base ≤ g := (h.lt rfl).1
theorem u8i_inc (b : UInt8) : (u8i b + 1) % 256 = u8i (b + 1) := by
  unfold u8i
  rw [UInt8.toNat_add]
  have : (1 : UInt8).toNat = 1 := rfl
  rw [this]
  omega
/-- the first k bytes are one more -/
def incL (L : List UInt8) (k : Nat) : List UInt8 := (L.take k).map (· + 1) ++ L.drop k
theorem incL_ub {L : List UInt8} {k : Nat} (h : k < L.length) : ub (incL L k) k = ub L k := by
  unfold incL ub
  simp [List.getElem?_append_right, Nat.min_eq_left (Nat.le_of_lt h)]
theorem incL_succ {L : List UInt8} {k : Nat} (h : k < L.length) : (incL L k).set k (ub L k + 1) = incL L (k + 1) := by
  unfold incL
  have hl : ((L.take k).map (· + 1)).length = k := by
    rw [List.length_map, List.length_take]
    omega
  rw [List.set_append_right _ _ (by omega), hl, Nat.sub_self, List.drop_eq_getElem_cons h, List.set_cons_zero, List.take_succ_eq_append_getElem h, List.map_append, List.append_assoc, show ub L k = L[k] from by simp [ub, h]]
  rfl
theorem incL_ne {L : List UInt8} (h : 0 < L.length) : incL L L.length ≠ L := by
  intro e
  cases L with
  | nil => simp at h
  | cons x L =>
    unfold incL at e
    rw [List.take_length, List.drop_length, List.append_nil] at e
    simp only [List.map_cons, List.cons.injEq] at e
    have h2 := congrArg UInt8.toNat e.1
    rw [UInt8.toNat_add] at h2
    have : (1 : UInt8).toNat = 1 := rfl
    rw [this] at h2
    have := x.toNat_lt
    omega
theorem incL_length (L : List UInt8) (k : Nat) : (incL L k).length = L.length := by simp [incL]; omega
set_option maxHeartbeats 4000000 in
theorem given_law (A : Option Addr) (n c : Nat) (L : List UInt8) (w : World) (hr : RB w A n c L) :
    Calls Try.prog 3 #[.slice A n c] w fun e w' => e = .returned (.bool true) ∧ Ext w w' := by
  go_enter Try.func3, Try.ntmps3
  have hc1 := cut_any A n c 200 L w hr (by omega)
  have e200 : ((200 : Nat) : Int) = 200 := rfl
  rw [e200] at hc1
  go_wp2_with fail
  refine hc1.mono ?_
  rintro e w1 ⟨⟨rfl, rb1⟩, rfl⟩
  clear hc1 e200 hr
  have hn1 : min n 200 ≤ 200 := by omega
  generalize min n 200 = m at *
  generalize L.take 200 = X at *
  go_wp2_with fail
  refine (hsum_any A m c X w rb1 (by omega)).mono ?_
  rintro e w2 ⟨B, d, rfl, own, hE2⟩
  obtain ⟨S, hS⟩ : ∃ S, S = sha X := ⟨_, rfl⟩
  rw [← hS] at own
  have hS2 := Lib.hid hS
  clear hS
  have s1 := run_str own.rb
  obtain ⟨ad, rfl, _⟩ := own.rb.cells (by omega)
  obtain ⟨g, rfl⟩ := own.plain
  have hsl := own.len
  have Hsl := Lib.hid hsl
  clear hsl
  have hg := own.ge
  go_wp2_with fail
  clear s1
  go_loopw [5] (fun i wr => ∃ k : Nat, k ≤ 32 ∧ i = .int .i64 k ∧ OB wr w.heap.size (some ⟨g, 0, none⟩) 32 d (incL S k) ∧ Ext w wr) (fun i _ => 32 - (intOf i).toNat)
  case atStart => exact ⟨0, by omega, rfl, by simpa [incL] using own, hE2⟩
  case round =>
    clear own hE2
    obtain ⟨k, hk, rfl, own, hEr⟩ := hrel
    by_cases hlt : k < 32
    · have y1 := own.cell hlt
      have y2 := own.frozen k
      rw [incL_ub (by rw [Hsl.out]; exact hlt)] at y1
      have y3 := u8i_inc (ub S k)
      go_wp2_with fail
      go_roundw
      case rel =>
        have h2 := (own.set k (ub S k + 1)).1
        rw [incL_succ (by rw [Hsl.out]; exact hlt)] at h2
        exact ⟨k + 1, by omega, by go_num, h2, hEr.then_grown (own.set k (ub S k + 1)).2 (by intro j hj; cases hj; exact hg)⟩
      case measure => simp [intOf]; omega
    · obtain rfl : k = 32 := by omega
      go_wp2_with fail
      refine (hsum_any A m c X wr (rb1.ext hEr) (by omega)).mono ?_
      rintro e w4 ⟨B4, d4, rfl, own4, hE4⟩
      rw [← hS2.out] at own4
      have hne : incL S 32 ≠ S := by
        have h := incL_ne (L := S) (by rw [Hsl.out]; omega)
        rw [Hsl.out] at h
        exact h
      have Hne := Lib.hid (fun e => hne (by rw [str_toList, str_toList] at e; exact e) : ¬ (str (incL S 32)).toList = (str S).toList)
      clear hne
      have r5 := own.rb.ext hE4
      have s1 := run_str own4.rb
      have s2 := run_str r5
      have s3 : ((str (incL S 32)).toList == (str S).toList) = false := by
        rw [beq_eq_false_iff_ne]
        exact Hne.out
      go_wp2_with fail
      refine (hhex_any _ 32 d _ w4 r5 (by omega)).mono ?_
      rintro e w5 ⟨rfl, hE5⟩
      have hl : (str (hexOf (incL S 32))).size = 64 := by rw [str_size, hexOf_length, incL_length, Hsl.out]
      go_wp2_with fail
      refine (known2_any w5).mono ?_
      rintro e w6 ⟨rfl, hE6⟩
      go_wp2_with fail
      go_ret
      exact ⟨rfl, hEr.trans (hE4.trans (hE5.trans hE6))⟩
end Go.Proofs.Ytmgnigofilkfmaa
