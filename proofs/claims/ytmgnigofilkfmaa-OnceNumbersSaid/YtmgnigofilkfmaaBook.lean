/-
  book.Same, Roomy and Intact of bytes, walked.
-/
import Derived.Test.YtmgnigofilkfmaaOwn
import Derived.Test.YtmgnigofilkfmaaRef2Sum
namespace Go.Proofs.Ytmgnigofilkfmaa
set_option maxRecDepth 100000
open Go Go.RowKit
theorem list_ub' {X Y : List UInt8} (hl : X.length = Y.length) (h : ∀ j, j < X.length → ub X j = ub Y j) : X = Y := by
  apply List.ext_getElem hl
  intro i h1 h2
  have := h i h1
  simpa [ub, h1, h2] using this
set_option maxHeartbeats 2000000 in
theorem bsame_any (A B : Option Addr) (n c m d : Nat) (L M : List UInt8) (w : World) (hr : RB w A n c L) (hs : RB w B m d M) :
    Calls Try.prog 51 #[.slice A n c, .slice B m d] w fun e w' => e = .returned (.bool (decide (L = M))) ∧ Ext w w' := by
  have hl1 := hr.len
  have hl2 := hs.len
  have hcap := hr.cap
  have hroom := hr.room
  unfold maxLen at hcap
  by_cases hnm : n = m
  · subst hnm
    have H1 := Lib.hid hl1
    have H2 := Lib.hid hl2
    clear hl1 hl2
    obtain ⟨q, hq⟩ : ∃ q, q = decide (L = M) := ⟨_, rfl⟩
    rw [← hq]
    have Hq := Lib.hid hq
    clear hq
    go_enter Try.func51, Try.ntmps51
    go_wp2_with fail
    go_loopw [5] (fun i wr => ∃ p : Nat, p ≤ n ∧ i = .int .i64 p ∧ Go.RowKit.Hid (∀ j, j < p → ub L j = ub M j) ∧ Ext w wr) (fun i _ => n - (intOf i).toNat)
    case atStart => exact ⟨0, by omega, rfl, Lib.hid (fun j hj => by omega), Ext.refl _⟩
    case round =>
      obtain ⟨p, hp, rfl, hz, hEr⟩ := hrel
      by_cases hlt : p < n
      · obtain ⟨aP, rfl, cP⟩ := hr.cells (by omega)
        obtain ⟨aR, rfl, cR⟩ := hs.cells (by omega)
        go_upto_region 6 with (fail)
        refine par_ext (n := 9) (by kernel_rfl) [.is (.slice (some aP) (n) (c)), .is (.int .i64 (((p : Nat) : Int))), .is (.pointer (some (aP.add (p)))), .is (.int .u8 (u8i (ub L (p)))), .is (.slice (some aR) (n) (d)), .is (.int .i64 (((p : Nat) : Int))), .is (.pointer (some (aR.add (p)))), .is (.int .u8 (u8i (ub M (p)))), .is (.bool (decide (u8i ((ub L (p))) ≠ u8i ((ub M (p))))))] rfl ⟨?_, ?_, ?_, ?_, ?_, ?_, ?_, ?_, ?_, trivial⟩ ?_
        · refine stepE rfl fun sdn sa sw sE sd sk => ?_
          have h0 : sa.eval (.tmp 0) = .slice (some aP) (n) (c) := sk.old 0 rfl
          exact Runs.move rfl h0 ⟨Ext.refl _, rfl⟩
        · refine stepE rfl fun sdn sa sw sE sd sk => ?_
          have h5 : sa.eval (.tmp 5) = .int .i64 (((p : Nat) : Int)) := sk.old 5 rfl
          exact Runs.move rfl h5 ⟨Ext.refl _, rfl⟩
        · refine stepE rfl fun sdn sa sw sE sd sk => ?_
          have h17 : sa.eval (.tmp 17) = .slice (some aP) (n) (c) := sk.fact 0 17 rfl (sd 0 rfl)
          have h18 : sa.eval (.tmp 18) = .int .i64 (((p : Nat) : Int)) := sk.fact 1 18 rfl (sd 1 rfl)
          exact Runs.idx rfl h17 h18 (run_idx_sl1 Try.underlying22 inf22_eq inf22_size (p) (by omega) (by omega)) ⟨Ext.refl _, rfl⟩
        · refine stepE rfl fun sdn sa sw sE sd sk => ?_
          have h19 : sa.eval (.tmp 19) = .pointer (some (aP.add (p))) := sk.fact 2 19 rfl (sd 2 rfl)
          exact Runs.load rfl h19 (run_load1 Try.underlying5 rfl (cell_at cP (hEr.trans sE) (by omega))) ⟨Ext.refl _, rfl⟩
        · refine stepE rfl fun sdn sa sw sE sd sk => ?_
          have h1 : sa.eval (.tmp 1) = .slice (some aR) (n) (d) := sk.old 1 rfl
          exact Runs.move rfl h1 ⟨Ext.refl _, rfl⟩
        · refine stepE rfl fun sdn sa sw sE sd sk => ?_
          have h5 : sa.eval (.tmp 5) = .int .i64 (((p : Nat) : Int)) := sk.old 5 rfl
          exact Runs.move rfl h5 ⟨Ext.refl _, rfl⟩
        · refine stepE rfl fun sdn sa sw sE sd sk => ?_
          have h21 : sa.eval (.tmp 21) = .slice (some aR) (n) (d) := sk.fact 4 21 rfl (sd 4 rfl)
          have h22 : sa.eval (.tmp 22) = .int .i64 (((p : Nat) : Int)) := sk.fact 5 22 rfl (sd 5 rfl)
          exact Runs.idx rfl h21 h22 (run_idx_sl1 Try.underlying22 inf22_eq inf22_size (p) (by omega) (by omega)) ⟨Ext.refl _, rfl⟩
        · refine stepE rfl fun sdn sa sw sE sd sk => ?_
          have h23 : sa.eval (.tmp 23) = .pointer (some (aR.add (p))) := sk.fact 6 23 rfl (sd 6 rfl)
          exact Runs.load rfl h23 (run_load1 Try.underlying5 rfl (cell_at cR (hEr.trans sE) (by omega))) ⟨Ext.refl _, rfl⟩
        · refine stepE rfl fun sdn sa sw sE sd sk => ?_
          have h20 : sa.eval (.tmp 20) = .int .u8 (u8i (ub L (p))) := sk.fact 3 20 rfl (sd 3 rfl)
          have h24 : sa.eval (.tmp 24) = .int .u8 (u8i (ub M (p))) := sk.fact 7 24 rfl (sd 7 rfl)
          exact Runs.bin rfl h20 h24 (by rfl) (bin_neq _ _ _ _) ⟨Ext.refl _, rfl⟩
        intro vals W1 hE hv
        have e0 : vals 0 = .slice (some aP) (n) (c) := hv 0 (by omega) 17 rfl
        have e1 : vals 1 = .int .i64 (((p : Nat) : Int)) := hv 1 (by omega) 18 rfl
        have e2 : vals 2 = .pointer (some (aP.add (p))) := hv 2 (by omega) 19 rfl
        have e3 : vals 3 = .int .u8 (u8i (ub L (p))) := hv 3 (by omega) 20 rfl
        have e4 : vals 4 = .slice (some aR) (n) (d) := hv 4 (by omega) 21 rfl
        have e5 : vals 5 = .int .i64 (((p : Nat) : Int)) := hv 5 (by omega) 22 rfl
        have e6 : vals 6 = .pointer (some (aR.add (p))) := hv 6 (by omega) 23 rfl
        have e7 : vals 7 = .int .u8 (u8i (ub M (p))) := hv 7 (by omega) 24 rfl
        have e8 : vals 8 = .bool (decide (u8i ((ub L (p))) ≠ u8i ((ub M (p))))) := hv 8 (by omega) 25 rfl
        simp only [putAll, Act.put, List.take_succ_cons, List.take_zero, List.drop_succ_cons, List.drop_zero, List.drop_nil, List.take_nil, Nat.reduceAdd, List.setIfInBounds_toArray, List.set_cons_succ, List.set_cons_zero, e0, e1, e2, e3, e4, e5, e6, e7, e8]
        clear hv e0 e1 e2 e3 e4 e5 e6 e7 e8
        by_cases he : ub L p = ub M p
        · have a1 : u8i (ub L p) = u8i (ub M p) := by rw [he]
          have hz2 : Go.RowKit.Hid (∀ j, j < p + 1 → ub L j = ub M j) := Lib.hid (fun j hj => by
            by_cases hj2 : j = p
            · rw [hj2]; exact he
            · exact hz.out j (by omega))
          clear he
          go_wp2_with fail
          go_roundw
          case rel => exact ⟨p + 1, by omega, by go_num, hz2, hEr.trans hE⟩
          case measure => simp [intOf]; omega
        · have a1 : ¬ u8i (ub L p) = u8i (ub M p) := fun e => he (u8i_inj e)
          have hne : ¬ L = M := fun e => he (by rw [e])
          obtain rfl : q = false := Hq.out.trans (decide_eq_false hne)
          clear he hne
          go_wp2_with fail
          go_ret
          exact ⟨rfl, hEr.trans hE⟩
      · obtain rfl : p = n := by omega
        have he : L = M := list_ub' (H1.out.trans H2.out.symm) (fun j hj => hz.out j (by rw [H1.out] at hj; exact hj))
        obtain rfl : q = true := Hq.out.trans (decide_eq_true he)
        clear hz he
        go_wp2_with fail
        go_ret
        exact ⟨rfl, hEr⟩
  · have hne : ¬ L = M := fun e => hnm (by rw [← hl1, ← hl2, e])
    rw [decide_eq_false hne]
    clear hl1 hl2 hne
    have a1 : ¬ ((n : Int) = (m : Int)) := by omega
    go_enter Try.func51, Try.ntmps51
    go_wp2_with fail
    go_ret
    exact ⟨rfl, Ext.refl _⟩
set_option maxHeartbeats 2000000 in
theorem roomy_any (A : Option Addr) (n c : Nat) (L : List UInt8) (x : UInt8) (w : World) (hr : RB w A n c L) (hn : n ≤ 140737488355328) :
    Calls Try.prog 24 #[.slice A n c, .int .u8 (u8i x)] w fun e w' => ∃ g, e = .returned (.slice (some ⟨g, 0, none⟩) (n + 80) (n + 80)) ∧ OB w' w.heap.size (some ⟨g, 0, none⟩) (n + 80) (n + 80) (L ++ List.replicate 80 x) ∧ Ext w w' := by
  have hl := hr.len
  have Hl := Lib.hid hl
  clear hl
  go_enter Try.func24, Try.ntmps24
  go_wp2_with (first | (refine make_law (k := n + 80) rfl rfl (by go_num) (by go_num) (by omega) ?_; intro w1 own1 hE1) | (refine copy_law rfl rfl rfl rfl own1 (hr.ext hE1) (by omega) hE1 ?_; intro w2 v2 own2 hE2))
  have e0 : List.take (n + 80) L ++ List.drop (min n (n + 80)) (List.replicate (n + 80) 0) = L ++ fillL x 80 0 := by
    rw [List.take_of_length_le (by rw [Hl.out]; omega), Nat.min_eq_left (by omega), List.drop_replicate, Nat.add_sub_cancel_left]
    rfl
  rw [e0] at own2
  clear own1 hE1 e0
  obtain ⟨g, hg⟩ : ∃ g, g = w.heap.size := ⟨_, rfl⟩
  rw [← hg] at own2 ⊢
  have own3 := own2.base (Nat.le_of_eq hg.symm)
  have hg2 : w.heap.size ≤ g := by omega
  clear hg own2
  go_wp2_with fail
  go_loopw [6] (fun i wr => ∃ k : Nat, k ≤ 80 ∧ i = .int .i64 ((n + k : Nat) : Int) ∧ OB wr w.heap.size (some ⟨g, 0, none⟩) (n + 80) (n + 80) (L ++ fillL x 80 k) ∧ Ext w wr) (fun i _ => n + 80 - (intOf i).toNat)
  case atStart => exact ⟨0, by omega, rfl, own3, hE2⟩
  case round =>
    clear own3 hE2
    obtain ⟨k, hk, rfl, own, hEr⟩ := hrel
    by_cases hlt : k < 80
    · have y1 := own.cell (i := n + k) (by omega)
      have y2 := own.frozen (n + k)
      go_wp2_with fail
      go_roundw
      case rel =>
        have h2 := (own.set (n + k) x).1
        rw [List.set_append_right _ _ (by rw [Hl.out]; omega), Hl.out, Nat.add_sub_cancel_left, fillL_succ hlt] at h2
        exact ⟨k + 1, by omega, by go_num, h2, hEr.then_grown (own.set (n + k) x).2 (by intro j hj; cases hj; exact hg2)⟩
      case measure => simp [intOf]; omega
    · obtain rfl : k = 80 := by omega
      have ef : fillL x 80 80 = List.replicate 80 x := by simp [fillL]
      rw [ef] at own
      go_wp2_with fail
      go_ret
      exact ⟨g, rfl, own, hEr⟩
theorem ub_app {X Y : List UInt8} {k : Nat} (h : X.length ≤ k) : ub (X ++ Y) k = ub Y (k - X.length) := by
  simp [ub, List.getElem?_append_right h]
set_option maxHeartbeats 2000000 in
theorem intact_any (A B : Option Addr) (n c d : Nat) (L : List UInt8) (x : UInt8) (w : World) (hr : RB w A (n + 80) d (L ++ List.replicate 80 x)) (hs : RB w B n c L) :
    Calls Try.prog 26 #[.slice A (n + 80) d, .slice B n c, .int .u8 (u8i x)] w fun e w' => e = .returned (.bool true) ∧ Ext w w' := by
  have hl := hs.len
  have Hl := Lib.hid hl
  clear hl
  have hcap := hr.cap
  have hroom := hr.room
  unfold maxLen at hcap
  have rc := hr.take (k := n) (by omega)
  rw [List.take_left' Hl.out] at rc
  go_enter Try.func26, Try.ntmps26
  go_wp2_with fail
  refine (bsame_any A B n d n c L L w rc hs).mono ?_
  rintro e w1 ⟨rfl, hE1⟩
  rw [decide_eq_true rfl]
  go_wp2_with fail
  go_loopw [7] (fun i wr => ∃ k : Nat, k ≤ 80 ∧ i = .int .i64 ((n + k : Nat) : Int) ∧ Ext w wr) (fun i _ => n + 80 - (intOf i).toNat)
  case atStart => exact ⟨0, by omega, rfl, hE1⟩
  case round =>
    obtain ⟨k, hk, rfl, hEr⟩ := hrel
    by_cases hlt : k < 80
    · obtain ⟨ad, rfl, hc⟩ := hr.cells (by omega)
      have y1 := hEr.cell (hc (n + k) (by omega))
      rw [ub_app (by rw [Hl.out]; omega), Hl.out, Nat.add_sub_cancel_left] at y1
      have hx : ub (List.replicate 80 x) k = x := by
        show (List.replicate 80 x).getD k 0 = x
        rw [List.getD_eq_getElem?_getD, List.getElem?_replicate, if_pos hlt]
        rfl
      rw [hx] at y1
      clear hc hx
      go_wp2_with fail
      go_roundw
      case rel => exact ⟨k + 1, by omega, by go_num, hEr⟩
      case measure => simp [intOf]; omega
    · obtain rfl : k = 80 := by omega
      go_wp2_with fail
      go_ret
      exact ⟨rfl, hEr⟩
end Go.Proofs.Ytmgnigofilkfmaa
