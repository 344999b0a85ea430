/-
  extract's down, walked.
-/
import Derived.Test.YtkndgpjamijbbaaLawCom26Q31
namespace Go.Proofs.Ytkndgpjamijbbaa
set_option maxRecDepth 100000
open Go Go.RowKit
theorem concat2_any (A : Option Addr) (c : Nat) (X D : List UInt8) (w : World) (hr : RBB w A 2 c [X, D]) (N : Nat) (hN : X.length + D.length = N) (h0 : 0 < X.length + D.length) (h1 : X.length + D.length ≤ 1000000) :
    Calls Try.prog 84 #[.slice A 2 c] w fun e w' => ∃ A' c', e = .returned (.slice A' N c') ∧ OB w' w.heap.size A' N c' (X ++ D) ∧ Ext w w' := by
  have h := concatb_any A 2 c N [X, D] w hr (by omega) (by simp; omega) (by omega) (by omega)
  have e : [X, D].flatten = X ++ D := by simp
  rw [e] at h
  exact h
theorem concat3_any (A : Option Addr) (c : Nat) (X D E : List UInt8) (w : World) (hr : RBB w A 3 c [X, D, E]) (N : Nat) (hN : X.length + (D.length + E.length) = N) (h0 : 0 < X.length + (D.length + E.length)) (h1 : X.length + (D.length + E.length) ≤ 1000000) :
    Calls Try.prog 84 #[.slice A 3 c] w fun e w' => ∃ A' c', e = .returned (.slice A' N c') ∧ OB w' w.heap.size A' N c' (X ++ (D ++ E)) ∧ Ext w w' := by
  have h := concatb_any A 3 c N [X, D, E] w hr (by omega) (by simp; omega) (by omega) (by omega)
  have e : [X, D, E].flatten = X ++ (D ++ E) := by simp
  rw [e] at h
  exact h
def MP.ssb (L M : List UInt8) (b : Bool) : MP Ext := ⟨fun u w => ∃ A n c B m d, u = .tuple #[.slice A n c, .slice B m d, .bool b] ∧ RB w A n c L ∧ RB w B m d M, fun _ _ _ e ⟨A, n, c, B, m, d, h1, h2, h3⟩ => ⟨A, n, c, B, m, d, h1, h2.ext e, h3.ext e⟩⟩
theorem downL_one {a b : List (List UInt8)} (h : a.length = 1) : downL a b = (0 :: lb a 0, 0 :: lb b 0, decide (0 :: lb a 0 ≠ 0 :: lb b 0)) := by
  rw [downL, dif_pos (by omega)]
theorem downL_more {a b : List (List UInt8)} {k : Nat} (h : 2 ≤ a.length) (hk : splitN a.length = k) : downL a b =
    if (1 : UInt8) :: (rootL ((a.map leafH).take k) ++ rootL ((a.map leafH).drop k)) ≠ 1 :: (rootL ((b.map leafH).take k) ++ rootL ((b.map leafH).drop k)) then (1 :: (rootL ((a.map leafH).take k) ++ rootL ((a.map leafH).drop k)), 1 :: (rootL ((b.map leafH).take k) ++ rootL ((b.map leafH).drop k)), true)
    else if (downL (a.take k) (b.take k)).2.2 = true then downL (a.take k) (b.take k) else downL (a.drop k) (b.drop k) := by
  rw [downL, dif_neg (by omega)]
  simp only [hk, List.map_take, List.map_drop]
set_option maxHeartbeats 16000000 in
theorem down_any : ∀ (n : Nat) (A B X Y : Option Addr) (ca cb cx cy : Nat) (La Lb : List (List UInt8)) (w : World), 1 ≤ n → n ≤ 256 → RBB w A n ca La → RBB w B n cb Lb → RBB w X n cx (La.map leafH) → RBB w Y n cy (Lb.map leafH) → (∀ a ∈ La, a.length ≤ 1000) → (∀ a ∈ Lb, a.length ≤ 1000) →
    Calls Try.prog 52 #[.slice A n ca, .slice B n cb, .slice X n cx, .slice Y n cy] w fun e w' => ∃ P np cp Q nq cq, e = .returned (.tuple #[.slice P np cp, .slice Q nq cq, .bool (downL La Lb).2.2]) ∧ RB w' P np cp (downL La Lb).1 ∧ RB w' Q nq cq (downL La Lb).2.1 ∧ Ext w w' := by
  intro n
  induction n using Nat.strongRecOn with
  | ind n ih =>
    intro A B X Y ca cb cx cy La Lb w hn hn2 rA rB rX rY hla hlb
    have hl := rA.len
    have hlB := rB.len
    have roA := rA.room
    have roB := rB.room
    have roX := rX.room
    have roY := rY.room
    have cpA := rA.cap
    have cpB := rB.cap
    have cpX := rX.cap
    have cpY := rY.cap
    unfold maxLen at cpA cpB cpX cpY
    go_enter Try.func52, Try.ntmps52
    by_cases h1 : n = 1
    · subst h1
      obtain ⟨ad, rfl, hca⟩ := rA.cells (by omega)
      obtain ⟨bd, rfl, hcb⟩ := rB.cells (by omega)
      obtain ⟨E, z, y, hc, rE⟩ := hca 0 (by omega)
      obtain ⟨F, zf, yf, hd, rF⟩ := hcb 0 (by omega)
      have hz : (lb La 0).length ≤ 1000 := hla _ (by unfold lb; rw [List.getD_eq_getElem?_getD, List.getElem?_eq_getElem (by omega)]; exact List.getElem_mem _)
      have hz2 : (lb Lb 0).length ≤ 1000 := hlb _ (by unfold lb; rw [List.getD_eq_getElem?_getD, List.getElem?_eq_getElem (by omega)]; exact List.getElem_mem _)
      have hdn := downL_one (a := La) (b := Lb) (by omega)
      have Hdn := Lib.hid hdn
      clear hdn hca hcb
      go_upto_region 2 with (fail)
      refine par_ext (n := 12) (by kernel_rfl) [.rk (1) ([(0 : UInt8)]), .is (.slice ((some ad)) (1) (ca)), .is (.pointer (some (ad.add 0))), .is (.slice (E) (z) (y)), .rws (2) ([[(0 : UInt8)], lb La 0]), .rb ((0 : UInt8) :: ((lb La 0))), .rk (1) ([(0 : UInt8)]), .is (.slice ((some bd)) (1) (cb)), .is (.pointer (some (bd.add 0))), .is (.slice (F) (zf) (yf)), .rws (2) ([[(0 : UInt8)], lb Lb 0]), .rb ((0 : UInt8) :: ((lb Lb 0)))] rfl ⟨?_, ?_, ?_, ?_, ?_, ?_, ?_, ?_, ?_, ?_, ?_, ?_, trivial⟩ ?_
      · refine stepE rfl fun sdn sa sw sE sd sk => ?_
        have hl0 : (.int .u8 0 : Value) = .int .u8 (u8i (0 : UInt8)) := rfl
        exact Runs.lit1 (b0 := (0 : UInt8)) rfl hl0 (fun w1 e1 o1 => ⟨e1, _, _, rfl, o1.rb⟩)
      · refine stepE rfl fun sdn sa sw sE sd sk => ?_
        have h0 : sa.eval (.tmp 0) = .slice ((some ad)) (1) (ca) := sk.old 0 rfl
        exact Runs.move rfl h0 ⟨Ext.refl _, rfl⟩
      · refine stepE rfl fun sdn sa sw sE sd sk => ?_
        have h27 : sa.eval (.tmp 27) = .slice ((some ad)) (1) (ca) := sk.fact 1 27 rfl (sd 1 rfl)
        exact Runs.idx rfl h27 rfl (run_idx_sl1 Try.underlying23 infZZ_eq infZZ_size 0 (by first | rfl | omega) (by omega)) ⟨Ext.refl _, rfl⟩
      · refine stepE rfl fun sdn sa sw sE sd sk => ?_
        have h28 : sa.eval (.tmp 28) = .pointer (some (ad.add 0)) := sk.fact 2 28 rfl (sd 2 rfl)
        exact Runs.load rfl h28 (run_load1 Try.underlying22 rfl (sE.cell hc)) ⟨Ext.refl _, rfl⟩
      · refine stepE rfl fun sdn sa sw sE sd sk => ?_
        obtain ⟨A26, c26, h26, r26⟩ := sk.fact 0 26 rfl (sd 0 rfl)
        have h29 : sa.eval (.tmp 29) = .slice (E) (z) (y) := sk.fact 3 29 rfl (sd 3 rfl)
        exact Runs.ss2 rfl h26 h29 r26 (rE.ext sE) (fun w1 e1 b1 => ⟨e1, _, _, rfl, b1⟩)
      · refine stepE rfl fun sdn sa sw sE sd sk => ?_
        obtain ⟨A30, c30, h30, r30⟩ := sk.fact 4 30 rfl (sd 4 rfl)
        refine Runs.call (f := 84) (vs := [.slice (A30) (2) (c30)]) rfl rfl rfl (by simp only [List.map_toArray, List.map_cons, List.map_nil, h30] <;> rfl) (ent84 _ _) ((concat2_any _ _ _ _ sw r30 _ rfl (by first | omega | (simp only [List.length_cons, List.length_nil]; omega)) (by first | omega | (simp only [List.length_cons, List.length_nil]; omega))).mono ?_); rintro e w' ⟨A', c', rfl, own, hx⟩; exact ⟨_, rfl, hx, A', _, c', rfl, own.rb⟩
      · refine stepE rfl fun sdn sa sw sE sd sk => ?_
        have hl0 : (.int .u8 0 : Value) = .int .u8 (u8i (0 : UInt8)) := rfl
        exact Runs.lit1 (b0 := (0 : UInt8)) rfl hl0 (fun w1 e1 o1 => ⟨e1, _, _, rfl, o1.rb⟩)
      · refine stepE rfl fun sdn sa sw sE sd sk => ?_
        have h1 : sa.eval (.tmp 1) = .slice ((some bd)) (1) (cb) := sk.old 1 rfl
        exact Runs.move rfl h1 ⟨Ext.refl _, rfl⟩
      · refine stepE rfl fun sdn sa sw sE sd sk => ?_
        have h33 : sa.eval (.tmp 33) = .slice ((some bd)) (1) (cb) := sk.fact 7 33 rfl (sd 7 rfl)
        exact Runs.idx rfl h33 rfl (run_idx_sl1 Try.underlying23 infZZ_eq infZZ_size 0 (by first | rfl | omega) (by omega)) ⟨Ext.refl _, rfl⟩
      · refine stepE rfl fun sdn sa sw sE sd sk => ?_
        have h34 : sa.eval (.tmp 34) = .pointer (some (bd.add 0)) := sk.fact 8 34 rfl (sd 8 rfl)
        exact Runs.load rfl h34 (run_load1 Try.underlying22 rfl (sE.cell hd)) ⟨Ext.refl _, rfl⟩
      · refine stepE rfl fun sdn sa sw sE sd sk => ?_
        obtain ⟨A32, c32, h32, r32⟩ := sk.fact 6 32 rfl (sd 6 rfl)
        have h35 : sa.eval (.tmp 35) = .slice (F) (zf) (yf) := sk.fact 9 35 rfl (sd 9 rfl)
        exact Runs.ss2 rfl h32 h35 r32 (rF.ext sE) (fun w1 e1 b1 => ⟨e1, _, _, rfl, b1⟩)
      · refine stepE rfl fun sdn sa sw sE sd sk => ?_
        obtain ⟨A36, c36, h36, r36⟩ := sk.fact 10 36 rfl (sd 10 rfl)
        refine Runs.call (f := 84) (vs := [.slice (A36) (2) (c36)]) rfl rfl rfl (by simp only [List.map_toArray, List.map_cons, List.map_nil, h36] <;> rfl) (ent84 _ _) ((concat2_any _ _ _ _ sw r36 _ rfl (by first | omega | (simp only [List.length_cons, List.length_nil]; omega)) (by first | omega | (simp only [List.length_cons, List.length_nil]; omega))).mono ?_); rintro e w' ⟨A', c', rfl, own, hx⟩; exact ⟨_, rfl, hx, A', _, c', rfl, own.rb⟩
      intro vals W2 hE2 hv2
      obtain ⟨A26, c26, e0, r26⟩ := hv2 0 (by omega) 26 rfl
      have e1 : vals 1 = .slice ((some ad)) (1) (ca) := hv2 1 (by omega) 27 rfl
      have e2 : vals 2 = .pointer (some (ad.add 0)) := hv2 2 (by omega) 28 rfl
      have e3 : vals 3 = .slice (E) (z) (y) := hv2 3 (by omega) 29 rfl
      obtain ⟨A30, c30, e4, r30⟩ := hv2 4 (by omega) 30 rfl
      obtain ⟨A31, n31, c31, e5, r31⟩ := hv2 5 (by omega) 31 rfl
      obtain ⟨A32, c32, e6, r32⟩ := hv2 6 (by omega) 32 rfl
      have e7 : vals 7 = .slice ((some bd)) (1) (cb) := hv2 7 (by omega) 33 rfl
      have e8 : vals 8 = .pointer (some (bd.add 0)) := hv2 8 (by omega) 34 rfl
      have e9 : vals 9 = .slice (F) (zf) (yf) := hv2 9 (by omega) 35 rfl
      obtain ⟨A36, c36, e10, r36⟩ := hv2 10 (by omega) 36 rfl
      obtain ⟨A37, n37, c37, e11, r37⟩ := hv2 11 (by omega) 37 rfl
      simp only [putAll, Act.put, List.take_succ_cons, List.take_zero, List.drop_succ_cons, List.drop_zero, List.drop_nil, List.take_nil, Nat.reduceAdd, List.setIfInBounds_toArray, List.set_cons_succ, List.set_cons_zero, e0, e1, e2, e3, e4, e5, e6, e7, e8, e9, e10, e11]
      clear hv2 e0 e1 e2 e3 e4 e5 e6 e7 e8 e9 e10 e11
      go_wp2_with fail
      refine (hsame_any _ _ _ _ _ _ _ _ W2 r31 r37).mono ?_
      rintro e w3 ⟨rfl, rfl⟩
      go_wp2_with fail
      go_ret3
      rw [Hdn.out]
      have hb : (!decide (lb La 0 = lb Lb 0)) = decide (0 :: lb La 0 ≠ 0 :: lb Lb 0) := by simp
      exact ⟨A31, n31, c31, A37, n37, c37, congrArg (fun b => Ending.returned (.tuple #[.slice A31 n31 c31, .slice A37 n37 c37, .bool b])) hb, r31, r37, hE2⟩
    · have hne : ¬ ((n : Int) = 1) := by omega
      have hsp := splitN_in (n := n) (by omega)
      have hdn := downL_more (a := La) (b := Lb) (k := splitN n) (by omega) (by rw [hl])
      have Hdn := Lib.hid hdn
      have hs := tsplit_any n (by omega) w
      have Hs := Lib.hid hs
      clear hdn hs
      go_wp2_with fail
      refine Hs.out.mono ?_
      rintro e w1 ⟨rfl, rfl⟩
      generalize splitN n = k at *
      clear Hs
      have rA1 := rA.fst (k := k) (by omega)
      have rB1 := rB.fst (k := k) (by omega)
      have rX1 := rX.fst (k := k) (by omega)
      have rY1 := rY.fst (k := k) (by omega)
      have rA2 := rA.snd (k := k) (by omega)
      have rB2 := rB.snd (k := k) (by omega)
      have rX2 := rX.snd (k := k) (by omega)
      have rY2 := rY.snd (k := k) (by omega)
      have l32_rX1 : ∀ a ∈ (La.map leafH).take k, a.length = 32 := fun a ha => leaf_len La a (List.mem_of_mem_take ha)
      have l32_rY1 : ∀ a ∈ (Lb.map leafH).take k, a.length = 32 := fun a ha => leaf_len Lb a (List.mem_of_mem_take ha)
      have l32_rX2 : ∀ a ∈ (La.map leafH).drop k, a.length = 32 := fun a ha => leaf_len La a (List.mem_of_mem_drop ha)
      have l32_rY2 : ∀ a ∈ (Lb.map leafH).drop k, a.length = 32 := fun a ha => leaf_len Lb a (List.mem_of_mem_drop ha)
      have z1 := rootL_len l32_rX1
      have z2 := rootL_len l32_rX2
      have z3 := rootL_len l32_rY1
      have z4 := rootL_len l32_rY2
      generalize hLX : La.map leafH = LX at *
      generalize hLY : Lb.map leafH = LY at *
      go_upto_region 5 with (fail)
      refine par_ext (n := 16) (by kernel_rfl) [.is (.slice (X) (n) (cx)), .is (.int .i64 (((k : Nat) : Int))), .is (.slice (X) (k) (cx)), .rk (32) (rootL (LX.take k)), .is (.slice (Y) (n) (cy)), .is (.int .i64 (((k : Nat) : Int))), .is (.slice (Y) (k) (cy)), .rk (32) (rootL (LY.take k)), .is (.slice (X) (n) (cx)), .is (.int .i64 (((k : Nat) : Int))), .is (.slice (if cx = k then X else X.map (·.add (k * 1))) (n - k) (cx - k)), .rk (32) (rootL (LX.drop k)), .is (.slice (Y) (n) (cy)), .is (.int .i64 (((k : Nat) : Int))), .is (.slice (if cy = k then Y else Y.map (·.add (k * 1))) (n - k) (cy - k)), .rk (32) (rootL (LY.drop k))] rfl ⟨?_, ?_, ?_, ?_, ?_, ?_, ?_, ?_, ?_, ?_, ?_, ?_, ?_, ?_, ?_, ?_, trivial⟩ ?_
      · refine stepE rfl fun sdn sa sw sE sd sk => ?_
        have h2 : sa.eval (.tmp 2) = .slice (X) (n) (cx) := sk.old 2 rfl
        exact Runs.move rfl h2 ⟨Ext.refl _, rfl⟩
      · refine stepE rfl fun sdn sa sw sE sd sk => ?_
        have h13 : sa.eval (.tmp 13) = .int .i64 (((k : Nat) : Int)) := sk.old 13 rfl
        exact Runs.move rfl h13 ⟨Ext.refl _, rfl⟩
      · refine stepE rfl fun sdn sa sw sE sd sk => ?_
        have h47 : sa.eval (.tmp 47) = .slice (X) (n) (cx) := sk.fact 0 47 rfl (sd 0 rfl)
        have h48 : sa.eval (.tmp 48) = .int .i64 (((k : Nat) : Int)) := sk.fact 1 48 rfl (sd 1 rfl)
        exact Runs.slice rfl h47 (by simp only [Option.map_some, Option.map_none, h48]; exact run_cut_h Try.underlying23 infZZ_eq k (by first | rfl | omega) (by omega)) ⟨Ext.refl _, rfl⟩
      · refine stepE rfl fun sdn sa sw sE sd sk => ?_
        have h49 : sa.eval (.tmp 49) = .slice (X) (k) (cx) := sk.fact 2 49 rfl (sd 2 rfl)
        refine Runs.call (f := 51) (vs := [.slice (X) (k) (cx)]) rfl rfl rfl (by simp only [List.map_toArray, List.map_cons, List.map_nil, h49] <;> rfl) (ent51 _ _) ((troot_any _ _ _ _ sw (by omega) (rX1.ext sE) (l32_rX1)).mono ?_); rintro e w' ⟨A', c', rfl, own, hx⟩; exact ⟨_, rfl, hx, A', c', rfl, own.rb⟩
      · refine stepE rfl fun sdn sa sw sE sd sk => ?_
        have h3 : sa.eval (.tmp 3) = .slice (Y) (n) (cy) := sk.old 3 rfl
        exact Runs.move rfl h3 ⟨Ext.refl _, rfl⟩
      · refine stepE rfl fun sdn sa sw sE sd sk => ?_
        have h13 : sa.eval (.tmp 13) = .int .i64 (((k : Nat) : Int)) := sk.old 13 rfl
        exact Runs.move rfl h13 ⟨Ext.refl _, rfl⟩
      · refine stepE rfl fun sdn sa sw sE sd sk => ?_
        have h51 : sa.eval (.tmp 51) = .slice (Y) (n) (cy) := sk.fact 4 51 rfl (sd 4 rfl)
        have h52 : sa.eval (.tmp 52) = .int .i64 (((k : Nat) : Int)) := sk.fact 5 52 rfl (sd 5 rfl)
        exact Runs.slice rfl h51 (by simp only [Option.map_some, Option.map_none, h52]; exact run_cut_h Try.underlying23 infZZ_eq k (by first | rfl | omega) (by omega)) ⟨Ext.refl _, rfl⟩
      · refine stepE rfl fun sdn sa sw sE sd sk => ?_
        have h53 : sa.eval (.tmp 53) = .slice (Y) (k) (cy) := sk.fact 6 53 rfl (sd 6 rfl)
        refine Runs.call (f := 51) (vs := [.slice (Y) (k) (cy)]) rfl rfl rfl (by simp only [List.map_toArray, List.map_cons, List.map_nil, h53] <;> rfl) (ent51 _ _) ((troot_any _ _ _ _ sw (by omega) (rY1.ext sE) (l32_rY1)).mono ?_); rintro e w' ⟨A', c', rfl, own, hx⟩; exact ⟨_, rfl, hx, A', c', rfl, own.rb⟩
      · refine stepE rfl fun sdn sa sw sE sd sk => ?_
        have h2 : sa.eval (.tmp 2) = .slice (X) (n) (cx) := sk.old 2 rfl
        exact Runs.move rfl h2 ⟨Ext.refl _, rfl⟩
      · refine stepE rfl fun sdn sa sw sE sd sk => ?_
        have h13 : sa.eval (.tmp 13) = .int .i64 (((k : Nat) : Int)) := sk.old 13 rfl
        exact Runs.move rfl h13 ⟨Ext.refl _, rfl⟩
      · refine stepE rfl fun sdn sa sw sE sd sk => ?_
        have h55 : sa.eval (.tmp 55) = .slice (X) (n) (cx) := sk.fact 8 55 rfl (sd 8 rfl)
        have h56 : sa.eval (.tmp 56) = .int .i64 (((k : Nat) : Int)) := sk.fact 9 56 rfl (sd 9 rfl)
        exact Runs.slice rfl h55 (by simp only [Option.map_some, Option.map_none, h56]; exact run_cut_l Try.underlying23 infZZ_eq infZZ_size k (by first | rfl | omega) (by omega)) ⟨Ext.refl _, rfl⟩
      · refine stepE rfl fun sdn sa sw sE sd sk => ?_
        have h57 : sa.eval (.tmp 57) = .slice (if cx = k then X else X.map (·.add (k * 1))) (n - k) (cx - k) := sk.fact 10 57 rfl (sd 10 rfl)
        refine Runs.call (f := 51) (vs := [.slice (if cx = k then X else X.map (·.add (k * 1))) (n - k) (cx - k)]) rfl rfl rfl (by simp only [List.map_toArray, List.map_cons, List.map_nil, h57] <;> rfl) (ent51 _ _) ((troot_any _ _ _ _ sw (by omega) (rX2.ext sE) (l32_rX2)).mono ?_); rintro e w' ⟨A', c', rfl, own, hx⟩; exact ⟨_, rfl, hx, A', c', rfl, own.rb⟩
      · refine stepE rfl fun sdn sa sw sE sd sk => ?_
        have h3 : sa.eval (.tmp 3) = .slice (Y) (n) (cy) := sk.old 3 rfl
        exact Runs.move rfl h3 ⟨Ext.refl _, rfl⟩
      · refine stepE rfl fun sdn sa sw sE sd sk => ?_
        have h13 : sa.eval (.tmp 13) = .int .i64 (((k : Nat) : Int)) := sk.old 13 rfl
        exact Runs.move rfl h13 ⟨Ext.refl _, rfl⟩
      · refine stepE rfl fun sdn sa sw sE sd sk => ?_
        have h59 : sa.eval (.tmp 59) = .slice (Y) (n) (cy) := sk.fact 12 59 rfl (sd 12 rfl)
        have h60 : sa.eval (.tmp 60) = .int .i64 (((k : Nat) : Int)) := sk.fact 13 60 rfl (sd 13 rfl)
        exact Runs.slice rfl h59 (by simp only [Option.map_some, Option.map_none, h60]; exact run_cut_l Try.underlying23 infZZ_eq infZZ_size k (by first | rfl | omega) (by omega)) ⟨Ext.refl _, rfl⟩
      · refine stepE rfl fun sdn sa sw sE sd sk => ?_
        have h61 : sa.eval (.tmp 61) = .slice (if cy = k then Y else Y.map (·.add (k * 1))) (n - k) (cy - k) := sk.fact 14 61 rfl (sd 14 rfl)
        refine Runs.call (f := 51) (vs := [.slice (if cy = k then Y else Y.map (·.add (k * 1))) (n - k) (cy - k)]) rfl rfl rfl (by simp only [List.map_toArray, List.map_cons, List.map_nil, h61] <;> rfl) (ent51 _ _) ((troot_any _ _ _ _ sw (by omega) (rY2.ext sE) (l32_rY2)).mono ?_); rintro e w' ⟨A', c', rfl, own, hx⟩; exact ⟨_, rfl, hx, A', c', rfl, own.rb⟩
      intro vals W5 hE5 hv5
      have e0 : vals 0 = .slice (X) (n) (cx) := hv5 0 (by omega) 47 rfl
      have e1 : vals 1 = .int .i64 (((k : Nat) : Int)) := hv5 1 (by omega) 48 rfl
      have e2 : vals 2 = .slice (X) (k) (cx) := hv5 2 (by omega) 49 rfl
      obtain ⟨A50, c50, e3, r50⟩ := hv5 3 (by omega) 50 rfl
      have e4 : vals 4 = .slice (Y) (n) (cy) := hv5 4 (by omega) 51 rfl
      have e5 : vals 5 = .int .i64 (((k : Nat) : Int)) := hv5 5 (by omega) 52 rfl
      have e6 : vals 6 = .slice (Y) (k) (cy) := hv5 6 (by omega) 53 rfl
      obtain ⟨A54, c54, e7, r54⟩ := hv5 7 (by omega) 54 rfl
      have e8 : vals 8 = .slice (X) (n) (cx) := hv5 8 (by omega) 55 rfl
      have e9 : vals 9 = .int .i64 (((k : Nat) : Int)) := hv5 9 (by omega) 56 rfl
      have e10 : vals 10 = .slice (if cx = k then X else X.map (·.add (k * 1))) (n - k) (cx - k) := hv5 10 (by omega) 57 rfl
      obtain ⟨A58, c58, e11, r58⟩ := hv5 11 (by omega) 58 rfl
      have e12 : vals 12 = .slice (Y) (n) (cy) := hv5 12 (by omega) 59 rfl
      have e13 : vals 13 = .int .i64 (((k : Nat) : Int)) := hv5 13 (by omega) 60 rfl
      have e14 : vals 14 = .slice (if cy = k then Y else Y.map (·.add (k * 1))) (n - k) (cy - k) := hv5 14 (by omega) 61 rfl
      obtain ⟨A62, c62, e15, r62⟩ := hv5 15 (by omega) 62 rfl
      simp only [putAll, Act.put, List.take_succ_cons, List.take_zero, List.drop_succ_cons, List.drop_zero, List.drop_nil, List.take_nil, Nat.reduceAdd, List.setIfInBounds_toArray, List.set_cons_succ, List.set_cons_zero, e0, e1, e2, e3, e4, e5, e6, e7, e8, e9, e10, e11, e12, e13, e14, e15]
      clear hv5 e0 e1 e2 e3 e4 e5 e6 e7 e8 e9 e10 e11 e12 e13 e14 e15
      go_upto_region 6 with (fail)
      refine seq_ext (n := 10) (by kernel_rfl) [.rk (1) ([(1 : UInt8)]), .is (.slice (A50) (32) (c50)), .is (.slice (A58) (32) (c58)), .rws (3) ([[(1 : UInt8)], rootL (LX.take k), rootL (LX.drop k)]), .rb ((1 : UInt8) :: ((rootL (LX.take k)) ++ (rootL (LX.drop k)))), .rk (1) ([(1 : UInt8)]), .is (.slice (A54) (32) (c54)), .is (.slice (A62) (32) (c62)), .rws (3) ([[(1 : UInt8)], rootL (LY.take k), rootL (LY.drop k)]), .rb ((1 : UInt8) :: ((rootL (LY.take k)) ++ (rootL (LY.drop k))))] rfl ⟨?_, ?_, ?_, ?_, ?_, ?_, ?_, ?_, ?_, ?_, trivial⟩ ?_
      · refine stepE rfl fun sdn sa sw sE sd sk => ?_
        have hl0 : (.int .u8 1 : Value) = .int .u8 (u8i (1 : UInt8)) := rfl
        exact Runs.lit1 (b0 := (1 : UInt8)) rfl hl0 (fun w1 e1 o1 => ⟨e1, _, _, rfl, o1.rb⟩)
      · refine stepE rfl fun sdn sa sw sE sd sk => ?_
        have h14 : sa.eval (.tmp 14) = .slice (A50) (32) (c50) := sk.old 14 rfl
        exact Runs.move rfl h14 ⟨Ext.refl _, rfl⟩
      · refine stepE rfl fun sdn sa sw sE sd sk => ?_
        have h16 : sa.eval (.tmp 16) = .slice (A58) (32) (c58) := sk.old 16 rfl
        exact Runs.move rfl h16 ⟨Ext.refl _, rfl⟩
      · refine stepE rfl fun sdn sa sw sE sd sk => ?_
        obtain ⟨A63, c63, h63, r63⟩ := sk.fact 0 63 rfl (sd 0 rfl)
        have h64 : sa.eval (.tmp 64) = .slice (A50) (32) (c50) := sk.fact 1 64 rfl (sd 1 rfl)
        have h65 : sa.eval (.tmp 65) = .slice (A58) (32) (c58) := sk.fact 2 65 rfl (sd 2 rfl)
        exact Runs.ss3 rfl h63 h64 h65 r63 (r50.ext sE) (r58.ext sE) (fun w1 e1 b1 => ⟨e1, _, _, rfl, b1⟩)
      · refine stepE rfl fun sdn sa sw sE sd sk => ?_
        obtain ⟨A66, c66, h66, r66⟩ := sk.fact 3 66 rfl (sd 3 rfl)
        refine Runs.call (f := 84) (vs := [.slice (A66) (3) (c66)]) rfl rfl rfl (by simp only [List.map_toArray, List.map_cons, List.map_nil, h66] <;> rfl) (ent84 _ _) ((concat3_any _ _ _ _ _ sw r66 _ rfl (by first | omega | (simp only [List.length_cons, List.length_nil]; omega)) (by first | omega | (simp only [List.length_cons, List.length_nil]; omega))).mono ?_); rintro e w' ⟨A', c', rfl, own, hx⟩; exact ⟨_, rfl, hx, A', _, c', rfl, own.rb⟩
      · refine stepE rfl fun sdn sa sw sE sd sk => ?_
        have hl0 : (.int .u8 1 : Value) = .int .u8 (u8i (1 : UInt8)) := rfl
        exact Runs.lit1 (b0 := (1 : UInt8)) rfl hl0 (fun w1 e1 o1 => ⟨e1, _, _, rfl, o1.rb⟩)
      · refine stepE rfl fun sdn sa sw sE sd sk => ?_
        have h15 : sa.eval (.tmp 15) = .slice (A54) (32) (c54) := sk.old 15 rfl
        exact Runs.move rfl h15 ⟨Ext.refl _, rfl⟩
      · refine stepE rfl fun sdn sa sw sE sd sk => ?_
        have h17 : sa.eval (.tmp 17) = .slice (A62) (32) (c62) := sk.old 17 rfl
        exact Runs.move rfl h17 ⟨Ext.refl _, rfl⟩
      · refine stepE rfl fun sdn sa sw sE sd sk => ?_
        obtain ⟨A68, c68, h68, r68⟩ := sk.fact 5 68 rfl (sd 5 rfl)
        have h69 : sa.eval (.tmp 69) = .slice (A54) (32) (c54) := sk.fact 6 69 rfl (sd 6 rfl)
        have h70 : sa.eval (.tmp 70) = .slice (A62) (32) (c62) := sk.fact 7 70 rfl (sd 7 rfl)
        exact Runs.ss3 rfl h68 h69 h70 r68 (r54.ext sE) (r62.ext sE) (fun w1 e1 b1 => ⟨e1, _, _, rfl, b1⟩)
      · refine stepE rfl fun sdn sa sw sE sd sk => ?_
        obtain ⟨A71, c71, h71, r71⟩ := sk.fact 8 71 rfl (sd 8 rfl)
        refine Runs.call (f := 84) (vs := [.slice (A71) (3) (c71)]) rfl rfl rfl (by simp only [List.map_toArray, List.map_cons, List.map_nil, h71] <;> rfl) (ent84 _ _) ((concat3_any _ _ _ _ _ sw r71 _ rfl (by first | omega | (simp only [List.length_cons, List.length_nil]; omega)) (by first | omega | (simp only [List.length_cons, List.length_nil]; omega))).mono ?_); rintro e w' ⟨A', c', rfl, own, hx⟩; exact ⟨_, rfl, hx, A', _, c', rfl, own.rb⟩
      intro vals W6 hE6 hv6
      obtain ⟨A63, c63, e0, r63⟩ := hv6 0 (by omega) 63 rfl
      have e1 : vals 1 = .slice (A50) (32) (c50) := hv6 1 (by omega) 64 rfl
      have e2 : vals 2 = .slice (A58) (32) (c58) := hv6 2 (by omega) 65 rfl
      obtain ⟨A66, c66, e3, r66⟩ := hv6 3 (by omega) 66 rfl
      obtain ⟨A67, n67, c67, e4, r67⟩ := hv6 4 (by omega) 67 rfl
      obtain ⟨A68, c68, e5, r68⟩ := hv6 5 (by omega) 68 rfl
      have e6 : vals 6 = .slice (A54) (32) (c54) := hv6 6 (by omega) 69 rfl
      have e7 : vals 7 = .slice (A62) (32) (c62) := hv6 7 (by omega) 70 rfl
      obtain ⟨A71, c71, e8, r71⟩ := hv6 8 (by omega) 71 rfl
      obtain ⟨A72, n72, c72, e9, r72⟩ := hv6 9 (by omega) 72 rfl
      simp only [putAll, Act.put, List.take_succ_cons, List.take_zero, List.drop_succ_cons, List.drop_zero, List.drop_nil, List.take_nil, Nat.reduceAdd, List.setIfInBounds_toArray, List.set_cons_succ, List.set_cons_zero, e0, e1, e2, e3, e4, e5, e6, e7, e8, e9]
      clear hv6 e0 e1 e2 e3 e4 e5 e6 e7 e8 e9
      go_wp2_with fail
      refine (hsame_any _ _ _ _ _ _ _ _ W6 r67 r72).mono ?_
      rintro e w8 ⟨rfl, rfl⟩
      have hEw := hE5.trans hE6
      replace rA1 := rA1.ext hEw
      replace rB1 := rB1.ext hEw
      replace rX1 := rX1.ext hEw
      replace rY1 := rY1.ext hEw
      replace rA2 := rA2.ext hEw
      replace rB2 := rB2.ext hEw
      replace rX2 := rX2.ext hEw
      replace rY2 := rY2.ext hEw
      replace rA := rA.ext hEw
      replace rB := rB.ext hEw
      replace rX := rX.ext hEw
      replace rY := rY.ext hEw
      clear hE5 hE6 r50 r54 r58 r62
      by_cases hp : (1 : UInt8) :: (rootL (LX.take k) ++ rootL (LX.drop k)) = 1 :: (rootL (LY.take k) ++ rootL (LY.drop k))
      · rw [decide_eq_true hp]
        have Hdn2 := Lib.hid (Hdn.out.trans (if_neg (fun h => h hp)))
        clear hp Hdn
        have hl1a : ∀ a ∈ La.take k, a.length ≤ 1000 := fun a ha => hla a (List.mem_of_mem_take ha)
        have hl1b : ∀ a ∈ Lb.take k, a.length ≤ 1000 := fun a ha => hlb a (List.mem_of_mem_take ha)
        have hl2a : ∀ a ∈ La.drop k, a.length ≤ 1000 := fun a ha => hla a (List.mem_of_mem_drop ha)
        have hl2b : ∀ a ∈ Lb.drop k, a.length ≤ 1000 := fun a ha => hlb a (List.mem_of_mem_drop ha)
        rw [← hLX] at rX1 rX2
        rw [← hLY] at rY1 rY2
        rw [← List.map_take] at rX1 rY1
        rw [← List.map_drop] at rX2 rY2
        clear z1 z2 z3 z4 l32_rX1 l32_rX2 l32_rY1 l32_rY2 r67 r72
        go_upto_region 9 with (fail)
        refine par_ext (n := 20) (by kernel_rfl) [.is (.slice (A) (n) (ca)), .is (.int .i64 (((k : Nat) : Int))), .is (.slice (A) (k) (ca)), .is (.slice (B) (n) (cb)), .is (.int .i64 (((k : Nat) : Int))), .is (.slice (B) (k) (cb)), .is (.slice (X) (n) (cx)), .is (.int .i64 (((k : Nat) : Int))), .is (.slice (X) (k) (cx)), .is (.slice (Y) (n) (cy)), .is (.int .i64 (((k : Nat) : Int))), .is (.slice (Y) (k) (cy)), .ssb ((downL (La.take k) (Lb.take k)).1) ((downL (La.take k) (Lb.take k)).2.1) ((downL (La.take k) (Lb.take k)).2.2), .ssb ((downL (La.take k) (Lb.take k)).1) ((downL (La.take k) (Lb.take k)).2.1) ((downL (La.take k) (Lb.take k)).2.2), .rb ((downL (La.take k) (Lb.take k)).1), .rb ((downL (La.take k) (Lb.take k)).2.1), .is (.bool ((downL (La.take k) (Lb.take k)).2.2)), .rb ((downL (La.take k) (Lb.take k)).1), .rb ((downL (La.take k) (Lb.take k)).2.1), .is (.bool ((downL (La.take k) (Lb.take k)).2.2))] rfl ⟨?_, ?_, ?_, ?_, ?_, ?_, ?_, ?_, ?_, ?_, ?_, ?_, ?_, ?_, ?_, ?_, ?_, ?_, ?_, ?_, trivial⟩ ?_
        · refine stepE rfl fun sdn sa sw sE sd sk => ?_
          have h0 : sa.eval (.tmp 0) = .slice (A) (n) (ca) := sk.old 0 rfl
          exact Runs.move rfl h0 ⟨Ext.refl _, rfl⟩
        · refine stepE rfl fun sdn sa sw sE sd sk => ?_
          have h13 : sa.eval (.tmp 13) = .int .i64 (((k : Nat) : Int)) := sk.old 13 rfl
          exact Runs.move rfl h13 ⟨Ext.refl _, rfl⟩
        · refine stepE rfl fun sdn sa sw sE sd sk => ?_
          have h80 : sa.eval (.tmp 80) = .slice (A) (n) (ca) := sk.fact 0 80 rfl (sd 0 rfl)
          have h81 : sa.eval (.tmp 81) = .int .i64 (((k : Nat) : Int)) := sk.fact 1 81 rfl (sd 1 rfl)
          exact Runs.slice rfl h80 (by simp only [Option.map_some, Option.map_none, h81]; exact run_cut_h Try.underlying23 infZZ_eq k (by first | rfl | omega) (by omega)) ⟨Ext.refl _, rfl⟩
        · refine stepE rfl fun sdn sa sw sE sd sk => ?_
          have h1 : sa.eval (.tmp 1) = .slice (B) (n) (cb) := sk.old 1 rfl
          exact Runs.move rfl h1 ⟨Ext.refl _, rfl⟩
        · refine stepE rfl fun sdn sa sw sE sd sk => ?_
          have h13 : sa.eval (.tmp 13) = .int .i64 (((k : Nat) : Int)) := sk.old 13 rfl
          exact Runs.move rfl h13 ⟨Ext.refl _, rfl⟩
        · refine stepE rfl fun sdn sa sw sE sd sk => ?_
          have h83 : sa.eval (.tmp 83) = .slice (B) (n) (cb) := sk.fact 3 83 rfl (sd 3 rfl)
          have h84 : sa.eval (.tmp 84) = .int .i64 (((k : Nat) : Int)) := sk.fact 4 84 rfl (sd 4 rfl)
          exact Runs.slice rfl h83 (by simp only [Option.map_some, Option.map_none, h84]; exact run_cut_h Try.underlying23 infZZ_eq k (by first | rfl | omega) (by omega)) ⟨Ext.refl _, rfl⟩
        · refine stepE rfl fun sdn sa sw sE sd sk => ?_
          have h2 : sa.eval (.tmp 2) = .slice (X) (n) (cx) := sk.old 2 rfl
          exact Runs.move rfl h2 ⟨Ext.refl _, rfl⟩
        · refine stepE rfl fun sdn sa sw sE sd sk => ?_
          have h13 : sa.eval (.tmp 13) = .int .i64 (((k : Nat) : Int)) := sk.old 13 rfl
          exact Runs.move rfl h13 ⟨Ext.refl _, rfl⟩
        · refine stepE rfl fun sdn sa sw sE sd sk => ?_
          have h86 : sa.eval (.tmp 86) = .slice (X) (n) (cx) := sk.fact 6 86 rfl (sd 6 rfl)
          have h87 : sa.eval (.tmp 87) = .int .i64 (((k : Nat) : Int)) := sk.fact 7 87 rfl (sd 7 rfl)
          exact Runs.slice rfl h86 (by simp only [Option.map_some, Option.map_none, h87]; exact run_cut_h Try.underlying23 infZZ_eq k (by first | rfl | omega) (by omega)) ⟨Ext.refl _, rfl⟩
        · refine stepE rfl fun sdn sa sw sE sd sk => ?_
          have h3 : sa.eval (.tmp 3) = .slice (Y) (n) (cy) := sk.old 3 rfl
          exact Runs.move rfl h3 ⟨Ext.refl _, rfl⟩
        · refine stepE rfl fun sdn sa sw sE sd sk => ?_
          have h13 : sa.eval (.tmp 13) = .int .i64 (((k : Nat) : Int)) := sk.old 13 rfl
          exact Runs.move rfl h13 ⟨Ext.refl _, rfl⟩
        · refine stepE rfl fun sdn sa sw sE sd sk => ?_
          have h89 : sa.eval (.tmp 89) = .slice (Y) (n) (cy) := sk.fact 9 89 rfl (sd 9 rfl)
          have h90 : sa.eval (.tmp 90) = .int .i64 (((k : Nat) : Int)) := sk.fact 10 90 rfl (sd 10 rfl)
          exact Runs.slice rfl h89 (by simp only [Option.map_some, Option.map_none, h90]; exact run_cut_h Try.underlying23 infZZ_eq k (by first | rfl | omega) (by omega)) ⟨Ext.refl _, rfl⟩
        · refine stepE rfl fun sdn sa sw sE sd sk => ?_
          have h82 : sa.eval (.tmp 82) = .slice (A) (k) (ca) := sk.fact 2 82 rfl (sd 2 rfl)
          have h85 : sa.eval (.tmp 85) = .slice (B) (k) (cb) := sk.fact 5 85 rfl (sd 5 rfl)
          have h88 : sa.eval (.tmp 88) = .slice (X) (k) (cx) := sk.fact 8 88 rfl (sd 8 rfl)
          have h91 : sa.eval (.tmp 91) = .slice (Y) (k) (cy) := sk.fact 11 91 rfl (sd 11 rfl)
          refine Runs.call (f := 52) (vs := [.slice (A) (k) (ca), .slice (B) (k) (cb), .slice (X) (k) (cx), .slice (Y) (k) (cy)]) rfl rfl rfl (by simp only [List.map_toArray, List.map_cons, List.map_nil, h82, h85, h88, h91] <;> rfl) (ent52 _ _) ((ih (k) (by omega) _ _ _ _ _ _ _ _ _ _ sw (by omega) (by omega) (rA1.ext sE) (rB1.ext sE) (rX1.ext sE) (rY1.ext sE) hl1a hl1b).mono ?_); rintro e w' ⟨P', n', p', Q', m', q', rfl, rP, rQ, hx⟩; exact ⟨_, rfl, hx, _, _, _, _, _, _, rfl, rP, rQ⟩
        · refine stepE rfl fun sdn sa sw sE sd sk => ?_
          obtain ⟨A92, n92, c92, B92, m92, d92, h92, r92, s92⟩ := sk.fact 12 92 rfl (sd 12 rfl)
          exact Runs.move rfl h92 ⟨Ext.refl _, _, _, _, _, _, _, rfl, r92, s92⟩
        · refine stepE rfl fun sdn sa sw sE sd sk => ?_
          obtain ⟨A79, n79, c79, B79, m79, d79, h79, r79, s79⟩ := sk.fact 13 79 rfl (sd 13 rfl)
          refine Runs.of_run (r := .slice (A79) (n79) (c79)) (w' := sw) ?_ ⟨Ext.refl _, _, _, _, rfl, r79⟩
          unfold execOp
          simp only [h79]
          go_simp
        · refine stepE rfl fun sdn sa sw sE sd sk => ?_
          obtain ⟨A79, n79, c79, B79, m79, d79, h79, r79, s79⟩ := sk.fact 13 79 rfl (sd 13 rfl)
          refine Runs.of_run (r := .slice (B79) (m79) (d79)) (w' := sw) ?_ ⟨Ext.refl _, _, _, _, rfl, s79⟩
          unfold execOp
          simp only [h79]
          go_simp
        · refine stepE rfl fun sdn sa sw sE sd sk => ?_
          obtain ⟨A79, n79, c79, B79, m79, d79, h79, r79, s79⟩ := sk.fact 13 79 rfl (sd 13 rfl)
          refine Runs.of_run (r := .bool ((downL (La.take k) (Lb.take k)).2.2)) (w' := sw) ?_ ⟨Ext.refl _, rfl⟩
          unfold execOp
          simp only [h79]
          go_simp
        · refine stepE rfl fun sdn sa sw sE sd sk => ?_
          obtain ⟨A93, n93, c93, h93, r93⟩ := sk.fact 14 93 rfl (sd 14 rfl)
          exact Runs.assign rfl h93 ⟨Ext.refl _, _, _, _, rfl, r93⟩
        · refine stepE rfl fun sdn sa sw sE sd sk => ?_
          obtain ⟨A94, n94, c94, h94, r94⟩ := sk.fact 15 94 rfl (sd 15 rfl)
          exact Runs.assign rfl h94 ⟨Ext.refl _, _, _, _, rfl, r94⟩
        · refine stepE rfl fun sdn sa sw sE sd sk => ?_
          have h95 : sa.eval (.tmp 95) = .bool ((downL (La.take k) (Lb.take k)).2.2) := sk.fact 16 95 rfl (sd 16 rfl)
          exact Runs.assign rfl h95 ⟨Ext.refl _, rfl⟩
        intro vals W9 hE9 hv9
        have e0 : vals 0 = .slice (A) (n) (ca) := hv9 0 (by omega) 80 rfl
        have e1 : vals 1 = .int .i64 (((k : Nat) : Int)) := hv9 1 (by omega) 81 rfl
        have e2 : vals 2 = .slice (A) (k) (ca) := hv9 2 (by omega) 82 rfl
        have e3 : vals 3 = .slice (B) (n) (cb) := hv9 3 (by omega) 83 rfl
        have e4 : vals 4 = .int .i64 (((k : Nat) : Int)) := hv9 4 (by omega) 84 rfl
        have e5 : vals 5 = .slice (B) (k) (cb) := hv9 5 (by omega) 85 rfl
        have e6 : vals 6 = .slice (X) (n) (cx) := hv9 6 (by omega) 86 rfl
        have e7 : vals 7 = .int .i64 (((k : Nat) : Int)) := hv9 7 (by omega) 87 rfl
        have e8 : vals 8 = .slice (X) (k) (cx) := hv9 8 (by omega) 88 rfl
        have e9 : vals 9 = .slice (Y) (n) (cy) := hv9 9 (by omega) 89 rfl
        have e10 : vals 10 = .int .i64 (((k : Nat) : Int)) := hv9 10 (by omega) 90 rfl
        have e11 : vals 11 = .slice (Y) (k) (cy) := hv9 11 (by omega) 91 rfl
        obtain ⟨A92, n92, c92, B92, m92, d92, e12, r92, s92⟩ := hv9 12 (by omega) 92 rfl
        obtain ⟨A79, n79, c79, B79, m79, d79, e13, r79, s79⟩ := hv9 13 (by omega) 79 rfl
        obtain ⟨A93, n93, c93, e14, r93⟩ := hv9 14 (by omega) 93 rfl
        obtain ⟨A94, n94, c94, e15, r94⟩ := hv9 15 (by omega) 94 rfl
        have e16 : vals 16 = .bool ((downL (La.take k) (Lb.take k)).2.2) := hv9 16 (by omega) 95 rfl
        obtain ⟨A20, n20, c20, e17, r20⟩ := hv9 17 (by omega) 20 rfl
        obtain ⟨A21, n21, c21, e18, r21⟩ := hv9 18 (by omega) 21 rfl
        have e19 : vals 19 = .bool ((downL (La.take k) (Lb.take k)).2.2) := hv9 19 (by omega) 22 rfl
        simp only [putAll, Act.put, List.take_succ_cons, List.take_zero, List.drop_succ_cons, List.drop_zero, List.drop_nil, List.take_nil, Nat.reduceAdd, List.setIfInBounds_toArray, List.set_cons_succ, List.set_cons_zero, e0, e1, e2, e3, e4, e5, e6, e7, e8, e9, e10, e11, e12, e13, e14, e15, e16, e17, e18, e19]
        clear hv9 e0 e1 e2 e3 e4 e5 e6 e7 e8 e9 e10 e11 e12 e13 e14 e15 e16 e17 e18 e19
        cases hd : (downL (La.take k) (Lb.take k)).2.2 with
        | true =>
          have Hdn3 := Lib.hid (Hdn2.out.trans (if_pos hd))
          go_wp2_with fail
          go_ret3
          rw [Hdn3.out, hd]
          exact ⟨_, _, _, _, _, _, rfl, r20, r21, hEw.trans hE9⟩
        | false =>
          have Hdn3 := Lib.hid (Hdn2.out.trans (if_neg (by rw [hd]; decide)))
          go_upto_region 12 with (fail)
          replace rA2 := rA2.ext hE9
          replace rB2 := rB2.ext hE9
          replace rX2 := rX2.ext hE9
          replace rY2 := rY2.ext hE9
          obtain ⟨w9, rfl⟩ : ∃ w9, w9 = W9 := ⟨_, rfl⟩
          replace hEw := hEw.trans hE9
          refine par_ext (n := 16) (by kernel_rfl) [.is (.slice (A) (n) (ca)), .is (.int .i64 (((k : Nat) : Int))), .is (.slice (if ca = k then A else A.map (·.add (k * 1))) (n - k) (ca - k)), .is (.slice (B) (n) (cb)), .is (.int .i64 (((k : Nat) : Int))), .is (.slice (if cb = k then B else B.map (·.add (k * 1))) (n - k) (cb - k)), .is (.slice (X) (n) (cx)), .is (.int .i64 (((k : Nat) : Int))), .is (.slice (if cx = k then X else X.map (·.add (k * 1))) (n - k) (cx - k)), .is (.slice (Y) (n) (cy)), .is (.int .i64 (((k : Nat) : Int))), .is (.slice (if cy = k then Y else Y.map (·.add (k * 1))) (n - k) (cy - k)), .ssb ((downL (La.drop k) (Lb.drop k)).1) ((downL (La.drop k) (Lb.drop k)).2.1) ((downL (La.drop k) (Lb.drop k)).2.2), .rb ((downL (La.drop k) (Lb.drop k)).1), .rb ((downL (La.drop k) (Lb.drop k)).2.1), .is (.bool ((downL (La.drop k) (Lb.drop k)).2.2))] rfl ⟨?_, ?_, ?_, ?_, ?_, ?_, ?_, ?_, ?_, ?_, ?_, ?_, ?_, ?_, ?_, ?_, trivial⟩ ?_
          · refine stepE rfl fun sdn sa sw sE sd sk => ?_
            have h0 : sa.eval (.tmp 0) = .slice (A) (n) (ca) := sk.old 0 rfl
            exact Runs.move rfl h0 ⟨Ext.refl _, rfl⟩
          · refine stepE rfl fun sdn sa sw sE sd sk => ?_
            have h13 : sa.eval (.tmp 13) = .int .i64 (((k : Nat) : Int)) := sk.old 13 rfl
            exact Runs.move rfl h13 ⟨Ext.refl _, rfl⟩
          · refine stepE rfl fun sdn sa sw sE sd sk => ?_
            have h99 : sa.eval (.tmp 99) = .slice (A) (n) (ca) := sk.fact 0 99 rfl (sd 0 rfl)
            have h100 : sa.eval (.tmp 100) = .int .i64 (((k : Nat) : Int)) := sk.fact 1 100 rfl (sd 1 rfl)
            exact Runs.slice rfl h99 (by simp only [Option.map_some, Option.map_none, h100]; exact run_cut_l Try.underlying23 infZZ_eq infZZ_size k (by first | rfl | omega) (by omega)) ⟨Ext.refl _, rfl⟩
          · refine stepE rfl fun sdn sa sw sE sd sk => ?_
            have h1 : sa.eval (.tmp 1) = .slice (B) (n) (cb) := sk.old 1 rfl
            exact Runs.move rfl h1 ⟨Ext.refl _, rfl⟩
          · refine stepE rfl fun sdn sa sw sE sd sk => ?_
            have h13 : sa.eval (.tmp 13) = .int .i64 (((k : Nat) : Int)) := sk.old 13 rfl
            exact Runs.move rfl h13 ⟨Ext.refl _, rfl⟩
          · refine stepE rfl fun sdn sa sw sE sd sk => ?_
            have h102 : sa.eval (.tmp 102) = .slice (B) (n) (cb) := sk.fact 3 102 rfl (sd 3 rfl)
            have h103 : sa.eval (.tmp 103) = .int .i64 (((k : Nat) : Int)) := sk.fact 4 103 rfl (sd 4 rfl)
            exact Runs.slice rfl h102 (by simp only [Option.map_some, Option.map_none, h103]; exact run_cut_l Try.underlying23 infZZ_eq infZZ_size k (by first | rfl | omega) (by omega)) ⟨Ext.refl _, rfl⟩
          · refine stepE rfl fun sdn sa sw sE sd sk => ?_
            have h2 : sa.eval (.tmp 2) = .slice (X) (n) (cx) := sk.old 2 rfl
            exact Runs.move rfl h2 ⟨Ext.refl _, rfl⟩
          · refine stepE rfl fun sdn sa sw sE sd sk => ?_
            have h13 : sa.eval (.tmp 13) = .int .i64 (((k : Nat) : Int)) := sk.old 13 rfl
            exact Runs.move rfl h13 ⟨Ext.refl _, rfl⟩
          · refine stepE rfl fun sdn sa sw sE sd sk => ?_
            have h105 : sa.eval (.tmp 105) = .slice (X) (n) (cx) := sk.fact 6 105 rfl (sd 6 rfl)
            have h106 : sa.eval (.tmp 106) = .int .i64 (((k : Nat) : Int)) := sk.fact 7 106 rfl (sd 7 rfl)
            exact Runs.slice rfl h105 (by simp only [Option.map_some, Option.map_none, h106]; exact run_cut_l Try.underlying23 infZZ_eq infZZ_size k (by first | rfl | omega) (by omega)) ⟨Ext.refl _, rfl⟩
          · refine stepE rfl fun sdn sa sw sE sd sk => ?_
            have h3 : sa.eval (.tmp 3) = .slice (Y) (n) (cy) := sk.old 3 rfl
            exact Runs.move rfl h3 ⟨Ext.refl _, rfl⟩
          · refine stepE rfl fun sdn sa sw sE sd sk => ?_
            have h13 : sa.eval (.tmp 13) = .int .i64 (((k : Nat) : Int)) := sk.old 13 rfl
            exact Runs.move rfl h13 ⟨Ext.refl _, rfl⟩
          · refine stepE rfl fun sdn sa sw sE sd sk => ?_
            have h108 : sa.eval (.tmp 108) = .slice (Y) (n) (cy) := sk.fact 9 108 rfl (sd 9 rfl)
            have h109 : sa.eval (.tmp 109) = .int .i64 (((k : Nat) : Int)) := sk.fact 10 109 rfl (sd 10 rfl)
            exact Runs.slice rfl h108 (by simp only [Option.map_some, Option.map_none, h109]; exact run_cut_l Try.underlying23 infZZ_eq infZZ_size k (by first | rfl | omega) (by omega)) ⟨Ext.refl _, rfl⟩
          · refine stepE rfl fun sdn sa sw sE sd sk => ?_
            have h101 : sa.eval (.tmp 101) = .slice (if ca = k then A else A.map (·.add (k * 1))) (n - k) (ca - k) := sk.fact 2 101 rfl (sd 2 rfl)
            have h104 : sa.eval (.tmp 104) = .slice (if cb = k then B else B.map (·.add (k * 1))) (n - k) (cb - k) := sk.fact 5 104 rfl (sd 5 rfl)
            have h107 : sa.eval (.tmp 107) = .slice (if cx = k then X else X.map (·.add (k * 1))) (n - k) (cx - k) := sk.fact 8 107 rfl (sd 8 rfl)
            have h110 : sa.eval (.tmp 110) = .slice (if cy = k then Y else Y.map (·.add (k * 1))) (n - k) (cy - k) := sk.fact 11 110 rfl (sd 11 rfl)
            refine Runs.call (f := 52) (vs := [.slice (if ca = k then A else A.map (·.add (k * 1))) (n - k) (ca - k), .slice (if cb = k then B else B.map (·.add (k * 1))) (n - k) (cb - k), .slice (if cx = k then X else X.map (·.add (k * 1))) (n - k) (cx - k), .slice (if cy = k then Y else Y.map (·.add (k * 1))) (n - k) (cy - k)]) rfl rfl rfl (by simp only [List.map_toArray, List.map_cons, List.map_nil, h101, h104, h107, h110] <;> rfl) (ent52 _ _) ((ih (n - k) (by omega) _ _ _ _ _ _ _ _ _ _ sw (by omega) (by omega) (rA2.ext sE) (rB2.ext sE) (rX2.ext sE) (rY2.ext sE) hl2a hl2b).mono ?_); rintro e w' ⟨P', n', p', Q', m', q', rfl, rP, rQ, hx⟩; exact ⟨_, rfl, hx, _, _, _, _, _, _, rfl, rP, rQ⟩
          · refine stepE rfl fun sdn sa sw sE sd sk => ?_
            obtain ⟨A111, n111, c111, B111, m111, d111, h111, r111, s111⟩ := sk.fact 12 111 rfl (sd 12 rfl)
            refine Runs.of_run (r := .slice (A111) (n111) (c111)) (w' := sw) ?_ ⟨Ext.refl _, _, _, _, rfl, r111⟩
            unfold execOp
            simp only [h111]
            go_simp
          · refine stepE rfl fun sdn sa sw sE sd sk => ?_
            obtain ⟨A111, n111, c111, B111, m111, d111, h111, r111, s111⟩ := sk.fact 12 111 rfl (sd 12 rfl)
            refine Runs.of_run (r := .slice (B111) (m111) (d111)) (w' := sw) ?_ ⟨Ext.refl _, _, _, _, rfl, s111⟩
            unfold execOp
            simp only [h111]
            go_simp
          · refine stepE rfl fun sdn sa sw sE sd sk => ?_
            obtain ⟨A111, n111, c111, B111, m111, d111, h111, r111, s111⟩ := sk.fact 12 111 rfl (sd 12 rfl)
            refine Runs.of_run (r := .bool ((downL (La.drop k) (Lb.drop k)).2.2)) (w' := sw) ?_ ⟨Ext.refl _, rfl⟩
            unfold execOp
            simp only [h111]
            go_simp
          intro vals W12 hE12 hv12
          have e0 : vals 0 = .slice (A) (n) (ca) := hv12 0 (by omega) 99 rfl
          have e1 : vals 1 = .int .i64 (((k : Nat) : Int)) := hv12 1 (by omega) 100 rfl
          have e2 : vals 2 = .slice (if ca = k then A else A.map (·.add (k * 1))) (n - k) (ca - k) := hv12 2 (by omega) 101 rfl
          have e3 : vals 3 = .slice (B) (n) (cb) := hv12 3 (by omega) 102 rfl
          have e4 : vals 4 = .int .i64 (((k : Nat) : Int)) := hv12 4 (by omega) 103 rfl
          have e5 : vals 5 = .slice (if cb = k then B else B.map (·.add (k * 1))) (n - k) (cb - k) := hv12 5 (by omega) 104 rfl
          have e6 : vals 6 = .slice (X) (n) (cx) := hv12 6 (by omega) 105 rfl
          have e7 : vals 7 = .int .i64 (((k : Nat) : Int)) := hv12 7 (by omega) 106 rfl
          have e8 : vals 8 = .slice (if cx = k then X else X.map (·.add (k * 1))) (n - k) (cx - k) := hv12 8 (by omega) 107 rfl
          have e9 : vals 9 = .slice (Y) (n) (cy) := hv12 9 (by omega) 108 rfl
          have e10 : vals 10 = .int .i64 (((k : Nat) : Int)) := hv12 10 (by omega) 109 rfl
          have e11 : vals 11 = .slice (if cy = k then Y else Y.map (·.add (k * 1))) (n - k) (cy - k) := hv12 11 (by omega) 110 rfl
          obtain ⟨A111, n111, c111, B111, m111, d111, e12, r111, s111⟩ := hv12 12 (by omega) 111 rfl
          obtain ⟨A112, n112, c112, e13, r112⟩ := hv12 13 (by omega) 112 rfl
          obtain ⟨A113, n113, c113, e14, r113⟩ := hv12 14 (by omega) 113 rfl
          have e15 : vals 15 = .bool ((downL (La.drop k) (Lb.drop k)).2.2) := hv12 15 (by omega) 114 rfl
          simp only [putAll, Act.put, List.take_succ_cons, List.take_zero, List.drop_succ_cons, List.drop_zero, List.drop_nil, List.take_nil, Nat.reduceAdd, List.setIfInBounds_toArray, List.set_cons_succ, List.set_cons_zero, e0, e1, e2, e3, e4, e5, e6, e7, e8, e9, e10, e11, e12, e13, e14, e15]
          clear hv12 e0 e1 e2 e3 e4 e5 e6 e7 e8 e9 e10 e11 e12 e13 e14 e15
          go_wp2_with fail
          go_ret3
          rw [Hdn3.out]
          exact ⟨_, _, _, _, _, _, rfl, r112, r113, hEw.trans hE12⟩
      · rw [decide_eq_false hp]
        have Hdn2 := Lib.hid (Hdn.out.trans (if_pos hp))
        clear hp Hdn
        go_wp2_with fail
        go_ret3
        rw [Hdn2.out]
        exact ⟨_, _, _, _, _, _, rfl, r67, r72, hEw⟩
end Go.Proofs.Ytkndgpjamijbbaa
