/-
  ExtractTrees, walked.
-/
import Derived.Test.YtkndgpjamijbbaaLawTrees26Q29
import Derived.Test.YtkndgpjamijbbaaLawTrees26Q30
namespace Go.Proofs.Ytkndgpjamijbbaa
set_option maxRecDepth 100000
open Go Go.RowKit
theorem trees_bound {a b : List (List UInt8)} (ha : ∀ x ∈ a, x.length ≤ 1000) (hb : ∀ x ∈ b, x.length ≤ 1000) : (treesP a b).length ≤ 1001 ∧ (treesQ a b).length ≤ 1001 := by
  cases h : treesB a b with
  | false => rw [(trees_none h).1, (trees_none h).2]; exact ⟨Nat.zero_le _, Nat.zero_le _⟩
  | true =>
    unfold treesP treesQ
    rw [if_pos h, if_pos h]
    unfold treesB at h
    rw [Bool.and_eq_true, decide_eq_true_eq] at h
    exact downL_bound a.length a b rfl h.1.2.1 h.1.1.symm ha hb
def T26I (w4 : World) (i : Value) (wr : World) : Prop := ∃ k : Nat, k ≤ 3 ∧ i = .int .i64 k ∧ Ext w4 wr
def T26C (w4 : World) (g k : Nat) : Prop := ∃ C nc cc LC, w4.cell? ⟨g, k, none⟩ = some (.slice C nc cc) ∧ RBB w4 C nc cc LC ∧ nc ≤ 60 ∧ ∀ a ∈ LC, a.length ≤ 30
set_option maxHeartbeats 32000000 in
theorem trees26_any (A B : Option Addr) (n c m e' : Nat) (Ls Ms : List (List UInt8)) (z0 : Int) (w : World) (hr : RBB w A n c Ls) (hs : RBB w B m e' Ms) (hz : inR z0) :
    Calls Try.prog 5 #[.slice A n c, .slice B m e', .int .i64 z0] w fun e w' => e = .returned (.bool true) ∧ Ext w w' := by
  have hfa := few_any A n c 30 30 Ls w hr (by omega) (by omega)
  have e30 : ((30 : Nat) : Int) = 30 := rfl
  rw [e30] at hfa
  have Hfa := Lib.hid hfa
  have hla : (fewL 30 (Ls.take 30)).length = min n 30 := by rw [fewL_len, List.length_take, hr.len]; omega
  have hlb : (fewL 30 (Ms.take 30)).length = min m 30 := by rw [fewL_len, List.length_take, hs.len]; omega
  have Hla := Lib.hid (fewL_le 30 (Ls.take 30))
  have Hlb := Lib.hid (fewL_le 30 (Ms.take 30))
  have hqa : min n 30 ≤ 30 := by omega
  have hqb : min m 30 ≤ 30 := by omega
  go_enter Try.func5, Try.ntmps5
  clear hfa
  go_wp2_with fail
  refine Hfa.out.mono ?_
  rintro e w0 ⟨PA, da, rfl, oA, hE0⟩
  clear Hfa
  have hfb := few_any B m e' 30 30 Ms w0 (hs.ext hE0) (by omega) (by omega)
  rw [e30] at hfb
  have Hfb := Lib.hid hfb
  clear hfb e30
  go_wp2_with fail
  refine Hfb.out.mono ?_
  rintro e w1 ⟨PB, db, rfl, oB, hE1⟩
  generalize fewL 30 (Ls.take 30) = LA at *
  generalize fewL 30 (Ms.take 30) = LB at *
  generalize min n 30 = qa at *
  generalize min m 30 = qb at *
  have rA := oA.rbb.ext hE1
  have rB := oB.rbb
  have HqA := Lib.hid hla
  have HqB := Lib.hid hlb
  replace hE1 := hE0.trans hE1
  clear hr hs oA oB Hfb hE0 hla hlb
  have own0 := OBC.lit0 w1
  have hEl := Ext.new w1 (.cells #[] 22)
  have hzi := within_in z0 0 ((qa : Int) + (qb : Int)) (by omega)
  go_wp2_with (first | (refine apprb_law (w0 := w1) (base := w1.heap.size) rfl rfl rfl rfl own0 rA hEl (Nat.le_refl _) hEl.size (by omega) ?_; intro A7 c7 w2 own2 g2 b2; rw [Nat.zero_add, List.nil_append] at own2; have hE2 := hEl.then_grown g2 (by intro x hx; cases hx; exact Nat.le_refl _)) | (refine apprb_law (w0 := w1) (base := w1.heap.size) rfl rfl rfl rfl own2 rB hE2 (Nat.le_refl _) hE2.size (by omega) ?_; intro A8 c8 w3 own3 g3 b3; have hE3 := hE2.then_grown g3 (by intro x hx; exact (own2.lt hx).1)))
  refine (within_any z0 0 ((qa : Int) + (qb : Int)) w3 hz.1 hz.2 (by omega) (by omega) (by omega)).mono ?_
  rintro e x1 ⟨rfl, rfl⟩
  obtain ⟨x, hx⟩ : ∃ x : Nat, within z0 0 ((qa : Int) + (qb : Int)) = (x : Int) := ⟨(within z0 0 ((qa : Int) + (qb : Int))).toNat, (Int.toNat_of_nonneg hzi.1).symm⟩
  have hxq : x ≤ qa + qb := by omega
  rw [hx]
  have rC := own3.rbb
  have hroom := rC.room
  have hcap := rC.cap
  unfold maxLen at hcap
  have rC1 := rC.fst hxq
  replace rA := rA.ext hE3
  replace rB := rB.ext hE3
  replace hE1 := hE1.trans hE3
  clear hx hzi own0 own2 own3 g2 g3 b2 b3 hEl hE2 hE3 rC
  generalize some (⟨w1.heap.size, 0, none⟩ : Addr) = A9 at *
  go_wp2_with fail
  have hEx := Ext.new w3 (.cells #[.slice PB qb db, .slice PA qa da, .slice A8 x c8] 23)
  have hBx := Blk.new w3 23 #[.slice PB qb db, .slice PA qa da, .slice A8 x c8]
  replace rA := rA.ext hEx
  replace rB := rB.ext hEx
  replace rC1 := rC1.ext hEx
  replace hE1 := hE1.trans hEx
  have hcs : ∀ k, k < 3 → T26C (w3.alloc (.cells #[.slice PB qb db, .slice PA qa da, .slice A8 x c8] 23)) w3.heap.size k := by
    intro k hk
    have h : k = 0 ∨ k = 1 ∨ k = 2 := by omega
    rcases h with rfl | rfl | rfl
    · exact ⟨PB, qb, db, LB, hBx.cell (i := 0) rfl, rB, by omega, Hlb.out⟩
    · exact ⟨PA, qa, da, LA, hBx.cell (i := 1) rfl, rA, by omega, Hla.out⟩
    · refine ⟨A8, x, c8, _, hBx.cell (i := 2) rfl, rC1, by omega, fun a ha => ?_⟩
      have h1 := List.mem_of_mem_take ha
      rw [List.mem_append] at h1
      rcases h1 with h1 | h1
      · exact Hla.out a h1
      · exact Hlb.out a h1
  generalize w3.alloc (.cells #[.slice PB qb db, .slice PA qa da, .slice A8 x c8] 23) = w4 at *
  generalize w3.heap.size = g4 at *
  have Hcs := Lib.hid hcs
  clear hcs rB rC1 hBx hEx
  go_loopw [34] (fun i wr => T26I w4 i wr) (fun i _ => 3 - (intOf i).toNat)
  case atStart => exact ⟨0, by omega, rfl, Ext.refl _⟩
  case round =>
    obtain ⟨k, hk, rfl, hEr⟩ := hrel
    by_cases hlt : k < 3
    · have hki : (k : Int) < 3 := by omega
      obtain ⟨C, nc, cc, LC, hcell, rC0, hnc, hlC0⟩ := Hcs.out k hlt
      have hcellr := hEr.cell hcell
      have RA := Lib.hid rA
      clear rA hcell
      have rA := RA.out.ext hEr
      have rC := rC0.ext hEr
      have HlC := Lib.hid hlC0
      have RC := Lib.hid rC0
      clear rC0 hlC0
      have htr := trees_any PA C qa da nc cc LA LC wr rA rC (by omega) (by omega) (fun a ha => Nat.le_trans (Hla.out a ha) (by omega)) (fun a ha => Nat.le_trans (HlC.out a ha) (by omega))
      have Htr := Lib.hid htr
      clear htr
      go_wp2_with fail
      refine Htr.out.mono ?_
      rintro e w5 ⟨A9, n9, c9, B9, m9, d9, rfl, rP, rQ, hE5⟩
      replace hE5 := hEr.trans hE5
      clear Htr hcellr rA rC hEr
      have rA := RA.out.ext hE5
      have rC := RC.out.ext hE5
      clear RC
      have hlA : ∀ a ∈ LA, a.length ≤ 1000000 := fun a ha => Nat.le_trans (Hla.out a ha) (by omega)
      have hlC : ∀ a ∈ LC, a.length ≤ 1000000 := fun a ha => Nat.le_trans (HlC.out a ha) (by omega)
      have hcl0 := rC.len
      have htb := treesB_is (a := LA) (b := LC) (by rw [HqA.out]; omega)
      have hnP : n9 ≤ 1001 ∧ m9 ≤ 1001 := by
        have h := trees_bound (a := LA) (b := LC) (fun a ha => Nat.le_trans (Hla.out a ha) (by omega)) (fun a ha => Nat.le_trans (HlC.out a ha) (by omega))
        rw [rP.len, rQ.len] at h
        exact h
      by_cases c1 : 0 < qa
      · have b1 : decide ((0 : Int) < ((qa : Nat) : Int)) = true := decide_eq_true (by omega)
        by_cases c2 : qa = nc
        · have b2 : decide (((qa : Nat) : Int) = ((nc : Nat) : Int)) = true := decide_eq_true (by omega)
          have C2 := Lib.hid c2
          clear c2
          by_cases b3 : rootL (LA.map leafH) = rootL (LC.map leafH)
          · by_cases b4 : LA = LC
            · skip
              have hv : treesB LA LC = false := by rw [htb]; simp [b4]
              rw [hv]
              rw [(trees_none hv).1] at rP
              rw [(trees_none hv).2] at rQ
              obtain rfl : n9 = 0 := rP.len.symm
              obtain rfl : m9 = 0 := rQ.len.symm
              clear hv htb hnP
              go_upto_region 6 with (fail)
              refine par_ext (n := 27) (by kernel_rfl) [.is (.slice (PA) (qa) (da)), .is (.int .i64 ((qa : Nat))), .is (.bool (true)), .is (.bool (true)), .is (.slice (PA) (qa) (da)), .is (.int .i64 ((qa : Nat))), .is (.slice (C) (nc) (cc)), .is (.int .i64 ((nc : Nat))), .is (.bool (true)), .is (.bool (true)), .is (.bool (true)), .is (.slice (PA) (qa) (da)), .rws (qa) (LA.map leafH), .rk (32) (rootL (LA.map leafH)), .is (.string (str (rootL (LA.map leafH)))), .is (.slice (C) (nc) (cc)), .rws (nc) (LC.map leafH), .rk (32) (rootL (LC.map leafH)), .is (.string (str (rootL (LC.map leafH)))), .is (.bool (true)), .is (.bool (true)), .is (.bool (true)), .is (.slice (PA) (qa) (da)), .is (.slice (C) (nc) (cc)), .is (.bool (true)), .is (.bool (false)), .is (.bool (false))] rfl ⟨?_, ?_, ?_, ?_, ?_, ?_, ?_, ?_, ?_, ?_, ?_, ?_, ?_, ?_, ?_, ?_, ?_, ?_, ?_, ?_, ?_, ?_, ?_, ?_, ?_, ?_, ?_, trivial⟩ ?_
              · refine stepE rfl fun sdn sa sw sE sd sk => ?_
                have h0 : sa.eval (.tmp 0) = .slice (PA) (qa) (da) := sk.old 0 rfl
                exact Runs.move rfl h0 ⟨Ext.refl _, rfl⟩
              · refine stepE rfl fun sdn sa sw sE sd sk => ?_
                have h45 : sa.eval (.tmp 45) = .slice (PA) (qa) (da) := sk.fact 0 45 rfl (sd 0 rfl)
                exact Runs.len Try.underlying23 rfl h45 ⟨Ext.refl _, rfl⟩
              · refine stepE rfl fun sdn sa sw sE sd sk => ?_
                have h46 : sa.eval (.tmp 46) = .int .i64 ((qa : Nat)) := sk.fact 1 46 rfl (sd 1 rfl)
                exact Runs.bin rfl h46 rfl (by rfl) (bin_gtr _ _ _ _) ⟨Ext.refl _, congrArg Value.bool (b1)⟩
              · refine stepE rfl fun sdn sa sw sE sd sk => ?_
                have h47 : sa.eval (.tmp 47) = .bool (true) := sk.fact 2 47 rfl (sd 2 rfl)
                exact Runs.move rfl h47 ⟨Ext.refl _, rfl⟩
              · refine stepY (j := 3) (d := 48) (b := true) rfl rfl rfl (fun v w h => h) fun sdn sa sw sE sd sk => ?_
                have h0 : sa.eval (.tmp 0) = .slice (PA) (qa) (da) := sk.old 0 rfl
                exact Runs.move rfl h0 ⟨Ext.refl _, rfl⟩
              · refine stepY (j := 3) (d := 48) (b := true) rfl rfl rfl (fun v w h => h) fun sdn sa sw sE sd sk => ?_
                have h49 : sa.eval (.tmp 49) = .slice (PA) (qa) (da) := sk.fact 4 49 rfl (sd 4 rfl)
                exact Runs.len Try.underlying23 rfl h49 ⟨Ext.refl _, rfl⟩
              · refine stepY (j := 3) (d := 48) (b := true) rfl rfl rfl (fun v w h => h) fun sdn sa sw sE sd sk => ?_
                have h8 : sa.eval (.tmp 8) = .slice (C) (nc) (cc) := sk.old 8 rfl
                exact Runs.move rfl h8 ⟨Ext.refl _, rfl⟩
              · refine stepY (j := 3) (d := 48) (b := true) rfl rfl rfl (fun v w h => h) fun sdn sa sw sE sd sk => ?_
                have h51 : sa.eval (.tmp 51) = .slice (C) (nc) (cc) := sk.fact 6 51 rfl (sd 6 rfl)
                exact Runs.len Try.underlying23 rfl h51 ⟨Ext.refl _, rfl⟩
              · refine stepY (j := 3) (d := 48) (b := true) rfl rfl rfl (fun v w h => h) fun sdn sa sw sE sd sk => ?_
                have h50 : sa.eval (.tmp 50) = .int .i64 ((qa : Nat)) := sk.fact 5 50 rfl (sd 5 rfl)
                have h52 : sa.eval (.tmp 52) = .int .i64 ((nc : Nat)) := sk.fact 7 52 rfl (sd 7 rfl)
                exact Runs.bin rfl h50 h52 (by rfl) (bin_eql _ _ _ _) ⟨Ext.refl _, congrArg Value.bool (b2)⟩
              · refine stepE rfl fun sdn sa sw sE sd sk => ?_
                have h48 : sa.eval (.tmp 48) = .bool (true) := sk.fact 3 48 rfl (sd 3 rfl)
                have h53 : sa.eval (.tmp 53) = .bool (true) := sk.fact 8 53 rfl (sd 8 rfl)
                exact Runs.pick rfl h48 ⟨Ext.refl _, by first | exact h53 | simpa using h53⟩
              · refine stepE rfl fun sdn sa sw sE sd sk => ?_
                have h54 : sa.eval (.tmp 54) = .bool (true) := sk.fact 9 54 rfl (sd 9 rfl)
                exact Runs.move rfl h54 ⟨Ext.refl _, rfl⟩
              · refine stepY (j := 10) (d := 55) (b := true) rfl rfl rfl (fun v w h => h) fun sdn sa sw sE sd sk => ?_
                have h0 : sa.eval (.tmp 0) = .slice (PA) (qa) (da) := sk.old 0 rfl
                exact Runs.move rfl h0 ⟨Ext.refl _, rfl⟩
              · refine stepY (j := 10) (d := 55) (b := true) rfl rfl rfl (fun v w h => h) fun sdn sa sw sE sd sk => ?_
                have h56 : sa.eval (.tmp 56) = .slice (PA) (qa) (da) := sk.fact 11 56 rfl (sd 11 rfl)
                refine Runs.call (f := 20) (vs := [.slice (PA) (qa) (da)]) rfl rfl rfl (by simp only [List.map_toArray, List.map_cons, List.map_nil, h56] <;> rfl) (ent20 _ _) ((r6leaves_any _ _ _ _ sw (rA.ext sE) (by omega) hlA).mono ?_); rintro e w' ⟨P', d', rfl, own, hx⟩; exact ⟨_, rfl, hx, _, _, rfl, own.rbb⟩
              · refine stepY (j := 10) (d := 55) (b := true) rfl rfl rfl (fun v w h => h) fun sdn sa sw sE sd sk => ?_
                obtain ⟨A57, c57, h57, r57⟩ := sk.fact 12 57 rfl (sd 12 rfl)
                refine Runs.call (f := 19) (vs := [.slice (A57) (qa) (c57)]) rfl rfl rfl (by simp only [List.map_toArray, List.map_cons, List.map_nil, h57] <;> rfl) (ent19 _ _) ((r6root_any _ _ _ _ sw (by omega) r57 (leaf_len _)).mono ?_); rintro e w' ⟨A', c', rfl, own, hx⟩; exact ⟨_, rfl, hx, _, _, rfl, own⟩
              · refine stepY (j := 10) (d := 55) (b := true) rfl rfl rfl (fun v w h => h) fun sdn sa sw sE sd sk => ?_
                obtain ⟨A58, c58, h58, r58⟩ := sk.fact 13 58 rfl (sd 13 rfl)
                exact Runs.conv rfl h58 (run_str r58) ⟨Ext.refl _, rfl⟩
              · refine stepY (j := 10) (d := 55) (b := true) rfl rfl rfl (fun v w h => h) fun sdn sa sw sE sd sk => ?_
                have h8 : sa.eval (.tmp 8) = .slice (C) (nc) (cc) := sk.old 8 rfl
                exact Runs.move rfl h8 ⟨Ext.refl _, rfl⟩
              · refine stepY (j := 10) (d := 55) (b := true) rfl rfl rfl (fun v w h => h) fun sdn sa sw sE sd sk => ?_
                have h60 : sa.eval (.tmp 60) = .slice (C) (nc) (cc) := sk.fact 15 60 rfl (sd 15 rfl)
                refine Runs.call (f := 20) (vs := [.slice (C) (nc) (cc)]) rfl rfl rfl (by simp only [List.map_toArray, List.map_cons, List.map_nil, h60] <;> rfl) (ent20 _ _) ((r6leaves_any _ _ _ _ sw (rC.ext sE) (by omega) hlC).mono ?_); rintro e w' ⟨P', d', rfl, own, hx⟩; exact ⟨_, rfl, hx, _, _, rfl, own.rbb⟩
              · refine stepY (j := 10) (d := 55) (b := true) rfl rfl rfl (fun v w h => h) fun sdn sa sw sE sd sk => ?_
                obtain ⟨A61, c61, h61, r61⟩ := sk.fact 16 61 rfl (sd 16 rfl)
                refine Runs.call (f := 19) (vs := [.slice (A61) (nc) (c61)]) rfl rfl rfl (by simp only [List.map_toArray, List.map_cons, List.map_nil, h61] <;> rfl) (ent19 _ _) ((r6root_any _ _ _ _ sw (by omega) r61 (leaf_len _)).mono ?_); rintro e w' ⟨A', c', rfl, own, hx⟩; exact ⟨_, rfl, hx, _, _, rfl, own⟩
              · refine stepY (j := 10) (d := 55) (b := true) rfl rfl rfl (fun v w h => h) fun sdn sa sw sE sd sk => ?_
                obtain ⟨A62, c62, h62, r62⟩ := sk.fact 17 62 rfl (sd 17 rfl)
                exact Runs.conv rfl h62 (run_str r62) ⟨Ext.refl _, rfl⟩
              · refine stepY (j := 10) (d := 55) (b := true) rfl rfl rfl (fun v w h => h) fun sdn sa sw sE sd sk => ?_
                have h59 : sa.eval (.tmp 59) = .string (str (rootL (LA.map leafH))) := sk.fact 14 59 rfl (sd 14 rfl)
                have h63 : sa.eval (.tmp 63) = .string (str (rootL (LC.map leafH))) := sk.fact 18 63 rfl (sd 18 rfl)
                exact Runs.bin rfl h59 h63 (by rfl) (bin_eqs _ _ _) ⟨Ext.refl _, congrArg Value.bool (by simp [b3])⟩
              · refine stepE rfl fun sdn sa sw sE sd sk => ?_
                have h55 : sa.eval (.tmp 55) = .bool (true) := sk.fact 10 55 rfl (sd 10 rfl)
                have h64 : sa.eval (.tmp 64) = .bool (true) := sk.fact 19 64 rfl (sd 19 rfl)
                exact Runs.pick rfl h55 ⟨Ext.refl _, by first | exact h64 | simpa using h64⟩
              · refine stepE rfl fun sdn sa sw sE sd sk => ?_
                have h65 : sa.eval (.tmp 65) = .bool (true) := sk.fact 20 65 rfl (sd 20 rfl)
                exact Runs.move rfl h65 ⟨Ext.refl _, rfl⟩
              · refine stepY (j := 21) (d := 66) (b := true) rfl rfl rfl (fun v w h => h) fun sdn sa sw sE sd sk => ?_
                have h0 : sa.eval (.tmp 0) = .slice (PA) (qa) (da) := sk.old 0 rfl
                exact Runs.move rfl h0 ⟨Ext.refl _, rfl⟩
              · refine stepY (j := 21) (d := 66) (b := true) rfl rfl rfl (fun v w h => h) fun sdn sa sw sE sd sk => ?_
                have h8 : sa.eval (.tmp 8) = .slice (C) (nc) (cc) := sk.old 8 rfl
                exact Runs.move rfl h8 ⟨Ext.refl _, rfl⟩
              · refine stepY (j := 21) (d := 66) (b := true) rfl rfl rfl (fun v w h => h) fun sdn sa sw sE sd sk => ?_
                have h67 : sa.eval (.tmp 67) = .slice (PA) (qa) (da) := sk.fact 22 67 rfl (sd 22 rfl)
                have h68 : sa.eval (.tmp 68) = .slice (C) (nc) (cc) := sk.fact 23 68 rfl (sd 23 rfl)
                refine Runs.call (f := 21) (vs := [.slice (PA) (qa) (da), .slice (C) (nc) (cc)]) rfl rfl rfl (by simp only [List.map_toArray, List.map_cons, List.map_nil, h67, h68] <;> rfl) (ent21 _ _) ((lists_any _ _ _ _ _ _ _ _ sw (rA.ext sE) (rC.ext sE)).mono ?_); rintro e w' ⟨rfl, hx⟩; exact ⟨_, rfl, hx, congrArg Value.bool (decide_eq_true b4)⟩
              · refine stepY (j := 21) (d := 66) (b := true) rfl rfl rfl (fun v w h => h) fun sdn sa sw sE sd sk => ?_
                have h69 : sa.eval (.tmp 69) = .bool (true) := sk.fact 24 69 rfl (sd 24 rfl)
                exact Runs.un rfl h69 (by rfl) ⟨Ext.refl _, rfl⟩
              · refine stepE rfl fun sdn sa sw sE sd sk => ?_
                have h66 : sa.eval (.tmp 66) = .bool (true) := sk.fact 21 66 rfl (sd 21 rfl)
                have h70 : sa.eval (.tmp 70) = .bool (false) := sk.fact 25 70 rfl (sd 25 rfl)
                exact Runs.pick rfl h66 ⟨Ext.refl _, by first | exact h70 | simpa using h70⟩
              intro vals W6 hE6 hv6
              have e0 : vals 0 = .slice (PA) (qa) (da) := hv6 0 (by omega) 45 rfl
              have e1 : vals 1 = .int .i64 ((qa : Nat)) := hv6 1 (by omega) 46 rfl
              have e2 : vals 2 = .bool (true) := hv6 2 (by omega) 47 rfl
              have e3 : vals 3 = .bool (true) := hv6 3 (by omega) 48 rfl
              have e4 : vals 4 = .slice (PA) (qa) (da) := hv6 4 (by omega) 49 rfl
              have e5 : vals 5 = .int .i64 ((qa : Nat)) := hv6 5 (by omega) 50 rfl
              have e6 : vals 6 = .slice (C) (nc) (cc) := hv6 6 (by omega) 51 rfl
              have e7 : vals 7 = .int .i64 ((nc : Nat)) := hv6 7 (by omega) 52 rfl
              have e8 : vals 8 = .bool (true) := hv6 8 (by omega) 53 rfl
              have e9 : vals 9 = .bool (true) := hv6 9 (by omega) 54 rfl
              have e10 : vals 10 = .bool (true) := hv6 10 (by omega) 55 rfl
              have e11 : vals 11 = .slice (PA) (qa) (da) := hv6 11 (by omega) 56 rfl
              obtain ⟨A57, c57, e12, r57⟩ := hv6 12 (by omega) 57 rfl
              obtain ⟨A58, c58, e13, r58⟩ := hv6 13 (by omega) 58 rfl
              have e14 : vals 14 = .string (str (rootL (LA.map leafH))) := hv6 14 (by omega) 59 rfl
              have e15 : vals 15 = .slice (C) (nc) (cc) := hv6 15 (by omega) 60 rfl
              obtain ⟨A61, c61, e16, r61⟩ := hv6 16 (by omega) 61 rfl
              obtain ⟨A62, c62, e17, r62⟩ := hv6 17 (by omega) 62 rfl
              have e18 : vals 18 = .string (str (rootL (LC.map leafH))) := hv6 18 (by omega) 63 rfl
              have e19 : vals 19 = .bool (true) := hv6 19 (by omega) 64 rfl
              have e20 : vals 20 = .bool (true) := hv6 20 (by omega) 65 rfl
              have e21 : vals 21 = .bool (true) := hv6 21 (by omega) 66 rfl
              have e22 : vals 22 = .slice (PA) (qa) (da) := hv6 22 (by omega) 67 rfl
              have e23 : vals 23 = .slice (C) (nc) (cc) := hv6 23 (by omega) 68 rfl
              have e24 : vals 24 = .bool (true) := hv6 24 (by omega) 69 rfl
              have e25 : vals 25 = .bool (false) := hv6 25 (by omega) 70 rfl
              have e26 : vals 26 = .bool (false) := hv6 26 (by omega) 71 rfl
              simp only [putAll, Act.put, List.take_succ_cons, List.take_zero, List.drop_succ_cons, List.drop_zero, List.drop_nil, List.take_nil, Nat.reduceAdd, List.setIfInBounds_toArray, List.set_cons_succ, List.set_cons_zero, e0, e1, e2, e3, e4, e5, e6, e7, e8, e9, e10, e11, e12, e13, e14, e15, e16, e17, e18, e19, e20, e21, e22, e23, e24, e25, e26]
              clear hv6 e0 e1 e2 e3 e4 e5 e6 e7 e8 e9 e10 e11 e12 e13 e14 e15 e16 e17 e18 e19 e20 e21 e22 e23 e24 e25 e26
              replace rP := rP.ext hE6
              replace rQ := rQ.ext hE6
              go_upto_region 7 with (fail)
              refine par_ext (n := 34) (by kernel_rfl) [.is (.bool (false)), .is (.bool (false)), .is (.bool (false)), .is (.bool (false)), .is (.bool (false)), .is (.bool (false)), .is undef, .is undef, .is undef, .is undef, .is undef, .is undef, .is undef, .is undef, .is undef, .is undef, .is undef, .is undef, .is undef, .is undef, .is (.bool (false)), .is (.bool (false)), .is (.bool (false)), .is (.bool (false)), .is (.bool (true)), .is (.bool (true)), .is (.slice (A9) (0) (c9)), .is (.int .i64 ((0 : Nat))), .is (.slice (B9) (0) (d9)), .is (.int .i64 ((0 : Nat))), .is (.int .i64 ((0 : Nat) + (0 : Nat))), .is (.bool (decide ((0 : Nat) + (0 : Nat) ≠ (0 : Int)))), .is (.bool (decide ((0 : Nat) + (0 : Nat) ≠ (0 : Int)))), .is (.bool (decide ((0 : Nat) + (0 : Nat) ≠ (0 : Int)))), .is (.bool (false)), .is (.bool (false)), .is (.bool (false)), .is (.bool (false)), .is (.bool (false)), .is (.bool (false)), .is undef, .is undef, .is undef, .is undef, .is undef, .is undef, .is undef, .is undef, .is undef, .is undef, .is undef, .is undef, .is undef, .is undef, .is (.bool (false)), .is (.bool (false)), .is (.bool (false)), .is (.bool (false)), .is (.bool (true)), .is (.bool (true)), .is (.slice (A9) (0) (c9)), .is (.int .i64 ((0 : Nat))), .is (.slice (B9) (0) (d9)), .is (.int .i64 ((0 : Nat))), .is (.int .i64 ((0 : Nat) + (0 : Nat))), .is (.bool (decide ((0 : Nat) + (0 : Nat) ≠ (0 : Int)))), .is (.bool (decide ((0 : Nat) + (0 : Nat) ≠ (0 : Int)))), .is (.bool (decide ((0 : Nat) + (0 : Nat) ≠ (0 : Int)))), .is (.bool (false)), .is (.bool (false)), .is (.bool (false)), .is (.bool (false)), .is (.bool (false)), .is (.bool (false)), .is undef, .is undef, .is undef, .is undef, .is undef, .is undef, .is undef, .is undef, .is undef, .is undef, .is undef, .is undef, .is undef, .is undef, .is (.bool (false)), .is (.bool (false)), .is (.bool (false)), .is (.bool (false)), .is (.bool (true)), .is (.bool (true)), .is (.slice (A9) (0) (c9)), .is (.int .i64 ((0 : Nat))), .is (.slice (B9) (0) (d9)), .is (.int .i64 ((0 : Nat))), .is (.int .i64 ((0 : Nat) + (0 : Nat))), .is (.bool (decide ((0 : Nat) + (0 : Nat) ≠ (0 : Int)))), .is (.bool (decide ((0 : Nat) + (0 : Nat) ≠ (0 : Int)))), .is (.bool (decide ((0 : Nat) + (0 : Nat) ≠ (0 : Int)))), .is (.bool (false)), .is (.bool (false)), .is (.bool (false)), .is (.bool (false)), .is (.bool (false)), .is (.bool (false)), .is undef, .is undef, .is undef, .is undef, .is undef, .is undef, .is undef, .is undef, .is undef, .is undef, .is undef, .is undef, .is undef, .is undef, .is (.bool (false)), .is (.bool (false)), .is (.bool (false)), .is (.bool (false)), .is (.bool (true)), .is (.bool (true)), .is (.slice (A9) (0) (c9)), .is (.int .i64 ((0 : Nat))), .is (.slice (B9) (0) (d9)), .is (.int .i64 ((0 : Nat))), .is (.int .i64 ((0 : Nat) + (0 : Nat))), .is (.bool (decide ((0 : Nat) + (0 : Nat) ≠ (0 : Int)))), .is (.bool (decide ((0 : Nat) + (0 : Nat) ≠ (0 : Int)))), .is (.bool (decide ((0 : Nat) + (0 : Nat) ≠ (0 : Int))))] rfl ⟨?_, ?_, ?_, ?_, ?_, ?_, ?_, ?_, ?_, ?_, ?_, ?_, ?_, ?_, ?_, ?_, ?_, ?_, ?_, ?_, ?_, ?_, ?_, ?_, ?_, ?_, ?_, ?_, ?_, ?_, ?_, ?_, ?_, ?_, trivial⟩ ?_
              · refine stepE rfl fun sdn sa sw sE sd sk => ?_
                have h11 : sa.eval (.tmp 11) = .bool (false) := sk.old 11 rfl
                exact Runs.move rfl h11 ⟨Ext.refl _, rfl⟩
              · refine stepE rfl fun sdn sa sw sE sd sk => ?_
                have h12 : sa.eval (.tmp 12) = .bool (false) := sk.old 12 rfl
                exact Runs.move rfl h12 ⟨Ext.refl _, rfl⟩
              · refine stepE rfl fun sdn sa sw sE sd sk => ?_
                have h72 : sa.eval (.tmp 72) = .bool (false) := sk.fact 0 72 rfl (sd 0 rfl)
                have h73 : sa.eval (.tmp 73) = .bool (false) := sk.fact 1 73 rfl (sd 1 rfl)
                exact Runs.bin rfl h72 h73 (by rfl) (bin_neb _ _) ⟨Ext.refl _, congrArg Value.bool (by decide)⟩
              · refine stepE rfl fun sdn sa sw sE sd sk => ?_
                have h74 : sa.eval (.tmp 74) = .bool (false) := sk.fact 2 74 rfl (sd 2 rfl)
                exact Runs.move rfl h74 ⟨Ext.refl _, rfl⟩
              · refine stepY (j := 3) (d := 75) (b := false) rfl rfl rfl (fun v w h => h) fun sdn sa sw sE sd sk => ?_
                have h11 : sa.eval (.tmp 11) = .bool (false) := sk.old 11 rfl
                exact Runs.move rfl h11 ⟨Ext.refl _, rfl⟩
              · refine stepY (j := 3) (d := 75) (b := false) rfl rfl rfl (fun v w h => h) fun sdn sa sw sE sd sk => ?_
                have h76 : sa.eval (.tmp 76) = .bool (false) := sk.fact 4 76 rfl (sd 4 rfl)
                exact Runs.move rfl h76 ⟨Ext.refl _, rfl⟩
              · exact stepN (j := 5) (d := 77) (b := false) rfl rfl rfl (fun v w h => h) fun w => rfl
              · exact stepN (j := 5) (d := 77) (b := false) rfl rfl rfl (fun v w h => h) fun w => rfl
              · exact stepN (j := 5) (d := 77) (b := false) rfl rfl rfl (fun v w h => h) fun w => rfl
              · exact stepN (j := 5) (d := 77) (b := false) rfl rfl rfl (fun v w h => h) fun w => rfl
              · exact stepN (j := 5) (d := 77) (b := false) rfl rfl rfl (fun v w h => h) fun w => rfl
              · exact stepN (j := 5) (d := 77) (b := false) rfl rfl rfl (fun v w h => h) fun w => rfl
              · exact stepU (j := 11) (d := 83) (b := false) rfl rfl rfl (fun v w h => h) fun w => rfl
              · exact stepU (j := 11) (d := 83) (b := false) rfl rfl rfl (fun v w h => h) fun w => rfl
              · exact stepU (j := 11) (d := 83) (b := false) rfl rfl rfl (fun v w h => h) fun w => rfl
              · exact stepU (j := 11) (d := 83) (b := false) rfl rfl rfl (fun v w h => h) fun w => rfl
              · exact stepU (j := 11) (d := 83) (b := false) rfl rfl rfl (fun v w h => h) fun w => rfl
              · exact stepU (j := 11) (d := 83) (b := false) rfl rfl rfl (fun v w h => h) fun w => rfl
              · exact stepU (j := 11) (d := 83) (b := false) rfl rfl rfl (fun v w h => h) fun w => rfl
              · exact stepN (j := 5) (d := 77) (b := false) rfl rfl rfl (fun v w h => h) fun w => rfl
              · refine stepY (j := 3) (d := 75) (b := false) rfl rfl rfl (fun v w h => h) fun sdn sa sw sE sd sk => ?_
                have h77 : sa.eval (.tmp 77) = .bool (false) := sk.fact 5 77 rfl (sd 5 rfl)
                exact Runs.pick rfl h77 ⟨Ext.refl _, rfl⟩
              · refine stepE rfl fun sdn sa sw sE sd sk => ?_
                have h75 : sa.eval (.tmp 75) = .bool (false) := sk.fact 3 75 rfl (sd 3 rfl)
                have h92 : sa.eval (.tmp 92) = .bool (false) := sk.fact 20 92 rfl (sd 20 rfl)
                exact Runs.pick rfl h75 ⟨Ext.refl _, by first | exact h92 | simpa using h92⟩
              · refine stepE rfl fun sdn sa sw sE sd sk => ?_
                have h93 : sa.eval (.tmp 93) = .bool (false) := sk.fact 21 93 rfl (sd 21 rfl)
                exact Runs.move rfl h93 ⟨Ext.refl _, rfl⟩
              · refine stepY (j := 22) (d := 94) (b := false) rfl rfl rfl (fun v w h => h) fun sdn sa sw sE sd sk => ?_
                have h11 : sa.eval (.tmp 11) = .bool (false) := sk.old 11 rfl
                exact Runs.move rfl h11 ⟨Ext.refl _, rfl⟩
              · refine stepY (j := 22) (d := 94) (b := false) rfl rfl rfl (fun v w h => h) fun sdn sa sw sE sd sk => ?_
                have h95 : sa.eval (.tmp 95) = .bool (false) := sk.fact 23 95 rfl (sd 23 rfl)
                exact Runs.un rfl h95 (by rfl) ⟨Ext.refl _, rfl⟩
              · refine stepY (j := 22) (d := 94) (b := false) rfl rfl rfl (fun v w h => h) fun sdn sa sw sE sd sk => ?_
                have h96 : sa.eval (.tmp 96) = .bool (true) := sk.fact 24 96 rfl (sd 24 rfl)
                exact Runs.move rfl h96 ⟨Ext.refl _, rfl⟩
              · refine stepY (j := 25) (d := 97) (b := true) rfl rfl rfl (fun v w h => h) fun sdn sa sw sE sd sk => ?_
                have h9 : sa.eval (.tmp 9) = .slice (A9) (0) (c9) := sk.old 9 rfl
                exact Runs.move rfl h9 ⟨Ext.refl _, rfl⟩
              · refine stepY (j := 25) (d := 97) (b := true) rfl rfl rfl (fun v w h => h) fun sdn sa sw sE sd sk => ?_
                have h98 : sa.eval (.tmp 98) = .slice (A9) (0) (c9) := sk.fact 26 98 rfl (sd 26 rfl)
                exact Runs.len Try.underlying22 rfl h98 ⟨Ext.refl _, rfl⟩
              · refine stepY (j := 25) (d := 97) (b := true) rfl rfl rfl (fun v w h => h) fun sdn sa sw sE sd sk => ?_
                have h10 : sa.eval (.tmp 10) = .slice (B9) (0) (d9) := sk.old 10 rfl
                exact Runs.move rfl h10 ⟨Ext.refl _, rfl⟩
              · refine stepY (j := 25) (d := 97) (b := true) rfl rfl rfl (fun v w h => h) fun sdn sa sw sE sd sk => ?_
                have h100 : sa.eval (.tmp 100) = .slice (B9) (0) (d9) := sk.fact 28 100 rfl (sd 28 rfl)
                exact Runs.len Try.underlying22 rfl h100 ⟨Ext.refl _, rfl⟩
              · refine stepY (j := 25) (d := 97) (b := true) rfl rfl rfl (fun v w h => h) fun sdn sa sw sE sd sk => ?_
                have h99 : sa.eval (.tmp 99) = .int .i64 ((0 : Nat)) := sk.fact 27 99 rfl (sd 27 rfl)
                have h101 : sa.eval (.tmp 101) = .int .i64 ((0 : Nat)) := sk.fact 29 101 rfl (sd 29 rfl)
                exact Runs.bin rfl h99 h101 (eqGuard_bin rfl) (bin_add64 _ _ _ (by omega) (by omega)) ⟨Ext.refl _, rfl⟩
              · refine stepY (j := 25) (d := 97) (b := true) rfl rfl rfl (fun v w h => h) fun sdn sa sw sE sd sk => ?_
                have h102 : sa.eval (.tmp 102) = .int .i64 ((0 : Nat) + (0 : Nat)) := sk.fact 30 102 rfl (sd 30 rfl)
                exact Runs.bin rfl h102 rfl (by rfl) (bin_neq _ _ _ _) ⟨Ext.refl _, rfl⟩
              · refine stepY (j := 22) (d := 94) (b := false) rfl rfl rfl (fun v w h => h) fun sdn sa sw sE sd sk => ?_
                have h97 : sa.eval (.tmp 97) = .bool (true) := sk.fact 25 97 rfl (sd 25 rfl)
                have h103 : sa.eval (.tmp 103) = .bool (decide ((0 : Nat) + (0 : Nat) ≠ (0 : Int))) := sk.fact 31 103 rfl (sd 31 rfl)
                exact Runs.pick rfl h97 ⟨Ext.refl _, by first | exact h103 | simpa using h103⟩
              · refine stepE rfl fun sdn sa sw sE sd sk => ?_
                have h94 : sa.eval (.tmp 94) = .bool (false) := sk.fact 22 94 rfl (sd 22 rfl)
                have h104 : sa.eval (.tmp 104) = .bool (decide ((0 : Nat) + (0 : Nat) ≠ (0 : Int))) := sk.fact 32 104 rfl (sd 32 rfl)
                exact Runs.pick rfl h94 ⟨Ext.refl _, by first | exact h104 | simpa using h104⟩
              intro vals W7 hE7 hv7
              have e0 : vals 0 = .bool (false) := hv7 0 (by omega) 72 rfl
              have e1 : vals 1 = .bool (false) := hv7 1 (by omega) 73 rfl
              have e2 : vals 2 = .bool (false) := hv7 2 (by omega) 74 rfl
              have e3 : vals 3 = .bool (false) := hv7 3 (by omega) 75 rfl
              have e4 : vals 4 = .bool (false) := hv7 4 (by omega) 76 rfl
              have e5 : vals 5 = .bool (false) := hv7 5 (by omega) 77 rfl
              have e20 : vals 20 = .bool (false) := hv7 20 (by omega) 92 rfl
              have e21 : vals 21 = .bool (false) := hv7 21 (by omega) 93 rfl
              have e22 : vals 22 = .bool (false) := hv7 22 (by omega) 94 rfl
              have e23 : vals 23 = .bool (false) := hv7 23 (by omega) 95 rfl
              have e24 : vals 24 = .bool (true) := hv7 24 (by omega) 96 rfl
              have e25 : vals 25 = .bool (true) := hv7 25 (by omega) 97 rfl
              have e26 : vals 26 = .slice (A9) (0) (c9) := hv7 26 (by omega) 98 rfl
              have e27 : vals 27 = .int .i64 ((0 : Nat)) := hv7 27 (by omega) 99 rfl
              have e28 : vals 28 = .slice (B9) (0) (d9) := hv7 28 (by omega) 100 rfl
              have e29 : vals 29 = .int .i64 ((0 : Nat)) := hv7 29 (by omega) 101 rfl
              have e30 : vals 30 = .int .i64 ((0 : Nat) + (0 : Nat)) := hv7 30 (by omega) 102 rfl
              have e31 : vals 31 = .bool (decide ((0 : Nat) + (0 : Nat) ≠ (0 : Int))) := hv7 31 (by omega) 103 rfl
              have e32 : vals 32 = .bool (decide ((0 : Nat) + (0 : Nat) ≠ (0 : Int))) := hv7 32 (by omega) 104 rfl
              have e33 : vals 33 = .bool (decide ((0 : Nat) + (0 : Nat) ≠ (0 : Int))) := hv7 33 (by omega) 105 rfl
              simp only [putAll, Act.put, List.take_succ_cons, List.take_zero, List.drop_succ_cons, List.drop_zero, List.drop_nil, List.take_nil, Nat.reduceAdd, List.setIfInBounds_toArray, List.set_cons_succ, List.set_cons_zero, e0, e1, e2, e3, e4, e5, e20, e21, e22, e23, e24, e25, e26, e27, e28, e29, e30, e31, e32, e33]
              clear hv7 e0 e1 e2 e3 e4 e5 e20 e21 e22 e23 e24 e25 e26 e27 e28 e29 e30 e31 e32 e33
              go_wp2_with fail
              go_roundw
              case rel => exact ⟨k + 1, by omega, by go_num, (hE5.trans hE6).trans hE7⟩
              case measure => simp [intOf]; omega
            · skip
              have hv : treesB LA LC = true := by rw [htb]; simp [b3, b4, HqA.out, hcl0, c1, ← C2.out]
              rw [hv]
              have hcl := trees_clash hv
              obtain ⟨hnP, hnQ⟩ := hnP
              clear hv htb
              go_upto_region 6 with (fail)
              refine par_ext (n := 27) (by kernel_rfl) [.is (.slice (PA) (qa) (da)), .is (.int .i64 ((qa : Nat))), .is (.bool (true)), .is (.bool (true)), .is (.slice (PA) (qa) (da)), .is (.int .i64 ((qa : Nat))), .is (.slice (C) (nc) (cc)), .is (.int .i64 ((nc : Nat))), .is (.bool (true)), .is (.bool (true)), .is (.bool (true)), .is (.slice (PA) (qa) (da)), .rws (qa) (LA.map leafH), .rk (32) (rootL (LA.map leafH)), .is (.string (str (rootL (LA.map leafH)))), .is (.slice (C) (nc) (cc)), .rws (nc) (LC.map leafH), .rk (32) (rootL (LC.map leafH)), .is (.string (str (rootL (LC.map leafH)))), .is (.bool (true)), .is (.bool (true)), .is (.bool (true)), .is (.slice (PA) (qa) (da)), .is (.slice (C) (nc) (cc)), .is (.bool (false)), .is (.bool (true)), .is (.bool (true))] rfl ⟨?_, ?_, ?_, ?_, ?_, ?_, ?_, ?_, ?_, ?_, ?_, ?_, ?_, ?_, ?_, ?_, ?_, ?_, ?_, ?_, ?_, ?_, ?_, ?_, ?_, ?_, ?_, trivial⟩ ?_
              · refine stepE rfl fun sdn sa sw sE sd sk => ?_
                have h0 : sa.eval (.tmp 0) = .slice (PA) (qa) (da) := sk.old 0 rfl
                exact Runs.move rfl h0 ⟨Ext.refl _, rfl⟩
              · refine stepE rfl fun sdn sa sw sE sd sk => ?_
                have h45 : sa.eval (.tmp 45) = .slice (PA) (qa) (da) := sk.fact 0 45 rfl (sd 0 rfl)
                exact Runs.len Try.underlying23 rfl h45 ⟨Ext.refl _, rfl⟩
              · refine stepE rfl fun sdn sa sw sE sd sk => ?_
                have h46 : sa.eval (.tmp 46) = .int .i64 ((qa : Nat)) := sk.fact 1 46 rfl (sd 1 rfl)
                exact Runs.bin rfl h46 rfl (by rfl) (bin_gtr _ _ _ _) ⟨Ext.refl _, congrArg Value.bool (b1)⟩
              · refine stepE rfl fun sdn sa sw sE sd sk => ?_
                have h47 : sa.eval (.tmp 47) = .bool (true) := sk.fact 2 47 rfl (sd 2 rfl)
                exact Runs.move rfl h47 ⟨Ext.refl _, rfl⟩
              · refine stepY (j := 3) (d := 48) (b := true) rfl rfl rfl (fun v w h => h) fun sdn sa sw sE sd sk => ?_
                have h0 : sa.eval (.tmp 0) = .slice (PA) (qa) (da) := sk.old 0 rfl
                exact Runs.move rfl h0 ⟨Ext.refl _, rfl⟩
              · refine stepY (j := 3) (d := 48) (b := true) rfl rfl rfl (fun v w h => h) fun sdn sa sw sE sd sk => ?_
                have h49 : sa.eval (.tmp 49) = .slice (PA) (qa) (da) := sk.fact 4 49 rfl (sd 4 rfl)
                exact Runs.len Try.underlying23 rfl h49 ⟨Ext.refl _, rfl⟩
              · refine stepY (j := 3) (d := 48) (b := true) rfl rfl rfl (fun v w h => h) fun sdn sa sw sE sd sk => ?_
                have h8 : sa.eval (.tmp 8) = .slice (C) (nc) (cc) := sk.old 8 rfl
                exact Runs.move rfl h8 ⟨Ext.refl _, rfl⟩
              · refine stepY (j := 3) (d := 48) (b := true) rfl rfl rfl (fun v w h => h) fun sdn sa sw sE sd sk => ?_
                have h51 : sa.eval (.tmp 51) = .slice (C) (nc) (cc) := sk.fact 6 51 rfl (sd 6 rfl)
                exact Runs.len Try.underlying23 rfl h51 ⟨Ext.refl _, rfl⟩
              · refine stepY (j := 3) (d := 48) (b := true) rfl rfl rfl (fun v w h => h) fun sdn sa sw sE sd sk => ?_
                have h50 : sa.eval (.tmp 50) = .int .i64 ((qa : Nat)) := sk.fact 5 50 rfl (sd 5 rfl)
                have h52 : sa.eval (.tmp 52) = .int .i64 ((nc : Nat)) := sk.fact 7 52 rfl (sd 7 rfl)
                exact Runs.bin rfl h50 h52 (by rfl) (bin_eql _ _ _ _) ⟨Ext.refl _, congrArg Value.bool (b2)⟩
              · refine stepE rfl fun sdn sa sw sE sd sk => ?_
                have h48 : sa.eval (.tmp 48) = .bool (true) := sk.fact 3 48 rfl (sd 3 rfl)
                have h53 : sa.eval (.tmp 53) = .bool (true) := sk.fact 8 53 rfl (sd 8 rfl)
                exact Runs.pick rfl h48 ⟨Ext.refl _, by first | exact h53 | simpa using h53⟩
              · refine stepE rfl fun sdn sa sw sE sd sk => ?_
                have h54 : sa.eval (.tmp 54) = .bool (true) := sk.fact 9 54 rfl (sd 9 rfl)
                exact Runs.move rfl h54 ⟨Ext.refl _, rfl⟩
              · refine stepY (j := 10) (d := 55) (b := true) rfl rfl rfl (fun v w h => h) fun sdn sa sw sE sd sk => ?_
                have h0 : sa.eval (.tmp 0) = .slice (PA) (qa) (da) := sk.old 0 rfl
                exact Runs.move rfl h0 ⟨Ext.refl _, rfl⟩
              · refine stepY (j := 10) (d := 55) (b := true) rfl rfl rfl (fun v w h => h) fun sdn sa sw sE sd sk => ?_
                have h56 : sa.eval (.tmp 56) = .slice (PA) (qa) (da) := sk.fact 11 56 rfl (sd 11 rfl)
                refine Runs.call (f := 20) (vs := [.slice (PA) (qa) (da)]) rfl rfl rfl (by simp only [List.map_toArray, List.map_cons, List.map_nil, h56] <;> rfl) (ent20 _ _) ((r6leaves_any _ _ _ _ sw (rA.ext sE) (by omega) hlA).mono ?_); rintro e w' ⟨P', d', rfl, own, hx⟩; exact ⟨_, rfl, hx, _, _, rfl, own.rbb⟩
              · refine stepY (j := 10) (d := 55) (b := true) rfl rfl rfl (fun v w h => h) fun sdn sa sw sE sd sk => ?_
                obtain ⟨A57, c57, h57, r57⟩ := sk.fact 12 57 rfl (sd 12 rfl)
                refine Runs.call (f := 19) (vs := [.slice (A57) (qa) (c57)]) rfl rfl rfl (by simp only [List.map_toArray, List.map_cons, List.map_nil, h57] <;> rfl) (ent19 _ _) ((r6root_any _ _ _ _ sw (by omega) r57 (leaf_len _)).mono ?_); rintro e w' ⟨A', c', rfl, own, hx⟩; exact ⟨_, rfl, hx, _, _, rfl, own⟩
              · refine stepY (j := 10) (d := 55) (b := true) rfl rfl rfl (fun v w h => h) fun sdn sa sw sE sd sk => ?_
                obtain ⟨A58, c58, h58, r58⟩ := sk.fact 13 58 rfl (sd 13 rfl)
                exact Runs.conv rfl h58 (run_str r58) ⟨Ext.refl _, rfl⟩
              · refine stepY (j := 10) (d := 55) (b := true) rfl rfl rfl (fun v w h => h) fun sdn sa sw sE sd sk => ?_
                have h8 : sa.eval (.tmp 8) = .slice (C) (nc) (cc) := sk.old 8 rfl
                exact Runs.move rfl h8 ⟨Ext.refl _, rfl⟩
              · refine stepY (j := 10) (d := 55) (b := true) rfl rfl rfl (fun v w h => h) fun sdn sa sw sE sd sk => ?_
                have h60 : sa.eval (.tmp 60) = .slice (C) (nc) (cc) := sk.fact 15 60 rfl (sd 15 rfl)
                refine Runs.call (f := 20) (vs := [.slice (C) (nc) (cc)]) rfl rfl rfl (by simp only [List.map_toArray, List.map_cons, List.map_nil, h60] <;> rfl) (ent20 _ _) ((r6leaves_any _ _ _ _ sw (rC.ext sE) (by omega) hlC).mono ?_); rintro e w' ⟨P', d', rfl, own, hx⟩; exact ⟨_, rfl, hx, _, _, rfl, own.rbb⟩
              · refine stepY (j := 10) (d := 55) (b := true) rfl rfl rfl (fun v w h => h) fun sdn sa sw sE sd sk => ?_
                obtain ⟨A61, c61, h61, r61⟩ := sk.fact 16 61 rfl (sd 16 rfl)
                refine Runs.call (f := 19) (vs := [.slice (A61) (nc) (c61)]) rfl rfl rfl (by simp only [List.map_toArray, List.map_cons, List.map_nil, h61] <;> rfl) (ent19 _ _) ((r6root_any _ _ _ _ sw (by omega) r61 (leaf_len _)).mono ?_); rintro e w' ⟨A', c', rfl, own, hx⟩; exact ⟨_, rfl, hx, _, _, rfl, own⟩
              · refine stepY (j := 10) (d := 55) (b := true) rfl rfl rfl (fun v w h => h) fun sdn sa sw sE sd sk => ?_
                obtain ⟨A62, c62, h62, r62⟩ := sk.fact 17 62 rfl (sd 17 rfl)
                exact Runs.conv rfl h62 (run_str r62) ⟨Ext.refl _, rfl⟩
              · refine stepY (j := 10) (d := 55) (b := true) rfl rfl rfl (fun v w h => h) fun sdn sa sw sE sd sk => ?_
                have h59 : sa.eval (.tmp 59) = .string (str (rootL (LA.map leafH))) := sk.fact 14 59 rfl (sd 14 rfl)
                have h63 : sa.eval (.tmp 63) = .string (str (rootL (LC.map leafH))) := sk.fact 18 63 rfl (sd 18 rfl)
                exact Runs.bin rfl h59 h63 (by rfl) (bin_eqs _ _ _) ⟨Ext.refl _, congrArg Value.bool (by simp [b3])⟩
              · refine stepE rfl fun sdn sa sw sE sd sk => ?_
                have h55 : sa.eval (.tmp 55) = .bool (true) := sk.fact 10 55 rfl (sd 10 rfl)
                have h64 : sa.eval (.tmp 64) = .bool (true) := sk.fact 19 64 rfl (sd 19 rfl)
                exact Runs.pick rfl h55 ⟨Ext.refl _, by first | exact h64 | simpa using h64⟩
              · refine stepE rfl fun sdn sa sw sE sd sk => ?_
                have h65 : sa.eval (.tmp 65) = .bool (true) := sk.fact 20 65 rfl (sd 20 rfl)
                exact Runs.move rfl h65 ⟨Ext.refl _, rfl⟩
              · refine stepY (j := 21) (d := 66) (b := true) rfl rfl rfl (fun v w h => h) fun sdn sa sw sE sd sk => ?_
                have h0 : sa.eval (.tmp 0) = .slice (PA) (qa) (da) := sk.old 0 rfl
                exact Runs.move rfl h0 ⟨Ext.refl _, rfl⟩
              · refine stepY (j := 21) (d := 66) (b := true) rfl rfl rfl (fun v w h => h) fun sdn sa sw sE sd sk => ?_
                have h8 : sa.eval (.tmp 8) = .slice (C) (nc) (cc) := sk.old 8 rfl
                exact Runs.move rfl h8 ⟨Ext.refl _, rfl⟩
              · refine stepY (j := 21) (d := 66) (b := true) rfl rfl rfl (fun v w h => h) fun sdn sa sw sE sd sk => ?_
                have h67 : sa.eval (.tmp 67) = .slice (PA) (qa) (da) := sk.fact 22 67 rfl (sd 22 rfl)
                have h68 : sa.eval (.tmp 68) = .slice (C) (nc) (cc) := sk.fact 23 68 rfl (sd 23 rfl)
                refine Runs.call (f := 21) (vs := [.slice (PA) (qa) (da), .slice (C) (nc) (cc)]) rfl rfl rfl (by simp only [List.map_toArray, List.map_cons, List.map_nil, h67, h68] <;> rfl) (ent21 _ _) ((lists_any _ _ _ _ _ _ _ _ sw (rA.ext sE) (rC.ext sE)).mono ?_); rintro e w' ⟨rfl, hx⟩; exact ⟨_, rfl, hx, congrArg Value.bool (decide_eq_false b4)⟩
              · refine stepY (j := 21) (d := 66) (b := true) rfl rfl rfl (fun v w h => h) fun sdn sa sw sE sd sk => ?_
                have h69 : sa.eval (.tmp 69) = .bool (false) := sk.fact 24 69 rfl (sd 24 rfl)
                exact Runs.un rfl h69 (by rfl) ⟨Ext.refl _, rfl⟩
              · refine stepE rfl fun sdn sa sw sE sd sk => ?_
                have h66 : sa.eval (.tmp 66) = .bool (true) := sk.fact 21 66 rfl (sd 21 rfl)
                have h70 : sa.eval (.tmp 70) = .bool (true) := sk.fact 25 70 rfl (sd 25 rfl)
                exact Runs.pick rfl h66 ⟨Ext.refl _, by first | exact h70 | simpa using h70⟩
              intro vals W6 hE6 hv6
              have e0 : vals 0 = .slice (PA) (qa) (da) := hv6 0 (by omega) 45 rfl
              have e1 : vals 1 = .int .i64 ((qa : Nat)) := hv6 1 (by omega) 46 rfl
              have e2 : vals 2 = .bool (true) := hv6 2 (by omega) 47 rfl
              have e3 : vals 3 = .bool (true) := hv6 3 (by omega) 48 rfl
              have e4 : vals 4 = .slice (PA) (qa) (da) := hv6 4 (by omega) 49 rfl
              have e5 : vals 5 = .int .i64 ((qa : Nat)) := hv6 5 (by omega) 50 rfl
              have e6 : vals 6 = .slice (C) (nc) (cc) := hv6 6 (by omega) 51 rfl
              have e7 : vals 7 = .int .i64 ((nc : Nat)) := hv6 7 (by omega) 52 rfl
              have e8 : vals 8 = .bool (true) := hv6 8 (by omega) 53 rfl
              have e9 : vals 9 = .bool (true) := hv6 9 (by omega) 54 rfl
              have e10 : vals 10 = .bool (true) := hv6 10 (by omega) 55 rfl
              have e11 : vals 11 = .slice (PA) (qa) (da) := hv6 11 (by omega) 56 rfl
              obtain ⟨A57, c57, e12, r57⟩ := hv6 12 (by omega) 57 rfl
              obtain ⟨A58, c58, e13, r58⟩ := hv6 13 (by omega) 58 rfl
              have e14 : vals 14 = .string (str (rootL (LA.map leafH))) := hv6 14 (by omega) 59 rfl
              have e15 : vals 15 = .slice (C) (nc) (cc) := hv6 15 (by omega) 60 rfl
              obtain ⟨A61, c61, e16, r61⟩ := hv6 16 (by omega) 61 rfl
              obtain ⟨A62, c62, e17, r62⟩ := hv6 17 (by omega) 62 rfl
              have e18 : vals 18 = .string (str (rootL (LC.map leafH))) := hv6 18 (by omega) 63 rfl
              have e19 : vals 19 = .bool (true) := hv6 19 (by omega) 64 rfl
              have e20 : vals 20 = .bool (true) := hv6 20 (by omega) 65 rfl
              have e21 : vals 21 = .bool (true) := hv6 21 (by omega) 66 rfl
              have e22 : vals 22 = .slice (PA) (qa) (da) := hv6 22 (by omega) 67 rfl
              have e23 : vals 23 = .slice (C) (nc) (cc) := hv6 23 (by omega) 68 rfl
              have e24 : vals 24 = .bool (false) := hv6 24 (by omega) 69 rfl
              have e25 : vals 25 = .bool (true) := hv6 25 (by omega) 70 rfl
              have e26 : vals 26 = .bool (true) := hv6 26 (by omega) 71 rfl
              simp only [putAll, Act.put, List.take_succ_cons, List.take_zero, List.drop_succ_cons, List.drop_zero, List.drop_nil, List.take_nil, Nat.reduceAdd, List.setIfInBounds_toArray, List.set_cons_succ, List.set_cons_zero, e0, e1, e2, e3, e4, e5, e6, e7, e8, e9, e10, e11, e12, e13, e14, e15, e16, e17, e18, e19, e20, e21, e22, e23, e24, e25, e26]
              clear hv6 e0 e1 e2 e3 e4 e5 e6 e7 e8 e9 e10 e11 e12 e13 e14 e15 e16 e17 e18 e19 e20 e21 e22 e23 e24 e25 e26
              replace rP := rP.ext hE6
              replace rQ := rQ.ext hE6
              go_upto_region 7 with (fail)
              refine par_ext (n := 34) (by kernel_rfl) [.is (.bool (true)), .is (.bool (true)), .is (.bool (false)), .is (.bool (false)), .is (.bool (true)), .is (.bool (true)), .is (.slice (A9) (n9) (c9)), .is (.string (str (treesP LA LC))), .is (.slice (B9) (m9) (d9)), .is (.string (str (treesQ LA LC))), .is (.bool (false)), .is (.bool (false)), .is (.slice (A9) (n9) (c9)), .rk (32) (sha (treesP LA LC)), .is (.string (str (sha (treesP LA LC)))), .is (.slice (B9) (m9) (d9)), .rk (32) (sha (treesQ LA LC)), .is (.string (str (sha (treesQ LA LC)))), .is (.bool (false)), .is (.bool (false)), .is (.bool (false)), .is (.bool (false)), .is (.bool (false)), .is (.bool (true)), .is (.bool (false)), .is (.bool (false)), .is undef, .is undef, .is undef, .is undef, .is undef, .is undef, .is (.bool (false)), .is (.bool (false))] rfl ⟨?_, ?_, ?_, ?_, ?_, ?_, ?_, ?_, ?_, ?_, ?_, ?_, ?_, ?_, ?_, ?_, ?_, ?_, ?_, ?_, ?_, ?_, ?_, ?_, ?_, ?_, ?_, ?_, ?_, ?_, ?_, ?_, ?_, ?_, trivial⟩ ?_
              · refine stepE rfl fun sdn sa sw sE sd sk => ?_
                have h11 : sa.eval (.tmp 11) = .bool (true) := sk.old 11 rfl
                exact Runs.move rfl h11 ⟨Ext.refl _, rfl⟩
              · refine stepE rfl fun sdn sa sw sE sd sk => ?_
                have h12 : sa.eval (.tmp 12) = .bool (true) := sk.old 12 rfl
                exact Runs.move rfl h12 ⟨Ext.refl _, rfl⟩
              · refine stepE rfl fun sdn sa sw sE sd sk => ?_
                have h72 : sa.eval (.tmp 72) = .bool (true) := sk.fact 0 72 rfl (sd 0 rfl)
                have h73 : sa.eval (.tmp 73) = .bool (true) := sk.fact 1 73 rfl (sd 1 rfl)
                exact Runs.bin rfl h72 h73 (by rfl) (bin_neb _ _) ⟨Ext.refl _, congrArg Value.bool (by decide)⟩
              · refine stepE rfl fun sdn sa sw sE sd sk => ?_
                have h74 : sa.eval (.tmp 74) = .bool (false) := sk.fact 2 74 rfl (sd 2 rfl)
                exact Runs.move rfl h74 ⟨Ext.refl _, rfl⟩
              · refine stepY (j := 3) (d := 75) (b := false) rfl rfl rfl (fun v w h => h) fun sdn sa sw sE sd sk => ?_
                have h11 : sa.eval (.tmp 11) = .bool (true) := sk.old 11 rfl
                exact Runs.move rfl h11 ⟨Ext.refl _, rfl⟩
              · refine stepY (j := 3) (d := 75) (b := false) rfl rfl rfl (fun v w h => h) fun sdn sa sw sE sd sk => ?_
                have h76 : sa.eval (.tmp 76) = .bool (true) := sk.fact 4 76 rfl (sd 4 rfl)
                exact Runs.move rfl h76 ⟨Ext.refl _, rfl⟩
              · refine stepY (j := 5) (d := 77) (b := true) rfl rfl rfl (fun v w h => h) fun sdn sa sw sE sd sk => ?_
                have h9 : sa.eval (.tmp 9) = .slice (A9) (n9) (c9) := sk.old 9 rfl
                exact Runs.move rfl h9 ⟨Ext.refl _, rfl⟩
              · refine stepY (j := 5) (d := 77) (b := true) rfl rfl rfl (fun v w h => h) fun sdn sa sw sE sd sk => ?_
                have h78 : sa.eval (.tmp 78) = .slice (A9) (n9) (c9) := sk.fact 6 78 rfl (sd 6 rfl)
                exact Runs.conv rfl h78 (run_str (rP.ext sE)) ⟨Ext.refl _, rfl⟩
              · refine stepY (j := 5) (d := 77) (b := true) rfl rfl rfl (fun v w h => h) fun sdn sa sw sE sd sk => ?_
                have h10 : sa.eval (.tmp 10) = .slice (B9) (m9) (d9) := sk.old 10 rfl
                exact Runs.move rfl h10 ⟨Ext.refl _, rfl⟩
              · refine stepY (j := 5) (d := 77) (b := true) rfl rfl rfl (fun v w h => h) fun sdn sa sw sE sd sk => ?_
                have h80 : sa.eval (.tmp 80) = .slice (B9) (m9) (d9) := sk.fact 8 80 rfl (sd 8 rfl)
                exact Runs.conv rfl h80 (run_str (rQ.ext sE)) ⟨Ext.refl _, rfl⟩
              · refine stepY (j := 5) (d := 77) (b := true) rfl rfl rfl (fun v w h => h) fun sdn sa sw sE sd sk => ?_
                have h79 : sa.eval (.tmp 79) = .string (str (treesP LA LC)) := sk.fact 7 79 rfl (sd 7 rfl)
                have h81 : sa.eval (.tmp 81) = .string (str (treesQ LA LC)) := sk.fact 9 81 rfl (sd 9 rfl)
                exact Runs.bin rfl h79 h81 (by rfl) (bin_eqs _ _ _) ⟨Ext.refl _, congrArg Value.bool (by simp [hcl.1])⟩
              · refine stepY (j := 5) (d := 77) (b := true) rfl rfl rfl (fun v w h => h) fun sdn sa sw sE sd sk => ?_
                have h82 : sa.eval (.tmp 82) = .bool (false) := sk.fact 10 82 rfl (sd 10 rfl)
                exact Runs.move rfl h82 ⟨Ext.refl _, rfl⟩
              · refine stepY (j := 11) (d := 83) (b := false) rfl rfl rfl (fun v w h => h) fun sdn sa sw sE sd sk => ?_
                have h9 : sa.eval (.tmp 9) = .slice (A9) (n9) (c9) := sk.old 9 rfl
                exact Runs.move rfl h9 ⟨Ext.refl _, rfl⟩
              · refine stepY (j := 11) (d := 83) (b := false) rfl rfl rfl (fun v w h => h) fun sdn sa sw sE sd sk => ?_
                have h84 : sa.eval (.tmp 84) = .slice (A9) (n9) (c9) := sk.fact 12 84 rfl (sd 12 rfl)
                refine Runs.call (f := 17) (vs := [.slice (A9) (n9) (c9)]) rfl rfl rfl (by simp only [List.map_toArray, List.map_cons, List.map_nil, h84] <;> rfl) (ent17 _ _) ((sum_any _ _ _ _ sw (rP.ext sE) (by omega)).mono ?_); rintro e w' ⟨A', c', rfl, own, hx⟩; exact ⟨_, rfl, hx, A', c', rfl, own.rb⟩
              · refine stepY (j := 11) (d := 83) (b := false) rfl rfl rfl (fun v w h => h) fun sdn sa sw sE sd sk => ?_
                obtain ⟨A85, c85, h85, r85⟩ := sk.fact 13 85 rfl (sd 13 rfl)
                exact Runs.conv rfl h85 (run_str r85) ⟨Ext.refl _, rfl⟩
              · refine stepY (j := 11) (d := 83) (b := false) rfl rfl rfl (fun v w h => h) fun sdn sa sw sE sd sk => ?_
                have h10 : sa.eval (.tmp 10) = .slice (B9) (m9) (d9) := sk.old 10 rfl
                exact Runs.move rfl h10 ⟨Ext.refl _, rfl⟩
              · refine stepY (j := 11) (d := 83) (b := false) rfl rfl rfl (fun v w h => h) fun sdn sa sw sE sd sk => ?_
                have h87 : sa.eval (.tmp 87) = .slice (B9) (m9) (d9) := sk.fact 15 87 rfl (sd 15 rfl)
                refine Runs.call (f := 17) (vs := [.slice (B9) (m9) (d9)]) rfl rfl rfl (by simp only [List.map_toArray, List.map_cons, List.map_nil, h87] <;> rfl) (ent17 _ _) ((sum_any _ _ _ _ sw (rQ.ext sE) (by omega)).mono ?_); rintro e w' ⟨A', c', rfl, own, hx⟩; exact ⟨_, rfl, hx, A', c', rfl, own.rb⟩
              · refine stepY (j := 11) (d := 83) (b := false) rfl rfl rfl (fun v w h => h) fun sdn sa sw sE sd sk => ?_
                obtain ⟨A88, c88, h88, r88⟩ := sk.fact 16 88 rfl (sd 16 rfl)
                exact Runs.conv rfl h88 (run_str r88) ⟨Ext.refl _, rfl⟩
              · refine stepY (j := 11) (d := 83) (b := false) rfl rfl rfl (fun v w h => h) fun sdn sa sw sE sd sk => ?_
                have h86 : sa.eval (.tmp 86) = .string (str (sha (treesP LA LC))) := sk.fact 14 86 rfl (sd 14 rfl)
                have h89 : sa.eval (.tmp 89) = .string (str (sha (treesQ LA LC))) := sk.fact 17 89 rfl (sd 17 rfl)
                exact Runs.bin rfl h86 h89 (by rfl) (bin_nes _ _ _) ⟨Ext.refl _, congrArg Value.bool (by simp [hcl.2])⟩
              · refine stepY (j := 5) (d := 77) (b := true) rfl rfl rfl (fun v w h => h) fun sdn sa sw sE sd sk => ?_
                have h83 : sa.eval (.tmp 83) = .bool (false) := sk.fact 11 83 rfl (sd 11 rfl)
                have h90 : sa.eval (.tmp 90) = .bool (false) := sk.fact 18 90 rfl (sd 18 rfl)
                exact Runs.pick rfl h83 ⟨Ext.refl _, by first | exact h90 | simpa using h90⟩
              · refine stepY (j := 3) (d := 75) (b := false) rfl rfl rfl (fun v w h => h) fun sdn sa sw sE sd sk => ?_
                have h77 : sa.eval (.tmp 77) = .bool (true) := sk.fact 5 77 rfl (sd 5 rfl)
                have h91 : sa.eval (.tmp 91) = .bool (false) := sk.fact 19 91 rfl (sd 19 rfl)
                exact Runs.pick rfl h77 ⟨Ext.refl _, by first | exact h91 | simpa using h91⟩
              · refine stepE rfl fun sdn sa sw sE sd sk => ?_
                have h75 : sa.eval (.tmp 75) = .bool (false) := sk.fact 3 75 rfl (sd 3 rfl)
                have h92 : sa.eval (.tmp 92) = .bool (false) := sk.fact 20 92 rfl (sd 20 rfl)
                exact Runs.pick rfl h75 ⟨Ext.refl _, by first | exact h92 | simpa using h92⟩
              · refine stepE rfl fun sdn sa sw sE sd sk => ?_
                have h93 : sa.eval (.tmp 93) = .bool (false) := sk.fact 21 93 rfl (sd 21 rfl)
                exact Runs.move rfl h93 ⟨Ext.refl _, rfl⟩
              · refine stepY (j := 22) (d := 94) (b := false) rfl rfl rfl (fun v w h => h) fun sdn sa sw sE sd sk => ?_
                have h11 : sa.eval (.tmp 11) = .bool (true) := sk.old 11 rfl
                exact Runs.move rfl h11 ⟨Ext.refl _, rfl⟩
              · refine stepY (j := 22) (d := 94) (b := false) rfl rfl rfl (fun v w h => h) fun sdn sa sw sE sd sk => ?_
                have h95 : sa.eval (.tmp 95) = .bool (true) := sk.fact 23 95 rfl (sd 23 rfl)
                exact Runs.un rfl h95 (by rfl) ⟨Ext.refl _, rfl⟩
              · refine stepY (j := 22) (d := 94) (b := false) rfl rfl rfl (fun v w h => h) fun sdn sa sw sE sd sk => ?_
                have h96 : sa.eval (.tmp 96) = .bool (false) := sk.fact 24 96 rfl (sd 24 rfl)
                exact Runs.move rfl h96 ⟨Ext.refl _, rfl⟩
              · exact stepN (j := 25) (d := 97) (b := false) rfl rfl rfl (fun v w h => h) fun w => rfl
              · exact stepN (j := 25) (d := 97) (b := false) rfl rfl rfl (fun v w h => h) fun w => rfl
              · exact stepN (j := 25) (d := 97) (b := false) rfl rfl rfl (fun v w h => h) fun w => rfl
              · exact stepN (j := 25) (d := 97) (b := false) rfl rfl rfl (fun v w h => h) fun w => rfl
              · exact stepN (j := 25) (d := 97) (b := false) rfl rfl rfl (fun v w h => h) fun w => rfl
              · exact stepN (j := 25) (d := 97) (b := false) rfl rfl rfl (fun v w h => h) fun w => rfl
              · refine stepY (j := 22) (d := 94) (b := false) rfl rfl rfl (fun v w h => h) fun sdn sa sw sE sd sk => ?_
                have h97 : sa.eval (.tmp 97) = .bool (false) := sk.fact 25 97 rfl (sd 25 rfl)
                exact Runs.pick rfl h97 ⟨Ext.refl _, rfl⟩
              · refine stepE rfl fun sdn sa sw sE sd sk => ?_
                have h94 : sa.eval (.tmp 94) = .bool (false) := sk.fact 22 94 rfl (sd 22 rfl)
                have h104 : sa.eval (.tmp 104) = .bool (false) := sk.fact 32 104 rfl (sd 32 rfl)
                exact Runs.pick rfl h94 ⟨Ext.refl _, by first | exact h104 | simpa using h104⟩
              intro vals W7 hE7 hv7
              have e0 : vals 0 = .bool (true) := hv7 0 (by omega) 72 rfl
              have e1 : vals 1 = .bool (true) := hv7 1 (by omega) 73 rfl
              have e2 : vals 2 = .bool (false) := hv7 2 (by omega) 74 rfl
              have e3 : vals 3 = .bool (false) := hv7 3 (by omega) 75 rfl
              have e4 : vals 4 = .bool (true) := hv7 4 (by omega) 76 rfl
              have e5 : vals 5 = .bool (true) := hv7 5 (by omega) 77 rfl
              have e6 : vals 6 = .slice (A9) (n9) (c9) := hv7 6 (by omega) 78 rfl
              have e7 : vals 7 = .string (str (treesP LA LC)) := hv7 7 (by omega) 79 rfl
              have e8 : vals 8 = .slice (B9) (m9) (d9) := hv7 8 (by omega) 80 rfl
              have e9 : vals 9 = .string (str (treesQ LA LC)) := hv7 9 (by omega) 81 rfl
              have e10 : vals 10 = .bool (false) := hv7 10 (by omega) 82 rfl
              have e11 : vals 11 = .bool (false) := hv7 11 (by omega) 83 rfl
              have e12 : vals 12 = .slice (A9) (n9) (c9) := hv7 12 (by omega) 84 rfl
              obtain ⟨A85, c85, e13, r85⟩ := hv7 13 (by omega) 85 rfl
              have e14 : vals 14 = .string (str (sha (treesP LA LC))) := hv7 14 (by omega) 86 rfl
              have e15 : vals 15 = .slice (B9) (m9) (d9) := hv7 15 (by omega) 87 rfl
              obtain ⟨A88, c88, e16, r88⟩ := hv7 16 (by omega) 88 rfl
              have e17 : vals 17 = .string (str (sha (treesQ LA LC))) := hv7 17 (by omega) 89 rfl
              have e18 : vals 18 = .bool (false) := hv7 18 (by omega) 90 rfl
              have e19 : vals 19 = .bool (false) := hv7 19 (by omega) 91 rfl
              have e20 : vals 20 = .bool (false) := hv7 20 (by omega) 92 rfl
              have e21 : vals 21 = .bool (false) := hv7 21 (by omega) 93 rfl
              have e22 : vals 22 = .bool (false) := hv7 22 (by omega) 94 rfl
              have e23 : vals 23 = .bool (true) := hv7 23 (by omega) 95 rfl
              have e24 : vals 24 = .bool (false) := hv7 24 (by omega) 96 rfl
              have e25 : vals 25 = .bool (false) := hv7 25 (by omega) 97 rfl
              have e32 : vals 32 = .bool (false) := hv7 32 (by omega) 104 rfl
              have e33 : vals 33 = .bool (false) := hv7 33 (by omega) 105 rfl
              simp only [putAll, Act.put, List.take_succ_cons, List.take_zero, List.drop_succ_cons, List.drop_zero, List.drop_nil, List.take_nil, Nat.reduceAdd, List.setIfInBounds_toArray, List.set_cons_succ, List.set_cons_zero, e0, e1, e2, e3, e4, e5, e6, e7, e8, e9, e10, e11, e12, e13, e14, e15, e16, e17, e18, e19, e20, e21, e22, e23, e24, e25, e32, e33]
              clear hv7 e0 e1 e2 e3 e4 e5 e6 e7 e8 e9 e10 e11 e12 e13 e14 e15 e16 e17 e18 e19 e20 e21 e22 e23 e24 e25 e32 e33
              go_wp2_with fail
              go_roundw
              case rel => exact ⟨k + 1, by omega, by go_num, (hE5.trans hE6).trans hE7⟩
              case measure => simp [intOf]; omega
          · skip
            have hv : treesB LA LC = false := by rw [htb]; simp [b3]
            rw [hv]
            rw [(trees_none hv).1] at rP
            rw [(trees_none hv).2] at rQ
            obtain rfl : n9 = 0 := rP.len.symm
            obtain rfl : m9 = 0 := rQ.len.symm
            clear hv htb hnP
            go_upto_region 6 with (fail)
            refine par_ext (n := 27) (by kernel_rfl) [.is (.slice (PA) (qa) (da)), .is (.int .i64 ((qa : Nat))), .is (.bool (true)), .is (.bool (true)), .is (.slice (PA) (qa) (da)), .is (.int .i64 ((qa : Nat))), .is (.slice (C) (nc) (cc)), .is (.int .i64 ((nc : Nat))), .is (.bool (true)), .is (.bool (true)), .is (.bool (true)), .is (.slice (PA) (qa) (da)), .rws (qa) (LA.map leafH), .rk (32) (rootL (LA.map leafH)), .is (.string (str (rootL (LA.map leafH)))), .is (.slice (C) (nc) (cc)), .rws (nc) (LC.map leafH), .rk (32) (rootL (LC.map leafH)), .is (.string (str (rootL (LC.map leafH)))), .is (.bool (false)), .is (.bool (false)), .is (.bool (false)), .is undef, .is undef, .is undef, .is undef, .is (.bool (false))] rfl ⟨?_, ?_, ?_, ?_, ?_, ?_, ?_, ?_, ?_, ?_, ?_, ?_, ?_, ?_, ?_, ?_, ?_, ?_, ?_, ?_, ?_, ?_, ?_, ?_, ?_, ?_, ?_, trivial⟩ ?_
            · refine stepE rfl fun sdn sa sw sE sd sk => ?_
              have h0 : sa.eval (.tmp 0) = .slice (PA) (qa) (da) := sk.old 0 rfl
              exact Runs.move rfl h0 ⟨Ext.refl _, rfl⟩
            · refine stepE rfl fun sdn sa sw sE sd sk => ?_
              have h45 : sa.eval (.tmp 45) = .slice (PA) (qa) (da) := sk.fact 0 45 rfl (sd 0 rfl)
              exact Runs.len Try.underlying23 rfl h45 ⟨Ext.refl _, rfl⟩
            · refine stepE rfl fun sdn sa sw sE sd sk => ?_
              have h46 : sa.eval (.tmp 46) = .int .i64 ((qa : Nat)) := sk.fact 1 46 rfl (sd 1 rfl)
              exact Runs.bin rfl h46 rfl (by rfl) (bin_gtr _ _ _ _) ⟨Ext.refl _, congrArg Value.bool (b1)⟩
            · refine stepE rfl fun sdn sa sw sE sd sk => ?_
              have h47 : sa.eval (.tmp 47) = .bool (true) := sk.fact 2 47 rfl (sd 2 rfl)
              exact Runs.move rfl h47 ⟨Ext.refl _, rfl⟩
            · refine stepY (j := 3) (d := 48) (b := true) rfl rfl rfl (fun v w h => h) fun sdn sa sw sE sd sk => ?_
              have h0 : sa.eval (.tmp 0) = .slice (PA) (qa) (da) := sk.old 0 rfl
              exact Runs.move rfl h0 ⟨Ext.refl _, rfl⟩
            · refine stepY (j := 3) (d := 48) (b := true) rfl rfl rfl (fun v w h => h) fun sdn sa sw sE sd sk => ?_
              have h49 : sa.eval (.tmp 49) = .slice (PA) (qa) (da) := sk.fact 4 49 rfl (sd 4 rfl)
              exact Runs.len Try.underlying23 rfl h49 ⟨Ext.refl _, rfl⟩
            · refine stepY (j := 3) (d := 48) (b := true) rfl rfl rfl (fun v w h => h) fun sdn sa sw sE sd sk => ?_
              have h8 : sa.eval (.tmp 8) = .slice (C) (nc) (cc) := sk.old 8 rfl
              exact Runs.move rfl h8 ⟨Ext.refl _, rfl⟩
            · refine stepY (j := 3) (d := 48) (b := true) rfl rfl rfl (fun v w h => h) fun sdn sa sw sE sd sk => ?_
              have h51 : sa.eval (.tmp 51) = .slice (C) (nc) (cc) := sk.fact 6 51 rfl (sd 6 rfl)
              exact Runs.len Try.underlying23 rfl h51 ⟨Ext.refl _, rfl⟩
            · refine stepY (j := 3) (d := 48) (b := true) rfl rfl rfl (fun v w h => h) fun sdn sa sw sE sd sk => ?_
              have h50 : sa.eval (.tmp 50) = .int .i64 ((qa : Nat)) := sk.fact 5 50 rfl (sd 5 rfl)
              have h52 : sa.eval (.tmp 52) = .int .i64 ((nc : Nat)) := sk.fact 7 52 rfl (sd 7 rfl)
              exact Runs.bin rfl h50 h52 (by rfl) (bin_eql _ _ _ _) ⟨Ext.refl _, congrArg Value.bool (b2)⟩
            · refine stepE rfl fun sdn sa sw sE sd sk => ?_
              have h48 : sa.eval (.tmp 48) = .bool (true) := sk.fact 3 48 rfl (sd 3 rfl)
              have h53 : sa.eval (.tmp 53) = .bool (true) := sk.fact 8 53 rfl (sd 8 rfl)
              exact Runs.pick rfl h48 ⟨Ext.refl _, by first | exact h53 | simpa using h53⟩
            · refine stepE rfl fun sdn sa sw sE sd sk => ?_
              have h54 : sa.eval (.tmp 54) = .bool (true) := sk.fact 9 54 rfl (sd 9 rfl)
              exact Runs.move rfl h54 ⟨Ext.refl _, rfl⟩
            · refine stepY (j := 10) (d := 55) (b := true) rfl rfl rfl (fun v w h => h) fun sdn sa sw sE sd sk => ?_
              have h0 : sa.eval (.tmp 0) = .slice (PA) (qa) (da) := sk.old 0 rfl
              exact Runs.move rfl h0 ⟨Ext.refl _, rfl⟩
            · refine stepY (j := 10) (d := 55) (b := true) rfl rfl rfl (fun v w h => h) fun sdn sa sw sE sd sk => ?_
              have h56 : sa.eval (.tmp 56) = .slice (PA) (qa) (da) := sk.fact 11 56 rfl (sd 11 rfl)
              refine Runs.call (f := 20) (vs := [.slice (PA) (qa) (da)]) rfl rfl rfl (by simp only [List.map_toArray, List.map_cons, List.map_nil, h56] <;> rfl) (ent20 _ _) ((r6leaves_any _ _ _ _ sw (rA.ext sE) (by omega) hlA).mono ?_); rintro e w' ⟨P', d', rfl, own, hx⟩; exact ⟨_, rfl, hx, _, _, rfl, own.rbb⟩
            · refine stepY (j := 10) (d := 55) (b := true) rfl rfl rfl (fun v w h => h) fun sdn sa sw sE sd sk => ?_
              obtain ⟨A57, c57, h57, r57⟩ := sk.fact 12 57 rfl (sd 12 rfl)
              refine Runs.call (f := 19) (vs := [.slice (A57) (qa) (c57)]) rfl rfl rfl (by simp only [List.map_toArray, List.map_cons, List.map_nil, h57] <;> rfl) (ent19 _ _) ((r6root_any _ _ _ _ sw (by omega) r57 (leaf_len _)).mono ?_); rintro e w' ⟨A', c', rfl, own, hx⟩; exact ⟨_, rfl, hx, _, _, rfl, own⟩
            · refine stepY (j := 10) (d := 55) (b := true) rfl rfl rfl (fun v w h => h) fun sdn sa sw sE sd sk => ?_
              obtain ⟨A58, c58, h58, r58⟩ := sk.fact 13 58 rfl (sd 13 rfl)
              exact Runs.conv rfl h58 (run_str r58) ⟨Ext.refl _, rfl⟩
            · refine stepY (j := 10) (d := 55) (b := true) rfl rfl rfl (fun v w h => h) fun sdn sa sw sE sd sk => ?_
              have h8 : sa.eval (.tmp 8) = .slice (C) (nc) (cc) := sk.old 8 rfl
              exact Runs.move rfl h8 ⟨Ext.refl _, rfl⟩
            · refine stepY (j := 10) (d := 55) (b := true) rfl rfl rfl (fun v w h => h) fun sdn sa sw sE sd sk => ?_
              have h60 : sa.eval (.tmp 60) = .slice (C) (nc) (cc) := sk.fact 15 60 rfl (sd 15 rfl)
              refine Runs.call (f := 20) (vs := [.slice (C) (nc) (cc)]) rfl rfl rfl (by simp only [List.map_toArray, List.map_cons, List.map_nil, h60] <;> rfl) (ent20 _ _) ((r6leaves_any _ _ _ _ sw (rC.ext sE) (by omega) hlC).mono ?_); rintro e w' ⟨P', d', rfl, own, hx⟩; exact ⟨_, rfl, hx, _, _, rfl, own.rbb⟩
            · refine stepY (j := 10) (d := 55) (b := true) rfl rfl rfl (fun v w h => h) fun sdn sa sw sE sd sk => ?_
              obtain ⟨A61, c61, h61, r61⟩ := sk.fact 16 61 rfl (sd 16 rfl)
              refine Runs.call (f := 19) (vs := [.slice (A61) (nc) (c61)]) rfl rfl rfl (by simp only [List.map_toArray, List.map_cons, List.map_nil, h61] <;> rfl) (ent19 _ _) ((r6root_any _ _ _ _ sw (by omega) r61 (leaf_len _)).mono ?_); rintro e w' ⟨A', c', rfl, own, hx⟩; exact ⟨_, rfl, hx, _, _, rfl, own⟩
            · refine stepY (j := 10) (d := 55) (b := true) rfl rfl rfl (fun v w h => h) fun sdn sa sw sE sd sk => ?_
              obtain ⟨A62, c62, h62, r62⟩ := sk.fact 17 62 rfl (sd 17 rfl)
              exact Runs.conv rfl h62 (run_str r62) ⟨Ext.refl _, rfl⟩
            · refine stepY (j := 10) (d := 55) (b := true) rfl rfl rfl (fun v w h => h) fun sdn sa sw sE sd sk => ?_
              have h59 : sa.eval (.tmp 59) = .string (str (rootL (LA.map leafH))) := sk.fact 14 59 rfl (sd 14 rfl)
              have h63 : sa.eval (.tmp 63) = .string (str (rootL (LC.map leafH))) := sk.fact 18 63 rfl (sd 18 rfl)
              exact Runs.bin rfl h59 h63 (by rfl) (bin_eqs _ _ _) ⟨Ext.refl _, congrArg Value.bool (by simp [b3])⟩
            · refine stepE rfl fun sdn sa sw sE sd sk => ?_
              have h55 : sa.eval (.tmp 55) = .bool (true) := sk.fact 10 55 rfl (sd 10 rfl)
              have h64 : sa.eval (.tmp 64) = .bool (false) := sk.fact 19 64 rfl (sd 19 rfl)
              exact Runs.pick rfl h55 ⟨Ext.refl _, by first | exact h64 | simpa using h64⟩
            · refine stepE rfl fun sdn sa sw sE sd sk => ?_
              have h65 : sa.eval (.tmp 65) = .bool (false) := sk.fact 20 65 rfl (sd 20 rfl)
              exact Runs.move rfl h65 ⟨Ext.refl _, rfl⟩
            · exact stepN (j := 21) (d := 66) (b := false) rfl rfl rfl (fun v w h => h) fun w => rfl
            · exact stepN (j := 21) (d := 66) (b := false) rfl rfl rfl (fun v w h => h) fun w => rfl
            · exact stepN (j := 21) (d := 66) (b := false) rfl rfl rfl (fun v w h => h) fun w => rfl
            · exact stepN (j := 21) (d := 66) (b := false) rfl rfl rfl (fun v w h => h) fun w => rfl
            · refine stepE rfl fun sdn sa sw sE sd sk => ?_
              have h66 : sa.eval (.tmp 66) = .bool (false) := sk.fact 21 66 rfl (sd 21 rfl)
              exact Runs.pick rfl h66 ⟨Ext.refl _, rfl⟩
            intro vals W6 hE6 hv6
            have e0 : vals 0 = .slice (PA) (qa) (da) := hv6 0 (by omega) 45 rfl
            have e1 : vals 1 = .int .i64 ((qa : Nat)) := hv6 1 (by omega) 46 rfl
            have e2 : vals 2 = .bool (true) := hv6 2 (by omega) 47 rfl
            have e3 : vals 3 = .bool (true) := hv6 3 (by omega) 48 rfl
            have e4 : vals 4 = .slice (PA) (qa) (da) := hv6 4 (by omega) 49 rfl
            have e5 : vals 5 = .int .i64 ((qa : Nat)) := hv6 5 (by omega) 50 rfl
            have e6 : vals 6 = .slice (C) (nc) (cc) := hv6 6 (by omega) 51 rfl
            have e7 : vals 7 = .int .i64 ((nc : Nat)) := hv6 7 (by omega) 52 rfl
            have e8 : vals 8 = .bool (true) := hv6 8 (by omega) 53 rfl
            have e9 : vals 9 = .bool (true) := hv6 9 (by omega) 54 rfl
            have e10 : vals 10 = .bool (true) := hv6 10 (by omega) 55 rfl
            have e11 : vals 11 = .slice (PA) (qa) (da) := hv6 11 (by omega) 56 rfl
            obtain ⟨A57, c57, e12, r57⟩ := hv6 12 (by omega) 57 rfl
            obtain ⟨A58, c58, e13, r58⟩ := hv6 13 (by omega) 58 rfl
            have e14 : vals 14 = .string (str (rootL (LA.map leafH))) := hv6 14 (by omega) 59 rfl
            have e15 : vals 15 = .slice (C) (nc) (cc) := hv6 15 (by omega) 60 rfl
            obtain ⟨A61, c61, e16, r61⟩ := hv6 16 (by omega) 61 rfl
            obtain ⟨A62, c62, e17, r62⟩ := hv6 17 (by omega) 62 rfl
            have e18 : vals 18 = .string (str (rootL (LC.map leafH))) := hv6 18 (by omega) 63 rfl
            have e19 : vals 19 = .bool (false) := hv6 19 (by omega) 64 rfl
            have e20 : vals 20 = .bool (false) := hv6 20 (by omega) 65 rfl
            have e21 : vals 21 = .bool (false) := hv6 21 (by omega) 66 rfl
            have e26 : vals 26 = .bool (false) := hv6 26 (by omega) 71 rfl
            simp only [putAll, Act.put, List.take_succ_cons, List.take_zero, List.drop_succ_cons, List.drop_zero, List.drop_nil, List.take_nil, Nat.reduceAdd, List.setIfInBounds_toArray, List.set_cons_succ, List.set_cons_zero, e0, e1, e2, e3, e4, e5, e6, e7, e8, e9, e10, e11, e12, e13, e14, e15, e16, e17, e18, e19, e20, e21, e26]
            clear hv6 e0 e1 e2 e3 e4 e5 e6 e7 e8 e9 e10 e11 e12 e13 e14 e15 e16 e17 e18 e19 e20 e21 e26
            replace rP := rP.ext hE6
            replace rQ := rQ.ext hE6
            go_upto_region 7 with (fail)
            refine par_ext (n := 34) (by kernel_rfl) [.is (.bool (false)), .is (.bool (false)), .is (.bool (false)), .is (.bool (false)), .is (.bool (false)), .is (.bool (false)), .is undef, .is undef, .is undef, .is undef, .is undef, .is undef, .is undef, .is undef, .is undef, .is undef, .is undef, .is undef, .is undef, .is undef, .is (.bool (false)), .is (.bool (false)), .is (.bool (false)), .is (.bool (false)), .is (.bool (true)), .is (.bool (true)), .is (.slice (A9) (0) (c9)), .is (.int .i64 ((0 : Nat))), .is (.slice (B9) (0) (d9)), .is (.int .i64 ((0 : Nat))), .is (.int .i64 ((0 : Nat) + (0 : Nat))), .is (.bool (decide ((0 : Nat) + (0 : Nat) ≠ (0 : Int)))), .is (.bool (decide ((0 : Nat) + (0 : Nat) ≠ (0 : Int)))), .is (.bool (decide ((0 : Nat) + (0 : Nat) ≠ (0 : Int)))), .is (.bool (false)), .is (.bool (false)), .is (.bool (false)), .is (.bool (false)), .is (.bool (false)), .is (.bool (false)), .is undef, .is undef, .is undef, .is undef, .is undef, .is undef, .is undef, .is undef, .is undef, .is undef, .is undef, .is undef, .is undef, .is undef, .is (.bool (false)), .is (.bool (false)), .is (.bool (false)), .is (.bool (false)), .is (.bool (true)), .is (.bool (true)), .is (.slice (A9) (0) (c9)), .is (.int .i64 ((0 : Nat))), .is (.slice (B9) (0) (d9)), .is (.int .i64 ((0 : Nat))), .is (.int .i64 ((0 : Nat) + (0 : Nat))), .is (.bool (decide ((0 : Nat) + (0 : Nat) ≠ (0 : Int)))), .is (.bool (decide ((0 : Nat) + (0 : Nat) ≠ (0 : Int)))), .is (.bool (decide ((0 : Nat) + (0 : Nat) ≠ (0 : Int)))), .is (.bool (false)), .is (.bool (false)), .is (.bool (false)), .is (.bool (false)), .is (.bool (false)), .is (.bool (false)), .is undef, .is undef, .is undef, .is undef, .is undef, .is undef, .is undef, .is undef, .is undef, .is undef, .is undef, .is undef, .is undef, .is undef, .is (.bool (false)), .is (.bool (false)), .is (.bool (false)), .is (.bool (false)), .is (.bool (true)), .is (.bool (true)), .is (.slice (A9) (0) (c9)), .is (.int .i64 ((0 : Nat))), .is (.slice (B9) (0) (d9)), .is (.int .i64 ((0 : Nat))), .is (.int .i64 ((0 : Nat) + (0 : Nat))), .is (.bool (decide ((0 : Nat) + (0 : Nat) ≠ (0 : Int)))), .is (.bool (decide ((0 : Nat) + (0 : Nat) ≠ (0 : Int)))), .is (.bool (decide ((0 : Nat) + (0 : Nat) ≠ (0 : Int))))] rfl ⟨?_, ?_, ?_, ?_, ?_, ?_, ?_, ?_, ?_, ?_, ?_, ?_, ?_, ?_, ?_, ?_, ?_, ?_, ?_, ?_, ?_, ?_, ?_, ?_, ?_, ?_, ?_, ?_, ?_, ?_, ?_, ?_, ?_, ?_, trivial⟩ ?_
            · refine stepE rfl fun sdn sa sw sE sd sk => ?_
              have h11 : sa.eval (.tmp 11) = .bool (false) := sk.old 11 rfl
              exact Runs.move rfl h11 ⟨Ext.refl _, rfl⟩
            · refine stepE rfl fun sdn sa sw sE sd sk => ?_
              have h12 : sa.eval (.tmp 12) = .bool (false) := sk.old 12 rfl
              exact Runs.move rfl h12 ⟨Ext.refl _, rfl⟩
            · refine stepE rfl fun sdn sa sw sE sd sk => ?_
              have h72 : sa.eval (.tmp 72) = .bool (false) := sk.fact 0 72 rfl (sd 0 rfl)
              have h73 : sa.eval (.tmp 73) = .bool (false) := sk.fact 1 73 rfl (sd 1 rfl)
              exact Runs.bin rfl h72 h73 (by rfl) (bin_neb _ _) ⟨Ext.refl _, congrArg Value.bool (by decide)⟩
            · refine stepE rfl fun sdn sa sw sE sd sk => ?_
              have h74 : sa.eval (.tmp 74) = .bool (false) := sk.fact 2 74 rfl (sd 2 rfl)
              exact Runs.move rfl h74 ⟨Ext.refl _, rfl⟩
            · refine stepY (j := 3) (d := 75) (b := false) rfl rfl rfl (fun v w h => h) fun sdn sa sw sE sd sk => ?_
              have h11 : sa.eval (.tmp 11) = .bool (false) := sk.old 11 rfl
              exact Runs.move rfl h11 ⟨Ext.refl _, rfl⟩
            · refine stepY (j := 3) (d := 75) (b := false) rfl rfl rfl (fun v w h => h) fun sdn sa sw sE sd sk => ?_
              have h76 : sa.eval (.tmp 76) = .bool (false) := sk.fact 4 76 rfl (sd 4 rfl)
              exact Runs.move rfl h76 ⟨Ext.refl _, rfl⟩
            · exact stepN (j := 5) (d := 77) (b := false) rfl rfl rfl (fun v w h => h) fun w => rfl
            · exact stepN (j := 5) (d := 77) (b := false) rfl rfl rfl (fun v w h => h) fun w => rfl
            · exact stepN (j := 5) (d := 77) (b := false) rfl rfl rfl (fun v w h => h) fun w => rfl
            · exact stepN (j := 5) (d := 77) (b := false) rfl rfl rfl (fun v w h => h) fun w => rfl
            · exact stepN (j := 5) (d := 77) (b := false) rfl rfl rfl (fun v w h => h) fun w => rfl
            · exact stepN (j := 5) (d := 77) (b := false) rfl rfl rfl (fun v w h => h) fun w => rfl
            · exact stepU (j := 11) (d := 83) (b := false) rfl rfl rfl (fun v w h => h) fun w => rfl
            · exact stepU (j := 11) (d := 83) (b := false) rfl rfl rfl (fun v w h => h) fun w => rfl
            · exact stepU (j := 11) (d := 83) (b := false) rfl rfl rfl (fun v w h => h) fun w => rfl
            · exact stepU (j := 11) (d := 83) (b := false) rfl rfl rfl (fun v w h => h) fun w => rfl
            · exact stepU (j := 11) (d := 83) (b := false) rfl rfl rfl (fun v w h => h) fun w => rfl
            · exact stepU (j := 11) (d := 83) (b := false) rfl rfl rfl (fun v w h => h) fun w => rfl
            · exact stepU (j := 11) (d := 83) (b := false) rfl rfl rfl (fun v w h => h) fun w => rfl
            · exact stepN (j := 5) (d := 77) (b := false) rfl rfl rfl (fun v w h => h) fun w => rfl
            · refine stepY (j := 3) (d := 75) (b := false) rfl rfl rfl (fun v w h => h) fun sdn sa sw sE sd sk => ?_
              have h77 : sa.eval (.tmp 77) = .bool (false) := sk.fact 5 77 rfl (sd 5 rfl)
              exact Runs.pick rfl h77 ⟨Ext.refl _, rfl⟩
            · refine stepE rfl fun sdn sa sw sE sd sk => ?_
              have h75 : sa.eval (.tmp 75) = .bool (false) := sk.fact 3 75 rfl (sd 3 rfl)
              have h92 : sa.eval (.tmp 92) = .bool (false) := sk.fact 20 92 rfl (sd 20 rfl)
              exact Runs.pick rfl h75 ⟨Ext.refl _, by first | exact h92 | simpa using h92⟩
            · refine stepE rfl fun sdn sa sw sE sd sk => ?_
              have h93 : sa.eval (.tmp 93) = .bool (false) := sk.fact 21 93 rfl (sd 21 rfl)
              exact Runs.move rfl h93 ⟨Ext.refl _, rfl⟩
            · refine stepY (j := 22) (d := 94) (b := false) rfl rfl rfl (fun v w h => h) fun sdn sa sw sE sd sk => ?_
              have h11 : sa.eval (.tmp 11) = .bool (false) := sk.old 11 rfl
              exact Runs.move rfl h11 ⟨Ext.refl _, rfl⟩
            · refine stepY (j := 22) (d := 94) (b := false) rfl rfl rfl (fun v w h => h) fun sdn sa sw sE sd sk => ?_
              have h95 : sa.eval (.tmp 95) = .bool (false) := sk.fact 23 95 rfl (sd 23 rfl)
              exact Runs.un rfl h95 (by rfl) ⟨Ext.refl _, rfl⟩
            · refine stepY (j := 22) (d := 94) (b := false) rfl rfl rfl (fun v w h => h) fun sdn sa sw sE sd sk => ?_
              have h96 : sa.eval (.tmp 96) = .bool (true) := sk.fact 24 96 rfl (sd 24 rfl)
              exact Runs.move rfl h96 ⟨Ext.refl _, rfl⟩
            · refine stepY (j := 25) (d := 97) (b := true) rfl rfl rfl (fun v w h => h) fun sdn sa sw sE sd sk => ?_
              have h9 : sa.eval (.tmp 9) = .slice (A9) (0) (c9) := sk.old 9 rfl
              exact Runs.move rfl h9 ⟨Ext.refl _, rfl⟩
            · refine stepY (j := 25) (d := 97) (b := true) rfl rfl rfl (fun v w h => h) fun sdn sa sw sE sd sk => ?_
              have h98 : sa.eval (.tmp 98) = .slice (A9) (0) (c9) := sk.fact 26 98 rfl (sd 26 rfl)
              exact Runs.len Try.underlying22 rfl h98 ⟨Ext.refl _, rfl⟩
            · refine stepY (j := 25) (d := 97) (b := true) rfl rfl rfl (fun v w h => h) fun sdn sa sw sE sd sk => ?_
              have h10 : sa.eval (.tmp 10) = .slice (B9) (0) (d9) := sk.old 10 rfl
              exact Runs.move rfl h10 ⟨Ext.refl _, rfl⟩
            · refine stepY (j := 25) (d := 97) (b := true) rfl rfl rfl (fun v w h => h) fun sdn sa sw sE sd sk => ?_
              have h100 : sa.eval (.tmp 100) = .slice (B9) (0) (d9) := sk.fact 28 100 rfl (sd 28 rfl)
              exact Runs.len Try.underlying22 rfl h100 ⟨Ext.refl _, rfl⟩
            · refine stepY (j := 25) (d := 97) (b := true) rfl rfl rfl (fun v w h => h) fun sdn sa sw sE sd sk => ?_
              have h99 : sa.eval (.tmp 99) = .int .i64 ((0 : Nat)) := sk.fact 27 99 rfl (sd 27 rfl)
              have h101 : sa.eval (.tmp 101) = .int .i64 ((0 : Nat)) := sk.fact 29 101 rfl (sd 29 rfl)
              exact Runs.bin rfl h99 h101 (eqGuard_bin rfl) (bin_add64 _ _ _ (by omega) (by omega)) ⟨Ext.refl _, rfl⟩
            · refine stepY (j := 25) (d := 97) (b := true) rfl rfl rfl (fun v w h => h) fun sdn sa sw sE sd sk => ?_
              have h102 : sa.eval (.tmp 102) = .int .i64 ((0 : Nat) + (0 : Nat)) := sk.fact 30 102 rfl (sd 30 rfl)
              exact Runs.bin rfl h102 rfl (by rfl) (bin_neq _ _ _ _) ⟨Ext.refl _, rfl⟩
            · refine stepY (j := 22) (d := 94) (b := false) rfl rfl rfl (fun v w h => h) fun sdn sa sw sE sd sk => ?_
              have h97 : sa.eval (.tmp 97) = .bool (true) := sk.fact 25 97 rfl (sd 25 rfl)
              have h103 : sa.eval (.tmp 103) = .bool (decide ((0 : Nat) + (0 : Nat) ≠ (0 : Int))) := sk.fact 31 103 rfl (sd 31 rfl)
              exact Runs.pick rfl h97 ⟨Ext.refl _, by first | exact h103 | simpa using h103⟩
            · refine stepE rfl fun sdn sa sw sE sd sk => ?_
              have h94 : sa.eval (.tmp 94) = .bool (false) := sk.fact 22 94 rfl (sd 22 rfl)
              have h104 : sa.eval (.tmp 104) = .bool (decide ((0 : Nat) + (0 : Nat) ≠ (0 : Int))) := sk.fact 32 104 rfl (sd 32 rfl)
              exact Runs.pick rfl h94 ⟨Ext.refl _, by first | exact h104 | simpa using h104⟩
            intro vals W7 hE7 hv7
            have e0 : vals 0 = .bool (false) := hv7 0 (by omega) 72 rfl
            have e1 : vals 1 = .bool (false) := hv7 1 (by omega) 73 rfl
            have e2 : vals 2 = .bool (false) := hv7 2 (by omega) 74 rfl
            have e3 : vals 3 = .bool (false) := hv7 3 (by omega) 75 rfl
            have e4 : vals 4 = .bool (false) := hv7 4 (by omega) 76 rfl
            have e5 : vals 5 = .bool (false) := hv7 5 (by omega) 77 rfl
            have e20 : vals 20 = .bool (false) := hv7 20 (by omega) 92 rfl
            have e21 : vals 21 = .bool (false) := hv7 21 (by omega) 93 rfl
            have e22 : vals 22 = .bool (false) := hv7 22 (by omega) 94 rfl
            have e23 : vals 23 = .bool (false) := hv7 23 (by omega) 95 rfl
            have e24 : vals 24 = .bool (true) := hv7 24 (by omega) 96 rfl
            have e25 : vals 25 = .bool (true) := hv7 25 (by omega) 97 rfl
            have e26 : vals 26 = .slice (A9) (0) (c9) := hv7 26 (by omega) 98 rfl
            have e27 : vals 27 = .int .i64 ((0 : Nat)) := hv7 27 (by omega) 99 rfl
            have e28 : vals 28 = .slice (B9) (0) (d9) := hv7 28 (by omega) 100 rfl
            have e29 : vals 29 = .int .i64 ((0 : Nat)) := hv7 29 (by omega) 101 rfl
            have e30 : vals 30 = .int .i64 ((0 : Nat) + (0 : Nat)) := hv7 30 (by omega) 102 rfl
            have e31 : vals 31 = .bool (decide ((0 : Nat) + (0 : Nat) ≠ (0 : Int))) := hv7 31 (by omega) 103 rfl
            have e32 : vals 32 = .bool (decide ((0 : Nat) + (0 : Nat) ≠ (0 : Int))) := hv7 32 (by omega) 104 rfl
            have e33 : vals 33 = .bool (decide ((0 : Nat) + (0 : Nat) ≠ (0 : Int))) := hv7 33 (by omega) 105 rfl
            simp only [putAll, Act.put, List.take_succ_cons, List.take_zero, List.drop_succ_cons, List.drop_zero, List.drop_nil, List.take_nil, Nat.reduceAdd, List.setIfInBounds_toArray, List.set_cons_succ, List.set_cons_zero, e0, e1, e2, e3, e4, e5, e20, e21, e22, e23, e24, e25, e26, e27, e28, e29, e30, e31, e32, e33]
            clear hv7 e0 e1 e2 e3 e4 e5 e20 e21 e22 e23 e24 e25 e26 e27 e28 e29 e30 e31 e32 e33
            go_wp2_with fail
            go_roundw
            case rel => exact ⟨k + 1, by omega, by go_num, (hE5.trans hE6).trans hE7⟩
            case measure => simp [intOf]; omega
        · have b2 : decide (((qa : Nat) : Int) = ((nc : Nat) : Int)) = false := decide_eq_false (by omega)
          have C2 := Lib.hid c2
          clear c2
          have hv : treesB LA LC = false := by rw [htb]; simp [C2.out, HqA.out, hcl0]
          rw [hv]
          rw [(trees_none hv).1] at rP
          rw [(trees_none hv).2] at rQ
          obtain rfl : n9 = 0 := rP.len.symm
          obtain rfl : m9 = 0 := rQ.len.symm
          clear hv htb hnP
          go_upto_region 6 with (fail)
          refine par_ext (n := 27) (by kernel_rfl) [.is (.slice (PA) (qa) (da)), .is (.int .i64 ((qa : Nat))), .is (.bool (true)), .is (.bool (true)), .is (.slice (PA) (qa) (da)), .is (.int .i64 ((qa : Nat))), .is (.slice (C) (nc) (cc)), .is (.int .i64 ((nc : Nat))), .is (.bool (false)), .is (.bool (false)), .is (.bool (false)), .is undef, .is undef, .is undef, .is undef, .is undef, .is undef, .is undef, .is undef, .is undef, .is (.bool (false)), .is (.bool (false)), .is undef, .is undef, .is undef, .is undef, .is (.bool (false))] rfl ⟨?_, ?_, ?_, ?_, ?_, ?_, ?_, ?_, ?_, ?_, ?_, ?_, ?_, ?_, ?_, ?_, ?_, ?_, ?_, ?_, ?_, ?_, ?_, ?_, ?_, ?_, ?_, trivial⟩ ?_
          · refine stepE rfl fun sdn sa sw sE sd sk => ?_
            have h0 : sa.eval (.tmp 0) = .slice (PA) (qa) (da) := sk.old 0 rfl
            exact Runs.move rfl h0 ⟨Ext.refl _, rfl⟩
          · refine stepE rfl fun sdn sa sw sE sd sk => ?_
            have h45 : sa.eval (.tmp 45) = .slice (PA) (qa) (da) := sk.fact 0 45 rfl (sd 0 rfl)
            exact Runs.len Try.underlying23 rfl h45 ⟨Ext.refl _, rfl⟩
          · refine stepE rfl fun sdn sa sw sE sd sk => ?_
            have h46 : sa.eval (.tmp 46) = .int .i64 ((qa : Nat)) := sk.fact 1 46 rfl (sd 1 rfl)
            exact Runs.bin rfl h46 rfl (by rfl) (bin_gtr _ _ _ _) ⟨Ext.refl _, congrArg Value.bool (b1)⟩
          · refine stepE rfl fun sdn sa sw sE sd sk => ?_
            have h47 : sa.eval (.tmp 47) = .bool (true) := sk.fact 2 47 rfl (sd 2 rfl)
            exact Runs.move rfl h47 ⟨Ext.refl _, rfl⟩
          · refine stepY (j := 3) (d := 48) (b := true) rfl rfl rfl (fun v w h => h) fun sdn sa sw sE sd sk => ?_
            have h0 : sa.eval (.tmp 0) = .slice (PA) (qa) (da) := sk.old 0 rfl
            exact Runs.move rfl h0 ⟨Ext.refl _, rfl⟩
          · refine stepY (j := 3) (d := 48) (b := true) rfl rfl rfl (fun v w h => h) fun sdn sa sw sE sd sk => ?_
            have h49 : sa.eval (.tmp 49) = .slice (PA) (qa) (da) := sk.fact 4 49 rfl (sd 4 rfl)
            exact Runs.len Try.underlying23 rfl h49 ⟨Ext.refl _, rfl⟩
          · refine stepY (j := 3) (d := 48) (b := true) rfl rfl rfl (fun v w h => h) fun sdn sa sw sE sd sk => ?_
            have h8 : sa.eval (.tmp 8) = .slice (C) (nc) (cc) := sk.old 8 rfl
            exact Runs.move rfl h8 ⟨Ext.refl _, rfl⟩
          · refine stepY (j := 3) (d := 48) (b := true) rfl rfl rfl (fun v w h => h) fun sdn sa sw sE sd sk => ?_
            have h51 : sa.eval (.tmp 51) = .slice (C) (nc) (cc) := sk.fact 6 51 rfl (sd 6 rfl)
            exact Runs.len Try.underlying23 rfl h51 ⟨Ext.refl _, rfl⟩
          · refine stepY (j := 3) (d := 48) (b := true) rfl rfl rfl (fun v w h => h) fun sdn sa sw sE sd sk => ?_
            have h50 : sa.eval (.tmp 50) = .int .i64 ((qa : Nat)) := sk.fact 5 50 rfl (sd 5 rfl)
            have h52 : sa.eval (.tmp 52) = .int .i64 ((nc : Nat)) := sk.fact 7 52 rfl (sd 7 rfl)
            exact Runs.bin rfl h50 h52 (by rfl) (bin_eql _ _ _ _) ⟨Ext.refl _, congrArg Value.bool (b2)⟩
          · refine stepE rfl fun sdn sa sw sE sd sk => ?_
            have h48 : sa.eval (.tmp 48) = .bool (true) := sk.fact 3 48 rfl (sd 3 rfl)
            have h53 : sa.eval (.tmp 53) = .bool (false) := sk.fact 8 53 rfl (sd 8 rfl)
            exact Runs.pick rfl h48 ⟨Ext.refl _, by first | exact h53 | simpa using h53⟩
          · refine stepE rfl fun sdn sa sw sE sd sk => ?_
            have h54 : sa.eval (.tmp 54) = .bool (false) := sk.fact 9 54 rfl (sd 9 rfl)
            exact Runs.move rfl h54 ⟨Ext.refl _, rfl⟩
          · exact stepN (j := 10) (d := 55) (b := false) rfl rfl rfl (fun v w h => h) fun w => rfl
          · exact stepN (j := 10) (d := 55) (b := false) rfl rfl rfl (fun v w h => h) fun w => rfl
          · exact stepN (j := 10) (d := 55) (b := false) rfl rfl rfl (fun v w h => h) fun w => rfl
          · exact stepN (j := 10) (d := 55) (b := false) rfl rfl rfl (fun v w h => h) fun w => rfl
          · exact stepN (j := 10) (d := 55) (b := false) rfl rfl rfl (fun v w h => h) fun w => rfl
          · exact stepN (j := 10) (d := 55) (b := false) rfl rfl rfl (fun v w h => h) fun w => rfl
          · exact stepN (j := 10) (d := 55) (b := false) rfl rfl rfl (fun v w h => h) fun w => rfl
          · exact stepN (j := 10) (d := 55) (b := false) rfl rfl rfl (fun v w h => h) fun w => rfl
          · exact stepN (j := 10) (d := 55) (b := false) rfl rfl rfl (fun v w h => h) fun w => rfl
          · refine stepE rfl fun sdn sa sw sE sd sk => ?_
            have h55 : sa.eval (.tmp 55) = .bool (false) := sk.fact 10 55 rfl (sd 10 rfl)
            exact Runs.pick rfl h55 ⟨Ext.refl _, rfl⟩
          · refine stepE rfl fun sdn sa sw sE sd sk => ?_
            have h65 : sa.eval (.tmp 65) = .bool (false) := sk.fact 20 65 rfl (sd 20 rfl)
            exact Runs.move rfl h65 ⟨Ext.refl _, rfl⟩
          · exact stepN (j := 21) (d := 66) (b := false) rfl rfl rfl (fun v w h => h) fun w => rfl
          · exact stepN (j := 21) (d := 66) (b := false) rfl rfl rfl (fun v w h => h) fun w => rfl
          · exact stepN (j := 21) (d := 66) (b := false) rfl rfl rfl (fun v w h => h) fun w => rfl
          · exact stepN (j := 21) (d := 66) (b := false) rfl rfl rfl (fun v w h => h) fun w => rfl
          · refine stepE rfl fun sdn sa sw sE sd sk => ?_
            have h66 : sa.eval (.tmp 66) = .bool (false) := sk.fact 21 66 rfl (sd 21 rfl)
            exact Runs.pick rfl h66 ⟨Ext.refl _, rfl⟩
          intro vals W6 hE6 hv6
          have e0 : vals 0 = .slice (PA) (qa) (da) := hv6 0 (by omega) 45 rfl
          have e1 : vals 1 = .int .i64 ((qa : Nat)) := hv6 1 (by omega) 46 rfl
          have e2 : vals 2 = .bool (true) := hv6 2 (by omega) 47 rfl
          have e3 : vals 3 = .bool (true) := hv6 3 (by omega) 48 rfl
          have e4 : vals 4 = .slice (PA) (qa) (da) := hv6 4 (by omega) 49 rfl
          have e5 : vals 5 = .int .i64 ((qa : Nat)) := hv6 5 (by omega) 50 rfl
          have e6 : vals 6 = .slice (C) (nc) (cc) := hv6 6 (by omega) 51 rfl
          have e7 : vals 7 = .int .i64 ((nc : Nat)) := hv6 7 (by omega) 52 rfl
          have e8 : vals 8 = .bool (false) := hv6 8 (by omega) 53 rfl
          have e9 : vals 9 = .bool (false) := hv6 9 (by omega) 54 rfl
          have e10 : vals 10 = .bool (false) := hv6 10 (by omega) 55 rfl
          have e20 : vals 20 = .bool (false) := hv6 20 (by omega) 65 rfl
          have e21 : vals 21 = .bool (false) := hv6 21 (by omega) 66 rfl
          have e26 : vals 26 = .bool (false) := hv6 26 (by omega) 71 rfl
          simp only [putAll, Act.put, List.take_succ_cons, List.take_zero, List.drop_succ_cons, List.drop_zero, List.drop_nil, List.take_nil, Nat.reduceAdd, List.setIfInBounds_toArray, List.set_cons_succ, List.set_cons_zero, e0, e1, e2, e3, e4, e5, e6, e7, e8, e9, e10, e20, e21, e26]
          clear hv6 e0 e1 e2 e3 e4 e5 e6 e7 e8 e9 e10 e20 e21 e26
          replace rP := rP.ext hE6
          replace rQ := rQ.ext hE6
          go_upto_region 7 with (fail)
          refine par_ext (n := 34) (by kernel_rfl) [.is (.bool (false)), .is (.bool (false)), .is (.bool (false)), .is (.bool (false)), .is (.bool (false)), .is (.bool (false)), .is undef, .is undef, .is undef, .is undef, .is undef, .is undef, .is undef, .is undef, .is undef, .is undef, .is undef, .is undef, .is undef, .is undef, .is (.bool (false)), .is (.bool (false)), .is (.bool (false)), .is (.bool (false)), .is (.bool (true)), .is (.bool (true)), .is (.slice (A9) (0) (c9)), .is (.int .i64 ((0 : Nat))), .is (.slice (B9) (0) (d9)), .is (.int .i64 ((0 : Nat))), .is (.int .i64 ((0 : Nat) + (0 : Nat))), .is (.bool (decide ((0 : Nat) + (0 : Nat) ≠ (0 : Int)))), .is (.bool (decide ((0 : Nat) + (0 : Nat) ≠ (0 : Int)))), .is (.bool (decide ((0 : Nat) + (0 : Nat) ≠ (0 : Int)))), .is (.bool (false)), .is (.bool (false)), .is (.bool (false)), .is (.bool (false)), .is (.bool (false)), .is (.bool (false)), .is undef, .is undef, .is undef, .is undef, .is undef, .is undef, .is undef, .is undef, .is undef, .is undef, .is undef, .is undef, .is undef, .is undef, .is (.bool (false)), .is (.bool (false)), .is (.bool (false)), .is (.bool (false)), .is (.bool (true)), .is (.bool (true)), .is (.slice (A9) (0) (c9)), .is (.int .i64 ((0 : Nat))), .is (.slice (B9) (0) (d9)), .is (.int .i64 ((0 : Nat))), .is (.int .i64 ((0 : Nat) + (0 : Nat))), .is (.bool (decide ((0 : Nat) + (0 : Nat) ≠ (0 : Int)))), .is (.bool (decide ((0 : Nat) + (0 : Nat) ≠ (0 : Int)))), .is (.bool (decide ((0 : Nat) + (0 : Nat) ≠ (0 : Int))))] rfl ⟨?_, ?_, ?_, ?_, ?_, ?_, ?_, ?_, ?_, ?_, ?_, ?_, ?_, ?_, ?_, ?_, ?_, ?_, ?_, ?_, ?_, ?_, ?_, ?_, ?_, ?_, ?_, ?_, ?_, ?_, ?_, ?_, ?_, ?_, trivial⟩ ?_
          · refine stepE rfl fun sdn sa sw sE sd sk => ?_
            have h11 : sa.eval (.tmp 11) = .bool (false) := sk.old 11 rfl
            exact Runs.move rfl h11 ⟨Ext.refl _, rfl⟩
          · refine stepE rfl fun sdn sa sw sE sd sk => ?_
            have h12 : sa.eval (.tmp 12) = .bool (false) := sk.old 12 rfl
            exact Runs.move rfl h12 ⟨Ext.refl _, rfl⟩
          · refine stepE rfl fun sdn sa sw sE sd sk => ?_
            have h72 : sa.eval (.tmp 72) = .bool (false) := sk.fact 0 72 rfl (sd 0 rfl)
            have h73 : sa.eval (.tmp 73) = .bool (false) := sk.fact 1 73 rfl (sd 1 rfl)
            exact Runs.bin rfl h72 h73 (by rfl) (bin_neb _ _) ⟨Ext.refl _, congrArg Value.bool (by decide)⟩
          · refine stepE rfl fun sdn sa sw sE sd sk => ?_
            have h74 : sa.eval (.tmp 74) = .bool (false) := sk.fact 2 74 rfl (sd 2 rfl)
            exact Runs.move rfl h74 ⟨Ext.refl _, rfl⟩
          · refine stepY (j := 3) (d := 75) (b := false) rfl rfl rfl (fun v w h => h) fun sdn sa sw sE sd sk => ?_
            have h11 : sa.eval (.tmp 11) = .bool (false) := sk.old 11 rfl
            exact Runs.move rfl h11 ⟨Ext.refl _, rfl⟩
          · refine stepY (j := 3) (d := 75) (b := false) rfl rfl rfl (fun v w h => h) fun sdn sa sw sE sd sk => ?_
            have h76 : sa.eval (.tmp 76) = .bool (false) := sk.fact 4 76 rfl (sd 4 rfl)
            exact Runs.move rfl h76 ⟨Ext.refl _, rfl⟩
          · exact stepN (j := 5) (d := 77) (b := false) rfl rfl rfl (fun v w h => h) fun w => rfl
          · exact stepN (j := 5) (d := 77) (b := false) rfl rfl rfl (fun v w h => h) fun w => rfl
          · exact stepN (j := 5) (d := 77) (b := false) rfl rfl rfl (fun v w h => h) fun w => rfl
          · exact stepN (j := 5) (d := 77) (b := false) rfl rfl rfl (fun v w h => h) fun w => rfl
          · exact stepN (j := 5) (d := 77) (b := false) rfl rfl rfl (fun v w h => h) fun w => rfl
          · exact stepN (j := 5) (d := 77) (b := false) rfl rfl rfl (fun v w h => h) fun w => rfl
          · exact stepU (j := 11) (d := 83) (b := false) rfl rfl rfl (fun v w h => h) fun w => rfl
          · exact stepU (j := 11) (d := 83) (b := false) rfl rfl rfl (fun v w h => h) fun w => rfl
          · exact stepU (j := 11) (d := 83) (b := false) rfl rfl rfl (fun v w h => h) fun w => rfl
          · exact stepU (j := 11) (d := 83) (b := false) rfl rfl rfl (fun v w h => h) fun w => rfl
          · exact stepU (j := 11) (d := 83) (b := false) rfl rfl rfl (fun v w h => h) fun w => rfl
          · exact stepU (j := 11) (d := 83) (b := false) rfl rfl rfl (fun v w h => h) fun w => rfl
          · exact stepU (j := 11) (d := 83) (b := false) rfl rfl rfl (fun v w h => h) fun w => rfl
          · exact stepN (j := 5) (d := 77) (b := false) rfl rfl rfl (fun v w h => h) fun w => rfl
          · refine stepY (j := 3) (d := 75) (b := false) rfl rfl rfl (fun v w h => h) fun sdn sa sw sE sd sk => ?_
            have h77 : sa.eval (.tmp 77) = .bool (false) := sk.fact 5 77 rfl (sd 5 rfl)
            exact Runs.pick rfl h77 ⟨Ext.refl _, rfl⟩
          · refine stepE rfl fun sdn sa sw sE sd sk => ?_
            have h75 : sa.eval (.tmp 75) = .bool (false) := sk.fact 3 75 rfl (sd 3 rfl)
            have h92 : sa.eval (.tmp 92) = .bool (false) := sk.fact 20 92 rfl (sd 20 rfl)
            exact Runs.pick rfl h75 ⟨Ext.refl _, by first | exact h92 | simpa using h92⟩
          · refine stepE rfl fun sdn sa sw sE sd sk => ?_
            have h93 : sa.eval (.tmp 93) = .bool (false) := sk.fact 21 93 rfl (sd 21 rfl)
            exact Runs.move rfl h93 ⟨Ext.refl _, rfl⟩
          · refine stepY (j := 22) (d := 94) (b := false) rfl rfl rfl (fun v w h => h) fun sdn sa sw sE sd sk => ?_
            have h11 : sa.eval (.tmp 11) = .bool (false) := sk.old 11 rfl
            exact Runs.move rfl h11 ⟨Ext.refl _, rfl⟩
          · refine stepY (j := 22) (d := 94) (b := false) rfl rfl rfl (fun v w h => h) fun sdn sa sw sE sd sk => ?_
            have h95 : sa.eval (.tmp 95) = .bool (false) := sk.fact 23 95 rfl (sd 23 rfl)
            exact Runs.un rfl h95 (by rfl) ⟨Ext.refl _, rfl⟩
          · refine stepY (j := 22) (d := 94) (b := false) rfl rfl rfl (fun v w h => h) fun sdn sa sw sE sd sk => ?_
            have h96 : sa.eval (.tmp 96) = .bool (true) := sk.fact 24 96 rfl (sd 24 rfl)
            exact Runs.move rfl h96 ⟨Ext.refl _, rfl⟩
          · refine stepY (j := 25) (d := 97) (b := true) rfl rfl rfl (fun v w h => h) fun sdn sa sw sE sd sk => ?_
            have h9 : sa.eval (.tmp 9) = .slice (A9) (0) (c9) := sk.old 9 rfl
            exact Runs.move rfl h9 ⟨Ext.refl _, rfl⟩
          · refine stepY (j := 25) (d := 97) (b := true) rfl rfl rfl (fun v w h => h) fun sdn sa sw sE sd sk => ?_
            have h98 : sa.eval (.tmp 98) = .slice (A9) (0) (c9) := sk.fact 26 98 rfl (sd 26 rfl)
            exact Runs.len Try.underlying22 rfl h98 ⟨Ext.refl _, rfl⟩
          · refine stepY (j := 25) (d := 97) (b := true) rfl rfl rfl (fun v w h => h) fun sdn sa sw sE sd sk => ?_
            have h10 : sa.eval (.tmp 10) = .slice (B9) (0) (d9) := sk.old 10 rfl
            exact Runs.move rfl h10 ⟨Ext.refl _, rfl⟩
          · refine stepY (j := 25) (d := 97) (b := true) rfl rfl rfl (fun v w h => h) fun sdn sa sw sE sd sk => ?_
            have h100 : sa.eval (.tmp 100) = .slice (B9) (0) (d9) := sk.fact 28 100 rfl (sd 28 rfl)
            exact Runs.len Try.underlying22 rfl h100 ⟨Ext.refl _, rfl⟩
          · refine stepY (j := 25) (d := 97) (b := true) rfl rfl rfl (fun v w h => h) fun sdn sa sw sE sd sk => ?_
            have h99 : sa.eval (.tmp 99) = .int .i64 ((0 : Nat)) := sk.fact 27 99 rfl (sd 27 rfl)
            have h101 : sa.eval (.tmp 101) = .int .i64 ((0 : Nat)) := sk.fact 29 101 rfl (sd 29 rfl)
            exact Runs.bin rfl h99 h101 (eqGuard_bin rfl) (bin_add64 _ _ _ (by omega) (by omega)) ⟨Ext.refl _, rfl⟩
          · refine stepY (j := 25) (d := 97) (b := true) rfl rfl rfl (fun v w h => h) fun sdn sa sw sE sd sk => ?_
            have h102 : sa.eval (.tmp 102) = .int .i64 ((0 : Nat) + (0 : Nat)) := sk.fact 30 102 rfl (sd 30 rfl)
            exact Runs.bin rfl h102 rfl (by rfl) (bin_neq _ _ _ _) ⟨Ext.refl _, rfl⟩
          · refine stepY (j := 22) (d := 94) (b := false) rfl rfl rfl (fun v w h => h) fun sdn sa sw sE sd sk => ?_
            have h97 : sa.eval (.tmp 97) = .bool (true) := sk.fact 25 97 rfl (sd 25 rfl)
            have h103 : sa.eval (.tmp 103) = .bool (decide ((0 : Nat) + (0 : Nat) ≠ (0 : Int))) := sk.fact 31 103 rfl (sd 31 rfl)
            exact Runs.pick rfl h97 ⟨Ext.refl _, by first | exact h103 | simpa using h103⟩
          · refine stepE rfl fun sdn sa sw sE sd sk => ?_
            have h94 : sa.eval (.tmp 94) = .bool (false) := sk.fact 22 94 rfl (sd 22 rfl)
            have h104 : sa.eval (.tmp 104) = .bool (decide ((0 : Nat) + (0 : Nat) ≠ (0 : Int))) := sk.fact 32 104 rfl (sd 32 rfl)
            exact Runs.pick rfl h94 ⟨Ext.refl _, by first | exact h104 | simpa using h104⟩
          intro vals W7 hE7 hv7
          have e0 : vals 0 = .bool (false) := hv7 0 (by omega) 72 rfl
          have e1 : vals 1 = .bool (false) := hv7 1 (by omega) 73 rfl
          have e2 : vals 2 = .bool (false) := hv7 2 (by omega) 74 rfl
          have e3 : vals 3 = .bool (false) := hv7 3 (by omega) 75 rfl
          have e4 : vals 4 = .bool (false) := hv7 4 (by omega) 76 rfl
          have e5 : vals 5 = .bool (false) := hv7 5 (by omega) 77 rfl
          have e20 : vals 20 = .bool (false) := hv7 20 (by omega) 92 rfl
          have e21 : vals 21 = .bool (false) := hv7 21 (by omega) 93 rfl
          have e22 : vals 22 = .bool (false) := hv7 22 (by omega) 94 rfl
          have e23 : vals 23 = .bool (false) := hv7 23 (by omega) 95 rfl
          have e24 : vals 24 = .bool (true) := hv7 24 (by omega) 96 rfl
          have e25 : vals 25 = .bool (true) := hv7 25 (by omega) 97 rfl
          have e26 : vals 26 = .slice (A9) (0) (c9) := hv7 26 (by omega) 98 rfl
          have e27 : vals 27 = .int .i64 ((0 : Nat)) := hv7 27 (by omega) 99 rfl
          have e28 : vals 28 = .slice (B9) (0) (d9) := hv7 28 (by omega) 100 rfl
          have e29 : vals 29 = .int .i64 ((0 : Nat)) := hv7 29 (by omega) 101 rfl
          have e30 : vals 30 = .int .i64 ((0 : Nat) + (0 : Nat)) := hv7 30 (by omega) 102 rfl
          have e31 : vals 31 = .bool (decide ((0 : Nat) + (0 : Nat) ≠ (0 : Int))) := hv7 31 (by omega) 103 rfl
          have e32 : vals 32 = .bool (decide ((0 : Nat) + (0 : Nat) ≠ (0 : Int))) := hv7 32 (by omega) 104 rfl
          have e33 : vals 33 = .bool (decide ((0 : Nat) + (0 : Nat) ≠ (0 : Int))) := hv7 33 (by omega) 105 rfl
          simp only [putAll, Act.put, List.take_succ_cons, List.take_zero, List.drop_succ_cons, List.drop_zero, List.drop_nil, List.take_nil, Nat.reduceAdd, List.setIfInBounds_toArray, List.set_cons_succ, List.set_cons_zero, e0, e1, e2, e3, e4, e5, e20, e21, e22, e23, e24, e25, e26, e27, e28, e29, e30, e31, e32, e33]
          clear hv7 e0 e1 e2 e3 e4 e5 e20 e21 e22 e23 e24 e25 e26 e27 e28 e29 e30 e31 e32 e33
          go_wp2_with fail
          go_roundw
          case rel => exact ⟨k + 1, by omega, by go_num, (hE5.trans hE6).trans hE7⟩
          case measure => simp [intOf]; omega
      · have b1 : decide ((0 : Int) < ((qa : Nat) : Int)) = false := decide_eq_false (by omega)
        have hv : treesB LA LC = false := by rw [htb]; simp [c1, HqA.out]
        rw [hv]
        rw [(trees_none hv).1] at rP
        rw [(trees_none hv).2] at rQ
        obtain rfl : n9 = 0 := rP.len.symm
        obtain rfl : m9 = 0 := rQ.len.symm
        clear hv htb hnP
        go_upto_region 6 with (fail)
        refine par_ext (n := 27) (by kernel_rfl) [.is (.slice (PA) (qa) (da)), .is (.int .i64 ((qa : Nat))), .is (.bool (false)), .is (.bool (false)), .is undef, .is undef, .is undef, .is undef, .is undef, .is (.bool (false)), .is (.bool (false)), .is undef, .is undef, .is undef, .is undef, .is undef, .is undef, .is undef, .is undef, .is undef, .is (.bool (false)), .is (.bool (false)), .is undef, .is undef, .is undef, .is undef, .is (.bool (false))] rfl ⟨?_, ?_, ?_, ?_, ?_, ?_, ?_, ?_, ?_, ?_, ?_, ?_, ?_, ?_, ?_, ?_, ?_, ?_, ?_, ?_, ?_, ?_, ?_, ?_, ?_, ?_, ?_, trivial⟩ ?_
        · refine stepE rfl fun sdn sa sw sE sd sk => ?_
          have h0 : sa.eval (.tmp 0) = .slice (PA) (qa) (da) := sk.old 0 rfl
          exact Runs.move rfl h0 ⟨Ext.refl _, rfl⟩
        · refine stepE rfl fun sdn sa sw sE sd sk => ?_
          have h45 : sa.eval (.tmp 45) = .slice (PA) (qa) (da) := sk.fact 0 45 rfl (sd 0 rfl)
          exact Runs.len Try.underlying23 rfl h45 ⟨Ext.refl _, rfl⟩
        · refine stepE rfl fun sdn sa sw sE sd sk => ?_
          have h46 : sa.eval (.tmp 46) = .int .i64 ((qa : Nat)) := sk.fact 1 46 rfl (sd 1 rfl)
          exact Runs.bin rfl h46 rfl (by rfl) (bin_gtr _ _ _ _) ⟨Ext.refl _, congrArg Value.bool (b1)⟩
        · refine stepE rfl fun sdn sa sw sE sd sk => ?_
          have h47 : sa.eval (.tmp 47) = .bool (false) := sk.fact 2 47 rfl (sd 2 rfl)
          exact Runs.move rfl h47 ⟨Ext.refl _, rfl⟩
        · exact stepN (j := 3) (d := 48) (b := false) rfl rfl rfl (fun v w h => h) fun w => rfl
        · exact stepN (j := 3) (d := 48) (b := false) rfl rfl rfl (fun v w h => h) fun w => rfl
        · exact stepN (j := 3) (d := 48) (b := false) rfl rfl rfl (fun v w h => h) fun w => rfl
        · exact stepN (j := 3) (d := 48) (b := false) rfl rfl rfl (fun v w h => h) fun w => rfl
        · exact stepN (j := 3) (d := 48) (b := false) rfl rfl rfl (fun v w h => h) fun w => rfl
        · refine stepE rfl fun sdn sa sw sE sd sk => ?_
          have h48 : sa.eval (.tmp 48) = .bool (false) := sk.fact 3 48 rfl (sd 3 rfl)
          exact Runs.pick rfl h48 ⟨Ext.refl _, rfl⟩
        · refine stepE rfl fun sdn sa sw sE sd sk => ?_
          have h54 : sa.eval (.tmp 54) = .bool (false) := sk.fact 9 54 rfl (sd 9 rfl)
          exact Runs.move rfl h54 ⟨Ext.refl _, rfl⟩
        · exact stepN (j := 10) (d := 55) (b := false) rfl rfl rfl (fun v w h => h) fun w => rfl
        · exact stepN (j := 10) (d := 55) (b := false) rfl rfl rfl (fun v w h => h) fun w => rfl
        · exact stepN (j := 10) (d := 55) (b := false) rfl rfl rfl (fun v w h => h) fun w => rfl
        · exact stepN (j := 10) (d := 55) (b := false) rfl rfl rfl (fun v w h => h) fun w => rfl
        · exact stepN (j := 10) (d := 55) (b := false) rfl rfl rfl (fun v w h => h) fun w => rfl
        · exact stepN (j := 10) (d := 55) (b := false) rfl rfl rfl (fun v w h => h) fun w => rfl
        · exact stepN (j := 10) (d := 55) (b := false) rfl rfl rfl (fun v w h => h) fun w => rfl
        · exact stepN (j := 10) (d := 55) (b := false) rfl rfl rfl (fun v w h => h) fun w => rfl
        · exact stepN (j := 10) (d := 55) (b := false) rfl rfl rfl (fun v w h => h) fun w => rfl
        · refine stepE rfl fun sdn sa sw sE sd sk => ?_
          have h55 : sa.eval (.tmp 55) = .bool (false) := sk.fact 10 55 rfl (sd 10 rfl)
          exact Runs.pick rfl h55 ⟨Ext.refl _, rfl⟩
        · refine stepE rfl fun sdn sa sw sE sd sk => ?_
          have h65 : sa.eval (.tmp 65) = .bool (false) := sk.fact 20 65 rfl (sd 20 rfl)
          exact Runs.move rfl h65 ⟨Ext.refl _, rfl⟩
        · exact stepN (j := 21) (d := 66) (b := false) rfl rfl rfl (fun v w h => h) fun w => rfl
        · exact stepN (j := 21) (d := 66) (b := false) rfl rfl rfl (fun v w h => h) fun w => rfl
        · exact stepN (j := 21) (d := 66) (b := false) rfl rfl rfl (fun v w h => h) fun w => rfl
        · exact stepN (j := 21) (d := 66) (b := false) rfl rfl rfl (fun v w h => h) fun w => rfl
        · refine stepE rfl fun sdn sa sw sE sd sk => ?_
          have h66 : sa.eval (.tmp 66) = .bool (false) := sk.fact 21 66 rfl (sd 21 rfl)
          exact Runs.pick rfl h66 ⟨Ext.refl _, rfl⟩
        intro vals W6 hE6 hv6
        have e0 : vals 0 = .slice (PA) (qa) (da) := hv6 0 (by omega) 45 rfl
        have e1 : vals 1 = .int .i64 ((qa : Nat)) := hv6 1 (by omega) 46 rfl
        have e2 : vals 2 = .bool (false) := hv6 2 (by omega) 47 rfl
        have e3 : vals 3 = .bool (false) := hv6 3 (by omega) 48 rfl
        have e9 : vals 9 = .bool (false) := hv6 9 (by omega) 54 rfl
        have e10 : vals 10 = .bool (false) := hv6 10 (by omega) 55 rfl
        have e20 : vals 20 = .bool (false) := hv6 20 (by omega) 65 rfl
        have e21 : vals 21 = .bool (false) := hv6 21 (by omega) 66 rfl
        have e26 : vals 26 = .bool (false) := hv6 26 (by omega) 71 rfl
        simp only [putAll, Act.put, List.take_succ_cons, List.take_zero, List.drop_succ_cons, List.drop_zero, List.drop_nil, List.take_nil, Nat.reduceAdd, List.setIfInBounds_toArray, List.set_cons_succ, List.set_cons_zero, e0, e1, e2, e3, e9, e10, e20, e21, e26]
        clear hv6 e0 e1 e2 e3 e9 e10 e20 e21 e26
        replace rP := rP.ext hE6
        replace rQ := rQ.ext hE6
        go_upto_region 7 with (fail)
        refine par_ext (n := 34) (by kernel_rfl) [.is (.bool (false)), .is (.bool (false)), .is (.bool (false)), .is (.bool (false)), .is (.bool (false)), .is (.bool (false)), .is undef, .is undef, .is undef, .is undef, .is undef, .is undef, .is undef, .is undef, .is undef, .is undef, .is undef, .is undef, .is undef, .is undef, .is (.bool (false)), .is (.bool (false)), .is (.bool (false)), .is (.bool (false)), .is (.bool (true)), .is (.bool (true)), .is (.slice (A9) (0) (c9)), .is (.int .i64 ((0 : Nat))), .is (.slice (B9) (0) (d9)), .is (.int .i64 ((0 : Nat))), .is (.int .i64 ((0 : Nat) + (0 : Nat))), .is (.bool (decide ((0 : Nat) + (0 : Nat) ≠ (0 : Int)))), .is (.bool (decide ((0 : Nat) + (0 : Nat) ≠ (0 : Int)))), .is (.bool (decide ((0 : Nat) + (0 : Nat) ≠ (0 : Int))))] rfl ⟨?_, ?_, ?_, ?_, ?_, ?_, ?_, ?_, ?_, ?_, ?_, ?_, ?_, ?_, ?_, ?_, ?_, ?_, ?_, ?_, ?_, ?_, ?_, ?_, ?_, ?_, ?_, ?_, ?_, ?_, ?_, ?_, ?_, ?_, trivial⟩ ?_
        · refine stepE rfl fun sdn sa sw sE sd sk => ?_
          have h11 : sa.eval (.tmp 11) = .bool (false) := sk.old 11 rfl
          exact Runs.move rfl h11 ⟨Ext.refl _, rfl⟩
        · refine stepE rfl fun sdn sa sw sE sd sk => ?_
          have h12 : sa.eval (.tmp 12) = .bool (false) := sk.old 12 rfl
          exact Runs.move rfl h12 ⟨Ext.refl _, rfl⟩
        · refine stepE rfl fun sdn sa sw sE sd sk => ?_
          have h72 : sa.eval (.tmp 72) = .bool (false) := sk.fact 0 72 rfl (sd 0 rfl)
          have h73 : sa.eval (.tmp 73) = .bool (false) := sk.fact 1 73 rfl (sd 1 rfl)
          exact Runs.bin rfl h72 h73 (by rfl) (bin_neb _ _) ⟨Ext.refl _, congrArg Value.bool (by decide)⟩
        · refine stepE rfl fun sdn sa sw sE sd sk => ?_
          have h74 : sa.eval (.tmp 74) = .bool (false) := sk.fact 2 74 rfl (sd 2 rfl)
          exact Runs.move rfl h74 ⟨Ext.refl _, rfl⟩
        · refine stepY (j := 3) (d := 75) (b := false) rfl rfl rfl (fun v w h => h) fun sdn sa sw sE sd sk => ?_
          have h11 : sa.eval (.tmp 11) = .bool (false) := sk.old 11 rfl
          exact Runs.move rfl h11 ⟨Ext.refl _, rfl⟩
        · refine stepY (j := 3) (d := 75) (b := false) rfl rfl rfl (fun v w h => h) fun sdn sa sw sE sd sk => ?_
          have h76 : sa.eval (.tmp 76) = .bool (false) := sk.fact 4 76 rfl (sd 4 rfl)
          exact Runs.move rfl h76 ⟨Ext.refl _, rfl⟩
        · exact stepN (j := 5) (d := 77) (b := false) rfl rfl rfl (fun v w h => h) fun w => rfl
        · exact stepN (j := 5) (d := 77) (b := false) rfl rfl rfl (fun v w h => h) fun w => rfl
        · exact stepN (j := 5) (d := 77) (b := false) rfl rfl rfl (fun v w h => h) fun w => rfl
        · exact stepN (j := 5) (d := 77) (b := false) rfl rfl rfl (fun v w h => h) fun w => rfl
        · exact stepN (j := 5) (d := 77) (b := false) rfl rfl rfl (fun v w h => h) fun w => rfl
        · exact stepN (j := 5) (d := 77) (b := false) rfl rfl rfl (fun v w h => h) fun w => rfl
        · exact stepU (j := 11) (d := 83) (b := false) rfl rfl rfl (fun v w h => h) fun w => rfl
        · exact stepU (j := 11) (d := 83) (b := false) rfl rfl rfl (fun v w h => h) fun w => rfl
        · exact stepU (j := 11) (d := 83) (b := false) rfl rfl rfl (fun v w h => h) fun w => rfl
        · exact stepU (j := 11) (d := 83) (b := false) rfl rfl rfl (fun v w h => h) fun w => rfl
        · exact stepU (j := 11) (d := 83) (b := false) rfl rfl rfl (fun v w h => h) fun w => rfl
        · exact stepU (j := 11) (d := 83) (b := false) rfl rfl rfl (fun v w h => h) fun w => rfl
        · exact stepU (j := 11) (d := 83) (b := false) rfl rfl rfl (fun v w h => h) fun w => rfl
        · exact stepN (j := 5) (d := 77) (b := false) rfl rfl rfl (fun v w h => h) fun w => rfl
        · refine stepY (j := 3) (d := 75) (b := false) rfl rfl rfl (fun v w h => h) fun sdn sa sw sE sd sk => ?_
          have h77 : sa.eval (.tmp 77) = .bool (false) := sk.fact 5 77 rfl (sd 5 rfl)
          exact Runs.pick rfl h77 ⟨Ext.refl _, rfl⟩
        · refine stepE rfl fun sdn sa sw sE sd sk => ?_
          have h75 : sa.eval (.tmp 75) = .bool (false) := sk.fact 3 75 rfl (sd 3 rfl)
          have h92 : sa.eval (.tmp 92) = .bool (false) := sk.fact 20 92 rfl (sd 20 rfl)
          exact Runs.pick rfl h75 ⟨Ext.refl _, by first | exact h92 | simpa using h92⟩
        · refine stepE rfl fun sdn sa sw sE sd sk => ?_
          have h93 : sa.eval (.tmp 93) = .bool (false) := sk.fact 21 93 rfl (sd 21 rfl)
          exact Runs.move rfl h93 ⟨Ext.refl _, rfl⟩
        · refine stepY (j := 22) (d := 94) (b := false) rfl rfl rfl (fun v w h => h) fun sdn sa sw sE sd sk => ?_
          have h11 : sa.eval (.tmp 11) = .bool (false) := sk.old 11 rfl
          exact Runs.move rfl h11 ⟨Ext.refl _, rfl⟩
        · refine stepY (j := 22) (d := 94) (b := false) rfl rfl rfl (fun v w h => h) fun sdn sa sw sE sd sk => ?_
          have h95 : sa.eval (.tmp 95) = .bool (false) := sk.fact 23 95 rfl (sd 23 rfl)
          exact Runs.un rfl h95 (by rfl) ⟨Ext.refl _, rfl⟩
        · refine stepY (j := 22) (d := 94) (b := false) rfl rfl rfl (fun v w h => h) fun sdn sa sw sE sd sk => ?_
          have h96 : sa.eval (.tmp 96) = .bool (true) := sk.fact 24 96 rfl (sd 24 rfl)
          exact Runs.move rfl h96 ⟨Ext.refl _, rfl⟩
        · refine stepY (j := 25) (d := 97) (b := true) rfl rfl rfl (fun v w h => h) fun sdn sa sw sE sd sk => ?_
          have h9 : sa.eval (.tmp 9) = .slice (A9) (0) (c9) := sk.old 9 rfl
          exact Runs.move rfl h9 ⟨Ext.refl _, rfl⟩
        · refine stepY (j := 25) (d := 97) (b := true) rfl rfl rfl (fun v w h => h) fun sdn sa sw sE sd sk => ?_
          have h98 : sa.eval (.tmp 98) = .slice (A9) (0) (c9) := sk.fact 26 98 rfl (sd 26 rfl)
          exact Runs.len Try.underlying22 rfl h98 ⟨Ext.refl _, rfl⟩
        · refine stepY (j := 25) (d := 97) (b := true) rfl rfl rfl (fun v w h => h) fun sdn sa sw sE sd sk => ?_
          have h10 : sa.eval (.tmp 10) = .slice (B9) (0) (d9) := sk.old 10 rfl
          exact Runs.move rfl h10 ⟨Ext.refl _, rfl⟩
        · refine stepY (j := 25) (d := 97) (b := true) rfl rfl rfl (fun v w h => h) fun sdn sa sw sE sd sk => ?_
          have h100 : sa.eval (.tmp 100) = .slice (B9) (0) (d9) := sk.fact 28 100 rfl (sd 28 rfl)
          exact Runs.len Try.underlying22 rfl h100 ⟨Ext.refl _, rfl⟩
        · refine stepY (j := 25) (d := 97) (b := true) rfl rfl rfl (fun v w h => h) fun sdn sa sw sE sd sk => ?_
          have h99 : sa.eval (.tmp 99) = .int .i64 ((0 : Nat)) := sk.fact 27 99 rfl (sd 27 rfl)
          have h101 : sa.eval (.tmp 101) = .int .i64 ((0 : Nat)) := sk.fact 29 101 rfl (sd 29 rfl)
          exact Runs.bin rfl h99 h101 (eqGuard_bin rfl) (bin_add64 _ _ _ (by omega) (by omega)) ⟨Ext.refl _, rfl⟩
        · refine stepY (j := 25) (d := 97) (b := true) rfl rfl rfl (fun v w h => h) fun sdn sa sw sE sd sk => ?_
          have h102 : sa.eval (.tmp 102) = .int .i64 ((0 : Nat) + (0 : Nat)) := sk.fact 30 102 rfl (sd 30 rfl)
          exact Runs.bin rfl h102 rfl (by rfl) (bin_neq _ _ _ _) ⟨Ext.refl _, rfl⟩
        · refine stepY (j := 22) (d := 94) (b := false) rfl rfl rfl (fun v w h => h) fun sdn sa sw sE sd sk => ?_
          have h97 : sa.eval (.tmp 97) = .bool (true) := sk.fact 25 97 rfl (sd 25 rfl)
          have h103 : sa.eval (.tmp 103) = .bool (decide ((0 : Nat) + (0 : Nat) ≠ (0 : Int))) := sk.fact 31 103 rfl (sd 31 rfl)
          exact Runs.pick rfl h97 ⟨Ext.refl _, by first | exact h103 | simpa using h103⟩
        · refine stepE rfl fun sdn sa sw sE sd sk => ?_
          have h94 : sa.eval (.tmp 94) = .bool (false) := sk.fact 22 94 rfl (sd 22 rfl)
          have h104 : sa.eval (.tmp 104) = .bool (decide ((0 : Nat) + (0 : Nat) ≠ (0 : Int))) := sk.fact 32 104 rfl (sd 32 rfl)
          exact Runs.pick rfl h94 ⟨Ext.refl _, by first | exact h104 | simpa using h104⟩
        intro vals W7 hE7 hv7
        have e0 : vals 0 = .bool (false) := hv7 0 (by omega) 72 rfl
        have e1 : vals 1 = .bool (false) := hv7 1 (by omega) 73 rfl
        have e2 : vals 2 = .bool (false) := hv7 2 (by omega) 74 rfl
        have e3 : vals 3 = .bool (false) := hv7 3 (by omega) 75 rfl
        have e4 : vals 4 = .bool (false) := hv7 4 (by omega) 76 rfl
        have e5 : vals 5 = .bool (false) := hv7 5 (by omega) 77 rfl
        have e20 : vals 20 = .bool (false) := hv7 20 (by omega) 92 rfl
        have e21 : vals 21 = .bool (false) := hv7 21 (by omega) 93 rfl
        have e22 : vals 22 = .bool (false) := hv7 22 (by omega) 94 rfl
        have e23 : vals 23 = .bool (false) := hv7 23 (by omega) 95 rfl
        have e24 : vals 24 = .bool (true) := hv7 24 (by omega) 96 rfl
        have e25 : vals 25 = .bool (true) := hv7 25 (by omega) 97 rfl
        have e26 : vals 26 = .slice (A9) (0) (c9) := hv7 26 (by omega) 98 rfl
        have e27 : vals 27 = .int .i64 ((0 : Nat)) := hv7 27 (by omega) 99 rfl
        have e28 : vals 28 = .slice (B9) (0) (d9) := hv7 28 (by omega) 100 rfl
        have e29 : vals 29 = .int .i64 ((0 : Nat)) := hv7 29 (by omega) 101 rfl
        have e30 : vals 30 = .int .i64 ((0 : Nat) + (0 : Nat)) := hv7 30 (by omega) 102 rfl
        have e31 : vals 31 = .bool (decide ((0 : Nat) + (0 : Nat) ≠ (0 : Int))) := hv7 31 (by omega) 103 rfl
        have e32 : vals 32 = .bool (decide ((0 : Nat) + (0 : Nat) ≠ (0 : Int))) := hv7 32 (by omega) 104 rfl
        have e33 : vals 33 = .bool (decide ((0 : Nat) + (0 : Nat) ≠ (0 : Int))) := hv7 33 (by omega) 105 rfl
        simp only [putAll, Act.put, List.take_succ_cons, List.take_zero, List.drop_succ_cons, List.drop_zero, List.drop_nil, List.take_nil, Nat.reduceAdd, List.setIfInBounds_toArray, List.set_cons_succ, List.set_cons_zero, e0, e1, e2, e3, e4, e5, e20, e21, e22, e23, e24, e25, e26, e27, e28, e29, e30, e31, e32, e33]
        clear hv7 e0 e1 e2 e3 e4 e5 e20 e21 e22 e23 e24 e25 e26 e27 e28 e29 e30 e31 e32 e33
        go_wp2_with fail
        go_roundw
        case rel => exact ⟨k + 1, by omega, by go_num, (hE5.trans hE6).trans hE7⟩
        case measure => simp [intOf]; omega
    · obtain rfl : k = 3 := by omega
      go_wp2_with fail
      refine (known26_any wr).mono ?_
      rintro e w6 ⟨rfl, hE⟩
      go_wp2_with fail
      go_ret
      exact ⟨rfl, (hE1.trans hEr).trans hE⟩
end Go.Proofs.Ytkndgpjamijbbaa
