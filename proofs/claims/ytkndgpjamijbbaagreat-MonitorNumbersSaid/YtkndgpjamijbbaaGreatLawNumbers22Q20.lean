/-
  check.Right, check.Body, check.Same; ref10's Right, Body, Same, walked.
-/
import Derived.Test.YtkndgpjamijbbaaGreatLawNumbers22Q18
import Derived.Test.YtkndgpjamijbbaaGreatLawNumbers22Q19
import Derived.Test.YtkndgpjamijbbaaGreatLawNumbers22Q16
namespace Go.Proofs.YtkndgpjamijbbaaGreat
set_option maxRecDepth 100000
open Go Go.RowKit
def rightC (x : Int) (R : List UInt8) : Bool := decide (0 ≤ x) && decide (x ≤ 256) && decide (R.length = 32)
def bodyC (t : List UInt8) (x : Int) (R : List UInt8) : List UInt8 := if rightC x R = true then t ++ (bytesOf (keyW x) ++ R) else []
def checkL : List UInt8 := [98, 114, 111, 97, 100, 115, 104, 101, 101, 116, 32, 99, 104, 101, 99, 107]
theorem rightC_true {x : Int} {R : List UInt8} (h : rightC x R = true) : 0 ≤ x ∧ x ≤ 256 ∧ R.length = 32 := by
  simpa [rightC, and_assoc] using h
theorem bodyC_yes {t : List UInt8} {x : Int} {R : List UInt8} (h : rightC x R = true) : bodyC t x R = t ++ (bytesOf (keyW x) ++ R) := by unfold bodyC; rw [if_pos h]
theorem bodyC_no {t : List UInt8} {x : Int} {R : List UInt8} (h : rightC x R = false) : bodyC t x R = [] := by unfold bodyC; rw [h]; rfl
set_option maxHeartbeats 2000000 in
theorem cright_any (x : Int) (A : Option Addr) (n c : Nat) (R : List UInt8) (w : World) (hr : RB w A n c R) :
    Calls Tryz.prog 61 #[.agg #[.int .i64 x, .slice A n c]] w fun e w' => e = .returned (.bool (rightC x R)) ∧ Ext w w' := by
  have hE1 := Ext.new w (.cells #[.int .i64 x, .slice A n c] 36)
  have hl := hr.len
  have hv : rightC x R = (decide (0 ≤ x) && decide (x ≤ 256) && decide (n = 32)) := by unfold rightC; rw [hl]
  rw [hv]
  clear hl hv
  go_enter Tryz.func61, Tryz.ntmps61
  by_cases h0 : 0 ≤ x
  · by_cases h1 : x ≤ 256
    · by_cases h2 : n = 32
      · subst h2
        go_wp2_with fail
        go_ret
        exact ⟨by simp [h0, h1], hE1⟩
      · have h3 : ¬ ((n : Int) = 32) := by omega
        go_wp2_with fail
        go_ret
        exact ⟨by simp [h2, h3], hE1⟩
    · go_wp2_with fail
      go_ret
      exact ⟨by simp [h0]; intros; omega, hE1⟩
  · go_wp2_with fail
    go_ret
    exact ⟨by simp; intros; omega, hE1⟩
set_option maxHeartbeats 2000000 in
theorem rcright_any (x : Int) (A : Option Addr) (n c : Nat) (R : List UInt8) (w : World) (hr : RB w A n c R) :
    Calls Tryz.prog 33 #[.agg #[.int .i64 x, .slice A n c]] w fun e w' => e = .returned (.bool (rightC x R)) ∧ Ext w w' := by
  have hE1 := Ext.new w (.cells #[.int .i64 x, .slice A n c] 36)
  have hl := hr.len
  have hv : rightC x R = (decide (0 ≤ x) && decide (x ≤ 256) && decide (n = 32)) := by unfold rightC; rw [hl]
  rw [hv]
  clear hl hv
  go_enter Tryz.func33, Tryz.ntmps33
  by_cases h0 : 0 ≤ x
  · by_cases h1 : x ≤ 256
    · by_cases h2 : n = 32
      · subst h2
        go_wp2_with fail
        go_ret
        exact ⟨by simp [h0, h1], hE1⟩
      · have h3 : ¬ ((n : Int) = 32) := by omega
        go_wp2_with fail
        go_ret
        exact ⟨by simp [h2, h3], hE1⟩
    · go_wp2_with fail
      go_ret
      exact ⟨by simp [h0]; intros; omega, hE1⟩
  · go_wp2_with fail
    go_ret
    exact ⟨by simp; intros; omega, hE1⟩
set_option maxHeartbeats 2000000 in
theorem rcsame_any (x y : Int) (A B : Option Addr) (n c m d : Nat) (R T : List UInt8) (w : World) (hr : RB w A n c R) (hs : RB w B m d T) :
    Calls Tryz.prog 24 #[.agg #[.int .i64 x, .slice A n c], .agg #[.int .i64 y, .slice B m d]] w fun e w' => e = .returned (.bool (decide (x = y) && decide (R = T))) ∧ Ext w w' := by
  have hE1 := Ext.new w (.cells #[.int .i64 x, .slice A n c] 36)
  have hE2 := Ext.new (w.alloc (.cells #[.int .i64 x, .slice A n c] 36)) (.cells #[.int .i64 y, .slice B m d] 36)
  have hE := hE1.trans hE2
  have c1 := run_str (hr.ext hE)
  have c2 := run_str (hs.ext hE)
  go_enter Tryz.func24, Tryz.ntmps24
  by_cases h0 : x = y
  · subst h0
    go_wp2_with fail
    go_ret
    refine ⟨congrArg (fun b => Ending.returned (.bool b)) (a₁ := ((str R).toList == (str T).toList)) ?_, hE⟩
    rw [str_toList, str_toList]
    simp [beq_dec]
  · go_wp2_with fail
    go_ret
    exact ⟨by simp [h0], hE⟩
set_option maxHeartbeats 4000000 in
theorem cbody_any (x : Int) (A : Option Addr) (n c : Nat) (R : List UInt8) (w : World) (hr : RB w A n c R) :
    Calls Tryz.prog 63 #[.agg #[.int .i64 x, .slice A n c]] w fun e w' =>
      (rightC x R = true → ∃ B d, e = .returned (.slice B 52 d) ∧ OB w' w.heap.size B 52 d (bodyC checkL x R)) ∧ (rightC x R = false → e = .returned (.slice none 0 0)) ∧ Ext w w' := by
  have hck := fun w' => conv_key (P := Tryz.prog) (w := w') Tryz.underlying3 Tryz.underlying56 x
  have hE1 := Ext.new w (.cells #[.int .i64 x, .slice A n c] 36)
  have hB1 := Blk.new w 36 #[.int .i64 x, .slice A n c]
  go_enter Tryz.func63, Tryz.ntmps63
  go_wp2_with fail
  refine (cright_any x A n c R _ (hr.ext hE1)).mono ?_
  rintro e w2 ⟨rfl, hE2⟩
  have hE12 := hE1.trans hE2
  have hB2 := hB1.ext hE2
  clear hB1
  cases hc : rightC x R with
  | false =>
    go_wp2_with fail
    go_ret
    exact ⟨fun h => absurd (hc.symm.trans h) (by decide), fun _ => rfl, hE12⟩
  | true =>
    obtain ⟨_, _, h32⟩ := rightC_true hc
    obtain rfl : n = 32 := hr.len.symm.trans h32
    have Hc := Lib.hid hc
    clear hc h32
    go_wp2_with fail
    refine (wnew_any w2).mono ?_
    rintro e w3 ⟨p, rfl, hW3, hE3⟩
    have es : (#[.int .u8 98, .int .u8 114, .int .u8 111, .int .u8 97, .int .u8 100, .int .u8 115, .int .u8 104, .int .u8 101, .int .u8 101, .int .u8 116, .int .u8 32, .int .u8 99, .int .u8 104, .int .u8 101, .int .u8 99, .int .u8 107] : Array Value).size = 16 := rfl
    have s0 := Lib.run_convert_bytes_const (P := Tryz.prog) w3 26 5 #[.int .u8 98, .int .u8 114, .int .u8 111, .int .u8 97, .int .u8 100, .int .u8 115, .int .u8 104, .int .u8 101, .int .u8 101, .int .u8 116, .int .u8 32, .int .u8 99, .int .u8 104, .int .u8 101, .int .u8 99, .int .u8 107] 16 16 Tryz.underlying26 Tryz.underlying5
    rw [es] at s0
    obtain ⟨w4, hw4⟩ : ∃ w4, w4 = w3.alloc (.cells #[.int .u8 98, .int .u8 114, .int .u8 111, .int .u8 97, .int .u8 100, .int .u8 115, .int .u8 104, .int .u8 101, .int .u8 101, .int .u8 116, .int .u8 32, .int .u8 99, .int .u8 104, .int .u8 101, .int .u8 99, .int .u8 107] 5 (16, 16 + 1)) := ⟨_, rfl⟩
    have rT : RB w4 (some ⟨w3.heap.size, 0, none⟩) 16 16 checkL := by rw [hw4]; exact RB.litM w3 checkL (16, 16 + 1) (n := 16) rfl (small_maxLen (by decide))
    have hE4 : Ext w3 w4 := by rw [hw4]; exact Ext.new w3 _
    rw [← hw4] at s0
    clear hw4 es
    have hW4 : Wtr w4 w2.heap.size p none 0 0 [] := ⟨hW3.blk.ext hE4, hW3.own.ext hE4, hW3.ne, hW3.base⟩
    have hE24 := hE3.trans hE4
    have hB4 := hB2.ext hE24
    have y0 := hB4.cell (i := 0) (v := .int .i64 x) rfl
    have y1 := hB4.cell (i := 1) (v := .slice A 32 c) rfl
    clear hE3 hE4 hW3
    go_wp2_with fail
    refine (wraw_any w2 w4 p 0 0 16 16 none _ [] checkL hE24 hW4 rT (by omega)).mono ?_
    rintro e w5 ⟨rfl, A5, c5, hW5, hC5, hL5⟩
    have hE5 := hW4.chg_ext hE24 hC5
    have hB5 := hB2.ext hE5
    have y0 := hB5.cell (i := 0) (v := .int .i64 x) rfl
    have y1 := hB5.cell (i := 1) (v := .slice A 32 c) rfl
    clear s0 rT hW4 hC5 hL5 hE24 hB4
    go_wp2_with fail
    refine (wnum_any w2 w5 p _ _ _ _ (keyW x) hE5 hW5 (by omega)).mono ?_
    rintro e w6 ⟨rfl, A6, c6, hW6, hC6, hL6⟩
    have hE6 := hW5.chg_ext hE5 hC6
    have hB6 := hB2.ext hE6
    have y0 := hB6.cell (i := 0) (v := .int .i64 x) rfl
    have y1 := hB6.cell (i := 1) (v := .slice A 32 c) rfl
    clear hW5 hC6 hL6 hE5 hB5
    go_wp2_with fail
    refine (wraw_any w2 w6 p _ _ 32 c _ A _ R hE6 hW6 (hr.ext (hE12.trans hE6)) (by omega)).mono ?_
    rintro e w7 ⟨rfl, A7, c7, hW7, hC7, hL7⟩
    have hE7 := hW6.chg_ext hE6 hC7
    have hW8 : Wtr w7 w2.heap.size p A7 52 c7 (bodyC checkL x R) := by
      rw [bodyC_yes Hc.out]
      simpa [beBytes_four] using hW7
    clear hW6 hC7 hL7 hE6 hB6 hW7
    go_wp2_with fail
    refine (wdone_any w7 w2.heap.size p _ _ _ _ hW8 (by omega)).mono ?_
    rintro e w9 ⟨B, d, rfl, own9, hE9⟩
    go_wp2_with fail
    go_ret
    exact ⟨fun _ => ⟨B, d, rfl, own9.base (hE12.trans hE7).size⟩, fun h => absurd (Hc.out.symm.trans h) (by decide), (hE12.trans hE7).trans hE9⟩
set_option maxHeartbeats 4000000 in
theorem rbody_gen (t : List UInt8) (x : Int) (A : Option Addr) (n c : Nat) (R : List UInt8) (w : World) (ht : t.length ≤ 100) (hr : RB w A n c R) :
    Calls Tryz.prog 56 #[.string (str t), .agg #[.int .i64 x, .slice A n c]] w fun e w' => ∃ B m d, e = .returned (.slice B m d) ∧ RB w' B m d (bodyC t x R) ∧ Ext w w' := by
  have hck := fun w' => conv_key (P := Tryz.prog) (w := w') Tryz.underlying3 Tryz.underlying56 x
  have hE1 := Ext.new w (.cells #[.int .i64 x, .slice A n c] 36)
  have hB1 := Blk.new w 36 #[.int .i64 x, .slice A n c]
  go_enter Tryz.func56, Tryz.ntmps56
  go_wp2_with fail
  refine (rcright_any x A n c R _ (hr.ext hE1)).mono ?_
  rintro e w2 ⟨rfl, hE2⟩
  have hE12 := hE1.trans hE2
  have hB2 := hB1.ext hE2
  clear hB1
  cases hc : rightC x R with
  | false =>
    go_wp2_with fail
    go_ret
    exact ⟨none, 0, 0, rfl, by rw [bodyC_no hc]; exact RB.nil_ _, hE12⟩
  | true =>
    obtain ⟨_, _, h32⟩ := rightC_true hc
    obtain rfl : n = 32 := hr.len.symm.trans h32
    have Hc := Lib.hid hc
    clear hc h32
    have rR := hr.ext hE12
    go_upto_region 3 with (fail)
    have hSt5 : ∀ zj zm, ([.is (.string (str (t))), .om (w2.heap.size) (t.length) (t), .is (.pointer (some ⟨w.heap.size, 0, none⟩)), .is (.int .i64 (x)), .is (.int .u32 (u32i (keyW x))), .om (w2.heap.size) (t.length + 4) (t ++ beBytes (keyW x) 4), .is (.pointer (some ⟨w.heap.size, 1, none⟩)), .is (.slice (A) (32) (c))] : List (MP Ext))[zj]? = some zm → zj ≠ 5 → ([] : List (Nat × Nat)).contains (zj, 5) = false → ApOK w2.heap.size t.length zm := by
      intro j m hm h7 h12
      rcases j with _ | _ | _ | _ | _ | _ | _ | _ | j
      · injection hm with hm; subst hm; exact apok_is _ _ _
      · injection hm with hm; subst hm; exact apok_om (Nat.le_refl _) _
      · injection hm with hm; subst hm; exact apok_is _ _ _
      · injection hm with hm; subst hm; exact apok_is _ _ _
      · injection hm with hm; subst hm; exact apok_is _ _ _
      · exact absurd rfl h7
      · injection hm with hm; subst hm; exact apok_is _ _ _
      · injection hm with hm; subst hm; exact apok_is _ _ _
      · simp at hm
    refine par_ap (n := 8) [] (by kernel_rfl) [.is (.string (str (t))), .om (w2.heap.size) (t.length) (t), .is (.pointer (some ⟨w.heap.size, 0, none⟩)), .is (.int .i64 (x)), .is (.int .u32 (u32i (keyW x))), .om (w2.heap.size) (t.length + 4) (t ++ beBytes (keyW x) 4), .is (.pointer (some ⟨w.heap.size, 1, none⟩)), .is (.slice (A) (32) (c))] rfl ⟨?_, ?_, ?_, ?_, ?_, ?_, ?_, ?_, trivial⟩ ?_
    · refine stepEP rfl (by decide) fun sdn sa sw sE sd sk => ?_
      have h0 : sa.eval (.tmp 0) = .string (str (t)) := sk.old 0 rfl
      exact Runs.move rfl h0 ⟨Ext.refl _, rfl⟩
    · refine stepEP rfl (by decide) fun sdn sa sw sE sd sk => ?_
      have h8 : sa.eval (.tmp 8) = .string (str (t)) := sk.fact 0 8 rfl (sd 0 rfl)
      obtain ⟨c1, w1, hr1, h1, e1⟩ := OM.conv sw t (by omega); exact Runs.conv_w rfl h8 hr1 ⟨e1, _, _, rfl, h1.base sE.size⟩
    · refine stepEP rfl (by decide) fun sdn sa sw sE sd sk => ?_
      have h3 : sa.eval (.tmp 3) = .pointer (some ⟨w.heap.size, 0, none⟩) := sk.old 3 rfl
      refine Runs.of_run (r := .pointer (some ⟨w.heap.size, 0, none⟩)) (w' := sw) ?_ ⟨Ext.refl _, rfl⟩
      unfold execOp
      simp only [h3]
      go_simp
    · refine stepEP rfl (by decide) fun sdn sa sw sE sd sk => ?_
      have h10 : sa.eval (.tmp 10) = .pointer (some ⟨w.heap.size, 0, none⟩) := sk.fact 2 10 rfl (sd 2 rfl)
      exact Runs.load rfl h10 (run_load1 Tryz.underlying3 rfl ((hB2.ext sE).cell (i := 0) rfl)) ⟨Ext.refl _, rfl⟩
    · refine stepEP rfl (by decide) fun sdn sa sw sE sd sk => ?_
      have h11 : sa.eval (.tmp 11) = .int .i64 (x) := sk.fact 3 11 rfl (sd 3 rfl)
      exact Runs.conv rfl h11 (conv_key Tryz.underlying3 Tryz.underlying56 x) ⟨Ext.refl _, rfl⟩
    · refine stepAP (n := t.length) rfl (by decide) hSt5 fun sdn sa sw sE sd sk => ?_
      obtain ⟨A9, c9, h9, o9⟩ := sk.fact 1 9 rfl (sd 1 rfl)
      have h12 : sa.eval (.tmp 12) = .int .u32 (u32i (keyW x)) := sk.fact 4 12 rfl (sd 4 rfl)
      refine Runs.call (f := 79) (vs := [.slice (A9) (t.length) (c9), .int .u32 (u32i (keyW x))]) rfl rfl rfl (by simp only [List.map_toArray, List.map_cons, List.map_nil, h9, h12] <;> rfl) (ent79 _ _) ((r1num_m w2 sw _ _ _ t (keyW x) sE o9 (by omega)).mono ?_); rintro e w' ⟨A', c', rfl, om, hx, ha⟩; exact ⟨_, rfl, ha, A', c', rfl, om⟩
    · refine stepEP rfl (by decide) fun sdn sa sw sE sd sk => ?_
      have h3 : sa.eval (.tmp 3) = .pointer (some ⟨w.heap.size, 0, none⟩) := sk.old 3 rfl
      refine Runs.of_run (r := .pointer (some ⟨w.heap.size, 1, none⟩)) (w' := sw) ?_ ⟨Ext.refl _, rfl⟩
      unfold execOp
      simp only [h3]
      go_simp
    · refine stepEP rfl (by decide) fun sdn sa sw sE sd sk => ?_
      have h14 : sa.eval (.tmp 14) = .pointer (some ⟨w.heap.size, 1, none⟩) := sk.fact 6 14 rfl (sd 6 rfl)
      exact Runs.load rfl h14 (run_load1 Tryz.underlying26 rfl ((hB2.ext sE).cell (i := 1) rfl)) ⟨Ext.refl _, rfl⟩
    intro vals w5 hE hv
    have e0 : vals 0 = .string (str (t)) := hv 0 (by omega) 8 rfl
    obtain ⟨A9, c9, e1, o9⟩ := hv 1 (by omega) 9 rfl
    have e2 : vals 2 = .pointer (some ⟨w.heap.size, 0, none⟩) := hv 2 (by omega) 10 rfl
    have e3 : vals 3 = .int .i64 (x) := hv 3 (by omega) 11 rfl
    have e4 : vals 4 = .int .u32 (u32i (keyW x)) := hv 4 (by omega) 12 rfl
    obtain ⟨A13, c13, e5, o13⟩ := hv 5 (by omega) 13 rfl
    have e6 : vals 6 = .pointer (some ⟨w.heap.size, 1, none⟩) := hv 6 (by omega) 14 rfl
    have e7 : vals 7 = .slice (A) (32) (c) := hv 7 (by omega) 15 rfl
    simp only [putAll, Act.put, List.take_succ_cons, List.take_zero, List.drop_succ_cons, List.drop_zero, List.drop_nil, List.take_nil, Nat.reduceAdd, List.setIfInBounds_toArray, List.set_cons_succ, List.set_cons_zero, e0, e1, e2, e3, e4, e5, e6, e7]
    clear hv e0 e1 e2 e3 e4 e5 e6 e7
    go_wp2_with (refine appm_law (N := t.length + 4 + 32) (LM := bodyC t x R) rfl rfl rfl rfl hE o13 (rR.ext hE) (by omega) rfl (by rw [bodyC_yes Hc.out, beBytes_four, List.append_assoc]) (by omega) ?_; intro A6 c6 w6 own6 hE6 hg6)
    go_ret
    exact ⟨A6, _, c6, rfl, own6.rb, hE12.trans hE6⟩
theorem rbody_any (x : Int) (A : Option Addr) (n c : Nat) (R : List UInt8) (w : World) (hr : RB w A n c R) :
    Calls Tryz.prog 32 #[.agg #[.int .i64 x, .slice A n c]] w fun e w' => ∃ B m d, e = .returned (.slice B m d) ∧ RB w' B m d (bodyC checkL x R) ∧ Ext w w' := by
  have hE1 := Ext.new w (.cells #[.int .i64 x, .slice A n c] 36)
  have h := rbody_gen checkL x A n c R _ (by decide) (hr.ext hE1)
  have e : str checkL = ⟨#[98, 114, 111, 97, 100, 115, 104, 101, 101, 116, 32, 99, 104, 101, 99, 107]⟩ := rfl
  rw [e] at h
  go_enter Tryz.func32, Tryz.ntmps32
  go_wp2_with fail
  refine h.mono ?_
  rintro e w2 ⟨B, m, d, rfl, hb, hE2⟩
  go_wp2_with fail
  go_ret
  exact ⟨B, m, d, rfl, hb, hE1.trans hE2⟩
end Go.Proofs.YtkndgpjamijbbaaGreat
