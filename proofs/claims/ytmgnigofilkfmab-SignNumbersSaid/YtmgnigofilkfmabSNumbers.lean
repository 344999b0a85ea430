/-
  law5.SignNumbers, walked.
-/
import Derived.Test.YtmgnigofilkfmabDec5
import Derived.Test.YtmgnigofilkfmabSTurned
import Derived.Test.YtmgnigofilkfmabSTells
namespace Go.Proofs.Ytmgnigofilkfmab
set_option maxRecDepth 100000
open Go Go.RowKit
theorem rtake_ok {L : List UInt8} {bad : Bool} {z : Nat} (h : (rtake L bad z).2.2 = false) : bad = false ∧ z ≤ L.length ∧ (rtake L bad z).2.1 = L.drop z ∧ (rtake L bad z).1 = L.take z := by
  unfold rtake at h ⊢
  by_cases hc : bad = true ∨ (z : Int) < 0 ∨ (L.length : Int) < z
  · rw [if_pos hc] at h; cases h
  · rw [if_neg hc]
    have hb : bad = false := by
      cases bad with
      | false => rfl
      | true => exact absurd (.inl rfl) hc
    refine ⟨hb, by omega, rfl, rfl⟩
theorem someS_ok (s : List UInt8 × Bool) : ∀ n, (someS s n).2 = false → s.2 = false ∧ 32 * n ≤ s.1.length ∧ (someS s n).1 = s.1.drop (32 * n) := by
  intro n
  induction n with
  | zero => intro h; exact ⟨h, by omega, by simp [someS]⟩
  | succ n ih =>
    intro h
    have h' : (rtake (someS s n).1 (someS s n).2 ((32 : Nat) : Int)).2.2 = false := h
    obtain ⟨h1, h2, h3, _⟩ := rtake_ok h'
    obtain ⟨i1, i2, i3⟩ := ih h1
    rw [i3, List.length_drop] at h2
    refine ⟨i1, by omega, ?_⟩
    have h4 : (someS s (n + 1)).1 = (rtake (someS s n).1 (someS s n).2 ((32 : Nat) : Int)).2.1 := rfl
    rw [h4, h3, i3, List.drop_drop]
    congr 1
theorem decOK5_len {L : List UInt8} (h : decOK5 L = true) : L.length = 2180 := by
  unfold decOK5 at h
  simp only [Bool.and_eq_true, Bool.not_eq_true', List.isEmpty_iff] at h
  obtain ⟨⟨h1, h2⟩, _⟩ := h
  obtain ⟨a1, a2, a3⟩ := someS_ok (dS2 L) 4 h1
  obtain ⟨b1, b2, b3⟩ := someS_ok (dS1 L) 64 a1
  have h' : (rtake L false ((4 : Nat) : Int)).2.2 = false := b1
  obtain ⟨_, c2, c3, _⟩ := rtake_ok h'
  have c4 : (dS1 L).1 = L.drop 4 := c3
  have d1 : (dS2 L).1 = (dS1 L).1.drop (32 * 64) := b3
  have d2 : (dS3 L).1 = (dS2 L).1.drop (32 * 4) := a3
  have e : ((dS3 L).1).length = 0 := by rw [h2]; rfl
  rw [d2, d1, c4, List.length_drop, List.length_drop, List.length_drop] at e
  rw [d1, c4, List.length_drop, List.length_drop] at a2
  rw [c4, List.length_drop] at b2
  omega
theorem ssign_arg (A B : Option Addr) (n c m e' : Nat) (key : Int) (w : World) (h : n ≠ 32) :
    Calls Try.prog 32 #[.slice A n c, .int .i64 key, .slice B m e'] w fun e w' => e = .returned (.tuple #[.agg #[.int .i64 0, .slice none 0 0, .slice none 0 0], .int .i64 1]) ∧ Ext w w' := by
  have hn : ¬ ((n : Int) = 32) := by omega
  have hB6 := Blk.new w 52 #[.int .i64 0, .slice none 0 0, .slice none 0 0]
  have hE := Ext.new w (.cells #[.int .i64 0, .slice none 0 0, .slice none 0 0] 52)
  go_enter Try.func32, Try.ntmps32
  go_wp2_with fail
  refine bodyPost_ret (results_sig rfl _ _ w.heap.size _ _ _ rfl hB6 Try.underlying52 rfl rfl) rfl ?_
  exact ⟨rfl, hE⟩
theorem Runs.lit5m {o : Oper} {ρ : Operand → Value} {w : World} {G : Value → World → Prop} (ho : o.op = .buildSlice 22 5 #[(0, .const (.int .u8 115)), (1, .const (.int .u8 104)), (2, .const (.int .u8 111)), (3, .const (.int .u8 114)), (4, .const (.int .u8 116))])
    (h0 : ∀ v, ρ (.const v) = v) (h : ∀ w', Ext w w' → OB w' w.heap.size (some ⟨w.heap.size, 0, none⟩) 5 5 [115, 104, 111, 114, 116] → G (.slice (some ⟨w.heap.size, 0, none⟩) 5 5) w') : Runs Try.prog o ρ w G := by
  refine Runs.of_run (r := .slice (some ⟨w.heap.size, 0, none⟩) 5 5) (w' := w.alloc (.cells (bv [115, 104, 111, 114, 116]).toArray 5)) ?_ (h _ (Ext.new w _) (OB.lit w [115, 104, 111, 114, 116] rfl (small_maxLen (by decide))))
  unfold execOp
  simp only [ho, h0, List.map_toArray, List.map_cons, List.map_nil]
  go_simp
  rfl
def UpN (w1 : World) (n : Nat) (i : Value) (wr : World) : Prop := ∃ k : Nat, k ≤ n ∧ i = .int .i64 k ∧ Ext w1 wr
set_option maxHeartbeats 16000000 in
theorem snumbers_law (w : World) : Calls Try.prog 13 #[] w fun e w' => e = .returned (.bool true) ∧ Ext w w' := by
  go_enter Try.func13, Try.ntmps13
  go_wp2_with fail
  refine (seed_any 0 w (by omega) (by omega)).mono ?_
  rintro e w1 ⟨A1, c1, rfl, own1, hE1⟩
  generalize seedL 0 = S at *
  go_wp2_with fail
  refine (rnew_any A1 c1 S w1 own1.rb).mono ?_
  rintro e w2 ⟨g1, rfl, o1, hE2⟩
  have hE12 := hE1.trans hE2
  have o1' := o1
  obtain ⟨A, c, LA, lc, rS, hB, _⟩ := o1'
  have y0 := hB.cell (i := 0) (v := .slice A 32 c) rfl
  clear own1 hE1 hE2
  go_wp2_with fail
  refine (spublic_any A c S w2 rS).mono ?_
  rintro e w3 ⟨A3, c3, rfl, own3, hE3⟩
  have rP3 := own3.rb
  have o3 := o1.ext hE3
  have hE13 := hE12.trans hE3
  clear y0 own3
  go_upto_region 3 with (fail)
  refine par_mk (n := 13) (by kernel_rfl) [.is (.slice (A3) (32) (c3)), .is (.string (str (ownP S))), .is (.pointer (some ⟨g1, 0, none⟩)), .rbm (ownP S), .is (.string (str (ownP S))), .is (.bool (false)), .is (.bool (false)), .lit (w3.heap.size) 5 ([115, 104, 111, 114, 116]), .rbk (5) ([115, 104, 111, 114, 116]), .is (.slice (none) (0) (0)), .is (.int .i64 ((0 : Nat))), .is (.bool (false)), .is (.bool (false))] rfl ⟨?_, ?_, ?_, ?_, ?_, ?_, ?_, ?_, ?_, ?_, ?_, ?_, ?_, trivial⟩ ?_
  · refine stepEM rfl fun sdn sa sw sE sd sk => ?_
    have h2 : sa.eval (.tmp 2) = .slice (A3) (32) (c3) := sk.old 2 rfl
    exact Runs.move rfl h2 ⟨Ext.refl _, rfl⟩
  · refine stepEM rfl fun sdn sa sw sE sd sk => ?_
    have h21 : sa.eval (.tmp 21) = .slice (A3) (32) (c3) := sk.fact 0 21 rfl (sd 0 rfl)
    exact Runs.conv rfl h21 (run_str (rP3.ext sE)) ⟨Ext.refl _, rfl⟩
  · refine stepEM rfl fun sdn sa sw sE sd sk => ?_
    have h1 : sa.eval (.tmp 1) = .pointer (some ⟨g1, 0, none⟩) := sk.old 1 rfl
    exact Runs.move rfl h1 ⟨Ext.refl _, rfl⟩
  · refine stepEM rfl fun sdn sa sw sE sd sk => ?_
    have h23 : sa.eval (.tmp 23) = .pointer (some ⟨g1, 0, none⟩) := sk.fact 2 23 rfl (sd 2 rfl)
    refine Runs.call (f := 37) (vs := [.pointer (some ⟨g1, 0, none⟩)]) rfl rfl rfl (by simp only [List.map_toArray, List.map_cons, List.map_nil, h23] <;> rfl) (ent37 _ _) ((rpublic_any g1 _ S sw (o3.ext sE)).mono ?_); rintro e w' ⟨A', c', rfl, own, hx⟩; exact ⟨_, rfl, hx, A', 32, c', rfl, own⟩
  · refine stepEM rfl fun sdn sa sw sE sd sk => ?_
    obtain ⟨A24, n24, c24, h24, r24⟩ := sk.fact 3 24 rfl (sd 3 rfl)
    exact Runs.conv rfl h24 (run_str r24) ⟨Ext.refl _, rfl⟩
  · refine stepEM rfl fun sdn sa sw sE sd sk => ?_
    have h22 : sa.eval (.tmp 22) = .string (str (ownP S)) := sk.fact 1 22 rfl (sd 1 rfl)
    have h25 : sa.eval (.tmp 25) = .string (str (ownP S)) := sk.fact 4 25 rfl (sd 4 rfl)
    exact Runs.bin rfl h22 h25 (by rfl) (bin_nes _ _ _) ⟨Ext.refl _, congrArg Value.bool (by simp)⟩
  · refine stepEM rfl fun sdn sa sw sE sd sk => ?_
    have h26 : sa.eval (.tmp 26) = .bool (false) := sk.fact 5 26 rfl (sd 5 rfl)
    exact Runs.move rfl h26 ⟨Ext.refl _, rfl⟩
  · refine stepYM (j := 6) (d := 27) (b := false) rfl rfl rfl (fun v w h => h) fun sdn sa sw sE sd sk => ?_
    exact Runs.lit5m rfl (fun v => rfl) (fun w1 e1 o1 => ⟨e1, _, rfl, o1.rb, o1.shape, sE.size, (o1.lt (k := _) rfl).2⟩)
  · refine stepYK (j := 6) (d := 27) (b := false) rfl rfl rfl (fun v w h => h) fun sdn sa sw sE sd sk => ?_
    obtain ⟨g28, h28, r28, s28, b28, l28⟩ := sk.fact 7 28 rfl (sd 7 rfl)
    exact Runs.conv_w rfl h28 (run_mark sw _ _ g28 5 5 5 Try.underlying22 Try.underlying5 s28) ⟨⟨Mk.freeze _ _ _, sE.freeze b28⟩, _, _, rfl, r28.mk_ (Mk.freeze _ _ _)⟩
  · refine stepYM (j := 6) (d := 27) (b := false) rfl rfl rfl (fun v w h => h) fun sdn sa sw sE sd sk => ?_
    obtain ⟨A29, c29, h29, r29⟩ := sk.fact 8 29 rfl (sd 8 rfl)
    refine Runs.call (f := 31) (vs := [.slice (A29) (5) (c29)]) rfl rfl rfl (by simp only [List.map_toArray, List.map_cons, List.map_nil, h29] <;> rfl) (ent31 _ _) ((spublic_none _ _ _ sw (by decide)).mono ?_); rintro e w' ⟨rfl, hx⟩; exact ⟨_, rfl, hx, rfl⟩
  · refine stepYM (j := 6) (d := 27) (b := false) rfl rfl rfl (fun v w h => h) fun sdn sa sw sE sd sk => ?_
    have h30 : sa.eval (.tmp 30) = .slice (none) (0) (0) := sk.fact 9 30 rfl (sd 9 rfl)
    exact Runs.len Try.underlying22 rfl h30 ⟨Ext.refl _, rfl⟩
  · refine stepYM (j := 6) (d := 27) (b := false) rfl rfl rfl (fun v w h => h) fun sdn sa sw sE sd sk => ?_
    have h31 : sa.eval (.tmp 31) = .int .i64 ((0 : Nat)) := sk.fact 10 31 rfl (sd 10 rfl)
    exact Runs.bin rfl h31 rfl (by rfl) (bin_neq _ _ _ _) ⟨Ext.refl _, congrArg Value.bool (by decide)⟩
  · refine stepEM rfl fun sdn sa sw sE sd sk => ?_
    have h27 : sa.eval (.tmp 27) = .bool (false) := sk.fact 6 27 rfl (sd 6 rfl)
    have h32 : sa.eval (.tmp 32) = .bool (false) := sk.fact 11 32 rfl (sd 11 rfl)
    exact Runs.pick rfl h27 ⟨Ext.refl _, by first | exact h32 | simpa using h32⟩
  intro vals w4 hE4 hv4
  have e0 : vals 0 = .slice (A3) (32) (c3) := hv4 0 (by omega) 21 rfl
  have e1 : vals 1 = .string (str (ownP S)) := hv4 1 (by omega) 22 rfl
  have e2 : vals 2 = .pointer (some ⟨g1, 0, none⟩) := hv4 2 (by omega) 23 rfl
  obtain ⟨A24, n24, c24, e3, r24⟩ := hv4 3 (by omega) 24 rfl
  have e4 : vals 4 = .string (str (ownP S)) := hv4 4 (by omega) 25 rfl
  have e5 : vals 5 = .bool (false) := hv4 5 (by omega) 26 rfl
  have e6 : vals 6 = .bool (false) := hv4 6 (by omega) 27 rfl
  obtain ⟨g28, e7, r28, s28, b28, l28⟩ := hv4 7 (by omega) 28 rfl
  obtain ⟨A29, c29, e8, r29⟩ := hv4 8 (by omega) 29 rfl
  have e9 : vals 9 = .slice (none) (0) (0) := hv4 9 (by omega) 30 rfl
  have e10 : vals 10 = .int .i64 ((0 : Nat)) := hv4 10 (by omega) 31 rfl
  have e11 : vals 11 = .bool (false) := hv4 11 (by omega) 32 rfl
  have e12 : vals 12 = .bool (false) := hv4 12 (by omega) 33 rfl
  simp only [putAll, Act.put, List.take_succ_cons, List.take_zero, List.drop_succ_cons, List.drop_zero, List.drop_nil, List.take_nil, Nat.reduceAdd, List.setIfInBounds_toArray, List.set_cons_succ, List.set_cons_zero, e0, e1, e2, e3, e4, e5, e6, e7, e8, e9, e10, e11, e12]
  clear hv4 e0 e1 e2 e3 e4 e5 e6 e7 e8 e9 e10 e11 e12
  have hE14 := hE13.trans hE4
  have o4 := o3.ext hE4
  have rP := rP3.ext hE4
  have rS := rS.ext (hE3.trans hE4)
  have hB := hB.ext (hE3.trans hE4)
  clear o3 rP3 hE13 hE4 hE12 hE3 o1
  go_wp2_with fail
  have e0 : ((0 : Nat) : Int) = 0 := rfl
  simp only [e0]
  clear e0
  go_loopw [3] (fun i wr => UpN w4 16 i wr) (fun i _ => 16 - (intOf i).toNat)
  case atStart => exact ⟨0, by omega, rfl, Ext.refl _⟩
  case round =>
    obtain ⟨k, hk, rfl, hEr⟩ := hrel
    by_cases hlt : k < 16
    · have hki : (k : Int) < 16 := by omega
      have hcb := fun w' => conv_byte (P := Try.prog) (w := w') Try.underlying3 Try.underlying5 (k : Int)
      have hBr := hB.ext hEr
      have rSr := rS.ext hEr
      have hEl := Ext.new wr (.cells #[.int .u8 (u8i (byteI (k : Int)))] 5)
      have rM := RB.lit wr [byteI (k : Int)] (n := 1) rfl (small_maxLen (by decide))
      have rM : RB (wr.alloc (.cells #[.int .u8 (u8i (byteI (k : Int)))] 5)) (some ⟨wr.heap.size, 0, none⟩) 1 1 [byteI (k : Int)] := rM
      have y0 := (hBr.ext hEl).cell (i := 0) (v := .slice A 32 c) rfl
      obtain ⟨M, hM⟩ : ∃ M, M = [byteI (k : Int)] := ⟨_, rfl⟩
      rw [← hM] at rM
      have hv3 := verB_own S M k hlt
      have hpl := partsS_32 (digestW M) S (k : Int)
      have hql := pathL_32 S hlt
      obtain ⟨PS, hPS⟩ : ∃ PS, PS = (List.range 64).map (partS (digestW M) S (k : Int)) := ⟨_, rfl⟩
      obtain ⟨QS, hQS⟩ : ∃ QS, QS = pathL S k := ⟨_, rfl⟩
      have HPS := Lib.hid hPS
      have HQS := Lib.hid hQS
      rw [← hPS, ← hQS] at hv3
      rw [← hPS] at hpl
      rw [← hQS] at hql
      have Hv3 := Lib.hid hv3
      have Hpl := Lib.hid hpl
      have Hql := Lib.hid hql
      have hsg := ssign_any A (some ⟨wr.heap.size, 0, none⟩) c 1 1 k S M _ (rSr.ext hEl) rM (by omega) hlt
      rw [← hPS, ← hQS] at hsg
      have Hsg := Lib.hid hsg
      clear hM hv3 hpl hql hPS hQS hBr rSr hsg
      go_wp2_with fail
      refine Hsg.out.mono ?_
      rintro e w5 ⟨P, d, Q', d', rfl, rPs, rQs, hE5⟩
      clear Hsg hcb y0
      have hE6 := Ext.new w5 (.cells #[.int .i64 (k : Int), .slice P 64 d, .slice Q' 4 d'] 52)
      have hB6 := Blk.new w5 52 #[.int .i64 (k : Int), .slice P 64 d, .slice Q' 4 d']
      have hEl6 := hE5.trans hE6
      have hEr6 := (hEr.trans hEl).trans hEl6
      have o1 := o4.ext hEr6
      have rPr := rP.ext hEr6
      have rM := rM.ext hEl6
      have rPs := rPs.ext hE6
      have rQs := rQs.ext hE6
      clear hEl hEl6 hE5 hE6 hEr
      go_upto_region 10 with (fail)
      generalize w5.alloc (.cells #[.int .i64 (k : Int), .slice P 64 d, .slice Q' 4 d'] 52) = w6 at *
      refine par_ext (n := 18) (by kernel_rfl) [.is (.int .i64 ((0 : Int))), .is (.bool (false)), .is (.bool (false)), .is (.agg #[.int .i64 (k : Int), .slice P 64 d, .slice Q' 4 d']), .is (.pointer (some ⟨g1, 0, none⟩)), .is (.int .i64 (((k : Nat) : Int))), .is (.slice (some ⟨wr.heap.size, 0, none⟩) (1) (1)), .sg (k : Int) 64 4 PS QS, .is (.bool (true)), .is (.bool (false)), .is (.bool (false)), .is (.bool (false)), .is (.slice (A3) (32) (c3)), .is (.slice (some ⟨wr.heap.size, 0, none⟩) (1) (1)), .is (.agg #[.int .i64 (k : Int), .slice P 64 d, .slice Q' 4 d']), .is (.bool (true)), .is (.bool (false)), .is (.bool (false))] rfl ⟨?_, ?_, ?_, ?_, ?_, ?_, ?_, ?_, ?_, ?_, ?_, ?_, ?_, ?_, ?_, ?_, ?_, ?_, trivial⟩ ?_
      · refine stepE rfl fun sdn sa sw sE sd sk => ?_
        have h6 : sa.eval (.tmp 6) = .int .i64 ((0 : Int)) := sk.old 6 rfl
        exact Runs.move rfl h6 ⟨Ext.refl _, rfl⟩
      · refine stepE rfl fun sdn sa sw sE sd sk => ?_
        have h51 : sa.eval (.tmp 51) = .int .i64 ((0 : Int)) := sk.fact 0 51 rfl (sd 0 rfl)
        exact Runs.bin rfl h51 rfl (by rfl) (bin_neq _ _ _ _) ⟨Ext.refl _, congrArg Value.bool (by decide)⟩
      · refine stepE rfl fun sdn sa sw sE sd sk => ?_
        have h52 : sa.eval (.tmp 52) = .bool (false) := sk.fact 1 52 rfl (sd 1 rfl)
        exact Runs.move rfl h52 ⟨Ext.refl _, rfl⟩
      · refine stepY (j := 2) (d := 53) (b := false) rfl rfl rfl (fun v w h => h) fun sdn sa sw sE sd sk => ?_
        have h5 : sa.eval (.tmp 5) = .pointer (some ⟨w5.heap.size, 0, none⟩) := sk.old 5 rfl
        exact Runs.load rfl h5 (load_sig (hB6.ext sE)) ⟨Ext.refl _, rfl⟩
      · refine stepY (j := 2) (d := 53) (b := false) rfl rfl rfl (fun v w h => h) fun sdn sa sw sE sd sk => ?_
        have h1 : sa.eval (.tmp 1) = .pointer (some ⟨g1, 0, none⟩) := sk.old 1 rfl
        exact Runs.move rfl h1 ⟨Ext.refl _, rfl⟩
      · refine stepY (j := 2) (d := 53) (b := false) rfl rfl rfl (fun v w h => h) fun sdn sa sw sE sd sk => ?_
        have h3 : sa.eval (.tmp 3) = .int .i64 (((k : Nat) : Int)) := sk.old 3 rfl
        exact Runs.move rfl h3 ⟨Ext.refl _, rfl⟩
      · refine stepY (j := 2) (d := 53) (b := false) rfl rfl rfl (fun v w h => h) fun sdn sa sw sE sd sk => ?_
        have h4 : sa.eval (.tmp 4) = .slice (some ⟨wr.heap.size, 0, none⟩) (1) (1) := sk.old 4 rfl
        exact Runs.move rfl h4 ⟨Ext.refl _, rfl⟩
      · refine stepY (j := 2) (d := 53) (b := false) rfl rfl rfl (fun v w h => h) fun sdn sa sw sE sd sk => ?_
        have h55 : sa.eval (.tmp 55) = .pointer (some ⟨g1, 0, none⟩) := sk.fact 4 55 rfl (sd 4 rfl)
        have h56 : sa.eval (.tmp 56) = .int .i64 (((k : Nat) : Int)) := sk.fact 5 56 rfl (sd 5 rfl)
        have h57 : sa.eval (.tmp 57) = .slice (some ⟨wr.heap.size, 0, none⟩) (1) (1) := sk.fact 6 57 rfl (sd 6 rfl)
        refine Runs.call (f := 36) (vs := [.pointer (some ⟨g1, 0, none⟩), .int .i64 (((k : Nat) : Int)), .slice (some ⟨wr.heap.size, 0, none⟩) (1) (1)]) rfl rfl rfl (by simp only [List.map_toArray, List.map_cons, List.map_nil, h55, h56, h57] <;> rfl) (ent36 _ _) ((rsign_any _ g1 _ _ _ k S M sw (o1.ext sE) (rM.ext sE) (by omega) (by omega)).mono ?_); rintro e w' ⟨P', d', Q', e', rfl, h1, h2, hx⟩; exact ⟨_, rfl, hx, P', d', Q', e', rfl, HPS.out.symm ▸ h1, HQS.out.symm ▸ h2⟩
      · refine stepY (j := 2) (d := 53) (b := false) rfl rfl rfl (fun v w h => h) fun sdn sa sw sE sd sk => ?_
        have h54 : sa.eval (.tmp 54) = .agg #[.int .i64 (k : Int), .slice P 64 d, .slice Q' 4 d'] := sk.fact 3 54 rfl (sd 3 rfl)
        obtain ⟨P58, d58, Q58, e58, h58, r58, q58⟩ := sk.fact 7 58 rfl (sd 7 rfl)
        refine Runs.call (f := 39) (vs := [.agg #[.int .i64 (k : Int), .slice P 64 d, .slice Q' 4 d'], .agg #[.int .i64 (k : Int), .slice P58 64 d58, .slice Q58 4 e58]]) rfl rfl rfl (by simp only [List.map_toArray, List.map_cons, List.map_nil, h54, h58] <;> rfl) (ent39 _ _) ((rsame_true _ _ _ _ _ _ _ _ _ _ _ _ _ _ _ sw (rPs.ext sE) (rQs.ext sE) r58 q58).mono ?_); rintro e w' ⟨rfl, hx⟩; exact ⟨_, rfl, hx, rfl⟩
      · refine stepY (j := 2) (d := 53) (b := false) rfl rfl rfl (fun v w h => h) fun sdn sa sw sE sd sk => ?_
        have h59 : sa.eval (.tmp 59) = .bool (true) := sk.fact 8 59 rfl (sd 8 rfl)
        exact Runs.un rfl h59 (by rfl) ⟨Ext.refl _, rfl⟩
      · refine stepE rfl fun sdn sa sw sE sd sk => ?_
        have h53 : sa.eval (.tmp 53) = .bool (false) := sk.fact 2 53 rfl (sd 2 rfl)
        have h60 : sa.eval (.tmp 60) = .bool (false) := sk.fact 9 60 rfl (sd 9 rfl)
        exact Runs.pick rfl h53 ⟨Ext.refl _, by first | exact h60 | simpa using h60⟩
      · refine stepE rfl fun sdn sa sw sE sd sk => ?_
        have h61 : sa.eval (.tmp 61) = .bool (false) := sk.fact 10 61 rfl (sd 10 rfl)
        exact Runs.move rfl h61 ⟨Ext.refl _, rfl⟩
      · refine stepY (j := 11) (d := 62) (b := false) rfl rfl rfl (fun v w h => h) fun sdn sa sw sE sd sk => ?_
        have h2 : sa.eval (.tmp 2) = .slice (A3) (32) (c3) := sk.old 2 rfl
        exact Runs.move rfl h2 ⟨Ext.refl _, rfl⟩
      · refine stepY (j := 11) (d := 62) (b := false) rfl rfl rfl (fun v w h => h) fun sdn sa sw sE sd sk => ?_
        have h4 : sa.eval (.tmp 4) = .slice (some ⟨wr.heap.size, 0, none⟩) (1) (1) := sk.old 4 rfl
        exact Runs.move rfl h4 ⟨Ext.refl _, rfl⟩
      · refine stepY (j := 11) (d := 62) (b := false) rfl rfl rfl (fun v w h => h) fun sdn sa sw sE sd sk => ?_
        have h5 : sa.eval (.tmp 5) = .pointer (some ⟨w5.heap.size, 0, none⟩) := sk.old 5 rfl
        exact Runs.load rfl h5 (load_sig (hB6.ext sE)) ⟨Ext.refl _, rfl⟩
      · refine stepY (j := 11) (d := 62) (b := false) rfl rfl rfl (fun v w h => h) fun sdn sa sw sE sd sk => ?_
        have h63 : sa.eval (.tmp 63) = .slice (A3) (32) (c3) := sk.fact 12 63 rfl (sd 12 rfl)
        have h64 : sa.eval (.tmp 64) = .slice (some ⟨wr.heap.size, 0, none⟩) (1) (1) := sk.fact 13 64 rfl (sd 13 rfl)
        have h65 : sa.eval (.tmp 65) = .agg #[.int .i64 (k : Int), .slice P 64 d, .slice Q' 4 d'] := sk.fact 14 65 rfl (sd 14 rfl)
        refine Runs.call (f := 33) (vs := [.slice (A3) (32) (c3), .slice (some ⟨wr.heap.size, 0, none⟩) (1) (1), .agg #[.int .i64 (k : Int), .slice P 64 d, .slice Q' 4 d']]) rfl rfl rfl (by simp only [List.map_toArray, List.map_cons, List.map_nil, h63, h64, h65] <;> rfl) (ent33 _ _) ((sverify_any _ _ P Q' _ _ _ _ 64 d 4 d' (k : Int) _ M PS QS sw (rPr.ext sE) (rM.ext sE) (by omega) (rPs.ext sE) (rQs.ext sE)).mono ?_); rintro e w' ⟨rfl, hx⟩; exact ⟨_, rfl, hx, congrArg Value.bool (Hv3.out)⟩
      · refine stepY (j := 11) (d := 62) (b := false) rfl rfl rfl (fun v w h => h) fun sdn sa sw sE sd sk => ?_
        have h66 : sa.eval (.tmp 66) = .bool (true) := sk.fact 15 66 rfl (sd 15 rfl)
        exact Runs.un rfl h66 (by rfl) ⟨Ext.refl _, rfl⟩
      · refine stepE rfl fun sdn sa sw sE sd sk => ?_
        have h62 : sa.eval (.tmp 62) = .bool (false) := sk.fact 11 62 rfl (sd 11 rfl)
        have h67 : sa.eval (.tmp 67) = .bool (false) := sk.fact 16 67 rfl (sd 16 rfl)
        exact Runs.pick rfl h62 ⟨Ext.refl _, by first | exact h67 | simpa using h67⟩
      intro vals w7 hE7 hv7
      have e0 : vals 0 = .int .i64 ((0 : Int)) := hv7 0 (by omega) 51 rfl
      have e1 : vals 1 = .bool (false) := hv7 1 (by omega) 52 rfl
      have e2 : vals 2 = .bool (false) := hv7 2 (by omega) 53 rfl
      have e3 : vals 3 = .agg #[.int .i64 (k : Int), .slice P 64 d, .slice Q' 4 d'] := hv7 3 (by omega) 54 rfl
      have e4 : vals 4 = .pointer (some ⟨g1, 0, none⟩) := hv7 4 (by omega) 55 rfl
      have e5 : vals 5 = .int .i64 (((k : Nat) : Int)) := hv7 5 (by omega) 56 rfl
      have e6 : vals 6 = .slice (some ⟨wr.heap.size, 0, none⟩) (1) (1) := hv7 6 (by omega) 57 rfl
      obtain ⟨P58, d58, Q58, e58, e7, r58, q58⟩ := hv7 7 (by omega) 58 rfl
      have e8 : vals 8 = .bool (true) := hv7 8 (by omega) 59 rfl
      have e9 : vals 9 = .bool (false) := hv7 9 (by omega) 60 rfl
      have e10 : vals 10 = .bool (false) := hv7 10 (by omega) 61 rfl
      have e11 : vals 11 = .bool (false) := hv7 11 (by omega) 62 rfl
      have e12 : vals 12 = .slice (A3) (32) (c3) := hv7 12 (by omega) 63 rfl
      have e13 : vals 13 = .slice (some ⟨wr.heap.size, 0, none⟩) (1) (1) := hv7 13 (by omega) 64 rfl
      have e14 : vals 14 = .agg #[.int .i64 (k : Int), .slice P 64 d, .slice Q' 4 d'] := hv7 14 (by omega) 65 rfl
      have e15 : vals 15 = .bool (true) := hv7 15 (by omega) 66 rfl
      have e16 : vals 16 = .bool (false) := hv7 16 (by omega) 67 rfl
      have e17 : vals 17 = .bool (false) := hv7 17 (by omega) 68 rfl
      simp only [putAll, Act.put, List.take_succ_cons, List.take_zero, List.drop_succ_cons, List.drop_zero, List.drop_nil, List.take_nil, Nat.reduceAdd, List.setIfInBounds_toArray, List.set_cons_succ, List.set_cons_zero, e0, e1, e2, e3, e4, e5, e6, e7, e8, e9, e10, e11, e12, e13, e14, e15, e16, e17]
      clear hv7 e0 e1 e2 e3 e4 e5 e6 e7 e8 e9 e10 e11 e12 e13 e14 e15 e16 e17
      have hEr7 := hEr6.trans hE7
      have hB7 := hB6.ext hE7
      have rPr := rPr.ext hE7
      have rM := rM.ext hE7
      have rPs := rPs.ext hE7
      have rQs := rQs.ext hE7
      clear hEr6 hB6 o1 hE7
      obtain ⟨gM, hgM⟩ : ∃ gM : Option Addr, gM = some ⟨wr.heap.size, 0, none⟩ := ⟨_, rfl⟩
      rw [← hgM] at rM ⊢
      clear hgM
      go_wp2_with fail
      go_loopw [7] (fun i wr => UpN w7 9 i wr) (fun i _ => 9 - (intOf i).toNat)
      case atStart => exact ⟨0, by omega, rfl, Ext.refl _⟩
      case round =>
        obtain ⟨h, hh, rfl, hE8⟩ := hrel
        by_cases hlt2 : h < 9
        · have hhi : (h : Int) < 9 := by omega
          have hB8 := hB7.ext hE8
          have z0 := hB8.cell (i := 0) (v := .int .i64 (k : Int)) rfl
          have z1 := hB8.cell (i := 1) (v := .slice P 64 d) rfl
          have z2 := hB8.cell (i := 2) (v := .slice Q' 4 d') rfl
          have htu := turned5_any (k : Int) (k : Int) (h : Int) P Q' d d' 1 PS QS wr (rPs.ext hE8) (rQs.ext hE8) Hpl.out Hql.out (by omega) (by omega) (by omega)
          have e1 : u8i 1 = 1 := rfl
          rw [e1] at htu
          have Htu := Lib.hid htu
          clear htu e1 hB8
          go_wp2_with fail
          refine Htu.out.mono ?_
          rintro e w9 ⟨x', P9, n9, d9, Q9, m9, e9, Ps9, Qs9, rfl, r9, q9, _, hE9⟩
          clear Htu z0 z1 z2
          have hE79 := hE8.trans hE9
          go_wp2_with fail
          refine (same5_any gM A3 P9 Q9 1 1 32 c3 n9 d9 m9 e9 x' _ M Ps9 Qs9 w9 (rPr.ext hE79) (rM.ext hE79) (by omega) r9 q9).mono ?_
          rintro e w10 ⟨rfl, hE10⟩
          go_wp2_with fail
          go_roundw
          case rel => exact ⟨h + 1, by omega, by go_num, hE79.trans hE10⟩
          case measure => simp [intOf]; omega
        · obtain rfl : h = 9 := by omega
          go_wp2_with fail
          go_roundw
          case rel => exact ⟨k + 1, by omega, by go_num, hEr7.trans hE8⟩
          case measure => simp [intOf]; omega
    · obtain rfl : k = 16 := by omega
      have es : (#[.int .u8 115, .int .u8 104, .int .u8 111, .int .u8 114, .int .u8 116] : Array Value).size = 5 := rfl
      have s0 := Lib.run_convert_bytes_const (P := Try.prog) wr 22 5 #[.int .u8 115, .int .u8 104, .int .u8 111, .int .u8 114, .int .u8 116] 5 5 Try.underlying22 Try.underlying5
      rw [es] at s0
      have hEc := Ext.new wr (.cells #[.int .u8 115, .int .u8 104, .int .u8 111, .int .u8 114, .int .u8 116] 5 (5, 5 + 1))
      go_wp2_with fail
      refine (ssign_arg _ _ 5 5 _ _ 0 _ (by decide)).mono ?_
      rintro e w5 ⟨rfl, hE5⟩
      clear s0 es
      have hE6 := Ext.new w5 (.cells #[.int .i64 0, .slice none 0 0, .slice none 0 0] 52)
      have hEr6 := ((hEr.trans hEc).trans hE5).trans hE6
      have hB6 := hB.ext hEr6
      have y0 := hB6.cell (i := 0) (v := .slice A 32 c) rfl
      clear hEr hEc hE5 hE6 hB6
      go_wp2_with fail
      refine (ssign_used A none c 0 0 (-1) _ (.inl (by omega))).mono ?_
      rintro e w7 ⟨rfl, hE7⟩
      clear y0
      have hE8 := Ext.new w7 (.cells #[.int .i64 0, .slice none 0 0, .slice none 0 0] 52)
      have hEr8 := (hEr6.trans hE7).trans hE8
      clear hEr6 hE7 hE8
      go_wp2_with (refine make_law (k := 2179) rfl rfl rfl rfl (by omega) ?_; intro w9 own9 hE9)
      have own9 := own9.rb
      rw [World.size_alloc] at own9
      have hZl := own9.len
      generalize List.replicate 2179 (0 : UInt8) = Z at *
      have hdn : decOK5 Z = false := by
        rcases Bool.eq_false_or_eq_true (decOK5 Z) with hd | hd
        · have := (decOK5_len hd).symm.trans hZl; omega
        · exact hd
      have hsd := sdecode_any _ 2179 2179 Z w9 own9 (by omega)
      rw [hdn] at hsd
      have Hsd := Lib.hid hsd
      clear hsd hZl hdn
      refine Hsd.out.mono ?_
      rintro e w10 ⟨_, hno, hE10⟩
      obtain rfl := hno rfl
      clear hno own9 Hsd
      go_wp2_with fail
      have hE11 := Ext.new w10 (.cells #[.int .i64 0, .slice none 0 0, .slice none 0 0] 52)
      refine (known5_any _).mono ?_
      rintro e w12 ⟨rfl, hE12⟩
      go_wp2_with fail
      go_ret
      exact ⟨rfl, hE14.trans ((((hEr8.trans hE9).trans hE10).trans hE11).trans hE12)⟩
end Go.Proofs.Ytmgnigofilkfmab
