/-
  law9.ManifestFields, walked.
-/
import Derived.Test.YtmgnigofilkfmabFieldsLaw
import Derived.Test.YtmgnigofilkfmabCopy
import Derived.Test.YtmgnigofilkfmabCuts
namespace Go.Proofs.Ytmgnigofilkfmab
set_option maxRecDepth 100000
open Go Go.RowKit
theorem kman_ver (a v f : Int) : 0 < u32i (kman a v f).ver ∧ u32i (kman a v f).ver ≤ 9 := by
  show 0 < u32i (verOf _) ∧ u32i (verOf _) ≤ 9
  unfold verOf u32i
  rw [UInt32.toNat_ofNat']
  omega
theorem u32i_succ {x : UInt32} (h : u32i x ≤ 9) : u32i (x + 1) = u32i x + 1 := by
  unfold u32i at h ⊢
  rw [UInt32.toNat_add]
  have h1 : (1 : UInt32).toNat = 1 := rfl
  rw [h1]
  omega
theorem right_mk {s fw nt : List UInt8} {x : UInt32} (h1 : nameOK s = true) (h2 : 0 < u32i x) (h3 : fw.length = 32) (h4 : nt.length ≤ 64) : rightM ⟨s, x, fw, nt⟩ = true := by simp [rightM, h1, h2, h3, h4]
theorem right_name {m : Man} (h : rightM m = true) : nameOK m.name = true := by
  simp only [rightM, Bool.and_eq_true] at h
  exact h.1.1.1
set_option maxHeartbeats 4000000 in
theorem fields_any (a v f : Int) (A B : Option Addr) (n c nb cb : Nat) (L M : List UInt8) (w : World) (hr : RB w A n c L) (hrb : RB w B nb cb M)
    (ha0 : -9223372036854775808 ≤ a) (ha1 : a ≤ 9223372036854775807) (hv0 : -9223372036854775808 ≤ v) (hv1 : v ≤ 9223372036854775807) (hf0 : -9223372036854775808 ≤ f) (hf1 : f ≤ 9223372036854775807) :
    Calls Try.prog 6 #[.int .i64 a, .int .i64 v, .int .i64 f, .slice A n c, .slice B nb cb] w fun e w' => e = .returned (.bool true) ∧ Ext w w' := by
  have hk := kman_any a v f w ha0 ha1 hv0 hv1 hf0 hf1
  have hm0 := kman_right a v f
  have hver := kman_ver a v f
  generalize kman a v f = m0 at hk hm0 hver
  obtain ⟨s0, x0, fw0, nt0⟩ := m0
  dsimp only at hk hver
  obtain ⟨m, hm⟩ : ∃ m : Man, m = ⟨s0, x0, sizedL L 32, M.take 64⟩ := ⟨_, rfl⟩
  obtain ⟨k, hkk⟩ : ∃ k : Man, k = ⟨s0, x0 + 1, sizedL L 32, M.take 64⟩ := ⟨_, rfl⟩
  have hs := u32i_succ hver.2
  have hrm : rightM m = true := by
    rw [hm]
    exact right_mk (right_name hm0) hver.1 (sizedL_length L 32) (by rw [List.length_take]; omega)
  have hrk : rightM k = true := by
    rw [hkk]
    exact right_mk (right_name hm0) (by omega) (sizedL_length L 32) (by rw [List.length_take]; omega)
  have Hver := Lib.hid hver
  have Hs := Lib.hid hs
  have Hrm := Lib.hid hrm
  have Hrk := Lib.hid hrk
  have Hm := Lib.hid hm
  have Hk := Lib.hid hkk
  clear hm0 hver hs hrm hrk hm hkk ha0 ha1 hv0 hv1 hf0 hf1
  go_enter Try.func6, Try.ntmps6
  go_wp2_with fail
  refine hk.mono ?_
  rintro e w1 ⟨F, nf, cf, N, nn, cn, rfl, hF, hN, hE1⟩
  clear hk
  unfold manV
  dsimp only
  go_upto_region 2 with (fail)
  obtain ⟨w2, hw2⟩ : ∃ w2, w2 = w1.alloc (.cells #[.string (str s0), .int .u32 (u32i x0), .slice F nf cf, .slice N nn cn] 27) := ⟨_, rfl⟩
  have hB2 : Blk w2 w1.heap.size 27 #[.string (str s0), .int .u32 (u32i x0), .slice F nf cf, .slice N nn cn] := by rw [hw2]; exact Blk.new w1 _ _
  have hE2 : Ext w w2 := by rw [hw2]; exact hE1.alloc _
  rw [← hw2]
  clear hw2
  have hs1 := sized_any A n c 32 L w2 (hr.ext hE2) (by omega)
  have e32 : ((32 : Nat) : Int) = 32 := rfl
  rw [e32] at hs1
  go_wp2_with fail
  refine hs1.mono ?_
  rintro e w3 ⟨rfl, own3, hE3⟩
  have hc1 := cut_any B nb cb 64 M w3 (hrb.ext (hE2.trans hE3)) (by omega)
  have e64 : ((64 : Nat) : Int) = 64 := rfl
  rw [e64] at hc1
  clear hs1
  go_wp2_with fail
  refine hc1.mono ?_
  rintro e w3' ⟨⟨rfl, rbn⟩, rfl⟩
  clear hc1 e32 e64
  obtain ⟨n64, hn64⟩ : ∃ n64, n64 = min nb 64 := ⟨_, rfl⟩
  have hn65 : n64 ≤ 64 := by omega
  rw [← hn64] at rbn ⊢
  clear hn64
  have hB3 := hB2.ext hE3
  have y2 := hB3.cell (i := 2) rfl
  have y3 := hB3.cell (i := 3) rfl
  have z2 := hB3.frozen 2
  have z3 := hB3.frozen 3
  go_upto_region 3 with (fail)
  obtain ⟨w4, hw4⟩ : ∃ w4, w4 = (w3.setCell ⟨w1.heap.size, 2, none⟩ (.slice (some ⟨w2.heap.size, 0, none⟩) 32 32)).setCell ⟨w1.heap.size, 3, none⟩ (.slice B n64 cb) := ⟨_, rfl⟩
  have g4 : w3.grownBy w4 (some w1.heap.size) := by rw [hw4]; exact (grownBy_setCell w3 ⟨w1.heap.size, 2, none⟩ _).trans (grownBy_setCell _ ⟨w1.heap.size, 3, none⟩ _)
  have hB4 : Blk w4 w1.heap.size 27 #[.string (str s0), .int .u32 (u32i x0), .slice (some ⟨w2.heap.size, 0, none⟩) 32 32, .slice B n64 cb] := by rw [hw4]; exact (hB3.set 2 _).set 3 _
  have rF4 : RB w4 (some ⟨w2.heap.size, 0, none⟩) 32 32 (sizedL L 32) := own3.rb.grown g4 (own3.rb.apart hB3 (man_no _ _ _ _ _ _ _ _))
  have rN4 : RB w4 B n64 cb (M.take 64) := rbn.grown g4 (rbn.apart hB3 (man_no _ _ _ _ _ _ _ _))
  have hE4 : Ext w w4 := (hE2.trans hE3).then_grown g4 (by intro k hk; cases hk; exact hE1.size)
  rw [← hw4]
  have hg12 : w1.heap.size < w4.heap.size := hB4.lt
  clear hw4 g4 hB3 y2 y3 z2 z3 rbn own3 hB2 hE3 hE2 hF hN
  have y0 := hB4.cell (i := 0) rfl
  have y1 := hB4.cell (i := 1) rfl
  have y2 := hB4.cell (i := 2) rfl
  have y3 := hB4.cell (i := 3) rfl
  go_upto_region 4 with (fail)
  obtain ⟨w5, hw5⟩ : ∃ w5, w5 = w4.alloc (.cells #[.string (str s0), .int .u32 (u32i x0), .slice (some ⟨w2.heap.size, 0, none⟩) 32 32, .slice B n64 cb] 27) := ⟨_, rfl⟩
  have hC5 : Blk w5 w4.heap.size 27 #[.string (str s0), .int .u32 (u32i x0), .slice (some ⟨w2.heap.size, 0, none⟩) 32 32, .slice B n64 cb] := by rw [hw5]; exact Blk.new w4 _ _
  have hE5 : Ext w4 w5 := by rw [hw5]; exact Ext.new w4 _
  rw [← hw5]
  clear hw5 y0 y1 y2 y3
  have hB5 := hB4.ext hE5
  have y1 := hB5.cell (i := 1) rfl
  have y2 := hC5.cell (i := 1) rfl
  have z1 := hC5.frozen 1
  go_upto_region 5 with (fail)
  have eadd : (u32i x0 + 1) % 4294967296 = u32i (x0 + 1) := by
    have h1 := Hver.out
    have h2 := Hs.out
    omega
  rw [eadd]
  obtain ⟨w6, hw6⟩ : ∃ w6, w6 = w5.setCell ⟨w4.heap.size, 1, none⟩ (.int .u32 (u32i (x0 + 1))) := ⟨_, rfl⟩
  have g6 : w5.grownBy w6 (some w4.heap.size) := by rw [hw6]; exact grownBy_setCell w5 ⟨w4.heap.size, 1, none⟩ _
  have hC6 : Blk w6 w4.heap.size 27 #[.string (str s0), .int .u32 (u32i (x0 + 1)), .slice (some ⟨w2.heap.size, 0, none⟩) 32 32, .slice B n64 cb] := by rw [hw6]; exact hC5.set 1 _
  have hB6 := hB5.grown g6 (by intro e; injection e with e; omega)
  have rF6 := (rF4.ext hE5).grown g6 ((rF4.ext hE5).apart hC5 (man_no _ _ _ _ _ _ _ _))
  have rN6 := (rN4.ext hE5).grown g6 ((rN4.ext hE5).apart hC5 (man_no _ _ _ _ _ _ _ _))
  have hE6 : Ext w w6 := (hE4.trans hE5).then_grown g6 (by intro k hk; cases hk; exact hE4.size)
  rw [← hw6]
  clear hw6 g6 y1 y2 z1 eadd hC5 hB5 rF4 rN4 hE5 hE4 hB4
  have y0 := hB6.cell (i := 0) rfl
  have y1 := hB6.cell (i := 1) rfl
  have y2 := hB6.cell (i := 2) rfl
  have y3 := hB6.cell (i := 3) rfl
  go_wp2_with fail
  have hrm := Hrm.out
  rw [Hm.out] at hrm
  refine (menc_yes ⟨s0, x0, sizedL L 32, M.take 64⟩ (some ⟨w2.heap.size, 0, none⟩) B 32 32 n64 cb w6 rF6 rN6 hrm).mono ?_
  rintro e w7 ⟨P, K, dP, rfl, ownP, hE7⟩
  clear y0 y1 y2 y3 hrm
  rw [← Hm.out] at ownP
  have hB7 := hB6.ext hE7
  have hC7 := hC6.ext hE7
  have y0 := hC7.cell (i := 0) rfl
  have y1 := hC7.cell (i := 1) rfl
  have y2 := hC7.cell (i := 2) rfl
  have y3 := hC7.cell (i := 3) rfl
  go_wp2_with fail
  have hrk := Hrk.out
  rw [Hk.out] at hrk
  refine (menc_yes ⟨s0, x0 + 1, sizedL L 32, M.take 64⟩ (some ⟨w2.heap.size, 0, none⟩) B 32 32 n64 cb w7 (rF6.ext hE7) (rN6.ext hE7) hrk).mono ?_
  rintro e w8 ⟨R, K', dR, rfl, ownR, hE8⟩
  clear y0 y1 y2 y3 hrk
  rw [← Hk.out] at ownR
  have hKK : K' = K := by
    rw [← ownP.len, ← ownR.len, enc_length, enc_length, Hm.out, Hk.out]
  subst hKK
  have rP := ownP.rb.ext hE8
  have rR := ownR.rb
  have hB8 := hB7.ext hE8
  have hC8 := hC7.ext hE8
  have hE08 := (hE6.trans hE7).trans hE8
  have rF8 := (rF6.ext hE7).ext hE8
  have rN8 := (rN6.ext hE7).ext hE8
  have hKl := ownR.len
  have Hkl := Lib.hid hKl
  have hK200 : K' ≤ 200 := by
    rw [← hKl, enc_length, Hk.out]
    dsimp only
    rw [sizedL_length, List.length_take]
    have h2 := (right_is Hrk.out).1.2.1
    rw [Hk.out] at h2
    dsimp only at h2
    omega
  have hsl : (str s0).size = s0.length := str_size s0
  have hs20 : s0.length ≤ 20 := by
    have h2 := (right_is Hrk.out).1.2.1
    rw [Hk.out] at h2
    exact h2
  clear ownP ownR hB7 hC7 hB6 hC6 hE6 hE7 hE8 rF6 rN6 hKl
  have hmk : k = { m with ver := x0 + 1 } := by rw [Hk.out, Hm.out]
  have Hmk := Lib.hid hmk
  have hne : encM m ≠ encM k := by
    have h1 := Hrk.out
    rw [hmk] at h1 ⊢
    refine enc_ne Hrm.out h1 ?_
    rw [Hm.out]
    intro e
    have e2 := Hs.out
    dsimp only at e
    rw [← e] at e2
    omega
  have Hne := Lib.hid hne
  have hml : (encM m).length = K' := by
    rw [← Hkl.out, enc_length, enc_length, Hm.out, Hk.out]
  have Hml := Lib.hid hml
  clear hmk hne hml
  go_wp2_with fail
  go_loopw [17, 18] (fun d i wr => ∃ q p : Nat, p ≤ K' ∧ q ≤ p ∧ d = .int .i64 q ∧ i = .int .i64 p ∧ Go.RowKit.Hid (q = 0 → ∀ j, j < p → ub (encM m) j = ub (encM k) j) ∧ Ext w8 wr) (fun _ i _ => K' - (intOf i).toNat)
  case atStart => exact ⟨0, 0, by omega, by omega, rfl, rfl, Lib.hid (fun _ j hj => by omega), Ext.refl _⟩
  case round =>
    obtain ⟨q, p, hp, hq, rfl, rfl, hz, hEr⟩ := hrel
    by_cases hlt : p < K'
    · obtain ⟨aP, rfl, cP⟩ := rP.cells (by omega)
      obtain ⟨aR, rfl, cR⟩ := rR.cells (by omega)
      go_upto_region 13 with (fail)
      refine par_ext (n := 9) (by kernel_rfl) [.is (.slice (some aP) (K') (dP)), .is (.int .i64 (((p : Nat) : Int))), .is (.pointer (some (aP.add (p)))), .is (.int .u8 (u8i (ub (encM m) (p)))), .is (.slice (some aR) (K') (dR)), .is (.int .i64 (((p : Nat) : Int))), .is (.pointer (some (aR.add (p)))), .is (.int .u8 (u8i (ub (encM k) (p)))), .is (.bool (decide (u8i ((ub (encM m) (p))) ≠ u8i ((ub (encM k) (p))))))] rfl ⟨?_, ?_, ?_, ?_, ?_, ?_, ?_, ?_, ?_, trivial⟩ ?_
      · refine stepE rfl fun sdn sa sw sE sd sk => ?_
        have h13 : sa.eval (.tmp 13) = .slice (some aP) (K') (dP) := sk.old 13 rfl
        exact Runs.move rfl h13 ⟨Ext.refl _, rfl⟩
      · refine stepE rfl fun sdn sa sw sE sd sk => ?_
        have h18 : sa.eval (.tmp 18) = .int .i64 (((p : Nat) : Int)) := sk.old 18 rfl
        exact Runs.move rfl h18 ⟨Ext.refl _, rfl⟩
      · refine stepE rfl fun sdn sa sw sE sd sk => ?_
        have h63 : sa.eval (.tmp 63) = .slice (some aP) (K') (dP) := sk.fact 0 63 rfl (sd 0 rfl)
        have h64 : sa.eval (.tmp 64) = .int .i64 (((p : Nat) : Int)) := sk.fact 1 64 rfl (sd 1 rfl)
        exact Runs.idx rfl h63 h64 (run_idx_sl1 Try.underlying22 inf22_eq inf22_size (p) (by omega) (by omega)) ⟨Ext.refl _, rfl⟩
      · refine stepE rfl fun sdn sa sw sE sd sk => ?_
        have h65 : sa.eval (.tmp 65) = .pointer (some (aP.add (p))) := sk.fact 2 65 rfl (sd 2 rfl)
        exact Runs.load rfl h65 (run_load1 Try.underlying5 rfl (cell_at cP (hEr.trans sE) (by omega))) ⟨Ext.refl _, rfl⟩
      · refine stepE rfl fun sdn sa sw sE sd sk => ?_
        have h15 : sa.eval (.tmp 15) = .slice (some aR) (K') (dR) := sk.old 15 rfl
        exact Runs.move rfl h15 ⟨Ext.refl _, rfl⟩
      · refine stepE rfl fun sdn sa sw sE sd sk => ?_
        have h18 : sa.eval (.tmp 18) = .int .i64 (((p : Nat) : Int)) := sk.old 18 rfl
        exact Runs.move rfl h18 ⟨Ext.refl _, rfl⟩
      · refine stepE rfl fun sdn sa sw sE sd sk => ?_
        have h67 : sa.eval (.tmp 67) = .slice (some aR) (K') (dR) := sk.fact 4 67 rfl (sd 4 rfl)
        have h68 : sa.eval (.tmp 68) = .int .i64 (((p : Nat) : Int)) := sk.fact 5 68 rfl (sd 5 rfl)
        exact Runs.idx rfl h67 h68 (run_idx_sl1 Try.underlying22 inf22_eq inf22_size (p) (by omega) (by omega)) ⟨Ext.refl _, rfl⟩
      · refine stepE rfl fun sdn sa sw sE sd sk => ?_
        have h69 : sa.eval (.tmp 69) = .pointer (some (aR.add (p))) := sk.fact 6 69 rfl (sd 6 rfl)
        exact Runs.load rfl h69 (run_load1 Try.underlying5 rfl (cell_at cR (hEr.trans sE) (by omega))) ⟨Ext.refl _, rfl⟩
      · refine stepE rfl fun sdn sa sw sE sd sk => ?_
        have h66 : sa.eval (.tmp 66) = .int .u8 (u8i (ub (encM m) (p))) := sk.fact 3 66 rfl (sd 3 rfl)
        have h70 : sa.eval (.tmp 70) = .int .u8 (u8i (ub (encM k) (p))) := sk.fact 7 70 rfl (sd 7 rfl)
        exact Runs.bin rfl h66 h70 (by rfl) (bin_neq _ _ _ _) ⟨Ext.refl _, rfl⟩
      intro vals W1 hE hv
      have e0 : vals 0 = .slice (some aP) (K') (dP) := hv 0 (by omega) 63 rfl
      have e1 : vals 1 = .int .i64 (((p : Nat) : Int)) := hv 1 (by omega) 64 rfl
      have e2 : vals 2 = .pointer (some (aP.add (p))) := hv 2 (by omega) 65 rfl
      have e3 : vals 3 = .int .u8 (u8i (ub (encM m) (p))) := hv 3 (by omega) 66 rfl
      have e4 : vals 4 = .slice (some aR) (K') (dR) := hv 4 (by omega) 67 rfl
      have e5 : vals 5 = .int .i64 (((p : Nat) : Int)) := hv 5 (by omega) 68 rfl
      have e6 : vals 6 = .pointer (some (aR.add (p))) := hv 6 (by omega) 69 rfl
      have e7 : vals 7 = .int .u8 (u8i (ub (encM k) (p))) := hv 7 (by omega) 70 rfl
      have e8 : vals 8 = .bool (decide (u8i ((ub (encM m) (p))) ≠ u8i ((ub (encM k) (p))))) := hv 8 (by omega) 71 rfl
      simp only [putAll, Act.put, List.take_succ_cons, List.take_zero, List.drop_succ_cons, List.drop_zero, List.drop_nil, List.take_nil, Nat.reduceAdd, List.setIfInBounds_toArray, List.set_cons_succ, List.set_cons_zero, e0, e1, e2, e3, e4, e5, e6, e7, e8]
      clear hv e0 e1 e2 e3 e4 e5 e6 e7 e8
      have hB9 := hB8.ext (hEr.trans hE)
      have y0 := hB9.cell (i := 0) rfl
      by_cases he : ub (encM m) p = ub (encM k) p
      · have a1 : u8i (ub (encM m) p) = u8i (ub (encM k) p) := by rw [he]
        have hz2 : Go.RowKit.Hid (q = 0 → ∀ j, j < p + 1 → ub (encM m) j = ub (encM k) j) := Lib.hid (fun h j hj => by
          by_cases hj2 : j = p
          · rw [hj2]; exact he
          · exact hz.out h j (by omega))
        clear he
        go_wp2_with fail
        go_roundw
        case rel => exact ⟨q, p + 1, by omega, by omega, rfl, by go_num, hz2, hEr.trans hE⟩
        case measure => simp [intOf]; omega
      · have hb := Hmk.out
        have hb2 := enc_other m (x0 + 1) p (by rw [← hb]; exact he)
        have hb3 : s0.length + 3 ≤ p ∧ p < 7 + s0.length := by
          rw [Hm.out] at hb2
          dsimp only at hb2
          omega
        have a1 : ¬ u8i (ub (encM m) p) = u8i (ub (encM k) p) := fun e => he (u8i_inj e)
        clear hb hb2 he
        have hb4 := hb3.1
        have hb5 := hb3.2
        clear hb3
        go_wp2_with fail
        go_roundw
        case rel => exact ⟨q + 1, p + 1, by omega, by omega, by go_num, by go_num, Lib.hid (fun h => by omega), hEr.trans hE⟩
        case measure => simp [intOf]; omega
    · obtain rfl : p = K' := by omega
      have hq1 : 1 ≤ q := by
        rcases Nat.eq_zero_or_pos q with h0 | h0
        · exact absurd (list_ub (Hml.out.trans Hkl.out.symm) (fun j hj => hz.out h0 j (by rw [Hml.out] at hj; exact hj))) Hne.out
        · exact h0
      clear hz
      have hB9 := hB8.ext hEr
      have hC9 := hC8.ext hEr
      have y0 := hB9.cell (i := 0) rfl
      have y1 := hB9.cell (i := 1) rfl
      have y2 := hB9.cell (i := 2) rfl
      have y3 := hB9.cell (i := 3) rfl
      have x0' := hC9.cell (i := 0) rfl
      have x1' := hC9.cell (i := 1) rfl
      have x2' := hC9.cell (i := 2) rfl
      have x3' := hC9.cell (i := 3) rfl
      have hvv : u32i (x0 + 1) = u32i x0 + 1 := Hs.out
      have hsam : sameM ⟨s0, x0, sizedL L 32, M.take 64⟩ ⟨s0, x0 + 1, sizedL L 32, M.take 64⟩ = false := by
        have h1 : ¬ x0 = x0 + 1 := by
          intro e
          rw [← e] at hvv
          omega
        simp only [sameM, decide_eq_false h1, Bool.and_false, Bool.false_and]
      have hnew : newerM ⟨s0, x0 + 1, sizedL L 32, M.take 64⟩ ⟨s0, x0, sizedL L 32, M.take 64⟩ = true := by
        have h1 : u32i x0 < u32i (x0 + 1) := by omega
        simp only [newerM, decide_eq_true h1, decide_true, Bool.and_self]
      have Hsam := Lib.hid hsam
      have Hnew := Lib.hid hnew
      clear hvv hsam hnew
      go_wp2_with fail
      refine (msame_any ⟨s0, x0, sizedL L 32, M.take 64⟩ ⟨s0, x0 + 1, sizedL L 32, M.take 64⟩ (some ⟨w2.heap.size, 0, none⟩) B (some ⟨w2.heap.size, 0, none⟩) B 32 32 n64 cb 32 32 n64 cb wr (rF8.ext hEr) (rN8.ext hEr) (rF8.ext hEr) (rN8.ext hEr)).mono ?_
      rintro e w10 ⟨rfl, hE10⟩
      rw [Hsam.out]
      clear y0 y1 y2 y3 x0' x1' x2' x3'
      have hB10 := hB9.ext hE10
      have hC10 := hC9.ext hE10
      have y0 := hB10.cell (i := 0) rfl
      have y1 := hB10.cell (i := 1) rfl
      have y2 := hB10.cell (i := 2) rfl
      have y3 := hB10.cell (i := 3) rfl
      have x0' := hC10.cell (i := 0) rfl
      have x1' := hC10.cell (i := 1) rfl
      have x2' := hC10.cell (i := 2) rfl
      have x3' := hC10.cell (i := 3) rfl
      go_wp2_with fail
      refine (newer_any ⟨s0, x0 + 1, sizedL L 32, M.take 64⟩ ⟨s0, x0, sizedL L 32, M.take 64⟩ (some ⟨w2.heap.size, 0, none⟩) B (some ⟨w2.heap.size, 0, none⟩) B 32 32 n64 cb 32 32 n64 cb w10).mono ?_
      rintro e w11 ⟨rfl, hE11⟩
      rw [Hnew.out]
      go_wp2_with fail
      refine (known9_any w11).mono ?_
      rintro e w12 ⟨rfl, hE12⟩
      go_wp2_with fail
      go_ret
      exact ⟨rfl, hE08.trans (hEr.trans (hE10.trans (hE11.trans hE12)))⟩
end Go.Proofs.Ytmgnigofilkfmab
