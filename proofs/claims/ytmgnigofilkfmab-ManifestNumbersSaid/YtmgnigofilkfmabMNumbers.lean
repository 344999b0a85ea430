/-
  law9.ManifestNumbers, walked.
-/
import Derived.Test.YtmgnigofilkfmabTells9
import Derived.Test.YtmgnigofilkfmabKnown9
import Derived.Test.YtmgnigofilkfmabParSp
import Derived.Test.YtmgnigofilkfmabCopy
import Derived.Test.YtmgnigofilkfmabOwn
namespace Go.Proofs.Ytmgnigofilkfmab
set_option maxRecDepth 100000
open Go Go.RowKit
theorem str_ofs (s : ByteArray) : ∃ L : List UInt8, s = str L ∧ L.length = s.size := ⟨s.data.toList, by cases s; simp [str], by cases s; simp [ByteArray.size]⟩
theorem Runs.maken (k : Nat) {o : Oper} {ρ : Operand → Value} {w : World} {G : Value → World → Prop} {x y : Operand} (ho : o.op = .makeSlice 22 x y) (hx : ρ x = .int .i64 (k : Int)) (hy : ρ y = .int .i64 (k : Int)) (hk : k ≤ 1000000)
    (h : ∀ w', OB w' w.heap.size (some ⟨w.heap.size, 0, none⟩) k k (List.replicate k 0) → Ext w w' → G (.slice (some ⟨w.heap.size, 0, none⟩) k k) w') : Runs Try.prog o ρ w G := by
  obtain ⟨i0, hi0, hz0, hz1, hz2⟩ := info_parts info_u8
  obtain ⟨w', hr, h1, h2⟩ := run_make_full (P := Try.prog) w w.heap.size 22 5 i0 (.int .u8 0) 1 Try.underlying22 hi0 hz0 hz1 .i64 .i64 k (by rw [hz2]; omega) (small_maxLen hk) (Nat.le_refl _)
  refine Runs.of_run (r := .slice (some ⟨w.heap.size, 0, none⟩) k k) (w' := w') ?_ (h w' ?_ (Ext.grown h2))
  · unfold execOp
    simp only [ho, hx, hy, Sem.run_bind, hr, Result.andThen_ok, Sem.run_pure]
  · unfold OB
    have e : bv (List.replicate k 0) = (madeCells (Value.int .u8 0).cells (k * 1)).toList := by
      rw [Nat.mul_one, show (Value.int .u8 0).cells = #[.int .u8 0] from rfl, toList_madeCells_one]
      unfold bv
      rw [List.map_replicate]
      rfl
    rw [e]
    exact h1
def alph : ByteArray := ⟨#[97, 98, 99, 100, 101, 102, 103, 104, 105, 106, 107, 108, 109, 110, 111, 112, 113, 114, 115, 116, 117, 118, 119, 120, 121, 122]⟩
def MP.manf (m : Man) (nf nn : Nat) : MP Ext := ⟨fun u w => ∃ F cf N cn, u = manV m F nf cf N nn cn ∧ RB w F nf cf m.fw ∧ RB w N nn cn m.notes, fun _ _ _ e ⟨F, cf, N, cn, h1, h2, h3⟩ => ⟨F, cf, N, cn, h1, h2.ext e, h3.ext e⟩⟩
def MP.blkz (b : Nat) : MP Ext := ⟨fun u w => ∃ g, u = .pointer (some ⟨g, 0, none⟩) ∧ Blk w g 27 #[.string ⟨#[]⟩, .int .u32 0, .slice none 0 0, .slice none 0 0] ∧ b ≤ g, fun _ _ _ e ⟨g, h1, h2, h3⟩ => ⟨g, h1, h2.ext e, h3⟩⟩
theorem encM_size {m : Man} (h : rightM m = true) : 0 < (encM m).length ∧ (encM m).length ≤ 1000 := by
  obtain ⟨h1, h2, h3⟩ := right_small h
  have b2 : ∀ n, (be2 n).length = 2 := fun n => beBytes_length _ _
  unfold encM
  simp only [List.length_append, List.length_cons, List.length_nil, b2, beBytes_length]
  omega
theorem bitvec_u8m (x : UInt8) : BitVec.ofInt (IntKind.u8).bits (x.toNat : Int) = x.toBitVec := by
  apply BitVec.eq_of_toNat_eq
  have := x.toNat_lt
  simp [IntKind.bits]
theorem bits_xor8m (x y : UInt8) : bits .xor .u8 (u8i x) (u8i y) = u8i (x ^^^ y) := by
  have h1 : BitVec.ofInt (IntKind.u8).bits (u8i x) = x.toBitVec := bitvec_u8m x
  have h2 : BitVec.ofInt (IntKind.u8).bits (u8i y) = y.toBitVec := bitvec_u8m y
  unfold bits
  simp only [h1, h2]
  have h3 := (x ^^^ y).toNat_lt
  show IntKind.u8.wrap ((x ^^^ y).toNat : Int) = u8i (x ^^^ y)
  rw [IntKind.wrap_u8]
  unfold u8i
  omega
def MP.em9 : MP Ext := ⟨fun u w => ∃ g, u = .slice (some ⟨g, 0, none⟩) 0 0 ∧ RB w (some ⟨g, 0, none⟩) 0 0 [], fun _ _ _ e ⟨g, h1, h2⟩ => ⟨g, h1, h2.ext e⟩⟩
theorem spok_em9 (n : Nat) : SpOK n MP.em9 := by
  rintro u w g x cur hg hn ⟨g', h1, h2⟩
  exact ⟨g', h1, rfl, h2.room, h2.cap, fun h => absurd h (Nat.lt_irrefl _)⟩
def NumI (w : World) (n : Nat) (i : Value) (wr : World) : Prop := ∃ k : Nat, k ≤ n ∧ i = .int .i64 k ∧ Ext w wr
set_option maxHeartbeats 16000000 in
theorem mnumbers_law (w : World) : Calls Try.prog 7 #[] w fun e w' => e = .returned (.bool true) ∧ Ext w w' := by
  go_enter Try.func7, Try.ntmps7
  go_wp2_with fail
  go_loopw [1] (fun i wr => NumI w 24 i wr) (fun i _ => 24 - (intOf i).toNat)
  case atStart => exact ⟨0, by omega, rfl, Ext.refl _⟩
  case round =>
    obtain ⟨k, hk, rfl, hEr⟩ := hrel
    by_cases hlt : k < 24
    · have hki : (k : Int) < 24 := by omega
      have hk26 : (k : Int) ≤ 26 := by omega
      obtain ⟨NL, hNL, hNs⟩ := str_ofs (alph.extract 0 k)
      have hNl : NL.length ≤ 1000 := by
        rw [hNs, ByteArray.size_extract]
        have : alph.size = 26 := rfl
        omega
      have HNL := Lib.hid hNL
      clear hNL hNs
      go_upto_region 4 with (fail)
      refine par_ext (n := 12) (by kernel_rfl) [.is (.int .i64 (((k : Nat) : Int))), .is (.string (str (NL))), .is (.int .i64 (((k : Nat) : Int))), .is (.int .u32 (u32i (UInt32.ofNat k))), .is (.int .i64 (((k : Nat) : Int))), .is (.int .i64 (((20 + k : Nat) : Int))), .obn (wr.heap.size) (20 + k) (List.replicate (20 + k) 0), .is (.int .i64 (((k : Nat) : Int))), .is (.int .i64 (((3 * k : Nat) : Int))), .obn (wr.heap.size) (3 * k) (List.replicate (3 * k) 0), .manf ⟨NL, UInt32.ofNat k, List.replicate (20 + k) 0, List.replicate (3 * k) 0⟩ (20 + k) (3 * k), .blkz (wr.heap.size)] rfl ⟨?_, ?_, ?_, ?_, ?_, ?_, ?_, ?_, ?_, ?_, ?_, ?_, trivial⟩ ?_
      · refine stepE rfl fun sdn sa sw sE sd sk => ?_
        have h1 : sa.eval (.tmp 1) = .int .i64 (((k : Nat) : Int)) := sk.old 1 rfl
        exact Runs.move rfl h1 ⟨Ext.refl _, rfl⟩
      · refine stepE rfl fun sdn sa sw sE sd sk => ?_
        have h13 : sa.eval (.tmp 13) = .int .i64 (((k : Nat) : Int)) := sk.fact 0 13 rfl (sd 0 rfl)
        refine Runs.of_run (r := .string (alph.extract 0 k)) (w' := sw) ?_ ⟨Ext.refl _, congrArg Value.string HNL.out⟩
        unfold execOp
        simp only [Option.map_some, Option.map_none, h13]
        go_simp; rfl
      · refine stepE rfl fun sdn sa sw sE sd sk => ?_
        have h1 : sa.eval (.tmp 1) = .int .i64 (((k : Nat) : Int)) := sk.old 1 rfl
        exact Runs.move rfl h1 ⟨Ext.refl _, rfl⟩
      · refine stepE rfl fun sdn sa sw sE sd sk => ?_
        have h15 : sa.eval (.tmp 15) = .int .i64 (((k : Nat) : Int)) := sk.fact 2 15 rfl (sd 2 rfl)
        exact Runs.conv rfl h15 (conv_i64_u32 Try.underlying3 Try.underlying25 k) ⟨Ext.refl _, rfl⟩
      · refine stepE rfl fun sdn sa sw sE sd sk => ?_
        have h1 : sa.eval (.tmp 1) = .int .i64 (((k : Nat) : Int)) := sk.old 1 rfl
        exact Runs.move rfl h1 ⟨Ext.refl _, rfl⟩
      · refine stepE rfl fun sdn sa sw sE sd sk => ?_
        have h17 : sa.eval (.tmp 17) = .int .i64 (((k : Nat) : Int)) := sk.fact 4 17 rfl (sd 4 rfl)
        exact Runs.bin rfl rfl h17 (eqGuard_bin rfl) (bin_add64 _ _ _ (by omega) (by omega)) ⟨Ext.refl _, congrArg (Value.int .i64) (by omega)⟩
      · refine stepE rfl fun sdn sa sw sE sd sk => ?_
        have h18 : sa.eval (.tmp 18) = .int .i64 (((20 + k : Nat) : Int)) := sk.fact 5 18 rfl (sd 5 rfl)
        exact Runs.maken (20 + k) rfl h18 h18 (by omega) (fun w1 o1 e1 => ⟨e1, _, _, rfl, o1.base sE.size⟩)
      · refine stepE rfl fun sdn sa sw sE sd sk => ?_
        have h1 : sa.eval (.tmp 1) = .int .i64 (((k : Nat) : Int)) := sk.old 1 rfl
        exact Runs.move rfl h1 ⟨Ext.refl _, rfl⟩
      · refine stepE rfl fun sdn sa sw sE sd sk => ?_
        have h20 : sa.eval (.tmp 20) = .int .i64 (((k : Nat) : Int)) := sk.fact 7 20 rfl (sd 7 rfl)
        exact Runs.bin rfl rfl h20 (eqGuard_bin rfl) (bin_mul64 _ _ _ (by omega) (by omega)) ⟨Ext.refl _, congrArg (Value.int .i64) (by omega)⟩
      · refine stepE rfl fun sdn sa sw sE sd sk => ?_
        have h21 : sa.eval (.tmp 21) = .int .i64 (((3 * k : Nat) : Int)) := sk.fact 8 21 rfl (sd 8 rfl)
        exact Runs.maken (3 * k) rfl h21 h21 (by omega) (fun w1 o1 e1 => ⟨e1, _, _, rfl, o1.base sE.size⟩)
      · refine stepE rfl fun sdn sa sw sE sd sk => ?_
        have h14 : sa.eval (.tmp 14) = .string (str (NL)) := sk.fact 1 14 rfl (sd 1 rfl)
        have h16 : sa.eval (.tmp 16) = .int .u32 (u32i (UInt32.ofNat k)) := sk.fact 3 16 rfl (sd 3 rfl)
        obtain ⟨A19, c19, h19, o19⟩ := sk.fact 6 19 rfl (sd 6 rfl)
        obtain ⟨A22, c22, h22, o22⟩ := sk.fact 9 22 rfl (sd 9 rfl)
        refine Runs.of_run (r := manV ⟨NL, UInt32.ofNat k, List.replicate (20 + k) 0, List.replicate (3 * k) 0⟩ A19 (20 + k) c19 A22 (3 * k) c22) (w' := sw) ?_ ⟨Ext.refl _, _, _, _, _, rfl, o19.rb, o22.rb⟩
        unfold execOp manV
        simp only [List.map_toArray, List.map_cons, List.map_nil, h14, h16, h19, h22]
        go_simp
      · refine stepE rfl fun sdn sa sw sE sd sk => ?_
        refine Runs.of_run (r := .pointer (some ⟨sw.heap.size, 0, none⟩)) (w' := sw.alloc (.cells #[.string ⟨#[]⟩, .int .u32 0, .slice none 0 0, .slice none 0 0] 27)) ?_ ⟨Ext.new _ _, _, rfl, Blk.new _ _ _, sE.size⟩
        unfold execOp
        go_simp
      intro vals w4 hE4 hv4
      have e0 : vals 0 = .int .i64 (((k : Nat) : Int)) := hv4 0 (by omega) 13 rfl
      have e1 : vals 1 = .string (str (NL)) := hv4 1 (by omega) 14 rfl
      have e2 : vals 2 = .int .i64 (((k : Nat) : Int)) := hv4 2 (by omega) 15 rfl
      have e3 : vals 3 = .int .u32 (u32i (UInt32.ofNat k)) := hv4 3 (by omega) 16 rfl
      have e4 : vals 4 = .int .i64 (((k : Nat) : Int)) := hv4 4 (by omega) 17 rfl
      have e5 : vals 5 = .int .i64 (((20 + k : Nat) : Int)) := hv4 5 (by omega) 18 rfl
      obtain ⟨A19, c19, e6, o19⟩ := hv4 6 (by omega) 19 rfl
      have e7 : vals 7 = .int .i64 (((k : Nat) : Int)) := hv4 7 (by omega) 20 rfl
      have e8 : vals 8 = .int .i64 (((3 * k : Nat) : Int)) := hv4 8 (by omega) 21 rfl
      obtain ⟨A22, c22, e9, o22⟩ := hv4 9 (by omega) 22 rfl
      obtain ⟨F23, cf23, N23, cn23, e10, r23, q23⟩ := hv4 10 (by omega) 23 rfl
      obtain ⟨g2, e11, z2, b2⟩ := hv4 11 (by omega) 2 rfl
      simp only [putAll, Act.put, List.take_succ_cons, List.take_zero, List.drop_succ_cons, List.drop_zero, List.drop_nil, List.take_nil, Nat.reduceAdd, List.setIfInBounds_toArray, List.set_cons_succ, List.set_cons_zero, e0, e1, e2, e3, e4, e5, e6, e7, e8, e9, e10, e11]
      clear hv4 e0 e1 e2 e3 e4 e5 e6 e7 e8 e9 e10 e11
      obtain ⟨m, hm⟩ : ∃ m : Man, m = ⟨NL, UInt32.ofNat k, List.replicate (20 + k) 0, List.replicate (3 * k) 0⟩ := ⟨_, rfl⟩
      rw [← hm] at r23 q23 ⊢
      have hml : m.name.length ≤ 1000 := by rw [hm]; exact hNl
      have hEr4 := hEr.trans hE4
      have hge := Nat.le_trans hEr.size b2
      have y0 := z2.cell (i := 0) rfl
      have y1 := z2.cell (i := 1) rfl
      have y2 := z2.cell (i := 2) rfl
      have y3 := z2.cell (i := 3) rfl
      have f0 := z2.frozen 0
      have f1 := z2.frozen 1
      have f2 := z2.frozen 2
      have f3 := z2.frozen 3
      have Hml := Lib.hid hml
      clear hm hE4 hEr hml hNl HNL
      unfold manV
      go_upto_region 5 with (fail)
      obtain ⟨hb5, gs⟩ := set4 z2 (.string (str m.name)) (.int .u32 (u32i m.ver)) (.slice F23 (20 + k) cf23) (.slice N23 (3 * k) cn23)
      have rF := r23.grown gs (r23.apart z2 (man_no _ _ _ _ _ _ _ _))
      have rN := q23.grown gs (q23.apart z2 (man_no _ _ _ _ _ _ _ _))
      have hE5 := hEr4.then_grown gs (by intro k hk; cases hk; exact hge)
      clear gs y0 y1 y2 y3 f0 f1 f2 f3 z2 r23 q23 hEr4
      generalize (((w4.setCell ⟨g2, 0, none⟩ (.string (str m.name))).setCell ⟨g2, 1, none⟩ (.int .u32 (u32i m.ver))).setCell ⟨g2, 2, none⟩ (.slice F23 (20 + k) cf23)).setCell ⟨g2, 3, none⟩ (.slice N23 (3 * k) cn23) = w5 at *
      have y0 := hb5.cell (i := 0) (v := .string (str m.name)) rfl
      have y1 := hb5.cell (i := 1) (v := .int .u32 (u32i m.ver)) rfl
      have y2 := hb5.cell (i := 2) (v := .slice F23 (20 + k) cf23) rfl
      have y3 := hb5.cell (i := 3) (v := .slice N23 (3 * k) cn23) rfl
      have hE6 := Ext.new w5 (.cells #[.string (str m.name), .int .u32 (u32i m.ver), .slice F23 (20 + k) cf23, .slice N23 (3 * k) cn23] 27)
      have hB6 := Blk.new w5 27 #[.string (str m.name), .int .u32 (u32i m.ver), .slice F23 (20 + k) cf23, .slice N23 (3 * k) cn23]
      have hlt5 := hb5.lt
      go_upto_region 6 with (fail)
      clear y0 y1 y2 y3
      obtain ⟨w6, hw6⟩ : ∃ w6, w6 = w5.alloc (.cells #[.string (str m.name), .int .u32 (u32i m.ver), .slice F23 (20 + k) cf23, .slice N23 (3 * k) cn23] 27) := ⟨_, rfl⟩
      rw [← hw6] at hE6 hB6 ⊢
      clear hw6
      obtain ⟨g3, hg3⟩ : ∃ g3, g3 = w5.heap.size := ⟨_, rfl⟩
      rw [← hg3] at hB6 hlt5 ⊢
      have hge3 : w.heap.size ≤ g3 := by have := hE5.size; omega
      have hg23 : g2 ≠ g3 := by omega
      clear hg3
      go_upto_region 7 with (refine make_law (k := 32) rfl rfl rfl rfl (by omega) ?_; intro w7 own7 hE7; have hB7 := hB6.ext hE7; have y2 := hB7.cell (i := 2) (v := .slice F23 (20 + k) cf23) rfl; have y1 := hB7.cell (i := 1) (v := .int .u32 (u32i m.ver)) rfl; have f1 := hB7.frozen 1; have f2 := hB7.frozen 2)
      have hb7 := (hb5.ext hE6).ext hE7
      have g21 := (grownBy_setCell w7 ⟨g3, 2, none⟩ (.slice (some ⟨w6.heap.size, 0, none⟩) 32 32)).trans (grownBy_setCell _ ⟨g3, 1, none⟩ (.int .u32 1))
      have hB8 := (hB7.set 2 (.slice (some ⟨w6.heap.size, 0, none⟩) 32 32)).set 1 (.int .u32 1)
      have hb8 := (hb7.far (p := ⟨g3, 2, none⟩) hg23 (.slice (some ⟨w6.heap.size, 0, none⟩) 32 32)).far (p := ⟨g3, 1, none⟩) hg23 (.int .u32 1)
      have rK := own7.rb
      have rK8 := rK.grown g21 (rK.apart hB7 (man_no _ _ _ _ _ _ _ _))
      have rF7 := (rF.ext hE6).ext hE7
      have rN7 := (rN.ext hE6).ext hE7
      have rF8 := rF7.grown g21 (rF7.apart hB7 (man_no _ _ _ _ _ _ _ _))
      have rN8 := rN7.grown g21 (rN7.apart hB7 (man_no _ _ _ _ _ _ _ _))
      have hE8 := ((hE5.trans hE6).trans hE7).then_grown g21 (by intro k hk; cases hk; exact hge3)
      clear rK rF7 rN7 hb7 g21 y1 y2 f1 f2 own7 hE7 hB6 hE6 hE5 hb5 rF rN hB7
      generalize (some ⟨w6.heap.size, 0, none⟩ : Option Addr) = KA at *
      generalize (w7.setCell ⟨g3, 2, none⟩ (.slice KA 32 32)).setCell ⟨g3, 1, none⟩ (.int .u32 1) = w8 at *
      have y0 := hb8.cell (i := 0) (v := .string (str m.name)) rfl
      have y1 := hb8.cell (i := 1) (v := .int .u32 (u32i m.ver)) rfl
      have y2 := hb8.cell (i := 2) (v := .slice F23 (20 + k) cf23) rfl
      have y3 := hb8.cell (i := 3) (v := .slice N23 (3 * k) cn23) rfl
      have hs1 := same9_any m F23 N23 (20 + k) cf23 (3 * k) cn23 w8 rF8 rN8 (by have := Hml.out; omega)
      unfold manV at hs1
      have Hs1 := Lib.hid hs1
      have hs2 := fun w' (hE : Ext w8 w') => same9_any ⟨m.name, 1, List.replicate 32 0, m.notes⟩ KA N23 32 32 (3 * k) cn23 w' (rK8.ext hE) (rN8.ext hE) (by have := Hml.out; show m.name.length ≤ _; omega)
      have hs2' : ∀ w', Ext w8 w' → Calls Try.prog 26 #[.agg #[.string (str m.name), .int .u32 1, .slice KA 32 32, .slice N23 (3 * k) cn23]] w' fun e w'' => e = .returned (.bool true) ∧ Ext w' w'' := hs2
      have Hs2 := Lib.hid hs2'
      clear hs1 hs2 hs2' rF8 rN8 rK8
      go_wp2_with fail
      refine Hs1.out.mono ?_
      rintro e w9 ⟨rfl, hE9⟩
      have hB9 := hB8.ext hE9
      clear y0 y1 y2 y3 Hs1 hB8 hb8
      have y0 := hB9.cell (i := 0) (v := .string (str m.name)) rfl
      have y1 := hB9.cell (i := 1) (v := .int .u32 1) rfl
      have y2 := hB9.cell (i := 2) (v := .slice KA 32 32) rfl
      have y3 := hB9.cell (i := 3) (v := .slice N23 (3 * k) cn23) rfl
      go_wp2_with fail
      refine (Hs2.out w9 hE9).mono ?_
      rintro e w10 ⟨rfl, hE10⟩
      go_wp2_with fail
      go_roundw
      case rel => exact ⟨k + 1, by omega, by go_num, (hE8.trans hE9).trans hE10⟩
      case measure => simp [intOf] <;> omega
    · obtain rfl : k = 24 := by omega
      have hEn := Ext.new wr (.cells #[.string ⟨#[65]⟩, .string ⟨#[97, 49]⟩, .string ⟨#[97, 32, 98]⟩, .string ⟨#[195, 169]⟩, .string ⟨#[96]⟩, .string ⟨#[123]⟩, .string ⟨#[122]⟩] 9)
      have hBn := Blk.new wr 9 #[.string ⟨#[65]⟩, .string ⟨#[97, 49]⟩, .string ⟨#[97, 32, 98]⟩, .string ⟨#[195, 169]⟩, .string ⟨#[96]⟩, .string ⟨#[123]⟩, .string ⟨#[122]⟩]
      have hE1 := hEr.trans hEn
      go_wp2_with fail
      have e24 : ((24 : Nat) : Int) = 24 := rfl
      simp only [e24]
      clear e24
      generalize wr.alloc (.cells #[.string ⟨#[65]⟩, .string ⟨#[97, 49]⟩, .string ⟨#[97, 32, 98]⟩, .string ⟨#[195, 169]⟩, .string ⟨#[96]⟩, .string ⟨#[123]⟩, .string ⟨#[122]⟩] 9) = w1 at *
      clear hEr hEn
      obtain ⟨gn, hgn⟩ : ∃ gn, gn = wr.heap.size := ⟨_, rfl⟩
      rw [← hgn] at hBn ⊢
      clear hgn
      go_loopw [38] (fun i wi => NumI w1 7 i wi) (fun i _ => 7 - (intOf i).toNat)
      case atStart => exact ⟨0, by omega, rfl, Ext.refl _⟩
      case round =>
        obtain ⟨j, hj, rfl, hEj⟩ := hrel
        by_cases hlt2 : j < 7
        · have hji : (j : Int) < 7 := by omega
          obtain ⟨sn, hsn, hss⟩ : ∃ sn : ByteArray, w1.cell? ⟨gn, j, none⟩ = some (.string sn) ∧ sn.size ≤ 3 := by
            have hc : j = 0 ∨ j = 1 ∨ j = 2 ∨ j = 3 ∨ j = 4 ∨ j = 5 ∨ j = 6 := by omega
            rcases hc with rfl | rfl | rfl | rfl | rfl | rfl | rfl
            · exact ⟨_, hBn.cell (i := 0) rfl, by decide⟩
            · exact ⟨_, hBn.cell (i := 1) rfl, by decide⟩
            · exact ⟨_, hBn.cell (i := 2) rfl, by decide⟩
            · exact ⟨_, hBn.cell (i := 3) rfl, by decide⟩
            · exact ⟨_, hBn.cell (i := 4) rfl, by decide⟩
            · exact ⟨_, hBn.cell (i := 5) rfl, by decide⟩
            · exact ⟨_, hBn.cell (i := 6) rfl, by decide⟩
          obtain ⟨NL, rfl, hNs⟩ := str_ofs sn
          have y0 := hEj.cell hsn
          clear hsn
          go_wp2_with (refine make_law (k := 32) rfl rfl rfl rfl (by omega) ?_; intro w7 own7 hE7)
          have hs2 := same9_any ⟨NL, 1, List.replicate 32 0, []⟩ (some ⟨wr.heap.size, 0, none⟩) none 32 32 0 0 w7 own7.rb (RB.nil_ _) (by show NL.length ≤ _; omega)
          have hs2' : Calls Try.prog 26 #[.agg #[.string (str NL), .int .u32 1, .slice (some ⟨wr.heap.size, 0, none⟩) 32 32, .slice none 0 0]] w7 fun e w'' => e = .returned (.bool true) ∧ Ext w7 w'' := hs2
          refine hs2'.mono ?_
          rintro e w8 ⟨rfl, hE8⟩
          clear hs2 hs2' own7
          go_wp2_with fail
          go_roundw
          case rel => exact ⟨j + 1, by omega, by go_num, (hEj.trans hE7).trans hE8⟩
          case measure => simp [intOf] <;> omega
        · obtain rfl : j = 7 := by omega
          have hE2 := hE1.trans hEj
          go_wp2_with fail
          refine (item_any 1 2 3 wr (by omega) (by omega) (by omega) (by omega) (by omega) (by omega)).mono ?_
          rintro e w3 ⟨AI, nI, cI, rfl, oI, hE3⟩
          obtain ⟨hp1, hp2⟩ := encM_size (kman_right 1 2 3)
          have hnI := oI.len
          generalize encM (kman 1 2 3) = L at *
          rw [hnI] at hp1 hp2
          have rI := oI.rb
          have HnI := Lib.hid hnI
          have hroom := rI.room
          have hE4 := hE2.trans hE3
          have e7 : ((7 : Nat) : Int) = 7 := rfl
          clear oI hnI hE2 hE3 hEj hE1 hBn
          go_wp2_with fail
          try simp only [e7]
          clear e7
          go_loopw [7] (fun i wi => NumI w3 (nI + 1) i wi) (fun i _ => nI + 1 - (intOf i).toNat)
          case atStart => exact ⟨0, by omega, rfl, Ext.refl _⟩
          case round =>
            obtain ⟨k, hk', rfl, hEr⟩ := hrel
            have rIr := rI.ext hEr
            by_cases hlt3 : k ≤ nI
            · have hki : (k : Int) ≤ (nI : Int) := by omega
              have hEl := Ext.new wr (.cells #[] 5)
              have own0 := OB.lit wr [] rfl (Nat.zero_le _)
              go_upto_region 20 with (refine app_own (w0 := wr) (N := nI) (LM := L) rfl rfl rfl rfl hEl own0 (rIr.ext hEl) (by omega) rfl (by omega) ?_; intro A5 c5 w5 own5 hE5)
              obtain ⟨ad5, rfl, _⟩ := own5.rb.cells (by omega)
              obtain ⟨g5, rfl⟩ := own5.plain
              clear own0 hEl
              by_cases hlt4 : k < nI
              · have hk2 : (k : Int) < (nI : Int) := by omega
                have z2 := own5.cell hlt4
                have z3 := own5.frozen k
                have z4 := bits_xor8m (ub L k) 32
                have e32 : u8i 32 = 32 := rfl
                rw [e32] at z4
                have own6 := (own5.set k (ub L k ^^^ 32)).1
                have hE6 := hE5.set (p := ⟨g5, k, none⟩) own5.ge (.int .u8 (u8i (ub L k ^^^ 32)))
                clear e32
                go_upto_region 22 with (fail)
                generalize w5.setCell ⟨g5, k, none⟩ (.int .u8 (u8i (ub L k ^^^ 32))) = w6 at *
                have rT := (rIr.ext hE6).take (k := k) (by omega)
                have rC := own6.rb
                generalize L.set k (ub L k ^^^ 32) = L2 at *
                clear z2 z3 z4 own5 own6 hE5
                go_wp2_with fail
                refine (reads9_any AI k cI _ w6 rT (by omega)).mono ?_
                rintro e w7 ⟨rfl, hE7⟩
                go_wp2_with fail
                refine (reads9_any _ nI c5 L2 w7 (rC.ext hE7) (by omega)).mono ?_
                rintro e w8 ⟨rfl, hE8⟩
                go_wp2_with fail
                go_roundw
                case rel => exact ⟨k + 1, by omega, by go_num, ((hEr.trans hE6).trans hE7).trans hE8⟩
                case measure => simp [intOf] <;> omega
              · obtain rfl : k = nI := by omega
                have rT := (rIr.ext hE5).take (k := k) (by omega)
                have rC := own5.rb
                clear own5
                go_wp2_with fail
                refine (reads9_any AI k cI _ w5 rT (by omega)).mono ?_
                rintro e w7 ⟨rfl, hE7⟩
                go_wp2_with fail
                refine (reads9_any _ k c5 L w7 (rC.ext hE7) (by omega)).mono ?_
                rintro e w8 ⟨rfl, hE8⟩
                go_wp2_with fail
                go_roundw
                case rel => exact ⟨k + 1, by omega, by go_num, ((hEr.trans hE5).trans hE7).trans hE8⟩
                case measure => simp [intOf] <;> omega
            · obtain rfl : k = nI + 1 := by omega
              have hki : ¬ (((nI + 1 : Nat) : Int) ≤ (nI : Int)) := by omega
              go_upto_region 24 with (fail)
              have hSt : ∀ j m, ([.em9, .is (.slice (AI) (nI) (cI)), .oblo (wr.heap.size) nI (L), .lo 1 ([0]), .obn (wr.heap.size) (nI + 1) (L ++ [0]), .is (.bool (true)), .is (.bool (true)), .obn (wr.heap.size) (32) (List.replicate 32 0), .obn (wr.heap.size) (65) (List.replicate 65 0), .manf ⟨[97], 1, List.replicate 32 0, List.replicate 65 0⟩ (32) (65), .is (.bool (true)), .is (.bool (true)), .is (.bool (true)), .is (.bool (true)), .is (.bool (true)), .is (.bool (true))] : List (MP Ext))[j]? = some m → j ≠ 4 → ([5, 6, 7, 8, 9, 10, 11, 12, 13] : List Nat).contains j = false → SpOK nI m := by
                intro j m hm h7 h12
                rcases j with _ | _ | _ | _ | _ | _ | _ | _ | _ | _ | _ | _ | _ | _ | _ | _ | j
                · injection hm with hm; subst hm; exact spok_em9 _
                · injection hm with hm; subst hm; exact spok_is _ _
                · injection hm with hm; subst hm; exact spok_oblo (Nat.le_refl _) _
                · injection hm with hm; subst hm; exact spok_lo (by omega) _
                · exact absurd rfl h7
                · exact absurd h12 (by decide)
                · exact absurd h12 (by decide)
                · exact absurd h12 (by decide)
                · exact absurd h12 (by decide)
                · exact absurd h12 (by decide)
                · exact absurd h12 (by decide)
                · exact absurd h12 (by decide)
                · exact absurd h12 (by decide)
                · exact absurd h12 (by decide)
                · injection hm with hm; subst hm; exact spok_is _ _
                · injection hm with hm; subst hm; exact spok_is _ _
                · simp at hm
              refine par_sp (n := 16) 4 [5, 6, 7, 8, 9, 10, 11, 12, 13] (by kernel_rfl) [.em9, .is (.slice (AI) (nI) (cI)), .oblo (wr.heap.size) nI (L), .lo 1 ([0]), .obn (wr.heap.size) (nI + 1) (L ++ [0]), .is (.bool (true)), .is (.bool (true)), .obn (wr.heap.size) (32) (List.replicate 32 0), .obn (wr.heap.size) (65) (List.replicate 65 0), .manf ⟨[97], 1, List.replicate 32 0, List.replicate 65 0⟩ (32) (65), .is (.bool (true)), .is (.bool (true)), .is (.bool (true)), .is (.bool (true)), .is (.bool (true)), .is (.bool (true))] rfl ⟨?_, ?_, ?_, ?_, ?_, ?_, ?_, ?_, ?_, ?_, ?_, ?_, ?_, ?_, ?_, ?_, trivial⟩ ?_
              · refine stepES rfl (.inl (by decide)) fun sdn sa sw sE sd sk => ?_
                exact Runs.lit0 rfl (fun w1 e1 o1 => ⟨e1, _, rfl, o1.rb⟩)
              · refine stepES rfl (.inl (by decide)) fun sdn sa sw sE sd sk => ?_
                have h6 : sa.eval (.tmp 6) = .slice (AI) (nI) (cI) := sk.old 6 rfl
                exact Runs.move rfl h6 ⟨Ext.refl _, rfl⟩
              · refine stepES rfl (.inl (by decide)) fun sdn sa sw sE sd sk => ?_
                obtain ⟨g78, h78, r78⟩ := sk.fact 0 78 rfl (sd 0 rfl)
                have h79 : sa.eval (.tmp 79) = .slice (AI) (nI) (cI) := sk.fact 1 79 rfl (sd 1 rfl)
                refine Runs.appFull rfl h78 h79 r78 (rIr.ext sE) (by omega) (by omega) (fun A' c' w1 o1 e1 => ?_); obtain ⟨ad', rfl, _⟩ := o1.rb.cells (by omega); obtain ⟨g', rfl⟩ := o1.plain; exact ⟨e1, g', c', by rw [Nat.zero_add], (show OB w1 sw.heap.size _ nI c' L by simpa using o1).base sE.size⟩
              · refine stepES rfl (.inl (by decide)) fun sdn sa sw sE sd sk => ?_
                have hlit : (.int .u8 0 : Value) = .int .u8 (u8i (0 : UInt8)) := rfl
                exact Runs.lit1 (b0 := 0) rfl hlit (fun w1 e1 o1 => ⟨e1, _, _, rfl, o1.rb⟩)
              · refine stepSp (n := nI) (L := L) (y := 0) rfl rfl (by omega) rfl (by decide) hSt fun sdn sa sw sE sd sk => ?_
                obtain ⟨g80, c80, h80, o80⟩ := sk.fact 2 80 rfl (sd 2 rfl)
                obtain ⟨g81, c81, h81, r81⟩ := sk.fact 3 81 rfl (sd 3 rfl)
                exact ⟨_, _, h80, o80, _, _, h81, r81⟩
              · refine stepES2 4 rfl (by decide) (.inl rfl) fun sdn sa sw sE sd sk => ?_
                obtain ⟨A82, c82, h82, o82⟩ := sk.fact 4 82 rfl (sd 4 rfl)
                refine Runs.call (f := 27) (vs := [.slice (A82) (nI + 1) (c82)]) rfl rfl rfl (by simp only [List.map_toArray, List.map_cons, List.map_nil, h82] <;> rfl) (ent27 _ _) ((reads9_any _ _ _ _ sw o82.rb (by omega)).mono ?_); rintro e w' ⟨rfl, hx⟩; exact ⟨_, rfl, hx, rfl⟩
              · refine stepES2 5 rfl (by decide) (.inr (by decide)) fun sdn sa sw sE sd sk => ?_
                have h83 : sa.eval (.tmp 83) = .bool (true) := sk.fact 5 83 rfl (sd 5 rfl)
                exact Runs.move rfl h83 ⟨Ext.refl _, rfl⟩
              · refine stepYS2 (j := 6) (d := 84) (b := true) 6 rfl rfl rfl (fun v w h => h) (by decide) (.inr (by decide)) fun sdn sa sw sE sd sk => ?_
                exact Runs.maken 32 rfl rfl rfl (by omega) (fun w1 o1 e1 => ⟨e1, _, _, rfl, o1.base sE.size⟩)
              · refine stepYS2 (j := 6) (d := 84) (b := true) 6 rfl rfl rfl (fun v w h => h) (by decide) (.inr (by decide)) fun sdn sa sw sE sd sk => ?_
                exact Runs.maken 65 rfl rfl rfl (by omega) (fun w1 o1 e1 => ⟨e1, _, _, rfl, o1.base sE.size⟩)
              · refine stepYS2 (j := 6) (d := 84) (b := true) 7 rfl rfl rfl (fun v w h => h) (by decide) (.inr (by decide)) fun sdn sa sw sE sd sk => ?_
                obtain ⟨A85, c85, h85, o85⟩ := sk.fact 7 85 rfl (sd 7 rfl)
                obtain ⟨A86, c86, h86, o86⟩ := sk.fact 8 86 rfl (sd 8 rfl)
                refine Runs.of_run (r := .agg #[.string ⟨#[97]⟩, .int .u32 1, .slice A85 32 c85, .slice A86 65 c86]) (w' := sw) ?_ ⟨Ext.refl _, _, _, _, _, rfl, o85.rb, o86.rb⟩
                unfold execOp
                simp only [List.map_toArray, List.map_cons, List.map_nil, h85, h86]
                go_simp
              · refine stepYS2 (j := 6) (d := 84) (b := true) 9 rfl rfl rfl (fun v w h => h) (by decide) (.inr (by decide)) fun sdn sa sw sE sd sk => ?_
                obtain ⟨F87, cf87, N87, cn87, h87, r87, q87⟩ := sk.fact 9 87 rfl (sd 9 rfl)
                refine Runs.call (f := 26) (vs := [manV ⟨[97], 1, List.replicate 32 0, List.replicate 65 0⟩ F87 (32) cf87 N87 (65) cn87]) rfl rfl rfl (by simp only [List.map_toArray, List.map_cons, List.map_nil, h87] <;> rfl) (ent26 _ _) ((same9_any _ _ _ _ _ _ _ sw r87 q87 (by decide)).mono ?_); rintro e w' ⟨rfl, hx⟩; exact ⟨_, rfl, hx, rfl⟩
              · refine stepES2 10 rfl (by decide) (.inr (by decide)) fun sdn sa sw sE sd sk => ?_
                have h84 : sa.eval (.tmp 84) = .bool (true) := sk.fact 6 84 rfl (sd 6 rfl)
                have h88 : sa.eval (.tmp 88) = .bool (true) := sk.fact 10 88 rfl (sd 10 rfl)
                exact Runs.pick rfl h84 ⟨Ext.refl _, by first | exact h88 | simpa using h88⟩
              · refine stepES2 11 rfl (by decide) (.inr (by decide)) fun sdn sa sw sE sd sk => ?_
                have h89 : sa.eval (.tmp 89) = .bool (true) := sk.fact 11 89 rfl (sd 11 rfl)
                exact Runs.move rfl h89 ⟨Ext.refl _, rfl⟩
              · refine stepYS2 (j := 12) (d := 90) (b := true) 12 rfl rfl rfl (fun v w h => h) (by decide) (.inr (by decide)) fun sdn sa sw sE sd sk => ?_
                refine Runs.call (f := 20) (vs := []) rfl rfl rfl (by simp only [List.map_toArray, List.map_cons, List.map_nil] <;> rfl) (ent20 _ _) ((known9_any sw).mono ?_); rintro e w' ⟨rfl, hx⟩; exact ⟨_, rfl, hx, rfl⟩
              · refine stepES rfl (.inl (by decide)) fun sdn sa sw sE sd sk => ?_
                have h90 : sa.eval (.tmp 90) = .bool (true) := sk.fact 12 90 rfl (sd 12 rfl)
                have h91 : sa.eval (.tmp 91) = .bool (true) := sk.fact 13 91 rfl (sd 13 rfl)
                exact Runs.pick rfl h90 ⟨Ext.refl _, by first | exact h91 | simpa using h91⟩
              · refine stepES rfl (.inl (by decide)) fun sdn sa sw sE sd sk => ?_
                have h92 : sa.eval (.tmp 92) = .bool (true) := sk.fact 14 92 rfl (sd 14 rfl)
                exact Runs.assign rfl h92 ⟨Ext.refl _, rfl⟩
              intro vals W9 hE24 hv24
              obtain ⟨g78, e0, r78⟩ := hv24 0 (by omega) 78 rfl
              have e1 : vals 1 = .slice (AI) (nI) (cI) := hv24 1 (by omega) 79 rfl
              obtain ⟨g80, c80, e2, o80⟩ := hv24 2 (by omega) 80 rfl
              obtain ⟨g81, c81, e3, r81⟩ := hv24 3 (by omega) 81 rfl
              obtain ⟨A82, c82, e4, o82⟩ := hv24 4 (by omega) 82 rfl
              have e5 : vals 5 = .bool (true) := hv24 5 (by omega) 83 rfl
              have e6 : vals 6 = .bool (true) := hv24 6 (by omega) 84 rfl
              obtain ⟨A85, c85, e7, o85⟩ := hv24 7 (by omega) 85 rfl
              obtain ⟨A86, c86, e8, o86⟩ := hv24 8 (by omega) 86 rfl
              obtain ⟨F87, cf87, N87, cn87, e9, r87, q87⟩ := hv24 9 (by omega) 87 rfl
              have e10 : vals 10 = .bool (true) := hv24 10 (by omega) 88 rfl
              have e11 : vals 11 = .bool (true) := hv24 11 (by omega) 89 rfl
              have e12 : vals 12 = .bool (true) := hv24 12 (by omega) 90 rfl
              have e13 : vals 13 = .bool (true) := hv24 13 (by omega) 91 rfl
              have e14 : vals 14 = .bool (true) := hv24 14 (by omega) 92 rfl
              have e15 : vals 15 = .bool (true) := hv24 15 (by omega) 0 rfl
              simp only [putAll, Act.put, List.take_succ_cons, List.take_zero, List.drop_succ_cons, List.drop_zero, List.drop_nil, List.take_nil, Nat.reduceAdd, List.setIfInBounds_toArray, List.set_cons_succ, List.set_cons_zero, e0, e1, e2, e3, e4, e5, e6, e7, e8, e9, e10, e11, e12, e13, e14, e15]
              clear hv24 e0 e1 e2 e3 e4 e5 e6 e7 e8 e9 e10 e11 e12 e13 e14 e15
              go_wp2_with fail
              go_ret
              exact ⟨rfl, (hE4.trans hEr).trans hE24⟩
end Go.Proofs.Ytmgnigofilkfmab
