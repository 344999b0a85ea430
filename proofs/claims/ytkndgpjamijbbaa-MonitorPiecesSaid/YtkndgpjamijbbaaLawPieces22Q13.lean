/-
  hash.Tagged and hash.Same, walked. An append to a full slice: nothing older is turned. Plain theorems. once.Digest, Secret, Shown and told, walked; an append to a row of byte slices. once.parts, Public and Sign, walked.
-/
import Derived.Test.YtkndgpjamijbbaaLawPieces22Q12
import Derived.Test.YtkndgpjamijbbaaLawPieces22Q5
import Derived.Test.YtkndgpjamijbbaaLawPieces22Q11
import Derived.Maps.AppendAt
namespace Go.Proofs.Ytkndgpjamijbbaa
set_option maxRecDepth 100000
open Go Go.RowKit
set_option maxHeartbeats 1000000 in
theorem htagged_any (t : UInt8) (A : Option Addr) (n c : Nat) (Ls : List (List UInt8)) (w : World) (hr : RBB w A n c Ls) (hn : Ls.flatten.length ≤ 140737488355199) :
    Calls Try.prog 92 #[.int .u8 (u8i t), .slice A n c] w fun e w' => ∃ A' c', e = .returned (.slice A' 32 c') ∧ OB w' w.heap.size A' 32 c' (tagged t Ls.flatten) ∧ Ext w w' := by
  have hln := hr.len
  have hroom := hr.room
  have hcap := hr.cap
  unfold maxLen at hcap
  have Hn := Lib.hid hln
  clear hln
  go_enter Try.func92, Try.ntmps92
  go_wp2_with fail
  go_loopw [5, 12] (fun v i wr => ∃ (k q d : Nat) (B : Option Addr), k ≤ n ∧ i = .int .i64 k ∧ v = .slice B q d ∧ OB wr w.heap.size B q d (t :: (Ls.take k).flatten) ∧ Ext w wr) (fun _ i _ => n - (intOf i).toNat)
  case atStart => exact ⟨0, 1, 1, _, by omega, rfl, rfl, OB.lit w [t] rfl (small_maxLen (by decide)), Ext.new w _⟩
  case round =>
    obtain ⟨k, q, d, B, hk, rfl, rfl, own, hEr⟩ := hrel
    by_cases hlt : k < n
    · obtain ⟨ad, rfl, hc⟩ := hr.cells (by omega)
      obtain ⟨B1, m1, d1, hcell, hrb⟩ := hc k hlt
      have hcell' := hEr.cell hcell
      have hrb' := hrb.ext hEr
      have hlq : q + m1 ≤ 140737488355328 := by
        have h1 := own.len
        have h2 := hrb.len
        have h3 := flatten_step_le Ls k (by rw [Hn.out]; exact hlt)
        simp only [List.length_cons] at h1
        omega
      clear hc hcell
      go_wp2_with (refine app_own (N := q + m1) (LM := t :: (Ls.take (k + 1)).flatten) rfl rfl rfl rfl hEr own hrb' rfl (by rw [flatten_take_succ Ls k (by rw [Hn.out]; exact hlt)]; rfl) hlq ?_; intro A3 c3 W3 own3 hE3)
      go_roundw
      case rel => exact ⟨k + 1, _, c3, A3, by omega, by go_num, rfl, own3, hE3⟩
      case measure => simp [intOf]; omega
    · obtain rfl : k = n := by omega
      rw [List.take_of_length_le (by rw [Hn.out]; exact Nat.le_refl _)] at own
      have hq : q ≤ 140737488355200 := by
        have h1 := own.len
        simp only [List.length_cons] at h1
        omega
      go_wp2_with fail
      refine (hsum_any B q d _ wr own.rb hq).mono ?_
      rintro e W4 ⟨A4, c4, rfl, own4, hE4⟩
      go_wp2_with fail
      go_ret
      exact ⟨A4, c4, rfl, own4.base hEr.size, hEr.trans hE4⟩
theorem hsame_any (A B : Option Addr) (n c m d : Nat) (L M : List UInt8) (w : World) (hr : RB w A n c L) (hs : RB w B m d M) :
    Calls Try.prog 47 #[.slice A n c, .slice B m d] w fun e w' => e = .returned (.bool (decide (L = M))) ∧ w = w' := by
  go_enter Try.func47, Try.ntmps47
  go_wp2_with fail
  refine (equal_any A B n c m d L M w hr hs).mono ?_
  rintro e w1 ⟨rfl, rfl⟩
  go_wp2_with fail
  go_ret
  exact ⟨rfl, rfl⟩
end Go.Proofs.Ytkndgpjamijbbaa
namespace Go.Proofs.Ytkndgpjamijbbaa
set_option maxRecDepth 100000
open Go Go.RowKit
theorem run_app_full (ty : TypeId) {w : World} {ad : Addr} {n c : Nat} {B : Option Addr} {m d : Nat} {L M : List UInt8} (hr : RB w (some ad) n c L) (hx : RB w B m d M) (hfull : c < n + m) (hnm : n + m ≤ 140737488355328) :
    ∃ A' c' w', (Builtin.append_ #[22, 22] ty #[.slice (some ad) n c, .slice B m d]).run Try.prog w = .ok (.slice A' (n + m) c') w' ∧ OB w' w.heap.size A' (n + m) c' (L ++ M) ∧ Ext w w' := by
  obtain ⟨i0, hi0, hz0, hz1, hz2⟩ := info_parts info_u8
  have hl := hr.len
  have hm := hx.len
  have hnc := hr.room
  obtain ⟨bd, rfl, hb⟩ := hx.cells (by omega)
  have ha : 0 < n → ∀ j, j < n → w.cell? (ad.add j) = some (.int .u8 (u8i (ub L j))) := by
    intro hn
    obtain ⟨ad', h1, h2⟩ := hr.cells hn
    injection h1 with h1
    subst h1
    exact h2
  have hcA : ∀ j u, (bv L)[j]? = some u → w.cell? (ad.add j) = some u := by
    intro j u hu
    have hj : j < (bv L).length := by
      rcases Nat.lt_or_ge j (bv L).length with h1 | h1
      · exact h1
      · rw [List.getElem?_eq_none h1] at hu; cases hu
    rw [bv_length, hl] at hj
    rw [bv_get (by omega)] at hu
    injection hu with hu
    rw [← hu]
    exact ha (by omega) j hj
  have hcB : ∀ j u, (bv M)[j]? = some u → w.cell? (bd.add j) = some u := by
    intro j u hu
    have hj : j < (bv M).length := by
      rcases Nat.lt_or_ge j (bv M).length with h1 | h1
      · exact h1
      · rw [List.getElem?_eq_none h1] at hu; cases hu
    rw [bv_length, hm] at hj
    rw [bv_get (by omega)] at hu
    injection hu with hu
    rw [← hu]
    exact hb j hj
  have hrun := run_append_grow (P := Try.prog) w 22 ty 5 i0 (.int .u8 0) Try.underlying22 hi0 hz0 ad n c (bv L) (by rw [bv_length, hz1]; omega) hcA bd m d (bv M) (by rw [bv_length, hz1]; omega) hcB hfull (by omega) (by rw [hz2]; exact growslice_fits hfull (by omega))
  have hge := grownCap_ge w (n + m) c 5
  have hcm : grownCap w (n + m) c 5 ≤ maxLen := grownCap_le_maxLen w (n + m) c 5 (by unfold maxLen; omega)
  refine ⟨_, _, _, hrun, ⟨by rw [bv_length, List.length_append]; omega, .inr ⟨w.heap.size, _, _, rfl, Nat.le_refl _, heap_alloc_new w.drew _, hge, hcm, ?_, ?_⟩⟩, ((Ext.refl w).drew).alloc _⟩
  · simp only [Array.size_append, List.size_toArray, size_zeroCells, bv_length]
    have : (Value.cells (.int .u8 0)).size = 1 := rfl
    rw [this]
    omega
  · simp only [Array.toList_append, List.append_assoc]
    rw [bv_append, ← List.append_assoc]
    exact List.take_left' (by rw [List.length_append, bv_length, bv_length]; omega)
theorem app_full {ops : Array Oper} {rest : List Oper} {o : Oper} {a : Act} {Q : Exit → Act → World → Prop} {w : World} {s x : Operand} {ad : Addr} {n c : Nat} {B : Option Addr} {m d : Nat} {L M : List UInt8} (hgd : o.guard = none) (ho : o.op = .call { callee := .builtin .append, args := #[s, x], argTypes := #[22, 22] })
    (hs : a.eval s = .slice (some ad) n c) (hx : a.eval x = .slice B m d) (hr : RB w (some ad) n c L) (hb : RB w B m d M) (hfull : c < n + m) (hnm : n + m ≤ 140737488355328)
    (h : ∀ A' c' w', OB w' w.heap.size A' (n + m) c' (L ++ M) → Ext w w' → wpList Try.prog ops Q rest (a.put o.dst (.slice A' (n + m) c')) w') : wpList Try.prog ops Q (o :: rest) a w := by
  obtain ⟨A', c', w', hrun, h2, h3⟩ := run_app_full o.type hr hb hfull hnm
  refine run_law hgd (v := .slice A' (n + m) c') (w' := w') ?_ (h A' c' w' h2 h3)
  unfold execOp
  simp only [ho, resolve, invoke, builtin, Sem.run_bind, Sem.run_pure, Result.andThen_ok, List.map_toArray, List.map_cons, List.map_nil, hs, hx, hrun]
end Go.Proofs.Ytkndgpjamijbbaa
namespace Go.Proofs.Ytkndgpjamijbbaa
set_option maxRecDepth 100000
open Go Go.RowKit
/-- a key's number, as 32 bits -/
def keyW (key : Int) : UInt32 := UInt32.ofNat (key % 4294967296).toNat
def byteI (x : Int) : UInt8 := UInt8.ofNat (x % 256).toNat
theorem conv_key {P : Program} {w : World} {s t : TypeId} (hs : P.underlying s = some (.int .i64)) (ht : P.underlying t = some (.int .u32)) (x : Int) : (convert s t (.int .i64 x)).run P w = .ok (.int .u32 (u32i (keyW x))) w := by
  have e : IntKind.u32.wrap x = u32i (keyW x) := by
    rw [IntKind.wrap_u32]
    unfold u32i keyW
    rw [UInt32.toNat_ofNat']
    omega
  simp [convert, run_underlying hs, run_underlying ht, Conv.intToInt, e]
theorem conv_byte {P : Program} {w : World} {s t : TypeId} (hs : P.underlying s = some (.int .i64)) (ht : P.underlying t = some (.int .u8)) (x : Int) : (convert s t (.int .i64 x)).run P w = .ok (.int .u8 (u8i (byteI x))) w := by
  have e : IntKind.u8.wrap x = u8i (byteI x) := by
    rw [IntKind.wrap_u8]
    unfold u8i byteI
    rw [UInt8.toNat_ofNat']
    omega
  simp [convert, run_underlying hs, run_underlying ht, Conv.intToInt, e]
theorem conv_u32_i64' {P : Program} {w : World} {s t : TypeId} (hs : P.underlying s = some (.int .u32)) (ht : P.underlying t = some (.int .i64)) (x : UInt32) : (convert s t (.int .u32 (u32i x))).run P w = .ok (.int .i64 (u32i x)) w := by
  have e : IntKind.i64.wrap (u32i x) = u32i x := by
    have := x.toNat_lt
    unfold u32i
    rw [IntKind.wrap_i64]
    omega
  simp [convert, run_underlying hs, run_underlying ht, Conv.intToInt, e]
theorem bits_or32' (x y : UInt32) : bits .or .u32 (u32i x) (u32i y) = u32i (x ||| y) := by
  have h1 : BitVec.ofInt (IntKind.u32).bits (u32i x) = x.toBitVec := bitvec_u32 x
  have h2 : BitVec.ofInt (IntKind.u32).bits (u32i y) = y.toBitVec := bitvec_u32 y
  unfold bits
  simp only [h1, h2]
  exact u32_wrap_id (x ||| y)
def secretL (S : List UInt8) (key bit side : Int) : List UInt8 := tagged 10 (S ++ [(shr (keyW key) 24).toUInt8, (shr (keyW key) 16).toUInt8, (shr (keyW key) 8).toUInt8, (keyW key).toUInt8, byteI bit, byteI side])
def shownL (S : List UInt8) (key bit side : Int) : List UInt8 := tagged 11 (secretL S key bit side)
def digestW (M : List UInt8) : UInt32 := beP (tagged 13 M) 4
def toldB (d : UInt32) (j side : Nat) : Bool := decide (u32i (shr d (31 - j) &&& 1) = (side : Int))
set_option maxHeartbeats 1000000 in
theorem told_any (d : UInt32) (j side : Nat) (w : World) (hj : j < 32) :
    Calls Try.prog 116 #[.int .u32 (u32i d), .int .i64 (j : Int), .int .i64 (side : Int)] w fun e w' => e = .returned (.bool (toldB d j side)) ∧ Ext w w' := by
  go_enter Try.func116, Try.ntmps116
  go_upto_region 1 with (fail)
  refine seq_ext (n := 9) (by kernel_rfl) [.is (.int .u32 (u32i (d))), .is (.int .i64 (((j : Nat) : Int))), .is (.int .i64 ((31 : Int) - ((j : Nat) : Int))), .is (.int .u32 (u32i (shr d (31 - j)))), .is (.int .u32 (u32i ((shr d (31 - j)) &&& (1 : UInt32)))), .is (.int .i64 (u32i (shr d (31 - j) &&& 1))), .is (.int .i64 (((side : Nat) : Int))), .is (.bool (decide (u32i (shr d (31 - j) &&& 1) = ((side : Nat) : Int)))), .is (.bool (decide (u32i (shr d (31 - j) &&& 1) = ((side : Nat) : Int))))] rfl ⟨?_, ?_, ?_, ?_, ?_, ?_, ?_, ?_, ?_, trivial⟩ ?_
  · refine stepE rfl fun sdn sa sw sE sd sk => ?_
    have h0 : sa.eval (.tmp 0) = .int .u32 (u32i (d)) := sk.old 0 rfl
    exact Runs.move rfl h0 ⟨Ext.refl _, rfl⟩
  · refine stepE rfl fun sdn sa sw sE sd sk => ?_
    have h1 : sa.eval (.tmp 1) = .int .i64 (((j : Nat) : Int)) := sk.old 1 rfl
    exact Runs.move rfl h1 ⟨Ext.refl _, rfl⟩
  · refine stepE rfl fun sdn sa sw sE sd sk => ?_
    have h8 : sa.eval (.tmp 8) = .int .i64 (((j : Nat) : Int)) := sk.fact 1 8 rfl (sd 1 rfl)
    exact Runs.bin rfl rfl h8 (eqGuard_bin rfl) (bin_sub64 _ _ _ (by omega) (by omega)) ⟨Ext.refl _, rfl⟩
  · refine stepE rfl fun sdn sa sw sE sd sk => ?_
    have h7 : sa.eval (.tmp 7) = .int .u32 (u32i (d)) := sk.fact 0 7 rfl (sd 0 rfl)
    have h9 : sa.eval (.tmp 9) = .int .i64 ((31 : Int) - ((j : Nat) : Int)) := sk.fact 2 9 rfl (sd 2 rfl)
    exact Runs.bin rfl h7 h9 (eqGuard_bin rfl) (bin_shr32 _ _ (31 - j) _ (by omega) (by omega)) ⟨Ext.refl _, rfl⟩
  · refine stepE rfl fun sdn sa sw sE sd sk => ?_
    have h10 : sa.eval (.tmp 10) = .int .u32 (u32i (shr d (31 - j))) := sk.fact 3 10 rfl (sd 3 rfl)
    have hone : (.int .u32 1 : Value) = .int .u32 (u32i (1 : UInt32)) := rfl
    exact Runs.bin (v := .int .u32 (u32i (1 : UInt32))) rfl h10 hone (eqGuard_bin rfl) (bin_and32 _ _ (1 : UInt32)) ⟨Ext.refl _, rfl⟩
  · refine stepE rfl fun sdn sa sw sE sd sk => ?_
    have h11 : sa.eval (.tmp 11) = .int .u32 (u32i ((shr d (31 - j)) &&& (1 : UInt32))) := sk.fact 4 11 rfl (sd 4 rfl)
    exact Runs.conv rfl h11 (conv_u32_i64' Try.underlying84 Try.underlying3 _) ⟨Ext.refl _, rfl⟩
  · refine stepE rfl fun sdn sa sw sE sd sk => ?_
    have h2 : sa.eval (.tmp 2) = .int .i64 (((side : Nat) : Int)) := sk.old 2 rfl
    exact Runs.move rfl h2 ⟨Ext.refl _, rfl⟩
  · refine stepE rfl fun sdn sa sw sE sd sk => ?_
    have h12 : sa.eval (.tmp 12) = .int .i64 (u32i (shr d (31 - j) &&& 1)) := sk.fact 5 12 rfl (sd 5 rfl)
    have h13 : sa.eval (.tmp 13) = .int .i64 (((side : Nat) : Int)) := sk.fact 6 13 rfl (sd 6 rfl)
    exact Runs.bin rfl h12 h13 (by rfl) (bin_eql _ _ _ _) ⟨Ext.refl _, rfl⟩
  · refine stepE rfl fun sdn sa sw sE sd sk => ?_
    have h14 : sa.eval (.tmp 14) = .bool (decide (u32i (shr d (31 - j) &&& 1) = ((side : Nat) : Int))) := sk.fact 7 14 rfl (sd 7 rfl)
    exact Runs.assign rfl h14 ⟨Ext.refl _, rfl⟩
  intro vals W1 hE hv
  have e0 : vals 0 = .int .u32 (u32i (d)) := hv 0 (by omega) 7 rfl
  have e1 : vals 1 = .int .i64 (((j : Nat) : Int)) := hv 1 (by omega) 8 rfl
  have e2 : vals 2 = .int .i64 ((31 : Int) - ((j : Nat) : Int)) := hv 2 (by omega) 9 rfl
  have e3 : vals 3 = .int .u32 (u32i (shr d (31 - j))) := hv 3 (by omega) 10 rfl
  have e4 : vals 4 = .int .u32 (u32i ((shr d (31 - j)) &&& (1 : UInt32))) := hv 4 (by omega) 11 rfl
  have e5 : vals 5 = .int .i64 (u32i (shr d (31 - j) &&& 1)) := hv 5 (by omega) 12 rfl
  have e6 : vals 6 = .int .i64 (((side : Nat) : Int)) := hv 6 (by omega) 13 rfl
  have e7 : vals 7 = .bool (decide (u32i (shr d (31 - j) &&& 1) = ((side : Nat) : Int))) := hv 7 (by omega) 14 rfl
  have e8 : vals 8 = .bool (decide (u32i (shr d (31 - j) &&& 1) = ((side : Nat) : Int))) := hv 8 (by omega) 6 rfl
  simp only [putAll, Act.put, List.take_succ_cons, List.take_zero, List.drop_succ_cons, List.drop_zero, List.drop_nil, List.take_nil, Nat.reduceAdd, List.setIfInBounds_toArray, List.set_cons_succ, List.set_cons_zero, e0, e1, e2, e3, e4, e5, e6, e7, e8]
  clear hv e0 e1 e2 e3 e4 e5 e6 e7 e8
  go_wp2_with fail
  go_ret
  exact ⟨rfl, hE⟩
set_option maxHeartbeats 1000000 in
theorem digest_any (A : Option Addr) (n c : Nat) (M : List UInt8) (w : World) (hr : RB w A n c M) (hn : n ≤ 140737488355000) :
    Calls Try.prog 115 #[.slice A n c] w fun e w' => e = .returned (.int .u32 (u32i (digestW M))) ∧ Ext w w' := by
  have hl := hr.len
  have r1 := RBB.of1 hr 22
  have hE2 := Ext.new w (.cells #[.slice A n c] 22)
  have ht := htagged_any 13 _ 1 1 _ _ r1 (by simp only [List.flatten_cons, List.flatten_nil, List.append_nil, hl]; omega)
  have e13 : u8i 13 = 13 := rfl
  rw [e13, show [M].flatten = M from by simp] at ht
  have Ht := Lib.hid ht
  clear ht hl
  go_enter Try.func115, Try.ntmps115
  go_wp2_with fail
  refine Ht.out.mono ?_
  rintro e w3 ⟨A3, c3, rfl, own, hE3⟩
  obtain ⟨T, hT⟩ : ∃ T, T = tagged 13 M := ⟨_, rfl⟩
  rw [← hT] at own
  have HT := Lib.hid hT
  clear hT
  have r3 := own.rb
  have hc3 := r3.room
  have hc4 := r3.cap
  unfold maxLen at hc4
  obtain ⟨ad, rfl, hc⟩ := r3.cells (by omega)
  go_wp2_with fail
  go_loop [3, 11] (fun v i => ∃ k : Nat, k ≤ 4 ∧ i = .int .i64 k ∧ v = .int .u32 (u32i (beP T k))) (fun _ i => 4 - (intOf i).toNat)
  case atStart => exact ⟨0, by omega, rfl, rfl⟩
  case round =>
    obtain ⟨k, hk, rfl, rfl⟩ := hrel
    by_cases hlt : k < 4
    · have y1 := hc k (by omega)
      have e2 := fun w' : World => conv_u8_u32 (P := Try.prog) (w := w') Try.underlying5 Try.underlying84 (ub T k)
      have e3 : u32i (beP T k) * 256 % 4294967296 = u32i (shl (beP T k) 8) := by
        unfold u32i
        rw [shl_toNat]
        omega
      have e4 := bits_or32' (shl (beP T k) 8) (ub T k).toUInt32
      go_wp2_with fail
      go_round
      case rel => exact ⟨k + 1, by omega, by go_num, rfl⟩
      case measure => simp [intOf]; omega
    · obtain rfl : k = 4 := by omega
      go_wp2_with fail
      go_ret
      exact ⟨by rw [HT.out]; rfl, hE2.trans hE3⟩
end Go.Proofs.Ytkndgpjamijbbaa
namespace Go.Proofs.Ytkndgpjamijbbaa
set_option maxRecDepth 100000
open Go Go.RowKit
def partP (S : List UInt8) (key : Int) (i : Nat) : List UInt8 := shownL S key ((i / 2 : Nat) : Int) ((i % 2 : Nat) : Int)
def partS (dg : UInt32) (S : List UInt8) (key : Int) (i : Nat) : List UInt8 := if toldB dg (i / 2) (i % 2) = true then secretL S key ((i / 2 : Nat) : Int) ((i % 2 : Nat) : Int) else shownL S key ((i / 2 : Nat) : Int) ((i % 2 : Nat) : Int)
/-- a row of byte slices of the call's own; what they read as -/
def OBC (w : World) (base : Nat) (A : Option Addr) (n c : Nat) (Ls : List (List UInt8)) : Prop :=
  ∃ vs : List Value, w.ownsRow base 22 1 (.slice A n c) n vs ∧ Ls.length = n ∧ ∀ j, j < n → ∃ B m d, vs[j]? = some (.slice B m d) ∧ RB w B m d (lb Ls j) ∧ (0 < m → blk B ≠ blk A)
theorem OBC.none_ (w : World) (base : Nat) : OBC w base none 0 0 [] := ⟨[], World.ownsRow_nil w _ _ _, rfl, fun j hj => absurd hj (Nat.not_lt_zero _)⟩
theorem OBC.ext {w w' : World} {base : Nat} {A : Option Addr} {n c : Nat} {Ls : List (List UInt8)} (h : OBC w base A n c Ls) (e : Ext w w') : OBC w' base A n c Ls := by
  obtain ⟨vs, h1, h2, h3⟩ := h
  refine ⟨vs, World.ownsRow.kept h1 (e.grownBy none) ?_, h2, fun j hj => ?_⟩
  · cases hb : Value.ownBlock (.slice A n c) <;> simp
  · obtain ⟨B, m, d, h4, h5, h6⟩ := h3 j hj
    exact ⟨B, m, d, h4, h5.ext e, h6⟩
theorem OBC.lt {w : World} {base n c : Nat} {A : Option Addr} {Ls : List (List UInt8)} (h : OBC w base A n c Ls) {k : Nat} (hk : blk A = some k) : base ≤ k ∧ k < w.heap.size := by
  obtain ⟨vs, h1, _⟩ := h
  exact World.ownsRow.lt h1 k (by rw [ownBlock_slice]; exact hk)
theorem OBC.rbb {w : World} {base : Nat} {A : Option Addr} {n c : Nat} {Ls : List (List UInt8)} (h : OBC w base A n c Ls) : RBB w A n c Ls := by
  obtain ⟨vs, h1, h2, h3⟩ := h
  rcases h1.2 with ⟨hv, hn⟩ | ⟨g, cap, cur, hv, hb, hg, hnc, hcm, hcs, ht⟩
  · injection hv with e1 e2 e3
    subst e1 e2 e3
    exact ⟨h2, Nat.le_refl _, Nat.zero_le _, fun h => absurd h (Nat.lt_irrefl _)⟩
  · injection hv with e1 e2 e3
    subst e1 e3
    refine ⟨h2, hnc, hcm, fun hn => ⟨_, rfl, fun j hj => ?_⟩⟩
    obtain ⟨B, m, d, h4, h5, _⟩ := h3 j hj
    exact ⟨B, m, d, World.ownsRow.cells h1 (g := g) rfl j _ h4, h5⟩
theorem info_bb' : (Try.prog.info? 22).map (fun i => (i.zero, i.size, i.bytes)) = some (some (.slice none 0 0), 1, 24) := by kernel_rfl
theorem rb_blk_lt {w : World} {B : Option Addr} {n d : Nat} {M : List UInt8} (h : RB w B n d M) (hn : 0 < n) (k : Nat) (hk : blk B = some k) : k < w.heap.size := by
  obtain ⟨ad, rfl, hc⟩ := h.cells hn
  have h3 := World.block_lt_of_cell? w _ (hc 0 hn)
  rw [block_of_add] at h3
  have h4 : ad.block = k := by simpa [blk] using hk
  omega
theorem range_snoc {α : Type} (f : Nat → α) (k : Nat) : (List.range (k + 1)).map f = (List.range k).map f ++ [f k] := by simp [List.range_succ]
theorem appbc_law {ops : Array Oper} {rest : List Oper} {o : Oper} {a : Act} {Q : Exit → Act → World → Prop} {w : World} (hgd : o.guard = none) {s x : Operand} (ho : o.op = .call { callee := .builtin .append, args := #[s, x], argTypes := #[23, 23] })
    {A : Option Addr} {n c : Nat} (hs : a.eval s = .slice A n c) {ad : Addr} (hx : a.eval x = .slice (some ad) 1 1) {base : Nat} {Ls : List (List UInt8)} {B : Option Addr} {m d : Nat} {Y : List UInt8} (hcell : w.cell? (ad.add 0) = some (.slice B m d))
    (hown : OBC w base A n c Ls) (hB : RB w B m d Y) (hne : 0 < m → blk B ≠ blk A) (hbase : base ≤ w.heap.size) (hnk : n + 1 ≤ 1000000)
    (h : ∀ A' c' w', OBC w' base A' (n + 1) c' (Ls ++ [Y]) → w.grownBy w' (blk A) → wpList Try.prog ops Q rest (a.put o.dst (.slice A' (n + 1) c')) w') : wpList Try.prog ops Q (o :: rest) a w := by
  obtain ⟨i0, hi0, hz0, hz1, hz2⟩ := info_parts info_bb'
  obtain ⟨vs, h1, h2, h3⟩ := hown
  obtain ⟨v', w', hrun, r1, r2, _, r4⟩ := run_append_own_at (P := Try.prog) w base 23 o.type 22 i0 (.slice none 0 0) 1 24 Try.underlying23 hi0 hz0 hz1 hz2 rfl (by decide) (.slice A n c) n vs h1 ad 1 1 [.slice B m d] rfl
    (by
      intro j u hu
      rcases j with _ | j
      · injection hu with hu
        subst hu
        exact hcell
      · cases hu) (by simp [Value.oneCell']) (small_maxLen hnk) (by omega) hbase
  obtain ⟨A', c', rfl⟩ : ∃ A' c', v' = .slice A' (n + 1) c' := by
    rcases r1.2 with ⟨_, h0⟩ | ⟨g, cap, _, rfl, _⟩
    · omega
    · exact ⟨_, cap, rfl⟩
  rw [ownBlock_slice] at r2 r4
  rw [ownBlock_slice] at r4
  have hne' : ∀ (B' : Option Addr) (m' d' : Nat) (Y' : List UInt8), RB w B' m' d' Y' → (0 < m' → blk B' ≠ blk A) → (0 < m' → blk B' ≠ blk A') := by
    intro B' m' d' Y' hb hn hm e
    rcases r4 with r4 | r4
    · exact hn hm (e.trans r4)
    · have := rb_blk_lt hb hm _ (e.trans r4)
      omega
  have hvl : vs.length = n := by have := h1.1; omega
  refine run_law hgd (v := .slice A' (n + 1) c') (w' := w') ?_ (h A' c' w' ⟨vs ++ [.slice B m d], r1, by rw [List.length_append]; simp; omega, fun j hj => ?_⟩ r2)
  · unfold execOp
    simp only [ho, resolve, invoke, builtin, Sem.run_bind, Sem.run_pure, Result.andThen_ok, List.map_toArray, List.map_cons, List.map_nil, hs, hx, hrun]
  · by_cases hjn : j < n
    · obtain ⟨B', m', d', h4, h5, h6⟩ := h3 j hjn
      refine ⟨B', m', d', by rw [List.getElem?_append_left (by omega)]; exact h4, ?_, hne' _ _ _ _ h5 h6⟩
      have e : lb (Ls ++ [Y]) j = lb Ls j := by unfold lb; simp [List.getElem?_append_left (show j < Ls.length by omega)]
      rw [e]
      exact h5.grown r2 h6
    · obtain rfl : j = n := by omega
      refine ⟨B, m, d, by rw [List.getElem?_append_right (by omega), hvl]; simp, ?_, hne' _ _ _ _ hB hne⟩
      have e : lb (Ls ++ [Y]) j = Y := by unfold lb; simp [← h2]
      rw [e]
      exact hB.grown r2 hne
def PartO (f : Nat → List UInt8) (w : World) (v i : Value) (wr : World) : Prop :=
  ∃ (k d : Nat) (P : Option Addr), k ≤ 32 ∧ i = .int .i64 k ∧ v = .slice P (2 * k) d ∧ OBC wr w.heap.size P (2 * k) d ((List.range (2 * k)).map f) ∧ Ext w wr
def PartI (f : Nat → List UInt8) (w : World) (k : Nat) (v i : Value) (wr : World) : Prop :=
  ∃ (s d : Nat) (P : Option Addr), s ≤ 2 ∧ i = .int .i64 s ∧ v = .slice P (2 * k + s) d ∧ OBC wr w.heap.size P (2 * k + s) d ((List.range (2 * k + s)).map f) ∧ Ext w wr
end Go.Proofs.Ytkndgpjamijbbaa
