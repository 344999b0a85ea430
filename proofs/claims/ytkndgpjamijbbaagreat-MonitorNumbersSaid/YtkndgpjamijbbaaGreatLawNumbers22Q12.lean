/-
  once.Digest, Secret, Shown and told, walked; an append to a row of byte slices. once.parts, Public and Sign, walked. once.Public, Sign and Root, walked. The reference's Tagged, walked: the SHA-256 of the tag and all parts.
-/
import Derived.Test.YtkndgpjamijbbaaGreatLawNumbers22Q11
import Derived.Test.YtkndgpjamijbbaaGreatLawNumbers22Q4
import Derived.Maps.AppendAt
import Derived.Test.YtkndgpjamijbbaaGreatLawNumbers22Q6
namespace Go.Proofs.YtkndgpjamijbbaaGreat
set_option maxRecDepth 100000
open Go Go.RowKit
/-- a key's number, as 32 bits -/
def keyW (key : Int) : UInt32 := UInt32.ofNat (key % 4294967296).toNat
def byteI (x : Int) : UInt8 := UInt8.ofNat (x % 256).toNat
theorem conv_key {P : Program} {w : World} {s t : TypeId} (hs : P.underlying s = some (.int .i64)) (ht : P.underlying t = some (.int .u32)) (x : Int) : (convert s t (.int .i64 x)).run P w = .ok (.int .u32 (u32i (keyW x))) w := by
  have e : IntKind.u32.wrap x = u32i (keyW x) := by
    rw [IntKind.wrap_u32]
    unfold u32i keyW
    rw [UInt32.toNat_ofNat']
    omega
  simp [convert, run_underlying hs, run_underlying ht, Conv.intToInt, e]
theorem conv_byte {P : Program} {w : World} {s t : TypeId} (hs : P.underlying s = some (.int .i64)) (ht : P.underlying t = some (.int .u8)) (x : Int) : (convert s t (.int .i64 x)).run P w = .ok (.int .u8 (u8i (byteI x))) w := by
  have e : IntKind.u8.wrap x = u8i (byteI x) := by
    rw [IntKind.wrap_u8]
    unfold u8i byteI
    rw [UInt8.toNat_ofNat']
    omega
  simp [convert, run_underlying hs, run_underlying ht, Conv.intToInt, e]
theorem conv_u32_i64' {P : Program} {w : World} {s t : TypeId} (hs : P.underlying s = some (.int .u32)) (ht : P.underlying t = some (.int .i64)) (x : UInt32) : (convert s t (.int .u32 (u32i x))).run P w = .ok (.int .i64 (u32i x)) w := by
  have e : IntKind.i64.wrap (u32i x) = u32i x := by
    have := x.toNat_lt
    unfold u32i
    rw [IntKind.wrap_i64]
    omega
  simp [convert, run_underlying hs, run_underlying ht, Conv.intToInt, e]
theorem bits_or32' (x y : UInt32) : bits .or .u32 (u32i x) (u32i y) = u32i (x ||| y) := by
  have h1 : BitVec.ofInt (IntKind.u32).bits (u32i x) = x.toBitVec := bitvec_u32 x
  have h2 : BitVec.ofInt (IntKind.u32).bits (u32i y) = y.toBitVec := bitvec_u32 y
  unfold bits
  simp only [h1, h2]
  exact u32_wrap_id (x ||| y)
def secretL (S : List UInt8) (key bit side : Int) : List UInt8 := tagged 10 (S ++ [(shr (keyW key) 24).toUInt8, (shr (keyW key) 16).toUInt8, (shr (keyW key) 8).toUInt8, (keyW key).toUInt8, byteI bit, byteI side])
def shownL (S : List UInt8) (key bit side : Int) : List UInt8 := tagged 11 (secretL S key bit side)
def digestW (M : List UInt8) : UInt32 := beP (tagged 13 M) 4
def toldB (d : UInt32) (j side : Nat) : Bool := decide (u32i (shr d (31 - j) &&& 1) = (side : Int))
set_option maxHeartbeats 1000000 in
theorem told_any (d : UInt32) (j side : Nat) (w : World) (hj : j < 32) :
    Calls Tryz.prog 99 #[.int .u32 (u32i d), .int .i64 (j : Int), .int .i64 (side : Int)] w fun e w' => e = .returned (.bool (toldB d j side)) ∧ Ext w w' := by
  go_enter Tryz.func99, Tryz.ntmps99
  go_upto_region 1 with (fail)
  refine seq_ext (n := 9) (by kernel_rfl) [.is (.int .u32 (u32i (d))), .is (.int .i64 (((j : Nat) : Int))), .is (.int .i64 ((31 : Int) - ((j : Nat) : Int))), .is (.int .u32 (u32i (shr d (31 - j)))), .is (.int .u32 (u32i ((shr d (31 - j)) &&& (1 : UInt32)))), .is (.int .i64 (u32i (shr d (31 - j) &&& 1))), .is (.int .i64 (((side : Nat) : Int))), .is (.bool (decide (u32i (shr d (31 - j) &&& 1) = ((side : Nat) : Int)))), .is (.bool (decide (u32i (shr d (31 - j) &&& 1) = ((side : Nat) : Int))))] rfl ⟨?_, ?_, ?_, ?_, ?_, ?_, ?_, ?_, ?_, trivial⟩ ?_
  · refine stepE rfl fun sdn sa sw sE sd sk => ?_
    have h0 : sa.eval (.tmp 0) = .int .u32 (u32i (d)) := sk.old 0 rfl
    exact Runs.move rfl h0 ⟨Ext.refl _, rfl⟩
  · refine stepE rfl fun sdn sa sw sE sd sk => ?_
    have h1 : sa.eval (.tmp 1) = .int .i64 (((j : Nat) : Int)) := sk.old 1 rfl
    exact Runs.move rfl h1 ⟨Ext.refl _, rfl⟩
  · refine stepE rfl fun sdn sa sw sE sd sk => ?_
    have h8 : sa.eval (.tmp 8) = .int .i64 (((j : Nat) : Int)) := sk.fact 1 8 rfl (sd 1 rfl)
    exact Runs.bin rfl rfl h8 (eqGuard_bin rfl) (bin_sub64 _ _ _ (by omega) (by omega)) ⟨Ext.refl _, rfl⟩
  · refine stepE rfl fun sdn sa sw sE sd sk => ?_
    have h7 : sa.eval (.tmp 7) = .int .u32 (u32i (d)) := sk.fact 0 7 rfl (sd 0 rfl)
    have h9 : sa.eval (.tmp 9) = .int .i64 ((31 : Int) - ((j : Nat) : Int)) := sk.fact 2 9 rfl (sd 2 rfl)
    exact Runs.bin rfl h7 h9 (eqGuard_bin rfl) (bin_shr32 _ _ (31 - j) _ (by omega) (by omega)) ⟨Ext.refl _, rfl⟩
  · refine stepE rfl fun sdn sa sw sE sd sk => ?_
    have h10 : sa.eval (.tmp 10) = .int .u32 (u32i (shr d (31 - j))) := sk.fact 3 10 rfl (sd 3 rfl)
    have hone : (.int .u32 1 : Value) = .int .u32 (u32i (1 : UInt32)) := rfl
    exact Runs.bin (v := .int .u32 (u32i (1 : UInt32))) rfl h10 hone (eqGuard_bin rfl) (bin_and32 _ _ (1 : UInt32)) ⟨Ext.refl _, rfl⟩
  · refine stepE rfl fun sdn sa sw sE sd sk => ?_
    have h11 : sa.eval (.tmp 11) = .int .u32 (u32i ((shr d (31 - j)) &&& (1 : UInt32))) := sk.fact 4 11 rfl (sd 4 rfl)
    exact Runs.conv rfl h11 (conv_u32_i64' Tryz.underlying56 Tryz.underlying3 _) ⟨Ext.refl _, rfl⟩
  · refine stepE rfl fun sdn sa sw sE sd sk => ?_
    have h2 : sa.eval (.tmp 2) = .int .i64 (((side : Nat) : Int)) := sk.old 2 rfl
    exact Runs.move rfl h2 ⟨Ext.refl _, rfl⟩
  · refine stepE rfl fun sdn sa sw sE sd sk => ?_
    have h12 : sa.eval (.tmp 12) = .int .i64 (u32i (shr d (31 - j) &&& 1)) := sk.fact 5 12 rfl (sd 5 rfl)
    have h13 : sa.eval (.tmp 13) = .int .i64 (((side : Nat) : Int)) := sk.fact 6 13 rfl (sd 6 rfl)
    exact Runs.bin rfl h12 h13 (by rfl) (bin_eql _ _ _ _) ⟨Ext.refl _, rfl⟩
  · refine stepE rfl fun sdn sa sw sE sd sk => ?_
    have h14 : sa.eval (.tmp 14) = .bool (decide (u32i (shr d (31 - j) &&& 1) = ((side : Nat) : Int))) := sk.fact 7 14 rfl (sd 7 rfl)
    exact Runs.assign rfl h14 ⟨Ext.refl _, rfl⟩
  intro vals W1 hE hv
  have e0 : vals 0 = .int .u32 (u32i (d)) := hv 0 (by omega) 7 rfl
  have e1 : vals 1 = .int .i64 (((j : Nat) : Int)) := hv 1 (by omega) 8 rfl
  have e2 : vals 2 = .int .i64 ((31 : Int) - ((j : Nat) : Int)) := hv 2 (by omega) 9 rfl
  have e3 : vals 3 = .int .u32 (u32i (shr d (31 - j))) := hv 3 (by omega) 10 rfl
  have e4 : vals 4 = .int .u32 (u32i ((shr d (31 - j)) &&& (1 : UInt32))) := hv 4 (by omega) 11 rfl
  have e5 : vals 5 = .int .i64 (u32i (shr d (31 - j) &&& 1)) := hv 5 (by omega) 12 rfl
  have e6 : vals 6 = .int .i64 (((side : Nat) : Int)) := hv 6 (by omega) 13 rfl
  have e7 : vals 7 = .bool (decide (u32i (shr d (31 - j) &&& 1) = ((side : Nat) : Int))) := hv 7 (by omega) 14 rfl
  have e8 : vals 8 = .bool (decide (u32i (shr d (31 - j) &&& 1) = ((side : Nat) : Int))) := hv 8 (by omega) 6 rfl
  simp only [putAll, Act.put, List.take_succ_cons, List.take_zero, List.drop_succ_cons, List.drop_zero, List.drop_nil, List.take_nil, Nat.reduceAdd, List.setIfInBounds_toArray, List.set_cons_succ, List.set_cons_zero, e0, e1, e2, e3, e4, e5, e6, e7, e8]
  clear hv e0 e1 e2 e3 e4 e5 e6 e7 e8
  go_wp2_with fail
  go_ret
  exact ⟨rfl, hE⟩
set_option maxHeartbeats 1000000 in
theorem digest_any (A : Option Addr) (n c : Nat) (M : List UInt8) (w : World) (hr : RB w A n c M) (hn : n ≤ 140737488355000) :
    Calls Tryz.prog 98 #[.slice A n c] w fun e w' => e = .returned (.int .u32 (u32i (digestW M))) ∧ Ext w w' := by
  have hl := hr.len
  have r1 := RBB.of1 hr 26
  have hE2 := Ext.new w (.cells #[.slice A n c] 26)
  have ht := htagged_any 13 _ 1 1 _ _ r1 (by simp only [List.flatten_cons, List.flatten_nil, List.append_nil, hl]; omega)
  have e13 : u8i 13 = 13 := rfl
  rw [e13, show [M].flatten = M from by simp] at ht
  have Ht := Lib.hid ht
  clear ht hl
  go_enter Tryz.func98, Tryz.ntmps98
  go_wp2_with fail
  refine Ht.out.mono ?_
  rintro e w3 ⟨A3, c3, rfl, own, hE3⟩
  obtain ⟨T, hT⟩ : ∃ T, T = tagged 13 M := ⟨_, rfl⟩
  rw [← hT] at own
  have HT := Lib.hid hT
  clear hT
  have r3 := own.rb
  have hc3 := r3.room
  have hc4 := r3.cap
  unfold maxLen at hc4
  obtain ⟨ad, rfl, hc⟩ := r3.cells (by omega)
  go_wp2_with fail
  go_loop [3, 11] (fun v i => ∃ k : Nat, k ≤ 4 ∧ i = .int .i64 k ∧ v = .int .u32 (u32i (beP T k))) (fun _ i => 4 - (intOf i).toNat)
  case atStart => exact ⟨0, by omega, rfl, rfl⟩
  case round =>
    obtain ⟨k, hk, rfl, rfl⟩ := hrel
    by_cases hlt : k < 4
    · have y1 := hc k (by omega)
      have e2 := fun w' : World => conv_u8_u32 (P := Tryz.prog) (w := w') Tryz.underlying5 Tryz.underlying56 (ub T k)
      have e3 : u32i (beP T k) * 256 % 4294967296 = u32i (shl (beP T k) 8) := by
        unfold u32i
        rw [shl_toNat]
        omega
      have e4 := bits_or32' (shl (beP T k) 8) (ub T k).toUInt32
      go_wp2_with fail
      go_round
      case rel => exact ⟨k + 1, by omega, by go_num, rfl⟩
      case measure => simp [intOf]; omega
    · obtain rfl : k = 4 := by omega
      go_wp2_with fail
      go_ret
      exact ⟨by rw [HT.out]; rfl, hE2.trans hE3⟩
end Go.Proofs.YtkndgpjamijbbaaGreat
namespace Go.Proofs.YtkndgpjamijbbaaGreat
set_option maxRecDepth 100000
open Go Go.RowKit
def partP (S : List UInt8) (key : Int) (i : Nat) : List UInt8 := shownL S key ((i / 2 : Nat) : Int) ((i % 2 : Nat) : Int)
def partS (dg : UInt32) (S : List UInt8) (key : Int) (i : Nat) : List UInt8 := if toldB dg (i / 2) (i % 2) = true then secretL S key ((i / 2 : Nat) : Int) ((i % 2 : Nat) : Int) else shownL S key ((i / 2 : Nat) : Int) ((i % 2 : Nat) : Int)
/-- a row of byte slices of the call's own; what they read as -/
def OBC (w : World) (base : Nat) (A : Option Addr) (n c : Nat) (Ls : List (List UInt8)) : Prop :=
  ∃ vs : List Value, w.ownsRow base 26 1 (.slice A n c) n vs ∧ Ls.length = n ∧ ∀ j, j < n → ∃ B m d, vs[j]? = some (.slice B m d) ∧ RB w B m d (lb Ls j) ∧ (0 < m → blk B ≠ blk A)
theorem OBC.none_ (w : World) (base : Nat) : OBC w base none 0 0 [] := ⟨[], World.ownsRow_nil w _ _ _, rfl, fun j hj => absurd hj (Nat.not_lt_zero _)⟩
theorem OBC.ext {w w' : World} {base : Nat} {A : Option Addr} {n c : Nat} {Ls : List (List UInt8)} (h : OBC w base A n c Ls) (e : Ext w w') : OBC w' base A n c Ls := by
  obtain ⟨vs, h1, h2, h3⟩ := h
  refine ⟨vs, World.ownsRow.kept h1 (e.grownBy none) ?_, h2, fun j hj => ?_⟩
  · cases hb : Value.ownBlock (.slice A n c) <;> simp
  · obtain ⟨B, m, d, h4, h5, h6⟩ := h3 j hj
    exact ⟨B, m, d, h4, h5.ext e, h6⟩
theorem OBC.lt {w : World} {base n c : Nat} {A : Option Addr} {Ls : List (List UInt8)} (h : OBC w base A n c Ls) {k : Nat} (hk : blk A = some k) : base ≤ k ∧ k < w.heap.size := by
  obtain ⟨vs, h1, _⟩ := h
  exact World.ownsRow.lt h1 k (by rw [ownBlock_slice]; exact hk)
theorem OBC.rbb {w : World} {base : Nat} {A : Option Addr} {n c : Nat} {Ls : List (List UInt8)} (h : OBC w base A n c Ls) : RBB w A n c Ls := by
  obtain ⟨vs, h1, h2, h3⟩ := h
  rcases h1.2 with ⟨hv, hn⟩ | ⟨g, cap, cur, hv, hb, hg, hnc, hcm, hcs, ht⟩
  · injection hv with e1 e2 e3
    subst e1 e2 e3
    exact ⟨h2, Nat.le_refl _, Nat.zero_le _, fun h => absurd h (Nat.lt_irrefl _)⟩
  · injection hv with e1 e2 e3
    subst e1 e3
    refine ⟨h2, hnc, hcm, fun hn => ⟨_, rfl, fun j hj => ?_⟩⟩
    obtain ⟨B, m, d, h4, h5, _⟩ := h3 j hj
    exact ⟨B, m, d, World.ownsRow.cells h1 (g := g) rfl j _ h4, h5⟩
theorem info_bb' : (Tryz.prog.info? 26).map (fun i => (i.zero, i.size, i.bytes)) = some (some (.slice none 0 0), 1, 24) := by kernel_rfl
theorem rb_blk_lt {w : World} {B : Option Addr} {n d : Nat} {M : List UInt8} (h : RB w B n d M) (hn : 0 < n) (k : Nat) (hk : blk B = some k) : k < w.heap.size := by
  obtain ⟨ad, rfl, hc⟩ := h.cells hn
  have h3 := World.block_lt_of_cell? w _ (hc 0 hn)
  rw [block_of_add] at h3
  have h4 : ad.block = k := by simpa [blk] using hk
  omega
theorem range_snoc {α : Type} (f : Nat → α) (k : Nat) : (List.range (k + 1)).map f = (List.range k).map f ++ [f k] := by simp [List.range_succ]
theorem appbc_law {ops : Array Oper} {rest : List Oper} {o : Oper} {a : Act} {Q : Exit → Act → World → Prop} {w : World} (hgd : o.guard = none) {s x : Operand} (ho : o.op = .call { callee := .builtin .append, args := #[s, x], argTypes := #[33, 33] })
    {A : Option Addr} {n c : Nat} (hs : a.eval s = .slice A n c) {ad : Addr} (hx : a.eval x = .slice (some ad) 1 1) {base : Nat} {Ls : List (List UInt8)} {B : Option Addr} {m d : Nat} {Y : List UInt8} (hcell : w.cell? (ad.add 0) = some (.slice B m d))
    (hown : OBC w base A n c Ls) (hB : RB w B m d Y) (hne : 0 < m → blk B ≠ blk A) (hbase : base ≤ w.heap.size) (hnk : n + 1 ≤ 1000000)
    (h : ∀ A' c' w', OBC w' base A' (n + 1) c' (Ls ++ [Y]) → w.grownBy w' (blk A) → wpList Tryz.prog ops Q rest (a.put o.dst (.slice A' (n + 1) c')) w') : wpList Tryz.prog ops Q (o :: rest) a w := by
  obtain ⟨i0, hi0, hz0, hz1, hz2⟩ := info_parts info_bb'
  obtain ⟨vs, h1, h2, h3⟩ := hown
  obtain ⟨v', w', hrun, r1, r2, _, r4⟩ := run_append_own_at (P := Tryz.prog) w base 33 o.type 26 i0 (.slice none 0 0) 1 24 Tryz.underlying33 hi0 hz0 hz1 hz2 rfl (by decide) (.slice A n c) n vs h1 ad 1 1 [.slice B m d] rfl
    (by
      intro j u hu
      rcases j with _ | j
      · injection hu with hu
        subst hu
        exact hcell
      · cases hu) (by simp [Value.oneCell']) (small_maxLen hnk) (by omega) hbase
  obtain ⟨A', c', rfl⟩ : ∃ A' c', v' = .slice A' (n + 1) c' := by
    rcases r1.2 with ⟨_, h0⟩ | ⟨g, cap, _, rfl, _⟩
    · omega
    · exact ⟨_, cap, rfl⟩
  rw [ownBlock_slice] at r2 r4
  rw [ownBlock_slice] at r4
  have hne' : ∀ (B' : Option Addr) (m' d' : Nat) (Y' : List UInt8), RB w B' m' d' Y' → (0 < m' → blk B' ≠ blk A) → (0 < m' → blk B' ≠ blk A') := by
    intro B' m' d' Y' hb hn hm e
    rcases r4 with r4 | r4
    · exact hn hm (e.trans r4)
    · have := rb_blk_lt hb hm _ (e.trans r4)
      omega
  have hvl : vs.length = n := by have := h1.1; omega
  refine run_law hgd (v := .slice A' (n + 1) c') (w' := w') ?_ (h A' c' w' ⟨vs ++ [.slice B m d], r1, by rw [List.length_append]; simp; omega, fun j hj => ?_⟩ r2)
  · unfold execOp
    simp only [ho, resolve, invoke, builtin, Sem.run_bind, Sem.run_pure, Result.andThen_ok, List.map_toArray, List.map_cons, List.map_nil, hs, hx, hrun]
  · by_cases hjn : j < n
    · obtain ⟨B', m', d', h4, h5, h6⟩ := h3 j hjn
      refine ⟨B', m', d', by rw [List.getElem?_append_left (by omega)]; exact h4, ?_, hne' _ _ _ _ h5 h6⟩
      have e : lb (Ls ++ [Y]) j = lb Ls j := by unfold lb; simp [List.getElem?_append_left (show j < Ls.length by omega)]
      rw [e]
      exact h5.grown r2 h6
    · obtain rfl : j = n := by omega
      refine ⟨B, m, d, by rw [List.getElem?_append_right (by omega), hvl]; simp, ?_, hne' _ _ _ _ hB hne⟩
      have e : lb (Ls ++ [Y]) j = Y := by unfold lb; simp [← h2]
      rw [e]
      exact hB.grown r2 hne
def PartO (f : Nat → List UInt8) (w : World) (v i : Value) (wr : World) : Prop :=
  ∃ (k d : Nat) (P : Option Addr), k ≤ 32 ∧ i = .int .i64 k ∧ v = .slice P (2 * k) d ∧ OBC wr w.heap.size P (2 * k) d ((List.range (2 * k)).map f) ∧ Ext w wr
def PartI (f : Nat → List UInt8) (w : World) (k : Nat) (v i : Value) (wr : World) : Prop :=
  ∃ (s d : Nat) (P : Option Addr), s ≤ 2 ∧ i = .int .i64 s ∧ v = .slice P (2 * k + s) d ∧ OBC wr w.heap.size P (2 * k + s) d ((List.range (2 * k + s)).map f) ∧ Ext w wr
end Go.Proofs.YtkndgpjamijbbaaGreat
namespace Go.Proofs.YtkndgpjamijbbaaGreat
set_option maxRecDepth 100000
open Go Go.RowKit
theorem flat32 (f : Nat → List UInt8) (h : ∀ i, (f i).length = 32) (k : Nat) : (((List.range k).map f).flatten).length = 32 * k := by
  induction k with
  | zero => rfl
  | succ k ih => rw [range_snoc, List.flatten_append, List.length_append, ih]; simp [h]; omega
theorem flat32' (f : Nat → List UInt8) (k : Nat) (h : ∀ i, i < k → (f i).length = 32) : (((List.range k).map f).flatten).length = 32 * k := by
  induction k with
  | zero => rfl
  | succ k ih =>
    rw [range_snoc, List.flatten_append, List.length_append, ih (fun i hi => h i (by omega))]
    simp only [List.flatten_cons, List.flatten_nil, List.append_nil, h k (by omega)]
    omega
theorem secretL_length (S : List UInt8) (key bit side : Int) : (secretL S key bit side).length = 32 := tagged_length _ _
theorem shownL_length (S : List UInt8) (key bit side : Int) : (shownL S key bit side).length = 32 := tagged_length _ _
theorem partP_length (S : List UInt8) (key : Int) (i : Nat) : (partP S key i).length = 32 := shownL_length _ _ _ _
theorem partS_length (dg : UInt32) (S : List UInt8) (key : Int) (i : Nat) : (partS dg S key i).length = 32 := by
  unfold partS
  split
  · exact secretL_length _ _ _ _
  · exact shownL_length _ _ _ _
def publicL (S : List UInt8) (key : Int) : List UInt8 := tagged 12 ((List.range 64).map (partP S key)).flatten
def rootPart (dg : UInt32) (Ls : List (List UInt8)) (i : Nat) : List UInt8 := if toldB dg (i / 2) (i % 2) = true then tagged 11 (lb Ls i) else lb Ls i
def rootV (M : List UInt8) (Ls : List (List UInt8)) : List UInt8 := tagged 12 ((List.range 64).map (rootPart (digestW M) Ls)).flatten
def rootOK (Ls : List (List UInt8)) : Prop := Ls.length = 64 ∧ ∀ i, i < 64 → (lb Ls i).length = 32
theorem lb_range (f : Nat → List UInt8) {i k : Nat} (h : i < k) : lb ((List.range k).map f) i = f i := by simp [lb, h]
theorem root_sign (M S : List UInt8) (key : Int) : rootOK ((List.range 64).map (partS (digestW M) S key)) ∧ rootV M ((List.range 64).map (partS (digestW M) S key)) = publicL S key := by
  refine ⟨⟨by simp, fun i hi => by rw [lb_range _ hi]; exact partS_length _ _ _ _⟩, ?_⟩
  unfold rootV publicL
  congr 2
  apply List.map_congr_left
  intro i hi
  rw [List.mem_range] at hi
  unfold rootPart partP
  rw [lb_range _ hi]
  unfold partS
  by_cases h : toldB (digestW M) (i / 2) (i % 2) = true
  · rw [if_pos h, if_pos h]
    rfl
  · rw [if_neg h, if_neg h]
def RootI (w : World) (dg : UInt32) (Ls : List (List UInt8)) (v i : Value) (wr : World) : Prop :=
  ∃ (k d : Nat) (P : Option Addr), k ≤ 64 ∧ i = .int .i64 k ∧ v = .slice P k d ∧ OBC wr w.heap.size P k d ((List.range k).map (rootPart dg Ls)) ∧ (∀ j, j < k → (lb Ls j).length = 32) ∧ Ext w wr
set_option maxHeartbeats 4000000 in
theorem root_any (B A : Option Addr) (m d n c : Nat) (M : List UInt8) (Ls : List (List UInt8)) (w : World) (hm : RB w B m d M) (hmn : m ≤ 140737488355000) (hr : RBB w A n c Ls) :
    Calls Tryz.prog 84 #[.slice B m d, .slice A n c] w fun e w' => (rootOK Ls → ∃ A' c', e = .returned (.tuple #[.slice A' 32 c', .bool true]) ∧ OB w' w.heap.size A' 32 c' (rootV M Ls)) ∧ (¬ rootOK Ls → e = .returned (.tuple #[.slice none 0 0, .bool false])) ∧ Ext w w' := by
  have hln := hr.len
  have Hn := Lib.hid hln
  clear hln
  by_cases h64 : n = 64
  · subst h64
    go_enter Tryz.func84, Tryz.ntmps84
    go_wp2_with fail
    refine (digest_any B m d M w hm hmn).mono ?_
    rintro e w1 ⟨rfl, hE1⟩
    obtain ⟨dg, hdg⟩ : ∃ dg, dg = digestW M := ⟨_, rfl⟩
    rw [← hdg]
    have Hdg := Lib.hid hdg
    clear hdg
    go_wp2_with fail
    go_loopw [7, 17] (fun v i wr => RootI w dg Ls v i wr) (fun _ i _ => 64 - (intOf i).toNat)
    case atStart => exact ⟨0, 0, none, by omega, rfl, rfl, OBC.none_ _ _, fun j hj => absurd hj (Nat.not_lt_zero _), hE1⟩
    case round =>
      obtain ⟨k, q, P, hk, rfl, rfl, own, hall, hEr⟩ := hrel
      have Hall := Lib.hid hall
      clear hall
      by_cases hlt : k < 64
      · have hki : (k : Int) < 64 := by omega
        obtain ⟨ad, rfl, hc⟩ := hr.cells (by omega)
        obtain ⟨E, z, y, hcell, hrE⟩ := hc k hlt
        have y1 := hEr.cell hcell
        have rE := hrE.ext hEr
        have hEl := rE.len
        by_cases hz : z = 32
        · subst hz
          have hEl2 := Lib.hid hEl
          clear hEl hc hcell
          go_wp2_with fail
          have ht := told_any dg (k / 2) (k % 2) wr (by omega)
          rw [show ((k / 2 : Nat) : Int) = (k : Int) / 2 from by omega, show ((k % 2 : Nat) : Int) = (k : Int) % 2 from by omega] at ht
          refine ht.mono ?_
          rintro e w2 ⟨rfl, hE2⟩
          clear ht
          have rE2 := rE.ext hE2
          cases htd : toldB dg (k / 2) (k % 2) with
          | true =>
            have Htd := Lib.hid htd
            clear htd
            have r1 := RBB.of1 rE2 26
            have hE3 := Ext.new w2 (.cells #[.slice E 32 y] 26)
            have hta := htagged_any 11 _ 1 1 _ _ r1 (by simp only [List.flatten_cons, List.flatten_nil, List.append_nil, hEl2.out]; omega)
            have e11 : u8i 11 = 11 := rfl
            rw [e11, show [lb Ls k].flatten = lb Ls k from by simp] at hta
            have Hta := Lib.hid hta
            clear hta
            go_wp2_with fail
            refine Hta.out.mono ?_
            rintro e w3 ⟨A3, c3, rfl, own3, hE4⟩
            clear Hta
            have hE24 := hE2.trans (hE3.trans hE4)
            have hEw := hEr.trans hE24
            have hEa := Ext.new w3 (.cells #[.slice A3 32 c3] 26)
            have hBa := Blk.new w3 26 #[.slice A3 32 c3]
            have own4 := (own.ext hE24).ext hEa
            have hY : RB w3 A3 32 c3 (rootPart dg Ls k) := by
              unfold rootPart
              rw [if_pos Htd.out]
              exact own3.rb
            have hne : 0 < 32 → blk A3 ≠ blk P := by
              intro _ e
              obtain ⟨b, hb⟩ : ∃ b, blk A3 = some b := by
                obtain ⟨ad', h1, _⟩ := own3.rb.cells (by omega)
                rw [h1]
                exact ⟨_, rfl⟩
              have h1 := (own3.lt hb).1
              have h2 := own.lt (e.symm.trans hb)
              have h3 := (hE2.trans hE3).size
              omega
            go_wp2_with (refine appbc_law (base := w.heap.size) (Y := rootPart dg Ls k) rfl rfl rfl rfl (by rw [add_plain]; exact hBa.cell (i := 0) rfl) own4 (hY.ext hEa) hne (hEw.trans hEa).size (by omega) ?_; intro P5 d5 w5 own5 g5)
            go_roundw
            case rel =>
              rw [← range_snoc] at own5
              refine ⟨k + 1, d5, P5, by omega, by go_num, rfl, own5, fun j hj => ?_, (hEw.trans hEa).then_grown g5 (fun b hb => (own4.lt hb).1)⟩
              by_cases hjk : j = k
              · rw [hjk]; exact hEl2.out
              · exact Hall.out j (by omega)
            case measure => simp [intOf]; omega
          | false =>
            have Htd := Lib.hid (show ¬ toldB dg (k / 2) (k % 2) = true by rw [htd]; simp)
            clear htd
            have hEw := hEr.trans hE2
            have hEa := Ext.new w2 (.cells #[.slice E 32 y] 26)
            have hBa := Blk.new w2 26 #[.slice E 32 y]
            have own4 := (own.ext hE2).ext hEa
            have hY : RB w2 E 32 y (rootPart dg Ls k) := by
              unfold rootPart
              rw [if_neg Htd.out]
              exact rE2
            have hne : 0 < 32 → blk E ≠ blk P := by
              intro _ e
              obtain ⟨b, hb⟩ : ∃ b, blk E = some b := by
                obtain ⟨ad', h1, _⟩ := hrE.cells (by omega)
                rw [h1]
                exact ⟨_, rfl⟩
              have h1 := rb_blk_lt hrE (by omega) _ hb
              have h2 := own.lt (e.symm.trans hb)
              omega
            go_wp2_with (refine appbc_law (base := w.heap.size) (Y := rootPart dg Ls k) rfl rfl rfl rfl (by rw [add_plain]; exact hBa.cell (i := 0) rfl) own4 (hY.ext hEa) hne (hEw.trans hEa).size (by omega) ?_; intro P5 d5 w5 own5 g5)
            go_roundw
            case rel =>
              rw [← range_snoc] at own5
              refine ⟨k + 1, d5, P5, by omega, by go_num, rfl, own5, fun j hj => ?_, (hEw.trans hEa).then_grown g5 (fun b hb => (own4.lt hb).1)⟩
              by_cases hjk : j = k
              · rw [hjk]; exact hEl2.out
              · exact Hall.out j (by omega)
            case measure => simp [intOf]; omega
        · have hno : ¬ rootOK Ls := fun h => hz (by rw [← hEl]; exact h.2 k hlt)
          have Hno := Lib.hid hno
          have hzi : ¬ ((z : Int) = 32) := by omega
          clear hno hEl hc hcell
          go_wp2_with fail
          go_ret2
          exact ⟨fun h => absurd h Hno.out, fun _ => rfl, hEr⟩
      · obtain rfl : k = 64 := by omega
        have hok : rootOK Ls := ⟨Hn.out, Hall.out⟩
        have Hok := Lib.hid hok
        have hplen : ∀ i, i < 64 → (rootPart dg Ls i).length = 32 := by
          intro i hi
          unfold rootPart
          split
          · exact tagged_length _ _
          · exact Hall.out i hi
        have hta := htagged_any 12 P 64 q _ wr own.rbb (by rw [flat32' _ 64 hplen]; omega)
        have e12 : u8i 12 = 12 := rfl
        rw [e12] at hta
        have Hta := Lib.hid hta
        clear hta hok hplen
        go_wp2_with fail
        refine Hta.out.mono ?_
        rintro e w3 ⟨A3, c3, rfl, own3, hE4⟩
        clear Hta
        go_wp2_with fail
        go_ret2
        refine ⟨fun _ => ⟨A3, c3, rfl, ?_⟩, fun h => absurd Hok.out h, hEr.trans hE4⟩
        unfold rootV
        rw [← Hdg.out]
        exact own3.base hEr.size
  · have hno : ¬ rootOK Ls := fun h => h64 (by rw [← Hn.out]; exact h.1)
    have Hno := Lib.hid hno
    have hzi : ¬ ((n : Int) = 64) := by omega
    clear hno
    go_enter Tryz.func84, Tryz.ntmps84
    go_wp2_with fail
    go_ret2
    exact ⟨fun h => absurd h Hno.out, fun _ => rfl, Ext.refl _⟩
end Go.Proofs.YtkndgpjamijbbaaGreat
namespace Go.Proofs.YtkndgpjamijbbaaGreat
set_option maxRecDepth 100000
open Go Go.RowKit
set_option maxHeartbeats 1000000 in
theorem rtagged_any (t : UInt8) (A : Option Addr) (n c : Nat) (Ls : List (List UInt8)) (w : World) (hr : RBB w A n c Ls) (hn : Ls.flatten.length ≤ 140737488355199) :
    Calls Tryz.prog 29 #[.int .u8 (u8i t), .slice A n c] w fun e w' => ∃ A' c', e = .returned (.slice A' 32 c') ∧ OB w' w.heap.size A' 32 c' (tagged t Ls.flatten) ∧ Ext w w' := by
  have hln := hr.len
  have hroom := hr.room
  have hcap := hr.cap
  unfold maxLen at hcap
  have Hn := Lib.hid hln
  clear hln
  go_enter Tryz.func29, Tryz.ntmps29
  go_wp2_with fail
  go_loopw [5, 6] (fun v i wr => ∃ (k q d : Nat) (B : Option Addr), k ≤ n ∧ i = .int .i64 k ∧ v = .slice B q d ∧ OB wr w.heap.size B q d (t :: (Ls.take k).flatten) ∧ Ext w wr) (fun _ i _ => n - (intOf i).toNat)
  case atStart => exact ⟨0, 1, 1, _, by omega, rfl, rfl, OB.lit w [t] rfl (small_maxLen (by decide)), Ext.new w _⟩
  case round =>
    obtain ⟨k, q, d, B, hk, rfl, rfl, own, hEr⟩ := hrel
    by_cases hlt : k < n
    · obtain ⟨ad, rfl, hc⟩ := hr.cells (by omega)
      obtain ⟨B1, m1, d1, hcell, hrb⟩ := hc k hlt
      have hcell' := hEr.cell hcell
      have hrb' := hrb.ext hEr
      have hlq : q + m1 ≤ 140737488355328 := by
        have h1 := own.len
        have h2 := hrb.len
        have h3 := flatten_step_le Ls k (by rw [Hn.out]; exact hlt)
        simp only [List.length_cons] at h1
        omega
      clear hc hcell
      go_wp2_with (refine app_own (N := q + m1) (LM := t :: (Ls.take (k + 1)).flatten) rfl rfl rfl rfl hEr own hrb' rfl (by rw [flatten_take_succ Ls k (by rw [Hn.out]; exact hlt)]; rfl) hlq ?_; intro A3 c3 W3 own3 hE3)
      go_roundw
      case rel => exact ⟨k + 1, _, c3, A3, by omega, by go_num, rfl, own3, hE3⟩
      case measure => simp [intOf]; omega
    · obtain rfl : k = n := by omega
      rw [List.take_of_length_le (by rw [Hn.out]; exact Nat.le_refl _)] at own
      have hq : q ≤ 140737488355200 := by
        have h1 := own.len
        simp only [List.length_cons] at h1
        omega
      go_wp2_with fail
      refine (sum_any B q d _ wr own.rb hq).mono ?_
      rintro e W4 ⟨A4, c4, rfl, own4, hE4⟩
      go_wp2_with fail
      go_ret
      exact ⟨A4, c4, rfl, own4.base hEr.size, hEr.trans hE4⟩
end Go.Proofs.YtkndgpjamijbbaaGreat
