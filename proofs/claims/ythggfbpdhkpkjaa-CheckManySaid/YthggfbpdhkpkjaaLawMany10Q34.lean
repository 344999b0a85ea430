/-
  Rows of byte slices, and where they lie.
-/
import Derived.Test.YthggfbpdhkpkjaaLawMany10Q27
import Derived.Test.YthggfbpdhkpkjaaLawMany10Q33
namespace Go.Proofs.Ythggfbpdhkpkjaa
set_option maxRecDepth 100000
open Go Go.RowKit
/-- a slice of byte slices that reads as Ls; it and its elements lie in blocks of which φ holds -/
structure RBBP (w : World) (φ : Nat → Prop) (A : Option Addr) (n c : Nat) (Ls : List (List UInt8)) : Prop where
  len : Ls.length = n
  room : n ≤ c
  cap : c ≤ maxLen
  row : 0 < n → ∀ k, blk A = some k → φ k
  cells : 0 < n → ∃ ad, A = some ad ∧ ∀ j, j < n → ∃ B m d, w.cell? (ad.add j) = some (.slice B m d) ∧ RB w B m d (lb Ls j) ∧ (0 < m → ∀ k, blk B = some k → φ k)
theorem RBBP.rbb {w : World} {φ : Nat → Prop} {A : Option Addr} {n c : Nat} {Ls : List (List UInt8)} (h : RBBP w φ A n c Ls) : RBB w A n c Ls :=
  ⟨h.len, h.room, h.cap, fun hn => by
    obtain ⟨ad, ha, hc⟩ := h.cells hn
    refine ⟨ad, ha, fun j hj => ?_⟩
    obtain ⟨B, m, d, h1, h2, _⟩ := hc j hj
    exact ⟨B, m, d, h1, h2⟩⟩
theorem RBBP.ext {w w' : World} {φ : Nat → Prop} {A : Option Addr} {n c : Nat} {Ls : List (List UInt8)} (h : RBBP w φ A n c Ls) (e : Ext w w') : RBBP w' φ A n c Ls :=
  ⟨h.len, h.room, h.cap, h.row, fun hn => by
    obtain ⟨ad, ha, hc⟩ := h.cells hn
    refine ⟨ad, ha, fun j hj => ?_⟩
    obtain ⟨B, m, d, h1, h2, h3⟩ := hc j hj
    exact ⟨B, m, d, e.cell h1, h2.ext e, h3⟩⟩
theorem RBBP.imp {w : World} {φ ψ : Nat → Prop} {A : Option Addr} {n c : Nat} {Ls : List (List UInt8)} (h : RBBP w φ A n c Ls) (hi : ∀ k, k < w.heap.size → φ k → ψ k) : RBBP w ψ A n c Ls :=
  ⟨h.len, h.room, h.cap, fun hn k hk => by
    obtain ⟨ad, ha, hc⟩ := h.cells hn
    obtain ⟨B, m, d, h1, _⟩ := hc 0 hn
    have h3 := World.block_lt_of_cell? w _ h1
    rw [block_of_add] at h3
    have h4 : ad.block = k := by rw [ha] at hk; simpa [blk] using hk
    exact hi k (by omega) (h.row hn k hk), fun hn => by
    obtain ⟨ad, ha, hc⟩ := h.cells hn
    refine ⟨ad, ha, fun j hj => ?_⟩
    obtain ⟨B, m, d, h1, h2, h3⟩ := hc j hj
    exact ⟨B, m, d, h1, h2, fun hm k hk => hi k (rb_blk_lt h2 hm k hk) (h3 hm k hk)⟩⟩
/-- blocks that φ holds of stay -/
theorem RB.keep {w w' : World} {φ : Nat → Prop} {A : Option Addr} {n c : Nat} {L : List UInt8} (h : RB w A n c L) (hf : 0 < n → ∀ k, blk A = some k → φ k) (hk : ∀ k, k < w.heap.size → φ k → w'.heap[k]? = w.heap[k]?) : RB w' A n c L :=
  ⟨h.len, h.room, h.cap, fun hn => by
    obtain ⟨ad, ha, hc⟩ := h.cells hn
    refine ⟨ad, ha, fun j hj => ?_⟩
    have h1 := hc j hj
    have h3 := World.block_lt_of_cell? w _ h1
    refine (World.cell?_of_block ?_).trans h1
    rw [block_of_add] at h3 ⊢
    exact hk _ h3 (hf hn _ (by rw [ha]; rfl))⟩
theorem RBBP.keep {w w' : World} {φ : Nat → Prop} {A : Option Addr} {n c : Nat} {Ls : List (List UInt8)} (h : RBBP w φ A n c Ls) (hk : ∀ k, k < w.heap.size → φ k → w'.heap[k]? = w.heap[k]?) : RBBP w' φ A n c Ls :=
  ⟨h.len, h.room, h.cap, h.row, fun hn => by
    obtain ⟨ad, ha, hc⟩ := h.cells hn
    refine ⟨ad, ha, fun j hj => ?_⟩
    obtain ⟨B, m, d, h1, h2, h3⟩ := hc j hj
    refine ⟨B, m, d, ?_, h2.keep h3 hk, h3⟩
    have h4 := World.block_lt_of_cell? w _ h1
    refine (World.cell?_of_block ?_).trans h1
    rw [block_of_add] at h4 ⊢
    exact hk _ h4 (h.row hn _ (by rw [ha]; rfl))⟩
/-- another block is turned -/
theorem RBBP.away {w w' : World} {φ : Nat → Prop} {A : Option Addr} {n c : Nat} {Ls : List (List UInt8)} (h : RBBP w φ A n c Ls) {k : Nat} {t : TypeId} {cs : Array Value} (hb : Blk w k t cs) (hno : ∀ (i : Nat) (x : Int), cs[i]? ≠ some (.int .u8 x)) (g : w.grownBy w' (some k)) (hA : 0 < n → blk A ≠ some k) : RBBP w' φ A n c Ls :=
  ⟨h.len, h.room, h.cap, h.row, fun hn => by
    obtain ⟨ad, rfl, hc⟩ := h.cells hn
    refine ⟨ad, rfl, fun j hj => ?_⟩
    obtain ⟨B, m, d, h1, h2, h3⟩ := hc j hj
    exact ⟨B, m, d, g.cell h1 (by rw [block_of_add]; exact hA hn), h2.grown g (h2.apart5 hb hno), h3⟩⟩
/-- a row of byte slices of the call's own, from block base on; its elements lie from block b on -/
def OBF (w : World) (base b : Nat) (A : Option Addr) (n c : Nat) (Ls : List (List UInt8)) : Prop :=
  ∃ vs : List Value, w.ownsRow base 22 1 (.slice A n c) n vs ∧ Ls.length = n ∧ ∀ j, j < n → ∃ B m d, vs[j]? = some (.slice B m d) ∧ RB w B m d (lb Ls j) ∧ (0 < m → blk B ≠ blk A ∧ ∀ k, blk B = some k → b ≤ k)
section
variable {w w' : World} {base b n c : Nat} {A : Option Addr} {Ls : List (List UInt8)}
theorem OBF.none_ (w : World) (base b : Nat) : OBF w base b none 0 0 [] := ⟨[], World.ownsRow_nil w _ _ _, rfl, fun j hj => absurd hj (Nat.not_lt_zero _)⟩
theorem OBF.obc (h : OBF w base b A n c Ls) : OBC w base A n c Ls := by
  obtain ⟨vs, h1, h2, h3⟩ := h
  refine ⟨vs, h1, h2, fun j hj => ?_⟩
  obtain ⟨B, m, d, h4, h5, h6⟩ := h3 j hj
  exact ⟨B, m, d, h4, h5, fun hm => (h6 hm).1⟩
theorem OBF.lt (h : OBF w base b A n c Ls) {k : Nat} (hk : blk A = some k) : base ≤ k ∧ k < w.heap.size := h.obc.lt hk
theorem OBF.ext (h : OBF w base b A n c Ls) (e : Ext w w') : OBF w' base b A n c Ls := by
  obtain ⟨vs, h1, h2, h3⟩ := h
  refine ⟨vs, World.ownsRow.kept h1 (e.grownBy none) ?_, h2, fun j hj => ?_⟩
  · cases hb : Value.ownBlock (.slice A n c) <;> simp
  · obtain ⟨B, m, d, h4, h5, h6⟩ := h3 j hj
    exact ⟨B, m, d, h4, h5.ext e, h6⟩
theorem OBF.lower {base' b' : Nat} (h : OBF w base b A n c Ls) (h1 : base' ≤ base) (h2 : b' ≤ b) : OBF w base' b' A n c Ls := by
  obtain ⟨vs, k1, k2, k3⟩ := h
  refine ⟨vs, ownsRow_base k1 h1, k2, fun j hj => ?_⟩
  obtain ⟨B, m, d, h4, h5, h6⟩ := k3 j hj
  exact ⟨B, m, d, h4, h5, fun hm => ⟨(h6 hm).1, fun k hk => Nat.le_trans h2 ((h6 hm).2 k hk)⟩⟩
theorem OBF.far (h : OBF w base b A n c Ls) {g : Nat} {t : TypeId} {cs : Array Value} (hb : Blk w g t cs) (ht : t ≠ 22) (hno : ∀ (i : Nat) (x : Int), cs[i]? ≠ some (.int .u8 x)) (e : w.grownBy w' (some g)) : OBF w' base b A n c Ls := by
  obtain ⟨vs, h1, h2, h3⟩ := h
  refine ⟨vs, World.ownsRow.kept h1 e (.inr (row_ne h1 hb ht)), h2, fun j hj => ?_⟩
  obtain ⟨B, m, d, h4, h5, h6⟩ := h3 j hj
  exact ⟨B, m, d, h4, h5.grown e (h5.apart5 hb hno), h6⟩
theorem OBF.rbbp (h : OBF w base b A n c Ls) (hb : b ≤ base) : RBBP w (fun k => b ≤ k) A n c Ls := by
  obtain ⟨vs, h1, h2, h3⟩ := h
  rcases h1.2 with ⟨hv, hn⟩ | ⟨g, cap, cur, hv, hbg, hg, hnc, hcm, hcs, ht⟩
  · injection hv with e1 e2 e3
    subst e1 e2 e3
    exact ⟨h2, Nat.le_refl _, Nat.zero_le _, fun h => absurd h (Nat.lt_irrefl _), fun h => absurd h (Nat.lt_irrefl _)⟩
  · injection hv with e1 e2 e3
    subst e1 e3
    refine ⟨h2, hnc, hcm, fun _ k hk => ?_, fun hn => ⟨_, rfl, fun j hj => ?_⟩⟩
    · injection hk with hk
      subst hk
      exact Nat.le_trans hb hbg
    · obtain ⟨B, m, d, h4, h5, h6⟩ := h3 j hj
      exact ⟨B, m, d, World.ownsRow.cells h1 (g := g) rfl j _ h4, h5, fun hm => (h6 hm).2⟩
end
theorem appbf_law {ops : Array Oper} {rest : List Oper} {o : Oper} {a : Act} {Q : Exit → Act → World → Prop} {w : World} (hgd : o.guard = none) {s x : Operand} (ho : o.op = .call { callee := .builtin .append, args := #[s, x], argTypes := #[37, 37] })
    {A : Option Addr} {n c : Nat} (hs : a.eval s = .slice A n c) {ad : Addr} (hx : a.eval x = .slice (some ad) 1 1) {base b : Nat} {Ls : List (List UInt8)} {B : Option Addr} {m d : Nat} {Y : List UInt8} (hcell : w.cell? (ad.add 0) = some (.slice B m d))
    (hown : OBF w base b A n c Ls) (hB : RB w B m d Y) (hne : 0 < m → blk B ≠ blk A ∧ ∀ k, blk B = some k → b ≤ k) (hbase : base ≤ w.heap.size) (hnk : n + 1 ≤ 1000000)
    (h : ∀ A' c' w', OBF w' base b A' (n + 1) c' (Ls ++ [Y]) → w.grownBy w' (blk A) → wpList Try.prog ops Q rest (a.put o.dst (.slice A' (n + 1) c')) w') : wpList Try.prog ops Q (o :: rest) a w := by
  obtain ⟨vs, h1, h2, h3⟩ := hown
  obtain ⟨i0, hi0, hz0, hz1, hz2⟩ := info_parts info_bb'
  obtain ⟨v', w', hrun, r1, r2, _, r4⟩ := run_append_own_at (P := Try.prog) w base 37 o.type 22 i0 (.slice none 0 0) 1 24 Try.underlying37 hi0 hz0 hz1 hz2 rfl (by decide) (.slice A n c) n vs h1 ad 1 1 [.slice B m d] rfl
    (by
      intro j u hu
      rcases j with _ | j
      · injection hu with hu
        subst hu
        exact hcell
      · cases hu) (by simp [Value.oneCell']) (small_maxLen hnk) (by omega) hbase
  obtain ⟨A', c', rfl⟩ : ∃ A' c', v' = .slice A' (n + 1) c' := by
    rcases r1.2 with ⟨_, h0⟩ | ⟨g, cap, _, rfl, _⟩
    · omega
    · exact ⟨_, cap, rfl⟩
  rw [ownBlock_slice] at r2 r4
  rw [ownBlock_slice] at r4
  have hne' : ∀ (B' : Option Addr) (m' d' : Nat) (Y' : List UInt8), RB w B' m' d' Y' → (0 < m' → blk B' ≠ blk A) → (0 < m' → blk B' ≠ blk A') := by
    intro B' m' d' Y' hb hn hm e
    rcases r4 with r4 | r4
    · exact hn hm (e.trans r4)
    · have := rb_blk_lt hb hm _ (e.trans r4)
      omega
  have hvl : vs.length = n := by have := h1.1; omega
  refine run_law hgd (v := .slice A' (n + 1) c') (w' := w') ?_ (h A' c' w' ⟨vs ++ [.slice B m d], r1, by rw [List.length_append]; simp; omega, fun j hj => ?_⟩ r2)
  · unfold execOp
    simp only [ho, resolve, invoke, builtin, Sem.run_bind, Sem.run_pure, Result.andThen_ok, List.map_toArray, List.map_cons, List.map_nil, hs, hx, hrun]
  · by_cases hjn : j < n
    · obtain ⟨B', m', d', h4, h5, h6⟩ := h3 j hjn
      refine ⟨B', m', d', by rw [List.getElem?_append_left (by omega)]; exact h4, ?_, fun hm => ⟨hne' _ _ _ _ h5 (fun hm => (h6 hm).1) hm, (h6 hm).2⟩⟩
      have e : lb (Ls ++ [Y]) j = lb Ls j := by unfold lb; simp [List.getElem?_append_left (show j < Ls.length by omega)]
      rw [e]
      exact h5.grown r2 (fun hm => (h6 hm).1)
    · obtain rfl : j = n := by omega
      refine ⟨B, m, d, by rw [List.getElem?_append_right (by omega), hvl]; simp, ?_, fun hm => ⟨hne' _ _ _ _ hB (fun hm => (hne hm).1) hm, (hne hm).2⟩⟩
      have e : lb (Ls ++ [Y]) j = Y := by unfold lb; simp [← h2]
      rw [e]
      exact hB.grown r2 (fun hm => (hne hm).1)

def PartOF (f : Nat → List UInt8) (w : World) (v i : Value) (wr : World) : Prop :=
  ∃ (k d : Nat) (P : Option Addr), k ≤ 32 ∧ i = .int .i64 k ∧ v = .slice P (2 * k) d ∧ OBF wr w.heap.size w.heap.size P (2 * k) d ((List.range (2 * k)).map f) ∧ Ext w wr
def PartIF (f : Nat → List UInt8) (w : World) (k : Nat) (v i : Value) (wr : World) : Prop :=
  ∃ (s d : Nat) (P : Option Addr), s ≤ 2 ∧ i = .int .i64 s ∧ v = .slice P (2 * k + s) d ∧ OBF wr w.heap.size w.heap.size P (2 * k + s) d ((List.range (2 * k + s)).map f) ∧ Ext w wr
set_option maxHeartbeats 4000000 in
theorem r4sign_e (A B : Option Addr) (n c m d : Nat) (S M : List UInt8) (key : Int) (w : World) (hr : RB w A n c S) (hn : n ≤ 140737488355000) (hm : RB w B m d M) (hmn : m ≤ 140737488355000) :
    Calls Try.prog 92 #[.slice A n c, .int .i64 key, .slice B m d] w fun e w' => ∃ P d', e = .returned (.slice P 64 d') ∧ OBF w' w.heap.size w.heap.size P 64 d' ((List.range 64).map (partS (digestW M) S key)) ∧ Ext w w' := by
  go_enter Try.func92, Try.ntmps92
  go_wp2_with fail
  refine (r4digest_any B m d M w hm hmn).mono ?_
  rintro e w1 ⟨rfl, hE1⟩
  obtain ⟨dg, hdg⟩ : ∃ dg, dg = digestW M := ⟨_, rfl⟩
  rw [← hdg]
  have Hdg := Lib.hid hdg
  clear hdg
  go_wp2_with fail
  go_loopw [8, 9] (fun v i wr => PartOF (partS dg S key) w v i wr) (fun _ i _ => 32 - (intOf i).toNat)
  case atStart => exact ⟨0, 0, none, by omega, rfl, rfl, OBF.none_ _ _ _, hE1⟩
  case round =>
    obtain ⟨k, d2, P, hk, rfl, rfl, own, hEr⟩ := hrel
    by_cases hlt : k < 32
    · have hki : (k : Int) < 32 := by omega
      go_wp2_with fail
      go_loopw [8, 10] (fun v i wr => PartIF (partS dg S key) w k v i wr) (fun _ i _ => 2 - (intOf i).toNat)
      case atStart => exact ⟨0, d2, P, by omega, rfl, rfl, own, hEr⟩
      case round =>
        clear own hEr
        obtain ⟨s, d2, P, hs, rfl, rfl, own, hEr⟩ := hrel
        by_cases hls : s < 2
        · have hval : partS dg S key (2 * k + s) = if toldB dg k s = true then secretL S key (k : Int) (s : Int) else shownL S key (k : Int) (s : Int) := by
            unfold partS
            rw [show (2 * k + s) / 2 = k by omega, show (2 * k + s) % 2 = s by omega]
          have Hval := Lib.hid hval
          clear hval
          have hsi : (s : Int) < 2 := by omega
          go_upto_region 9 with (fail)
          refine seq_ext (n := 9) (by kernel_rfl) [.is (.int .u32 (u32i (dg))), .is (.int .i64 (((k : Nat) : Int))), .is (.int .i64 ((31 : Int) - ((k : Nat) : Int))), .is (.int .u64 ((31 - k : Nat) : Int)), .is (.int .u32 (u32i (shr dg (31 - k)))), .is (.int .u32 (u32i ((shr dg (31 - k)) &&& (1 : UInt32)))), .is (.int .i64 (u32i (shr dg (31 - k) &&& 1))), .is (.int .i64 (((s : Nat) : Int))), .is (.bool (toldB dg k s))] rfl ⟨?_, ?_, ?_, ?_, ?_, ?_, ?_, ?_, ?_, trivial⟩ ?_
          · refine stepE rfl fun sdn sa sw sE sd sk => ?_
            have h7 : sa.eval (.tmp 7) = .int .u32 (u32i (dg)) := sk.old 7 rfl
            exact Runs.move rfl h7 ⟨Ext.refl _, rfl⟩
          · refine stepE rfl fun sdn sa sw sE sd sk => ?_
            have h9 : sa.eval (.tmp 9) = .int .i64 (((k : Nat) : Int)) := sk.old 9 rfl
            exact Runs.move rfl h9 ⟨Ext.refl _, rfl⟩
          · refine stepE rfl fun sdn sa sw sE sd sk => ?_
            have h22 : sa.eval (.tmp 22) = .int .i64 (((k : Nat) : Int)) := sk.fact 1 22 rfl (sd 1 rfl)
            exact Runs.bin rfl rfl h22 (eqGuard_bin rfl) (bin_sub64 _ _ _ (by omega) (by omega)) ⟨Ext.refl _, rfl⟩
          · refine stepE rfl fun sdn sa sw sE sd sk => ?_
            have h23 : sa.eval (.tmp 23) = .int .i64 ((31 : Int) - ((k : Nat) : Int)) := sk.fact 2 23 rfl (sd 2 rfl)
            exact Runs.conv rfl h23 (conv_i64_u64 Try.underlying3 Try.underlying134 _ (31 - k) (by omega) (by omega)) ⟨Ext.refl _, rfl⟩
          · refine stepE rfl fun sdn sa sw sE sd sk => ?_
            have h21 : sa.eval (.tmp 21) = .int .u32 (u32i (dg)) := sk.fact 0 21 rfl (sd 0 rfl)
            have h24 : sa.eval (.tmp 24) = .int .u64 ((31 - k : Nat) : Int) := sk.fact 3 24 rfl (sd 3 rfl)
            exact Runs.bin rfl h21 h24 (eqGuard_bin rfl) (bin_shr32 _ _ (31 - k) _ rfl (by omega)) ⟨Ext.refl _, rfl⟩
          · refine stepE rfl fun sdn sa sw sE sd sk => ?_
            have h25 : sa.eval (.tmp 25) = .int .u32 (u32i (shr dg (31 - k))) := sk.fact 4 25 rfl (sd 4 rfl)
            have hone : (.int .u32 1 : Value) = .int .u32 (u32i (1 : UInt32)) := rfl
            exact Runs.bin (v := .int .u32 (u32i (1 : UInt32))) rfl h25 hone (eqGuard_bin rfl) (bin_and32 _ _ (1 : UInt32)) ⟨Ext.refl _, rfl⟩
          · refine stepE rfl fun sdn sa sw sE sd sk => ?_
            have h26 : sa.eval (.tmp 26) = .int .u32 (u32i ((shr dg (31 - k)) &&& (1 : UInt32))) := sk.fact 5 26 rfl (sd 5 rfl)
            exact Runs.conv rfl h26 (conv_u32_i64' Try.underlying101 Try.underlying3 _) ⟨Ext.refl _, rfl⟩
          · refine stepE rfl fun sdn sa sw sE sd sk => ?_
            have h10 : sa.eval (.tmp 10) = .int .i64 (((s : Nat) : Int)) := sk.old 10 rfl
            exact Runs.move rfl h10 ⟨Ext.refl _, rfl⟩
          · refine stepE rfl fun sdn sa sw sE sd sk => ?_
            have h27 : sa.eval (.tmp 27) = .int .i64 (u32i (shr dg (31 - k) &&& 1)) := sk.fact 6 27 rfl (sd 6 rfl)
            have h28 : sa.eval (.tmp 28) = .int .i64 (((s : Nat) : Int)) := sk.fact 7 28 rfl (sd 7 rfl)
            exact Runs.bin rfl h27 h28 (by rfl) (bin_eql _ _ _ _) ⟨Ext.refl _, rfl⟩
          intro vals w2 hE2 hv2
          have e0 : vals 0 = .int .u32 (u32i (dg)) := hv2 0 (by omega) 21 rfl
          have e1 : vals 1 = .int .i64 (((k : Nat) : Int)) := hv2 1 (by omega) 22 rfl
          have e2 : vals 2 = .int .i64 ((31 : Int) - ((k : Nat) : Int)) := hv2 2 (by omega) 23 rfl
          have e3 : vals 3 = .int .u64 ((31 - k : Nat) : Int) := hv2 3 (by omega) 24 rfl
          have e4 : vals 4 = .int .u32 (u32i (shr dg (31 - k))) := hv2 4 (by omega) 25 rfl
          have e5 : vals 5 = .int .u32 (u32i ((shr dg (31 - k)) &&& (1 : UInt32))) := hv2 5 (by omega) 26 rfl
          have e6 : vals 6 = .int .i64 (u32i (shr dg (31 - k) &&& 1)) := hv2 6 (by omega) 27 rfl
          have e7 : vals 7 = .int .i64 (((s : Nat) : Int)) := hv2 7 (by omega) 28 rfl
          have e8 : vals 8 = .bool (toldB dg k s) := hv2 8 (by omega) 29 rfl
          simp only [putAll, Act.put, List.take_succ_cons, List.take_zero, List.drop_succ_cons, List.drop_zero, List.drop_nil, List.take_nil, Nat.reduceAdd, List.setIfInBounds_toArray, List.set_cons_succ, List.set_cons_zero, e0, e1, e2, e3, e4, e5, e6, e7, e8]
          clear hv2 e0 e1 e2 e3 e4 e5 e6 e7 e8
          cases ht : toldB dg k s with
          | true =>
            have Ht := Lib.hid ht
            clear ht
            go_wp2_with fail
            refine (r4secret_any A n c S key k s w2 (hr.ext (hEr.trans hE2)) hn).mono ?_
            rintro e w3 ⟨A3, c3, rfl, own3, hE3⟩
            have hY : RB w3 A3 32 c3 ((partS dg S key) (2 * k + s)) := by
              rw [Hval.out, if_pos Ht.out]
              exact own3.rb
            have hEw := hEr.trans (hE2.trans hE3)
            have hEa := Ext.new w3 (.cells #[.slice A3 32 c3] 22)
            have hBa := Blk.new w3 22 #[.slice A3 32 c3]
            have own4 := (own.ext (hE2.trans hE3)).ext hEa
            have hne : 0 < 32 → blk A3 ≠ blk P := by
              intro _ e
              obtain ⟨b, hb⟩ : ∃ b, blk A3 = some b := by
                obtain ⟨ad, h1, _⟩ := own3.rb.cells (by omega)
                rw [h1]
                exact ⟨_, rfl⟩
              have h1 := (own3.lt hb).1
              have h2 := own.lt (e.symm.trans hb)
              have h3 := hE2.size
              omega
            go_wp2_with (refine appbf_law (base := w.heap.size) (b := w.heap.size) (Y := (partS dg S key) (2 * k + s)) rfl rfl rfl rfl (by rw [add_plain]; exact hBa.cell (i := 0) rfl) own4 (hY.ext hEa) (fun h0 => ⟨hne h0, fun k' hk' => Nat.le_trans (hEr.trans hE2).size (own3.lt hk').1⟩) (hEw.trans hEa).size (by omega) ?_; intro P5 d5 w5 own5 g5)
            go_roundw
            case rel =>
              rw [← range_snoc] at own5
              exact ⟨s + 1, d5, P5, by omega, by go_num, rfl, own5, (hEw.trans hEa).then_grown g5 (fun b hb => (own4.lt hb).1)⟩
            case measure => simp [intOf]; omega
          | false =>
            have Ht := Lib.hid (show ¬ toldB dg k s = true by rw [ht]; simp)
            clear ht
            go_wp2_with fail
            refine (r4shown_any A n c S key k s w2 (hr.ext (hEr.trans hE2)) hn).mono ?_
            rintro e w3 ⟨A3, c3, rfl, own3, hE3⟩
            have hY : RB w3 A3 32 c3 ((partS dg S key) (2 * k + s)) := by
              rw [Hval.out, if_neg Ht.out]
              exact own3.rb
            have hEw := hEr.trans (hE2.trans hE3)
            have hEa := Ext.new w3 (.cells #[.slice A3 32 c3] 22)
            have hBa := Blk.new w3 22 #[.slice A3 32 c3]
            have own4 := (own.ext (hE2.trans hE3)).ext hEa
            have hne : 0 < 32 → blk A3 ≠ blk P := by
              intro _ e
              obtain ⟨b, hb⟩ : ∃ b, blk A3 = some b := by
                obtain ⟨ad, h1, _⟩ := own3.rb.cells (by omega)
                rw [h1]
                exact ⟨_, rfl⟩
              have h1 := (own3.lt hb).1
              have h2 := own.lt (e.symm.trans hb)
              have h3 := hE2.size
              omega
            go_wp2_with (refine appbf_law (base := w.heap.size) (b := w.heap.size) (Y := (partS dg S key) (2 * k + s)) rfl rfl rfl rfl (by rw [add_plain]; exact hBa.cell (i := 0) rfl) own4 (hY.ext hEa) (fun h0 => ⟨hne h0, fun k' hk' => Nat.le_trans (hEr.trans hE2).size (own3.lt hk').1⟩) (hEw.trans hEa).size (by omega) ?_; intro P5 d5 w5 own5 g5)
            go_roundw
            case rel =>
              rw [← range_snoc] at own5
              exact ⟨s + 1, d5, P5, by omega, by go_num, rfl, own5, (hEw.trans hEa).then_grown g5 (fun b hb => (own4.lt hb).1)⟩
            case measure => simp [intOf]; omega
        · obtain rfl : s = 2 := by omega
          go_wp2_with fail
          go_roundw
          case rel => exact ⟨k + 1, d2, P, by omega, by go_num, rfl, own, hEr⟩
          case measure => simp [intOf]; omega
    · obtain rfl : k = 32 := by omega
      go_wp2_with fail
      go_ret
      rw [← Hdg.out]
      exact ⟨P, d2, rfl, own, hEr⟩

end Go.Proofs.Ythggfbpdhkpkjaa
