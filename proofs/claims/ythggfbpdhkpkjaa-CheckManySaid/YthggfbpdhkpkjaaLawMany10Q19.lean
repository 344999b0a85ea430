/-
  once.Root and ref4.Root in one sentence, for any list. Owners' trees in plain words: levels, paths, and where a path leads. Plain theorems. keep.Seed, walked. A row of byte slices of the call's own: one is turned. once.Sign again: each part lies in a block of the call's own.
-/
import Derived.Test.YthggfbpdhkpkjaaLawMany10Q18
import Derived.Test.YthggfbpdhkpkjaaLawMany10Q16
import Derived.Test.YthggfbpdhkpkjaaLawMany10Q14
import Derived.Test.YthggfbpdhkpkjaaLawMany10Q17
import Derived.Lib.SlBytesConst
namespace Go.Proofs.Ythggfbpdhkpkjaa
set_option maxRecDepth 100000
open Go Go.RowKit
theorem RBB.take {w : World} {A : Option Addr} {n c : Nat} {Ls : List (List UInt8)} (h : RBB w A n c Ls) {k : Nat} (hk : k ≤ n) : RBB w A k c (Ls.take k) :=
  ⟨by rw [List.length_take, h.len]; omega, Nat.le_trans hk h.room, h.cap, fun h0 => by
    obtain ⟨ad, ha, hc⟩ := h.cells (by omega)
    refine ⟨ad, ha, fun j hj => ?_⟩
    obtain ⟨B, m, d, h1, h2⟩ := hc j (by omega)
    refine ⟨B, m, d, h1, ?_⟩
    have e : lb (Ls.take k) j = lb Ls j := by unfold lb; simp [List.getElem?_take, hj]
    rw [e]
    exact h2⟩
end Go.Proofs.Ythggfbpdhkpkjaa
namespace Go.Proofs.Ythggfbpdhkpkjaa
set_option maxRecDepth 100000
open Go Go.RowKit
def nodeV (a b : List UInt8) : List UInt8 := tagged 14 (a ++ b)
def upL (Ls : List (List UInt8)) : List (List UInt8) := (List.range (Ls.length / 2)).map fun i => nodeV (lb Ls (2 * i)) (lb Ls (2 * i + 1))
def leavesL (S : List UInt8) : List (List UInt8) := (List.range 16).map fun k => publicL S ((k : Nat) : Int)
def lev (S : List UInt8) : Nat → List (List UInt8)
  | 0 => leavesL S
  | h + 1 => upL (lev S h)
def ownP (S : List UInt8) : List UInt8 := lb (lev S 4) 0
def pathB (S : List UInt8) (k h : Nat) : List UInt8 := lb (lev S h) (k / 2 ^ h + 1 - 2 * (k / 2 ^ h % 2))
def pathL (S : List UInt8) (k : Nat) : List (List UInt8) := (List.range 4).map (pathB S k)
def climbB (k h : Nat) (t o : List UInt8) : List UInt8 := if k / 2 ^ h % 2 = 0 then nodeV t o else nodeV o t
def climb (k : Nat) (t : List UInt8) (path : List (List UInt8)) : Nat → List UInt8
  | 0 => t
  | h + 1 => climbB k h (climb k t path h) (lb path h)
theorem nodeV_length (a b : List UInt8) : (nodeV a b).length = 32 := tagged_length _ _
theorem upL_length (Ls : List (List UInt8)) : (upL Ls).length = Ls.length / 2 := by simp [upL]
theorem lev_length (S : List UInt8) (h : Nat) : (lev S h).length = 16 / 2 ^ h := by
  induction h with
  | zero => simp [lev, leavesL]
  | succ h ih =>
    show (upL (lev S h)).length = _
    rw [upL_length, ih, Nat.div_div_eq_div_mul]
    rfl
theorem lb_upL (Ls : List (List UInt8)) {i : Nat} (h : i < Ls.length / 2) : lb (upL Ls) i = nodeV (lb Ls (2 * i)) (lb Ls (2 * i + 1)) := by
  unfold upL
  rw [lb_range _ h]
theorem publicL_length (S : List UInt8) (k : Int) : (publicL S k).length = 32 := tagged_length _ _
theorem lb_lev_length (S : List UInt8) (h i : Nat) (hi : i < 16 / 2 ^ h) : (lb (lev S h) i).length = 32 := by
  cases h with
  | zero =>
    show (lb (leavesL S) i).length = 32
    unfold leavesL
    rw [lb_range _ (by simpa using hi)]
    exact publicL_length _ _
  | succ h =>
    show (lb (upL (lev S h)) i).length = 32
    have h2 : i < (lev S h).length / 2 := by
      rw [lev_length, Nat.div_div_eq_div_mul]
      exact hi
    rw [lb_upL _ h2]
    exact nodeV_length _ _
theorem step_lt {k h : Nat} (hk : k < 16) (hh : h < 4) : k / 2 ^ h + 1 - 2 * (k / 2 ^ h % 2) < 16 / 2 ^ h ∧ k / 2 ^ (h + 1) < 16 / 2 ^ h / 2 ∧ k / 2 ^ (h + 1) = k / 2 ^ h / 2 := by
  have h3 : k / 2 ^ (h + 1) = k / 2 ^ h / 2 := by rw [Nat.pow_succ, Nat.div_div_eq_div_mul]
  refine ⟨?_, ?_, h3⟩
  · obtain rfl | rfl | rfl | rfl : h = 0 ∨ h = 1 ∨ h = 2 ∨ h = 3 := by omega
    all_goals simp only [Nat.reducePow, Nat.reduceDiv, Nat.div_one]; omega
  · obtain rfl | rfl | rfl | rfl : h = 0 ∨ h = 1 ∨ h = 2 ∨ h = 3 := by omega
    all_goals simp only [Nat.reducePow, Nat.reduceAdd, Nat.reduceDiv, Nat.div_one]; omega
theorem climb_path (S : List UInt8) (k : Nat) (hk : k < 16) : ∀ h, h ≤ 4 → climb k (publicL S ((k : Nat) : Int)) (pathL S k) h = lb (lev S h) (k / 2 ^ h) := by
  intro h
  induction h with
  | zero =>
    intro _
    show publicL S ((k : Nat) : Int) = lb (leavesL S) (k / 1)
    unfold leavesL
    rw [Nat.div_one, lb_range _ hk]
  | succ h ih =>
    intro hh
    have h1 := step_lt hk (h := h) (by omega)
    show climbB k h (climb k _ (pathL S k) h) (lb (pathL S k) h) = lb (upL (lev S h)) (k / 2 ^ (h + 1))
    rw [ih (by omega), lb_upL _ (by rw [lev_length]; exact h1.2.1), h1.2.2]
    unfold pathL
    rw [lb_range _ (by omega)]
    unfold climbB pathB
    generalize k / 2 ^ h = q
    by_cases h0 : q % 2 = 0
    · rw [if_pos h0, h0, show q + 1 - 2 * 0 = 2 * (q / 2) + 1 from by omega]
      congr 2
      omega
    · have h2 : q % 2 = 1 := by omega
      rw [if_neg h0, h2, show q + 1 - 2 * 1 = 2 * (q / 2) from by omega]
      congr 2
      omega
theorem climb_own (S : List UInt8) (k : Nat) (hk : k < 16) : climb k (publicL S ((k : Nat) : Int)) (pathL S k) 4 = ownP S := by
  rw [climb_path S k hk 4 (by omega), show k / 2 ^ 4 = 0 from Nat.div_eq_of_lt hk]
  rfl
end Go.Proofs.Ythggfbpdhkpkjaa
namespace Go.Proofs.Ythggfbpdhkpkjaa
set_option maxRecDepth 100000
open Go Go.RowKit
def seedL (key : Int) : List UInt8 := tagged 99 [UInt8.ofNat ((within key 0 1000).toNat % 5)]
set_option maxHeartbeats 1000000 in
theorem seed_any (key : Int) (w : World) (h0 : -9223372036854775808 ≤ key) (h1 : key ≤ 9223372036854775807) :
    Calls Try.prog 35 #[.int .i64 key] w fun e w' => ∃ A' c', e = .returned (.slice A' 32 c') ∧ OB w' w.heap.size A' 32 c' (seedL key) ∧ Ext w w' := by
  obtain ⟨k, hk⟩ : ∃ k : Nat, within key 0 1000 = k := ⟨_, (Int.toNat_of_nonneg (within_in key 0 1000 (by omega)).1).symm⟩
  have hwi := within_any key 0 1000 w h0 h1 (by omega) (by omega) (by omega)
  have hs : seedL key = tagged 99 [UInt8.ofNat (k % 5)] := by unfold seedL; rw [hk]; rfl
  rw [hk] at hwi
  rw [hs]
  have Hwi := Lib.hid hwi
  clear hwi hs hk
  go_enter Try.func35, Try.ntmps35
  go_wp2_with fail
  refine Hwi.out.mono ?_
  rintro e w1 ⟨rfl, rfl⟩
  have e1 : (k : Int) % 5 = u8i (UInt8.ofNat (k % 5)) := by
    unfold u8i
    rw [UInt8.toNat_ofNat']
    omega
  have r1 := RB.lit w [UInt8.ofNat (k % 5)] (n := 1) rfl (small_maxLen (by decide))
  have hE1 := Ext.new w (.cells (bv [UInt8.ofNat (k % 5)]).toArray 5)
  have r2 := RBB.of1 r1 22
  have hE2 := Ext.new (w.alloc (.cells (bv [UInt8.ofNat (k % 5)]).toArray 5)) (.cells #[.slice (some ⟨w.heap.size, 0, none⟩) 1 1] 22)
  have hta := rtagged_any 99 _ 1 1 _ _ r2 (by simp)
  have e99 : u8i 99 = 99 := rfl
  rw [e99, World.size_alloc] at hta
  have Hta := Lib.hid hta
  clear hta
  go_wp2_with fail
  refine Hta.out.mono ?_
  rintro e w3 ⟨A3, c3, rfl, own3, hE3⟩
  go_wp2_with fail
  go_ret
  exact ⟨A3, c3, rfl, own3.base (hE1.trans hE2).size, (hE1.trans hE2).trans hE3⟩
end Go.Proofs.Ythggfbpdhkpkjaa
namespace Go.Proofs.Ythggfbpdhkpkjaa
set_option maxRecDepth 100000
open Go Go.RowKit
theorem OBC.plain {w : World} {base n c : Nat} {ad : Addr} {Ls : List (List UInt8)} (h : OBC w base (some ad) n c Ls) : ∃ g, ad = ⟨g, 0, none⟩ := by
  obtain ⟨vs, h1, _⟩ := h
  rcases h1.2 with ⟨e, _⟩ | ⟨g', cap, cur, e, _⟩
  · cases e
  · injection e with e1 e2 e3
    injection e1 with e1
    exact ⟨g', e1⟩
theorem OBC.frozen {w : World} {base n c g : Nat} {Ls : List (List UInt8)} (h : OBC w base (some ⟨g, 0, none⟩) n c Ls) (i : Nat) : w.frozen? ⟨g, i, none⟩ = false := by
  obtain ⟨vs, h1, _⟩ := h
  exact World.ownsRow.frozenAt h1 i
theorem lb_set {Ls : List (List UInt8)} {i j : Nat} {Y : List UInt8} (hi : i < Ls.length) : lb (Ls.set i Y) j = if j = i then Y else lb Ls j := by
  unfold lb
  by_cases h : j = i
  · subst h; simp [hi]
  · rw [if_neg h]; simp [List.getElem?_set, Ne.symm h]
end Go.Proofs.Ythggfbpdhkpkjaa
namespace Go.Proofs.Ythggfbpdhkpkjaa
set_option maxRecDepth 100000
open Go Go.RowKit
/-- a row of byte slices of the call's own, each in a block of the call's own -/
def OBD (w : World) (base : Nat) (A : Option Addr) (n c : Nat) (Ls : List (List UInt8)) : Prop :=
  ∃ vs : List Value, w.ownsRow base 22 1 (.slice A n c) n vs ∧ Ls.length = n ∧ ∀ j, j < n → ∃ g d, vs[j]? = some (.slice (some ⟨g, 0, none⟩) 32 d) ∧ OB w base (some ⟨g, 0, none⟩) 32 d (lb Ls j) ∧ some g ≠ blk A
theorem OBD.none_ (w : World) (base : Nat) : OBD w base none 0 0 [] := ⟨[], World.ownsRow_nil w _ _ _, rfl, fun j hj => absurd hj (Nat.not_lt_zero _)⟩
theorem OBD.ext {w w' : World} {base : Nat} {A : Option Addr} {n c : Nat} {Ls : List (List UInt8)} (h : OBD w base A n c Ls) (e : Ext w w') : OBD w' base A n c Ls := by
  obtain ⟨vs, h1, h2, h3⟩ := h
  refine ⟨vs, World.ownsRow.kept h1 (e.grownBy none) ?_, h2, fun j hj => ?_⟩
  · cases hb : Value.ownBlock (.slice A n c) <;> simp
  · obtain ⟨g, d, h4, h5, h6⟩ := h3 j hj
    exact ⟨g, d, h4, h5.ext e, h6⟩
theorem OBD.lt {w : World} {base n c : Nat} {A : Option Addr} {Ls : List (List UInt8)} (h : OBD w base A n c Ls) {k : Nat} (hk : blk A = some k) : base ≤ k ∧ k < w.heap.size := by
  obtain ⟨vs, h1, _⟩ := h
  exact World.ownsRow.lt h1 k (by rw [ownBlock_slice]; exact hk)
theorem ownsRow_base {w : World} {base base' : Nat} {t : TypeId} {v : Value} {n : Nat} {vs : List Value} (h : w.ownsRow base t 1 v n vs) (hb : base' ≤ base) : w.ownsRow base' t 1 v n vs := by
  refine ⟨h.1, ?_⟩
  rcases h.2 with h0 | ⟨g, cap, cur, e, hg, h1⟩
  · exact .inl h0
  · exact .inr ⟨g, cap, cur, e, Nat.le_trans hb hg, h1⟩
theorem OBD.base {w : World} {base base' n c : Nat} {A : Option Addr} {Ls : List (List UInt8)} (h : OBD w base A n c Ls) (hb : base' ≤ base) : OBD w base' A n c Ls := by
  obtain ⟨vs, h1, h2, h3⟩ := h
  refine ⟨vs, ownsRow_base h1 hb, h2, fun j hj => ?_⟩
  obtain ⟨g, d, h4, h5, h6⟩ := h3 j hj
  exact ⟨g, d, h4, h5.base hb, h6⟩
theorem OBD.obc {w : World} {base : Nat} {A : Option Addr} {n c : Nat} {Ls : List (List UInt8)} (h : OBD w base A n c Ls) : OBC w base A n c Ls := by
  obtain ⟨vs, h1, h2, h3⟩ := h
  refine ⟨vs, h1, h2, fun j hj => ?_⟩
  obtain ⟨g, d, h4, h5, h6⟩ := h3 j hj
  exact ⟨_, _, _, h4, h5.rb, fun _ => h6⟩
theorem appbd_law {ops : Array Oper} {rest : List Oper} {o : Oper} {a : Act} {Q : Exit → Act → World → Prop} {w : World} (hgd : o.guard = none) {s x : Operand} (ho : o.op = .call { callee := .builtin .append, args := #[s, x], argTypes := #[37, 37] })
    {A : Option Addr} {n c : Nat} (hs : a.eval s = .slice A n c) {ad : Addr} (hx : a.eval x = .slice (some ad) 1 1) {base : Nat} {Ls : List (List UInt8)} {g d : Nat} {Y : List UInt8} (hcell : w.cell? (ad.add 0) = some (.slice (some ⟨g, 0, none⟩) 32 d))
    (hown : OBD w base A n c Ls) (hB : OB w base (some ⟨g, 0, none⟩) 32 d Y) (hne : some g ≠ blk A) (hbase : base ≤ w.heap.size) (hnk : n + 1 ≤ 1000000)
    (h : ∀ A' c' w', OBD w' base A' (n + 1) c' (Ls ++ [Y]) → w.grownBy w' (blk A) → wpList Try.prog ops Q rest (a.put o.dst (.slice A' (n + 1) c')) w') : wpList Try.prog ops Q (o :: rest) a w := by
  obtain ⟨i0, hi0, hz0, hz1, hz2⟩ := info_parts info_bb'
  obtain ⟨vs, h1, h2, h3⟩ := hown
  obtain ⟨v', w', hrun, r1, r2, _, r4⟩ := run_append_own_at (P := Try.prog) w base 37 o.type 22 i0 (.slice none 0 0) 1 24 Try.underlying37 hi0 hz0 hz1 hz2 rfl (by decide) (.slice A n c) n vs h1 ad 1 1 [.slice (some ⟨g, 0, none⟩) 32 d] rfl
    (by
      intro j u hu
      rcases j with _ | j
      · injection hu with hu
        subst hu
        exact hcell
      · cases hu) (by simp [Value.oneCell']) (small_maxLen hnk) (by omega) hbase
  obtain ⟨A', c', rfl⟩ : ∃ A' c', v' = .slice A' (n + 1) c' := by
    rcases r1.2 with ⟨_, h0⟩ | ⟨g, cap, _, rfl, _⟩
    · omega
    · exact ⟨_, cap, rfl⟩
  rw [ownBlock_slice] at r2 r4
  rw [ownBlock_slice] at r4
  have hne' : ∀ (g' m' d' : Nat) (Y' : List UInt8), OB w base (some ⟨g', 0, none⟩) m' d' Y' → some g' ≠ blk A → some g' ≠ blk A' := by
    intro g' m' d' Y' hb hn e
    rcases r4 with r4 | r4
    · exact hn (e.trans r4)
    · have h5 := (hb.lt (k := g') rfl).2
      have h6 := e.trans r4
      injection h6 with h6
      omega
  have hvl : vs.length = n := by have := h1.1; omega
  refine run_law hgd (v := .slice A' (n + 1) c') (w' := w') ?_ (h A' c' w' ⟨vs ++ [.slice (some ⟨g, 0, none⟩) 32 d], r1, by rw [List.length_append]; simp; omega, fun j hj => ?_⟩ r2)
  · unfold execOp
    simp only [ho, resolve, invoke, builtin, Sem.run_bind, Sem.run_pure, Result.andThen_ok, List.map_toArray, List.map_cons, List.map_nil, hs, hx, hrun]
  · by_cases hjn : j < n
    · obtain ⟨g', d', h4, h5, h6⟩ := h3 j hjn
      refine ⟨g', d', by rw [List.getElem?_append_left (by omega)]; exact h4, ?_, hne' _ _ _ _ h5 h6⟩
      have e : lb (Ls ++ [Y]) j = lb Ls j := by unfold lb; simp [List.getElem?_append_left (show j < Ls.length by omega)]
      rw [e]
      exact h5.grown r2 (.inr h6)
    · obtain rfl : j = n := by omega
      refine ⟨g, d, by rw [List.getElem?_append_right (by omega), hvl]; simp, ?_, hne' _ _ _ _ hB hne⟩
      have e : lb (Ls ++ [Y]) j = Y := by unfold lb; simp [← h2]
      rw [e]
      exact hB.grown r2 (.inr hne)
def PartOD (f : Nat → List UInt8) (w : World) (v i : Value) (wr : World) : Prop :=
  ∃ (k d : Nat) (P : Option Addr), k ≤ 32 ∧ i = .int .i64 k ∧ v = .slice P (2 * k) d ∧ OBD wr w.heap.size P (2 * k) d ((List.range (2 * k)).map f) ∧ Ext w wr
def PartID (f : Nat → List UInt8) (w : World) (k : Nat) (v i : Value) (wr : World) : Prop :=
  ∃ (s d : Nat) (P : Option Addr), s ≤ 2 ∧ i = .int .i64 s ∧ v = .slice P (2 * k + s) d ∧ OBD wr w.heap.size P (2 * k + s) d ((List.range (2 * k + s)).map f) ∧ Ext w wr
set_option maxHeartbeats 4000000 in
theorem partsd_sign (A : Option Addr) (n c : Nat) (S : List UInt8) (key : Int) (dg : UInt32) (b : Nat) (w : World) (hr : RB w A n c S) (hn : n ≤ 140737488355000) (hb : Blk w b 101 #[.int .u32 (u32i dg)]) :
    Calls Try.prog 118 #[.slice A n c, .int .i64 key, .func (.func 119) #[] #[.pointer (some ⟨b, 0, none⟩)]] w fun e w' => ∃ P d, e = .returned (.slice P 64 d) ∧ OBD w' w.heap.size P 64 d ((List.range 64).map (partS dg S key)) ∧ Ext w w' := by
  go_enter Try.func118, Try.ntmps118
  go_wp2_with fail
  go_loopw [7, 10] (fun v i wr => PartOD (partS dg S key) w v i wr) (fun _ i _ => 32 - (intOf i).toNat)
  case atStart => exact ⟨0, 0, none, by omega, rfl, rfl, OBD.none_ _ _, Ext.refl _⟩
  case round =>
    obtain ⟨k, d, P, hk, rfl, rfl, own, hEr⟩ := hrel
    by_cases hlt : k < 32
    · have hki : (k : Int) < 32 := by omega
      go_wp2_with fail
      go_loopw [7, 13] (fun v i wr => PartID (partS dg S key) w k v i wr) (fun _ i _ => 2 - (intOf i).toNat)
      case atStart => exact ⟨0, d, P, by omega, rfl, rfl, own, hEr⟩
      case round =>
        clear own hEr
        obtain ⟨s, d, P, hs, rfl, rfl, own, hEr⟩ := hrel
        by_cases hls : s < 2
        · have hval : (partS dg S key) (2 * k + s) = if toldB dg k s = true then secretL S key (k : Int) (s : Int) else shownL S key (k : Int) (s : Int) := by
            show (if toldB dg ((2 * k + s) / 2) ((2 * k + s) % 2) = true then secretL S key (((2 * k + s) / 2 : Nat) : Int) (((2 * k + s) % 2 : Nat) : Int) else shownL S key (((2 * k + s) / 2 : Nat) : Int) (((2 * k + s) % 2 : Nat) : Int)) = _
            rw [show (2 * k + s) / 2 = k by omega, show (2 * k + s) % 2 = s by omega]
          have Hval := Lib.hid hval
          clear hval
          go_wp2_with fail
          refine (choose_sign dg k s b wr (hb.ext hEr) hlt).mono ?_
          rintro e w2 ⟨rfl, hE2⟩
          cases ht : toldB dg k s with
          | true =>
            have Ht := Lib.hid ht
            clear ht
            rw [if_pos rfl]
            go_wp2_with fail
            refine (secret_any A n c S key k s w2 (hr.ext (hEr.trans hE2)) hn).mono ?_
            rintro e w3 ⟨A3, c3, rfl, own3, hE3⟩
            obtain ⟨ad3, rfl, _⟩ := own3.rb.cells (by omega)
            obtain ⟨g3, rfl⟩ := own3.plain
            have hY : OB w3 w.heap.size (some ⟨g3, 0, none⟩) 32 c3 ((partS dg S key) (2 * k + s)) := by
              rw [Hval.out, if_pos Ht.out]
              exact own3.base (hEr.trans hE2).size
            have hEw := hEr.trans (hE2.trans hE3)
            have hEa := Ext.new w3 (.cells #[.slice (some ⟨g3, 0, none⟩) 32 c3] 22)
            have hBa := Blk.new w3 22 #[.slice (some ⟨g3, 0, none⟩) 32 c3]
            have own4 := (own.ext (hE2.trans hE3)).ext hEa
            have hne : some g3 ≠ blk P := by
              intro e
              have h1 := own3.ge
              have h2 := own.lt e.symm
              have h3 := hE2.size
              omega
            go_wp2_with (refine appbd_law (base := w.heap.size) (Y := (partS dg S key) (2 * k + s)) rfl rfl rfl rfl (by rw [add_plain]; exact hBa.cell (i := 0) rfl) own4 (hY.ext hEa) hne (hEw.trans hEa).size (by omega) ?_; intro P5 d5 w5 own5 g5)
            go_roundw
            case rel =>
              rw [← range_snoc] at own5
              exact ⟨s + 1, d5, P5, by omega, by go_num, rfl, own5, (hEw.trans hEa).then_grown g5 (fun b hb => (own4.lt hb).1)⟩
            case measure => simp [intOf]; omega
          | false =>
            have Ht := Lib.hid (show ¬ toldB dg k s = true by rw [ht]; simp)
            clear ht
            rw [if_neg (by simp)]
            go_wp2_with fail
            refine (shown_any A n c S key k s w2 (hr.ext (hEr.trans hE2)) hn).mono ?_
            rintro e w3 ⟨A3, c3, rfl, own3, hE3⟩
            obtain ⟨ad3, rfl, _⟩ := own3.rb.cells (by omega)
            obtain ⟨g3, rfl⟩ := own3.plain
            have hY : OB w3 w.heap.size (some ⟨g3, 0, none⟩) 32 c3 ((partS dg S key) (2 * k + s)) := by
              rw [Hval.out, if_neg Ht.out]
              exact own3.base (hEr.trans hE2).size
            have hEw := hEr.trans (hE2.trans hE3)
            have hEa := Ext.new w3 (.cells #[.slice (some ⟨g3, 0, none⟩) 32 c3] 22)
            have hBa := Blk.new w3 22 #[.slice (some ⟨g3, 0, none⟩) 32 c3]
            have own4 := (own.ext (hE2.trans hE3)).ext hEa
            have hne : some g3 ≠ blk P := by
              intro e
              have h1 := own3.ge
              have h2 := own.lt e.symm
              have h3 := hE2.size
              omega
            go_wp2_with (refine appbd_law (base := w.heap.size) (Y := (partS dg S key) (2 * k + s)) rfl rfl rfl rfl (by rw [add_plain]; exact hBa.cell (i := 0) rfl) own4 (hY.ext hEa) hne (hEw.trans hEa).size (by omega) ?_; intro P5 d5 w5 own5 g5)
            go_roundw
            case rel =>
              rw [← range_snoc] at own5
              exact ⟨s + 1, d5, P5, by omega, by go_num, rfl, own5, (hEw.trans hEa).then_grown g5 (fun b hb => (own4.lt hb).1)⟩
            case measure => simp [intOf]; omega
        · obtain rfl : s = 2 := by omega
          go_wp2_with fail
          go_roundw
          case rel => exact ⟨k + 1, d, P, by omega, by go_num, rfl, own, hEr⟩
          case measure => simp [intOf]; omega
    · obtain rfl : k = 32 := by omega
      go_wp2_with fail
      go_ret
      exact ⟨P, d, rfl, own, hEr⟩
set_option maxHeartbeats 1000000 in
theorem sign_own (A B : Option Addr) (n c m d : Nat) (S M : List UInt8) (key : Int) (w : World) (hr : RB w A n c S) (hn : n ≤ 140737488355000) (hm : RB w B m d M) (hmn : m ≤ 140737488355000) :
    Calls Try.prog 104 #[.slice A n c, .int .i64 key, .slice B m d] w fun e w' => ∃ P d', e = .returned (.slice P 64 d') ∧ OBD w' w.heap.size P 64 d' ((List.range 64).map (partS (digestW M) S key)) ∧ Ext w w' := by
  go_enter Try.func104, Try.ntmps104
  go_wp2_with fail
  refine (digest_any B m d M w hm hmn).mono ?_
  rintro e w1 ⟨rfl, hE1⟩
  obtain ⟨dg, hdg⟩ : ∃ dg, dg = digestW M := ⟨_, rfl⟩
  rw [← hdg]
  have Hdg := Lib.hid hdg
  clear hdg
  have hE2 := Ext.new w1 (.cells #[.int .u32 (u32i dg)] 101)
  have hB2 := Blk.new w1 101 #[.int .u32 (u32i dg)]
  go_wp2_with fail
  refine (partsd_sign A n c S key dg w1.heap.size _ (hr.ext (hE1.trans hE2)) hn hB2).mono ?_
  rintro e w3 ⟨P, d', rfl, own, hE3⟩
  go_wp2_with fail
  go_ret
  rw [← Hdg.out]
  exact ⟨P, d', rfl, own.base (hE1.trans hE2).size, (hE1.trans hE2).trans hE3⟩

end Go.Proofs.Ythggfbpdhkpkjaa
