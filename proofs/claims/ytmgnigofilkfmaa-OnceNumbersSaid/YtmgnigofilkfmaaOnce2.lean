/-
  once.parts, Public and Sign, walked.
-/
import Derived.Test.YtmgnigofilkfmaaOnce1
namespace Go.Proofs.Ytmgnigofilkfmaa
set_option maxRecDepth 100000
open Go Go.RowKit
def partP (S : List UInt8) (key : Int) (i : Nat) : List UInt8 := shownL S key ((i / 2 : Nat) : Int) ((i % 2 : Nat) : Int)
def partS (dg : UInt32) (S : List UInt8) (key : Int) (i : Nat) : List UInt8 := if toldB dg (i / 2) (i % 2) = true then secretL S key ((i / 2 : Nat) : Int) ((i % 2 : Nat) : Int) else shownL S key ((i / 2 : Nat) : Int) ((i % 2 : Nat) : Int)
/-- a row of byte slices of the call's own; what they read as -/
def OBC (w : World) (base : Nat) (A : Option Addr) (n c : Nat) (Ls : List (List UInt8)) : Prop :=
  ∃ vs : List Value, w.ownsRow base 22 1 (.slice A n c) n vs ∧ Ls.length = n ∧ ∀ j, j < n → ∃ B m d, vs[j]? = some (.slice B m d) ∧ RB w B m d (lb Ls j) ∧ (0 < m → blk B ≠ blk A)
theorem OBC.none_ (w : World) (base : Nat) : OBC w base none 0 0 [] := ⟨[], World.ownsRow_nil w _ _ _, rfl, fun j hj => absurd hj (Nat.not_lt_zero _)⟩
theorem OBC.ext {w w' : World} {base : Nat} {A : Option Addr} {n c : Nat} {Ls : List (List UInt8)} (h : OBC w base A n c Ls) (e : Ext w w') : OBC w' base A n c Ls := by
  obtain ⟨vs, h1, h2, h3⟩ := h
  refine ⟨vs, World.ownsRow.kept h1 (e.grownBy none) ?_, h2, fun j hj => ?_⟩
  · cases hb : Value.ownBlock (.slice A n c) <;> simp
  · obtain ⟨B, m, d, h4, h5, h6⟩ := h3 j hj
    exact ⟨B, m, d, h4, h5.ext e, h6⟩
theorem OBC.lt {w : World} {base n c : Nat} {A : Option Addr} {Ls : List (List UInt8)} (h : OBC w base A n c Ls) {k : Nat} (hk : blk A = some k) : base ≤ k ∧ k < w.heap.size := by
  obtain ⟨vs, h1, _⟩ := h
  exact World.ownsRow.lt h1 k (by rw [ownBlock_slice]; exact hk)
theorem OBC.rbb {w : World} {base : Nat} {A : Option Addr} {n c : Nat} {Ls : List (List UInt8)} (h : OBC w base A n c Ls) : RBB w A n c Ls := by
  obtain ⟨vs, h1, h2, h3⟩ := h
  rcases h1.2 with ⟨hv, hn⟩ | ⟨g, cap, cur, hv, hb, hg, hnc, hcm, hcs, ht⟩
  · injection hv with e1 e2 e3
    subst e1 e2 e3
    exact ⟨h2, Nat.le_refl _, Nat.zero_le _, fun h => absurd h (Nat.lt_irrefl _)⟩
  · injection hv with e1 e2 e3
    subst e1 e3
    refine ⟨h2, hnc, hcm, fun hn => ⟨_, rfl, fun j hj => ?_⟩⟩
    obtain ⟨B, m, d, h4, h5, _⟩ := h3 j hj
    exact ⟨B, m, d, World.ownsRow.cells h1 (g := g) rfl j _ h4, h5⟩
theorem info_bb' : (Try.prog.info? 22).map (fun i => (i.zero, i.size, i.bytes)) = some (some (.slice none 0 0), 1, 24) := by kernel_rfl
theorem rb_blk_lt {w : World} {B : Option Addr} {n d : Nat} {M : List UInt8} (h : RB w B n d M) (hn : 0 < n) (k : Nat) (hk : blk B = some k) : k < w.heap.size := by
  obtain ⟨ad, rfl, hc⟩ := h.cells hn
  have h3 := World.block_lt_of_cell? w _ (hc 0 hn)
  rw [block_of_add] at h3
  have h4 : ad.block = k := by simpa [blk] using hk
  omega
theorem range_snoc {α : Type} (f : Nat → α) (k : Nat) : (List.range (k + 1)).map f = (List.range k).map f ++ [f k] := by simp [List.range_succ]
theorem appbc_law {ops : Array Oper} {rest : List Oper} {o : Oper} {a : Act} {Q : Exit → Act → World → Prop} {w : World} (hgd : o.guard = none) {s x : Operand} (ho : o.op = .call { callee := .builtin .append, args := #[s, x], argTypes := #[32, 32] })
    {A : Option Addr} {n c : Nat} (hs : a.eval s = .slice A n c) {ad : Addr} (hx : a.eval x = .slice (some ad) 1 1) {base : Nat} {Ls : List (List UInt8)} {B : Option Addr} {m d : Nat} {Y : List UInt8} (hcell : w.cell? (ad.add 0) = some (.slice B m d))
    (hown : OBC w base A n c Ls) (hB : RB w B m d Y) (hne : 0 < m → blk B ≠ blk A) (hbase : base ≤ w.heap.size) (hnk : n + 1 ≤ 1000000)
    (h : ∀ A' c' w', OBC w' base A' (n + 1) c' (Ls ++ [Y]) → w.grownBy w' (blk A) → wpList Try.prog ops Q rest (a.put o.dst (.slice A' (n + 1) c')) w') : wpList Try.prog ops Q (o :: rest) a w := by
  obtain ⟨i0, hi0, hz0, hz1, hz2⟩ := info_parts info_bb'
  obtain ⟨vs, h1, h2, h3⟩ := hown
  obtain ⟨v', w', hrun, r1, r2, _, r4⟩ := run_append_own_at (P := Try.prog) w base 32 o.type 22 i0 (.slice none 0 0) 1 24 Try.underlying32 hi0 hz0 hz1 hz2 rfl (by decide) (.slice A n c) n vs h1 ad 1 1 [.slice B m d] rfl
    (by
      intro j u hu
      rcases j with _ | j
      · injection hu with hu
        subst hu
        exact hcell
      · cases hu) (by simp [Value.oneCell']) (small_maxLen hnk) (by omega) hbase
  obtain ⟨A', c', rfl⟩ : ∃ A' c', v' = .slice A' (n + 1) c' := by
    rcases r1.2 with ⟨_, h0⟩ | ⟨g, cap, _, rfl, _⟩
    · omega
    · exact ⟨_, cap, rfl⟩
  rw [ownBlock_slice] at r2 r4
  rw [ownBlock_slice] at r4
  have hne' : ∀ (B' : Option Addr) (m' d' : Nat) (Y' : List UInt8), RB w B' m' d' Y' → (0 < m' → blk B' ≠ blk A) → (0 < m' → blk B' ≠ blk A') := by
    intro B' m' d' Y' hb hn hm e
    rcases r4 with r4 | r4
    · exact hn hm (e.trans r4)
    · have := rb_blk_lt hb hm _ (e.trans r4)
      omega
  have hvl : vs.length = n := by have := h1.1; omega
  refine run_law hgd (v := .slice A' (n + 1) c') (w' := w') ?_ (h A' c' w' ⟨vs ++ [.slice B m d], r1, by rw [List.length_append]; simp; omega, fun j hj => ?_⟩ r2)
  · unfold execOp
    simp only [ho, resolve, invoke, builtin, Sem.run_bind, Sem.run_pure, Result.andThen_ok, List.map_toArray, List.map_cons, List.map_nil, hs, hx, hrun]
  · by_cases hjn : j < n
    · obtain ⟨B', m', d', h4, h5, h6⟩ := h3 j hjn
      refine ⟨B', m', d', by rw [List.getElem?_append_left (by omega)]; exact h4, ?_, hne' _ _ _ _ h5 h6⟩
      have e : lb (Ls ++ [Y]) j = lb Ls j := by unfold lb; simp [List.getElem?_append_left (show j < Ls.length by omega)]
      rw [e]
      exact h5.grown r2 h6
    · obtain rfl : j = n := by omega
      refine ⟨B, m, d, by rw [List.getElem?_append_right (by omega), hvl]; simp, ?_, hne' _ _ _ _ hB hne⟩
      have e : lb (Ls ++ [Y]) j = Y := by unfold lb; simp [← h2]
      rw [e]
      exact hB.grown r2 hne
theorem choose_pub (j s : Nat) (w : World) : Calls Try.prog 56 #[.int .i64 (j : Int), .int .i64 (s : Int)] w fun e w' => e = .returned (.func (.func 36) #[] #[]) ∧ Ext w w' := by
  go_enter Try.func56, Try.ntmps56
  go_wp2_with fail
  go_ret
  exact ⟨rfl, Ext.refl _⟩
theorem choose_sign (dg : UInt32) (j s b : Nat) (w : World) (hb : Blk w b 40 #[.int .u32 (u32i dg)]) (hj : j < 32) :
    Calls Try.prog 53 #[.int .i64 (j : Int), .int .i64 (s : Int), .pointer (some ⟨b, 0, none⟩)] w fun e w' => e = .returned (.func (.func (if toldB dg j s = true then 34 else 36)) #[] #[]) ∧ Ext w w' := by
  have y0 := hb.cell (i := 0) rfl
  cases ht : toldB dg j s with
  | true =>
    rw [if_pos rfl]
    go_enter Try.func53, Try.ntmps53
    go_wp2_with fail
    refine (told_any dg j s w hj).mono ?_
    rintro e w1 ⟨rfl, hE1⟩
    rw [ht]
    go_wp2_with fail
    go_ret
    exact ⟨rfl, hE1⟩
  | false =>
    rw [if_neg (by simp)]
    go_enter Try.func53, Try.ntmps53
    go_wp2_with fail
    refine (told_any dg j s w hj).mono ?_
    rintro e w1 ⟨rfl, hE1⟩
    rw [ht]
    go_wp2_with fail
    go_ret
    exact ⟨rfl, hE1⟩
def PartO (f : Nat → List UInt8) (w : World) (v i : Value) (wr : World) : Prop :=
  ∃ (k d : Nat) (P : Option Addr), k ≤ 32 ∧ i = .int .i64 k ∧ v = .slice P (2 * k) d ∧ OBC wr w.heap.size P (2 * k) d ((List.range (2 * k)).map f) ∧ Ext w wr
def PartI (f : Nat → List UInt8) (w : World) (k : Nat) (v i : Value) (wr : World) : Prop :=
  ∃ (s d : Nat) (P : Option Addr), s ≤ 2 ∧ i = .int .i64 s ∧ v = .slice P (2 * k + s) d ∧ OBC wr w.heap.size P (2 * k + s) d ((List.range (2 * k + s)).map f) ∧ Ext w wr
set_option maxHeartbeats 4000000 in
theorem parts_pub (A : Option Addr) (n c : Nat) (S : List UInt8) (key : Int)  (w : World) (hr : RB w A n c S) (hn : n ≤ 140737488355000) :
    Calls Try.prog 52 #[.slice A n c, .int .i64 key, .func (.func 56) #[] #[]] w fun e w' => ∃ P d, e = .returned (.slice P 64 d) ∧ OBC w' w.heap.size P 64 d ((List.range 64).map (partP S key)) ∧ Ext w w' := by
  go_enter Try.func52, Try.ntmps52
  go_wp2_with fail
  go_loopw [7, 10] (fun v i wr => PartO (partP S key) w v i wr) (fun _ i _ => 32 - (intOf i).toNat)
  case atStart => exact ⟨0, 0, none, by omega, rfl, rfl, OBC.none_ _ _, Ext.refl _⟩
  case round =>
    obtain ⟨k, d, P, hk, rfl, rfl, own, hEr⟩ := hrel
    by_cases hlt : k < 32
    · have hki : (k : Int) < 32 := by omega
      go_wp2_with fail
      go_loopw [7, 13] (fun v i wr => PartI (partP S key) w k v i wr) (fun _ i _ => 2 - (intOf i).toNat)
      case atStart => exact ⟨0, d, P, by omega, rfl, rfl, own, hEr⟩
      case round =>
        clear own hEr
        obtain ⟨s, d, P, hs, rfl, rfl, own, hEr⟩ := hrel
        by_cases hls : s < 2
        · have hval : (partP S key) (2 * k + s) = shownL S key (k : Int) (s : Int) := by
            show shownL S key (((2 * k + s) / 2 : Nat) : Int) (((2 * k + s) % 2 : Nat) : Int) = _
            rw [show (2 * k + s) / 2 = k by omega, show (2 * k + s) % 2 = s by omega]
          have Hval := Lib.hid hval
          clear hval
          go_wp2_with fail
          refine (choose_pub k s wr).mono ?_
          rintro e w2 ⟨rfl, hE2⟩
          go_wp2_with fail
          refine (shown_any A n c S key k s w2 (hr.ext (hEr.trans hE2)) hn).mono ?_
          rintro e w3 ⟨A3, c3, rfl, own3, hE3⟩
          have hY : RB w3 A3 32 c3 ((partP S key) (2 * k + s)) := by
            rw [Hval.out]
            exact own3.rb
          have hEw := hEr.trans (hE2.trans hE3)
          have hEa := Ext.new w3 (.cells #[.slice A3 32 c3] 22)
          have hBa := Blk.new w3 22 #[.slice A3 32 c3]
          have own4 := (own.ext (hE2.trans hE3)).ext hEa
          have hne : 0 < 32 → blk A3 ≠ blk P := by
            intro _ e
            obtain ⟨b, hb⟩ : ∃ b, blk A3 = some b := by
              obtain ⟨ad, h1, _⟩ := own3.rb.cells (by omega)
              rw [h1]
              exact ⟨_, rfl⟩
            have h1 := (own3.lt hb).1
            have h2 := own.lt (e.symm.trans hb)
            have h3 := hE2.size
            omega
          go_wp2_with (refine appbc_law (base := w.heap.size) (Y := (partP S key) (2 * k + s)) rfl rfl rfl rfl (by rw [add_plain]; exact hBa.cell (i := 0) rfl) own4 (hY.ext hEa) hne (hEw.trans hEa).size (by omega) ?_; intro P5 d5 w5 own5 g5)
          go_roundw
          case rel =>
            rw [← range_snoc] at own5
            exact ⟨s + 1, d5, P5, by omega, by go_num, rfl, own5, (hEw.trans hEa).then_grown g5 (fun b hb => (own4.lt hb).1)⟩
          case measure => simp [intOf]; omega
        · obtain rfl : s = 2 := by omega
          go_wp2_with fail
          go_roundw
          case rel => exact ⟨k + 1, d, P, by omega, by go_num, rfl, own, hEr⟩
          case measure => simp [intOf]; omega
    · obtain rfl : k = 32 := by omega
      go_wp2_with fail
      go_ret
      exact ⟨P, d, rfl, own, hEr⟩
set_option maxHeartbeats 4000000 in
theorem parts_sign (A : Option Addr) (n c : Nat) (S : List UInt8) (key : Int) (dg : UInt32) (b : Nat) (w : World) (hr : RB w A n c S) (hn : n ≤ 140737488355000) (hb : Blk w b 40 #[.int .u32 (u32i dg)]) :
    Calls Try.prog 52 #[.slice A n c, .int .i64 key, .func (.func 53) #[] #[.pointer (some ⟨b, 0, none⟩)]] w fun e w' => ∃ P d, e = .returned (.slice P 64 d) ∧ OBC w' w.heap.size P 64 d ((List.range 64).map (partS dg S key)) ∧ Ext w w' := by
  go_enter Try.func52, Try.ntmps52
  go_wp2_with fail
  go_loopw [7, 10] (fun v i wr => PartO (partS dg S key) w v i wr) (fun _ i _ => 32 - (intOf i).toNat)
  case atStart => exact ⟨0, 0, none, by omega, rfl, rfl, OBC.none_ _ _, Ext.refl _⟩
  case round =>
    obtain ⟨k, d, P, hk, rfl, rfl, own, hEr⟩ := hrel
    by_cases hlt : k < 32
    · have hki : (k : Int) < 32 := by omega
      go_wp2_with fail
      go_loopw [7, 13] (fun v i wr => PartI (partS dg S key) w k v i wr) (fun _ i _ => 2 - (intOf i).toNat)
      case atStart => exact ⟨0, d, P, by omega, rfl, rfl, own, hEr⟩
      case round =>
        clear own hEr
        obtain ⟨s, d, P, hs, rfl, rfl, own, hEr⟩ := hrel
        by_cases hls : s < 2
        · have hval : (partS dg S key) (2 * k + s) = if toldB dg k s = true then secretL S key (k : Int) (s : Int) else shownL S key (k : Int) (s : Int) := by
            show (if toldB dg ((2 * k + s) / 2) ((2 * k + s) % 2) = true then secretL S key (((2 * k + s) / 2 : Nat) : Int) (((2 * k + s) % 2 : Nat) : Int) else shownL S key (((2 * k + s) / 2 : Nat) : Int) (((2 * k + s) % 2 : Nat) : Int)) = _
            rw [show (2 * k + s) / 2 = k by omega, show (2 * k + s) % 2 = s by omega]
          have Hval := Lib.hid hval
          clear hval
          go_wp2_with fail
          refine (choose_sign dg k s b wr (hb.ext hEr) hlt).mono ?_
          rintro e w2 ⟨rfl, hE2⟩
          cases ht : toldB dg k s with
          | true =>
            have Ht := Lib.hid ht
            clear ht
            rw [if_pos rfl]
            go_wp2_with fail
            refine (secret_any A n c S key k s w2 (hr.ext (hEr.trans hE2)) hn).mono ?_
            rintro e w3 ⟨A3, c3, rfl, own3, hE3⟩
            have hY : RB w3 A3 32 c3 ((partS dg S key) (2 * k + s)) := by
              rw [Hval.out, if_pos Ht.out]
              exact own3.rb
            have hEw := hEr.trans (hE2.trans hE3)
            have hEa := Ext.new w3 (.cells #[.slice A3 32 c3] 22)
            have hBa := Blk.new w3 22 #[.slice A3 32 c3]
            have own4 := (own.ext (hE2.trans hE3)).ext hEa
            have hne : 0 < 32 → blk A3 ≠ blk P := by
              intro _ e
              obtain ⟨b, hb⟩ : ∃ b, blk A3 = some b := by
                obtain ⟨ad, h1, _⟩ := own3.rb.cells (by omega)
                rw [h1]
                exact ⟨_, rfl⟩
              have h1 := (own3.lt hb).1
              have h2 := own.lt (e.symm.trans hb)
              have h3 := hE2.size
              omega
            go_wp2_with (refine appbc_law (base := w.heap.size) (Y := (partS dg S key) (2 * k + s)) rfl rfl rfl rfl (by rw [add_plain]; exact hBa.cell (i := 0) rfl) own4 (hY.ext hEa) hne (hEw.trans hEa).size (by omega) ?_; intro P5 d5 w5 own5 g5)
            go_roundw
            case rel =>
              rw [← range_snoc] at own5
              exact ⟨s + 1, d5, P5, by omega, by go_num, rfl, own5, (hEw.trans hEa).then_grown g5 (fun b hb => (own4.lt hb).1)⟩
            case measure => simp [intOf]; omega
          | false =>
            have Ht := Lib.hid (show ¬ toldB dg k s = true by rw [ht]; simp)
            clear ht
            rw [if_neg (by simp)]
            go_wp2_with fail
            refine (shown_any A n c S key k s w2 (hr.ext (hEr.trans hE2)) hn).mono ?_
            rintro e w3 ⟨A3, c3, rfl, own3, hE3⟩
            have hY : RB w3 A3 32 c3 ((partS dg S key) (2 * k + s)) := by
              rw [Hval.out, if_neg Ht.out]
              exact own3.rb
            have hEw := hEr.trans (hE2.trans hE3)
            have hEa := Ext.new w3 (.cells #[.slice A3 32 c3] 22)
            have hBa := Blk.new w3 22 #[.slice A3 32 c3]
            have own4 := (own.ext (hE2.trans hE3)).ext hEa
            have hne : 0 < 32 → blk A3 ≠ blk P := by
              intro _ e
              obtain ⟨b, hb⟩ : ∃ b, blk A3 = some b := by
                obtain ⟨ad, h1, _⟩ := own3.rb.cells (by omega)
                rw [h1]
                exact ⟨_, rfl⟩
              have h1 := (own3.lt hb).1
              have h2 := own.lt (e.symm.trans hb)
              have h3 := hE2.size
              omega
            go_wp2_with (refine appbc_law (base := w.heap.size) (Y := (partS dg S key) (2 * k + s)) rfl rfl rfl rfl (by rw [add_plain]; exact hBa.cell (i := 0) rfl) own4 (hY.ext hEa) hne (hEw.trans hEa).size (by omega) ?_; intro P5 d5 w5 own5 g5)
            go_roundw
            case rel =>
              rw [← range_snoc] at own5
              exact ⟨s + 1, d5, P5, by omega, by go_num, rfl, own5, (hEw.trans hEa).then_grown g5 (fun b hb => (own4.lt hb).1)⟩
            case measure => simp [intOf]; omega
        · obtain rfl : s = 2 := by omega
          go_wp2_with fail
          go_roundw
          case rel => exact ⟨k + 1, d, P, by omega, by go_num, rfl, own, hEr⟩
          case measure => simp [intOf]; omega
    · obtain rfl : k = 32 := by omega
      go_wp2_with fail
      go_ret
      exact ⟨P, d, rfl, own, hEr⟩

end Go.Proofs.Ytmgnigofilkfmaa
