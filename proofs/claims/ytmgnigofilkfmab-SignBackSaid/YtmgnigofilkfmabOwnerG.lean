/-
  Rows of unlike types lie in unlike blocks. Plain theorems. ref5.New and an owner's public, walked. ref5: an owner's public and signatures, Right and Verify, walked. ref5.Right and ref5.Verify, walked.
-/
import Derived.Test.YtmgnigofilkfmabSignG
import Derived.Test.YtmgnigofilkfmabOnceG
import Derived.Test.YtmgnigofilkfmabKnownG
import Derived.Test.YtmgnigofilkfmabBools
namespace Go.Proofs.Ytmgnigofilkfmab
set_option maxRecDepth 100000
open Go Go.RowKit
/-- the block of this number holds cells of another type than byte slices and bytes -/
def Other (w : World) (k : Nat) : Prop := ∃ cs t fr, w.heap[k]? = some (.cells cs t fr) ∧ t ≠ 22 ∧ t ≠ 5
theorem Blk.other {w : World} {g : Nat} {t : TypeId} {cs : Array Value} (h : Blk w g t cs) (h1 : t ≠ 22) (h2 : t ≠ 5) : Other w g := ⟨cs, t, (0, 0), h, h1, h2⟩
theorem row_type {w : World} {base : Nat} {e : TypeId} {s : Nat} {v : Value} {n : Nat} {xs : List Value} (h : w.ownsRow base e s v n xs) {k : Nat} (hk : v.ownBlock = some k) : ∃ cs, w.heap[k]? = some (.cells cs e (0, 0)) := by
  rcases h.2 with ⟨e, _⟩ | ⟨g, cap, cur, e, _, h1, _⟩
  · rw [e] at hk; cases hk
  · rw [e] at hk
    have h2 : some g = some k := hk
    injection h2 with h2
    subst h2
    exact ⟨cur, h1⟩
theorem row_other {w : World} {base : Nat} {e : TypeId} {s : Nat} {v : Value} {n : Nat} {xs : List Value} (h : w.ownsRow base e s v n xs) (h1 : e ≠ 22) (h2 : e ≠ 5) {k : Nat} (hk : v.ownBlock = some k) : Other w k := by
  obtain ⟨cs, hc⟩ := row_type h hk
  exact ⟨cs, e, (0, 0), hc, h1, h2⟩
theorem row_ne {w : World} {base : Nat} {e : TypeId} {s : Nat} {v : Value} {n : Nat} {xs : List Value} (h : w.ownsRow base e s v n xs) {k : Nat} {cs : Array Value} {t : TypeId} {fr : Nat × Nat} (hk : w.heap[k]? = some (.cells cs t fr)) (ht : t ≠ e) : v.ownBlock ≠ some k := by
  intro he
  obtain ⟨cs', hc⟩ := row_type h he
  rw [hc] at hk
  injection hk with hk
  injection hk with _ h2
  exact ht h2.symm
theorem OB.other {w : World} {base g n c : Nat} {L : List UInt8} (h : OB w base (some ⟨g, 0, none⟩) n c L) {k : Nat} (hk : Other w k) : some g ≠ some k := by
  obtain ⟨cs, t, fr, h1, h2, h3⟩ := hk
  have := row_ne h h1 h3
  rw [ownBlock_slice] at this
  exact this
theorem OBD.far {w w' : World} {base n c : Nat} {A : Option Addr} {Ls : List (List UInt8)} (h : OBD w base A n c Ls) {row : Option Nat} (e : w.grownBy w' row) (ht : ∀ k, row = some k → Other w k) : OBD w' base A n c Ls := by
  obtain ⟨vs, h1, h2, h3⟩ := h
  refine ⟨vs, World.ownsRow.kept h1 e ?_, h2, fun j hj => ?_⟩
  · cases row with
    | none => cases hb : Value.ownBlock (.slice A n c) <;> simp
    | some k =>
      obtain ⟨cs, t, fr, g1, g2, g3⟩ := ht k rfl
      exact .inr (row_ne h1 g1 g2)
  · obtain ⟨g, d, h4, h5, h6⟩ := h3 j hj
    refine ⟨g, d, h4, h5.grown e (.inr fun e' => ?_), h6⟩
    cases row with
    | none => cases e'
    | some k => exact h5.other (ht k rfl) e'
theorem RB.apart5 {w : World} {A : Option Addr} {n c : Nat} {L : List UInt8} (h : RB w A n c L) {g : Nat} {t : TypeId} {cs : Array Value} (hb : Blk w g t cs) (hno : ∀ (i : Nat) (x : Int), cs[i]? ≠ some (.int .u8 x)) : 0 < n → blk A ≠ some g := by
  intro hn e
  obtain ⟨ad, rfl, hc⟩ := h.cells hn
  have h1 := hc 0 hn
  have h2 : ad.block = g := by simpa [blk] using e
  unfold World.cell? at h1
  have h3 : (ad.add 0).block = ad.block := rfl
  rw [h3, h2, show w.heap[g]? = _ from hb] at h1
  by_cases hs : (ad.add 0).spot.isSome = true
  · simp [hs] at h1
  · simp only [hs] at h1
    exact hno _ _ h1
theorem sig_no (x : Int) (P Q : Option Addr) (np cp nq cq i : Nat) (y : Int) : (#[.int .i64 x, .slice P np cp, .slice Q nq cq] : Array Value)[i]? ≠ some (.int .u8 y) := by
  rcases i with _ | _ | _ | i <;> simp
theorem OBC.far {w w' : World} {base n c : Nat} {A : Option Addr} {Ls : List (List UInt8)} (h : OBC w base A n c Ls) {g : Nat} {t : TypeId} {cs : Array Value} (hb : Blk w g t cs) (ht : t ≠ 22) (hno : ∀ (i : Nat) (x : Int), cs[i]? ≠ some (.int .u8 x)) (e : w.grownBy w' (some g)) : OBC w' base A n c Ls := by
  obtain ⟨vs, h1, h2, h3⟩ := h
  refine ⟨vs, World.ownsRow.kept h1 e (.inr (row_ne h1 hb ht)), h2, fun j hj => ?_⟩
  obtain ⟨B, m, d, h4, h5, h6⟩ := h3 j hj
  exact ⟨B, m, d, h4, h5.grown e (h5.apart5 hb hno), h6⟩
/-- the levels of an owner's tree, each a row of the call's own -/
def LevO (w : World) (b : Nat) (A : Option Addr) (n c : Nat) (S : List UInt8) : Prop :=
  ∃ vs : List Value, w.ownsRow b 50 1 (.slice A n c) n vs ∧ ∀ j, j < n → ∃ g d, vs[j]? = some (.slice (some ⟨g, 0, none⟩) (16 / 2 ^ j) d) ∧ OBD w b (some ⟨g, 0, none⟩) (16 / 2 ^ j) d (lev S j)
theorem LevO.none_ (w : World) (b : Nat) (S : List UInt8) : LevO w b none 0 0 S := ⟨[], World.ownsRow_nil w _ _ _, fun j hj => absurd hj (Nat.not_lt_zero _)⟩
theorem LevO.lt {w : World} {b n c : Nat} {A : Option Addr} {S : List UInt8} (h : LevO w b A n c S) {k : Nat} (hk : blk A = some k) : b ≤ k ∧ k < w.heap.size := by
  obtain ⟨vs, h1, _⟩ := h
  exact World.ownsRow.lt h1 k (by rw [ownBlock_slice]; exact hk)
theorem LevO.other {w : World} {b n c : Nat} {A : Option Addr} {S : List UInt8} (h : LevO w b A n c S) {k : Nat} (hk : blk A = some k) : Other w k := by
  obtain ⟨vs, h1, _⟩ := h
  exact row_other h1 (by decide) (by decide) (by rw [ownBlock_slice]; exact hk)
theorem LevO.ext {w w' : World} {b n c : Nat} {A : Option Addr} {S : List UInt8} (h : LevO w b A n c S) (e : Ext w w') : LevO w' b A n c S := by
  obtain ⟨vs, h1, h3⟩ := h
  refine ⟨vs, World.ownsRow.kept h1 (e.grownBy none) ?_, fun j hj => ?_⟩
  · cases hb : Value.ownBlock (.slice A n c) <;> simp
  · obtain ⟨g, d, h4, h5⟩ := h3 j hj
    exact ⟨g, d, h4, h5.ext e⟩
theorem LevO.far {w w' : World} {b n c : Nat} {A : Option Addr} {S : List UInt8} (h : LevO w b A n c S) {g : Nat} {t : TypeId} {cs : Array Value} (hb : Blk w g t cs) (h1 : t ≠ 50) (h2 : t ≠ 22) (h3 : t ≠ 5) (e : w.grownBy w' (some g)) : LevO w' b A n c S := by
  obtain ⟨vs, r1, r3⟩ := h
  refine ⟨vs, World.ownsRow.kept r1 e (.inr (row_ne r1 hb h1)), fun j hj => ?_⟩
  obtain ⟨g', d, h4, h5⟩ := r3 j hj
  exact ⟨g', d, h4, h5.far e (fun k hk => by cases hk; exact hb.other h2 h3)⟩
theorem LevO.cell {w : World} {b n c g : Nat} {S : List UInt8} (h : LevO w b (some ⟨g, 0, none⟩) n c S) {j : Nat} (hj : j < n) :
    ∃ g' d', w.cell? ((⟨g, 0, none⟩ : Addr).add j) = some (.slice (some ⟨g', 0, none⟩) (16 / 2 ^ j) d') ∧ OBD w b (some ⟨g', 0, none⟩) (16 / 2 ^ j) d' (lev S j) := by
  obtain ⟨vs, h1, h3⟩ := h
  obtain ⟨g', d', h4, h5⟩ := h3 j hj
  exact ⟨g', d', World.ownsRow.cells h1 (g := g) (by rw [ownBlock_slice]; rfl) j _ h4, h5⟩
theorem LevO.plain {w : World} {b n c : Nat} {A : Option Addr} {S : List UInt8} (h : LevO w b A n c S) (hn : 0 < n) : ∃ g, A = some ⟨g, 0, none⟩ := by
  obtain ⟨vs, h1, _⟩ := h
  rcases h1.2 with ⟨_, h0⟩ | ⟨g, cap, cur, e, _⟩
  · omega
  · injection e with e1
    exact ⟨g, e1⟩
theorem LevO.room {w : World} {b n c : Nat} {A : Option Addr} {S : List UInt8} (h : LevO w b A n c S) : n ≤ c := by
  obtain ⟨vs, h1, _⟩ := h
  rcases h1.2 with ⟨e, h0⟩ | ⟨g, cap, cur, e, _, _, h2, _⟩
  · omega
  · injection e with e1 e2 e3
    omega
theorem LevO.base {w : World} {b b' n c : Nat} {A : Option Addr} {S : List UInt8} (h : LevO w b A n c S) (hb : b' ≤ b) : LevO w b' A n c S := by
  obtain ⟨vs, h1, h3⟩ := h
  refine ⟨vs, ownsRow_base h1 hb, fun j hj => ?_⟩
  obtain ⟨g, d, h4, h5⟩ := h3 j hj
  exact ⟨g, d, h4, h5.base hb⟩
theorem info_sss : (Try.prog.info? 50).map (fun i => (i.zero, i.size, i.bytes)) = some (some (.slice none 0 0), 1, 24) := by kernel_rfl
theorem appl_law {ops : Array Oper} {rest : List Oper} {o : Oper} {a : Act} {Q : Exit → Act → World → Prop} {w : World} (hgd : o.guard = none) {s x : Operand} (ho : o.op = .call { callee := .builtin .append, args := #[s, x], argTypes := #[65, 65] })
    {A : Option Addr} {n c : Nat} (hs : a.eval s = .slice A n c) {ad : Addr} (hx : a.eval x = .slice (some ad) 1 1) {b : Nat} {S : List UInt8} {g d : Nat} (hcell : w.cell? (ad.add 0) = some (.slice (some ⟨g, 0, none⟩) (16 / 2 ^ n) d))
    (hown : LevO w b A n c S) (hB : OBD w b (some ⟨g, 0, none⟩) (16 / 2 ^ n) d (lev S n)) (hbase : b ≤ w.heap.size) (hnk : n + 1 ≤ 1000000)
    (h : ∀ A' c' w', LevO w' b A' (n + 1) c' S → OBD w' b (some ⟨g, 0, none⟩) (16 / 2 ^ n) d (lev S n) → w.grownBy w' (blk A) → wpList Try.prog ops Q rest (a.put o.dst (.slice A' (n + 1) c')) w') : wpList Try.prog ops Q (o :: rest) a w := by
  obtain ⟨i0, hi0, hz0, hz1, hz2⟩ := info_parts info_sss
  have hoth := fun k (hk : blk A = some k) => hown.other hk
  obtain ⟨vs, h1, h3⟩ := hown
  obtain ⟨v', w', hrun, r1, r2, _, r4⟩ := run_append_own_at (P := Try.prog) w b 65 o.type 50 i0 (.slice none 0 0) 1 24 Try.underlying65 hi0 hz0 hz1 hz2 rfl (by decide) (.slice A n c) n vs h1 ad 1 1 [.slice (some ⟨g, 0, none⟩) (16 / 2 ^ n) d] rfl
    (by
      intro j u hu
      rcases j with _ | j
      · injection hu with hu
        subst hu
        exact hcell
      · cases hu) (by simp [Value.oneCell']) (small_maxLen hnk) (by omega) hbase
  obtain ⟨A', c', rfl⟩ : ∃ A' c', v' = .slice A' (n + 1) c' := by
    rcases r1.2 with ⟨_, h0⟩ | ⟨g, cap, _, rfl, _⟩
    · omega
    · exact ⟨_, cap, rfl⟩
  rw [ownBlock_slice] at r2
  have hvl : vs.length = n := by have := h1.1; omega
  refine run_law hgd (v := .slice A' (n + 1) c') (w' := w') ?_ (h A' c' w' ⟨vs ++ [.slice (some ⟨g, 0, none⟩) (16 / 2 ^ n) d], r1, fun j hj => ?_⟩ (hB.far r2 hoth) r2)
  · unfold execOp
    simp only [ho, resolve, invoke, builtin, Sem.run_bind, Sem.run_pure, Result.andThen_ok, List.map_toArray, List.map_cons, List.map_nil, hs, hx, hrun]
  · by_cases hjn : j < n
    · obtain ⟨g', d', h4, h5⟩ := h3 j hjn
      exact ⟨g', d', by rw [List.getElem?_append_left (by omega)]; exact h4, h5.far r2 hoth⟩
    · obtain rfl : j = n := by omega
      exact ⟨g, d, by rw [List.getElem?_append_right (by omega), hvl]; simp, hB.far r2 hoth⟩
end Go.Proofs.Ytmgnigofilkfmab
namespace Go.Proofs.Ytmgnigofilkfmab
set_option maxRecDepth 100000
open Go Go.RowKit
/-- an owner: its seed, its levels -/
def OwnR (w : World) (b g : Nat) (S : List UInt8) : Prop :=
  ∃ A c LA lc, RB w A 32 c S ∧ Blk w g 67 #[.slice A 32 c, .slice LA 5 lc] ∧ LevO w b LA 5 lc S
theorem OwnR.ext {w w' : World} {b g : Nat} {S : List UInt8} (h : OwnR w b g S) (e : Ext w w') : OwnR w' b g S := by
  obtain ⟨A, c, LA, lc, h1, h2, h3⟩ := h
  exact ⟨A, c, LA, lc, h1.ext e, h2.ext e, h3.ext e⟩
def NewI (w : World) (A0 : Option Addr) (c0 : Nat) (S : List UInt8) (v : Value) (wr : World) : Prop :=
  ∃ (h d c : Nat) (P A : Option Addr), h ≤ 4 ∧ v = .slice P (16 / 2 ^ h) d ∧ OBD wr w.heap.size P (16 / 2 ^ h) d (lev S h) ∧ LevO wr w.heap.size A (h + 1) c S ∧ Blk wr w.heap.size 67 #[.slice A0 32 c0, .slice A (h + 1) c] ∧ Ext w wr
set_option maxHeartbeats 4000000 in
theorem rnew_any (A : Option Addr) (c : Nat) (S : List UInt8) (w : World) (hr : RB w A 32 c S) :
    Calls Try.prog 35 #[.slice A 32 c] w fun e w' => ∃ g, e = .returned (.pointer (some ⟨g, 0, none⟩)) ∧ OwnR w' w.heap.size g S ∧ Ext w w' := by
  go_enter Try.func35, Try.ntmps35
  have hE1 := Ext.new w (.cells #[.slice A 32 c, .slice none 0 0] 67)
  have hB1 := Blk.new w 67 #[.slice A 32 c, .slice none 0 0]
  go_wp2_with fail
  go_loopw [4, 5] (fun v i wr => LeavesI (w.alloc (.cells #[.slice A 32 c, .slice none 0 0] 67)) S v i wr) (fun _ i _ => 16 - (intOf i).toNat)
  case atStart => exact ⟨0, 0, none, by omega, rfl, rfl, OBD.none_ _ _, Ext.refl _⟩
  case round =>
    obtain ⟨k, d, P, hk, rfl, rfl, own, hEr⟩ := hrel
    have hB2 := hB1.ext hEr
    have hE2 := hE1.trans hEr
    by_cases hlt : k < 16
    · have hki : (k : Int) < 16 := by omega
      go_wp2_with fail
      refine (r4public_any A 32 c S k wr (hr.ext hE2) (by omega)).mono ?_
      rintro e w3 ⟨A3, c3, rfl, own3, hE3⟩
      obtain ⟨ad3, rfl, _⟩ := own3.rb.cells (by omega)
      obtain ⟨g3, rfl⟩ := own3.plain
      have hEw := hEr.trans hE3
      have hEa := Ext.new w3 (.cells #[.slice (some ⟨g3, 0, none⟩) 32 c3] 22)
      have hBa := Blk.new w3 22 #[.slice (some ⟨g3, 0, none⟩) 32 c3]
      have own4 := (own.ext hE3).ext hEa
      have hne : some g3 ≠ blk P := by
        intro e
        have h1 := own3.ge
        have h2 := own.lt e.symm
        omega
      go_wp2_with (refine appbd_law (base := (w.alloc (.cells #[.slice A 32 c, .slice none 0 0] 67)).heap.size) (Y := publicL S ((k : Nat) : Int)) rfl rfl rfl rfl (by rw [add_plain]; exact hBa.cell (i := 0) rfl) own4 ((own3.base hEr.size).ext hEa) hne (hEw.trans hEa).size (by omega) ?_; intro P5 d5 w5 own5 g5)
      go_roundw
      case rel =>
        refine ⟨k + 1, d5, P5, by omega, by go_num, rfl, ?_, (hEw.trans hEa).then_grown g5 (fun b hb => (own4.lt hb).1)⟩
        rw [range_snoc]
        exact own5
      case measure => simp [intOf]; omega
    · obtain rfl : k = 16 := by omega
      have ownB := own.base hE1.size
      have y0 : wr.cell? ⟨w.heap.size, 1, none⟩ = some (.slice none 0 0) := hB2.cell (i := 1) rfl
      obtain ⟨gP, rfl⟩ := own.plain (by omega)
      have hEa := Ext.new wr (.cells #[.slice (some ⟨gP, 0, none⟩) 16 d] 50)
      have hBa := Blk.new wr 50 #[.slice (some ⟨gP, 0, none⟩) 16 d]
      have own4 : OBD (wr.alloc (.cells #[.slice (some ⟨gP, 0, none⟩) 16 d] 50)) w.heap.size (some ⟨gP, 0, none⟩) (16 / 2 ^ 0) d (lev S 0) := ownB.ext hEa
      have hB4 := hB2.ext hEa
      have hEs := (hE2.trans hEa).size
      go_wp2_with (refine appl_law (b := w.heap.size) (n := 0) (g := gP) (d := d) (S := S) rfl rfl rfl rfl (by rw [add_plain]; exact hBa.cell (i := 0) rfl) (LevO.none_ _ _ _) own4 hEs (by omega) ?_; intro A5 c5 w5 lev5 own5 g5; have hB5 := hB4.grown g5 (by intro e; cases e); have y5 := hB5.cell (i := 1) (v := .slice none 0 0) rfl; have y6 := hB5.frozen 1)
      have gs := grown_set w5 ⟨w.heap.size, 1, none⟩ (.slice A5 1 c5)
      have lev6 := lev5.far hB5 (by decide) (by decide) (by decide) gs
      have own6 := own5.far gs (fun k hk => by cases hk; exact hB5.other (by decide) (by decide))
      have hB6 := hB5.set 1 (.slice A5 1 c5)
      have hE6 := ((hE2.trans hEa).then_grown g5 (fun b hb => by cases hb)).set (p := ⟨w.heap.size, 1, none⟩) (Nat.le_refl _) (.slice A5 1 c5)
      clear lev5 own5 g5 hB5 y5 y6 gs hB4 own4 hBa y0 ownB own hB2
      go_loopw [4] (fun v wr => NewI w A c S v wr) (fun v _ => sliceLen v)
      case atStart => exact ⟨0, d, c5, _, A5, by omega, rfl, own6, lev6, hB6, hE6⟩
      case round =>
        clear lev6 own6 hB6 hE6 hEs hB1 hEr hE1 hE2 hEa
        obtain ⟨h, d, c', P, A', hh, rfl, own, lv, hB, hEo⟩ := hrel
        obtain ⟨wo, rfl⟩ : ∃ wo, wo = wr := ⟨_, rfl⟩
        by_cases hlt : h < 4
        · obtain ⟨p1, p2, p3, p4⟩ := pow_step hlt
          have hap := fun (wx : World) (g5 d5 : Nat) (hown : OBD wx w.heap.size (some ⟨g5, 0, none⟩) (16 / 2 ^ h / 2) d5 (upL (lev S h))) => (show OBD wx w.heap.size (some ⟨g5, 0, none⟩) (16 / 2 ^ (h + 1)) d5 (lev S (h + 1)) by rw [p3] at hown; exact hown)
          have Hap := Lib.hid hap
          have HN := Lib.hid p3
          have h5 : 1 < 16 / 2 ^ h := by omega
          have hup : upL (lev S h) = (List.range (16 / 2 ^ h / 2)).map fun i => nodeV (lb (lev S h) (2 * i)) (lb (lev S h) (2 * i + 1)) := by unfold upL; rw [own.len]
          have Hup := Lib.hid hup
          clear hap p3 p4 hup
          generalize lev S h = LV at *
          generalize 16 / 2 ^ h = N at *
          have hN : (1 : Int) < (N : Int) := by omega
          obtain ⟨g, rfl⟩ := own.plain (by omega)
          go_wp2_with fail
          go_loopw [6, 7] (fun v i wi => AboveI wo N LV v i wi) (fun _ i _ => N - (intOf i).toNat)
          case atStart => exact ⟨0, 0, none, by omega, rfl, rfl, OBD.none_ _ _, Ext.refl _⟩
          case round =>
            obtain ⟨k, dk, Pk, hk, rfl, rfl, ownk, hEk⟩ := hrel
            by_cases hlt2 : 2 * k + 1 < N
            · have hki : ((2 * k : Nat) : Int) < (N : Int) := by omega
              obtain ⟨g1, d1, hc1, o1⟩ := (own.ext hEk).cell (j := 2 * k) (by omega)
              obtain ⟨g2, d2, hc2, o2⟩ := (own.ext hEk).cell (j := 2 * k + 1) (by omega)
              have r1 := o1.rb
              have r2 := o2.rb
              have hl1 := r1.len
              have hl2 := r2.len
              have Hl1 := Lib.hid hl1
              have Hl2 := Lib.hid hl2
              clear hl1 hl2 o1 o2
              obtain ⟨X, hX⟩ : ∃ X, X = lb LV (2 * k) := ⟨_, rfl⟩
              obtain ⟨Y, hY⟩ : ∃ Y, Y = lb LV (2 * k + 1) := ⟨_, rfl⟩
              rw [← hX] at r1 Hl1
              rw [← hY] at r2 Hl2
              have HX := Lib.hid hX
              have HY := Lib.hid hY
              clear hX hY
              go_upto_region 13 with (fail)
              refine par_ext (n := 13) (by kernel_rfl) [.is (.slice (Pk) (k) (dk)), .is (.slice (some ⟨g, 0, none⟩) (N) (d)), .is (.int .i64 (((2 * k : Nat) : Int))), .is (.pointer (some ((⟨g, 0, none⟩ : Addr).add ((2 * k))))), .is (.slice (some ⟨g1, 0, none⟩) (32) (d1)), .is (.slice (some ⟨g, 0, none⟩) (N) (d)), .is (.int .i64 (((2 * k : Nat) : Int))), .is (.int .i64 (((2 * k : Nat) : Int) + (1 : Int))), .is (.pointer (some ((⟨g, 0, none⟩ : Addr).add (((2 * k) + 1))))), .is (.slice (some ⟨g2, 0, none⟩) (32) (d2)), .rbb ([X, Y]), .ob32 (wr.heap.size) (nodeV X Y), .one32 (wr.heap.size) (nodeV X Y)] rfl ⟨?_, ?_, ?_, ?_, ?_, ?_, ?_, ?_, ?_, ?_, ?_, ?_, ?_, trivial⟩ ?_
              · refine stepE rfl fun sdn sa sw sE sd sk => ?_
                have h6 : sa.eval (.tmp 6) = .slice (Pk) (k) (dk) := sk.old 6 rfl
                exact Runs.move rfl h6 ⟨Ext.refl _, rfl⟩
              · refine stepE rfl fun sdn sa sw sE sd sk => ?_
                have h4 : sa.eval (.tmp 4) = .slice (some ⟨g, 0, none⟩) (N) (d) := sk.old 4 rfl
                exact Runs.move rfl h4 ⟨Ext.refl _, rfl⟩
              · refine stepE rfl fun sdn sa sw sE sd sk => ?_
                have h7 : sa.eval (.tmp 7) = .int .i64 (((2 * k : Nat) : Int)) := sk.old 7 rfl
                exact Runs.move rfl h7 ⟨Ext.refl _, rfl⟩
              · refine stepE rfl fun sdn sa sw sE sd sk => ?_
                have h41 : sa.eval (.tmp 41) = .slice (some ⟨g, 0, none⟩) (N) (d) := sk.fact 1 41 rfl (sd 1 rfl)
                have h42 : sa.eval (.tmp 42) = .int .i64 (((2 * k : Nat) : Int)) := sk.fact 2 42 rfl (sd 2 rfl)
                exact Runs.idx rfl h41 h42 (run_idx_sl1 Try.underlying50 infZZ_eq infZZ_size ((2 * k)) (by omega) (by omega)) ⟨Ext.refl _, rfl⟩
              · refine stepE rfl fun sdn sa sw sE sd sk => ?_
                have h43 : sa.eval (.tmp 43) = .pointer (some ((⟨g, 0, none⟩ : Addr).add ((2 * k)))) := sk.fact 3 43 rfl (sd 3 rfl)
                exact Runs.load rfl h43 (run_load1 Try.underlying22 rfl (sE.cell hc1)) ⟨Ext.refl _, rfl⟩
              · refine stepE rfl fun sdn sa sw sE sd sk => ?_
                have h4 : sa.eval (.tmp 4) = .slice (some ⟨g, 0, none⟩) (N) (d) := sk.old 4 rfl
                exact Runs.move rfl h4 ⟨Ext.refl _, rfl⟩
              · refine stepE rfl fun sdn sa sw sE sd sk => ?_
                have h7 : sa.eval (.tmp 7) = .int .i64 (((2 * k : Nat) : Int)) := sk.old 7 rfl
                exact Runs.move rfl h7 ⟨Ext.refl _, rfl⟩
              · refine stepE rfl fun sdn sa sw sE sd sk => ?_
                have h46 : sa.eval (.tmp 46) = .int .i64 (((2 * k : Nat) : Int)) := sk.fact 6 46 rfl (sd 6 rfl)
                exact Runs.bin rfl h46 rfl (eqGuard_bin rfl) (bin_add64 _ _ _ (by omega) (by omega)) ⟨Ext.refl _, rfl⟩
              · refine stepE rfl fun sdn sa sw sE sd sk => ?_
                have h45 : sa.eval (.tmp 45) = .slice (some ⟨g, 0, none⟩) (N) (d) := sk.fact 5 45 rfl (sd 5 rfl)
                have h47 : sa.eval (.tmp 47) = .int .i64 (((2 * k : Nat) : Int) + (1 : Int)) := sk.fact 7 47 rfl (sd 7 rfl)
                exact Runs.idx rfl h45 h47 (run_idx_sl1 Try.underlying50 infZZ_eq infZZ_size (((2 * k) + 1)) (by omega) (by omega)) ⟨Ext.refl _, rfl⟩
              · refine stepE rfl fun sdn sa sw sE sd sk => ?_
                have h48 : sa.eval (.tmp 48) = .pointer (some ((⟨g, 0, none⟩ : Addr).add (((2 * k) + 1)))) := sk.fact 8 48 rfl (sd 8 rfl)
                exact Runs.load rfl h48 (run_load1 Try.underlying22 rfl (sE.cell hc2)) ⟨Ext.refl _, rfl⟩
              · refine stepE rfl fun sdn sa sw sE sd sk => ?_
                have h44 : sa.eval (.tmp 44) = .slice (some ⟨g1, 0, none⟩) (32) (d1) := sk.fact 4 44 rfl (sd 4 rfl)
                have h49 : sa.eval (.tmp 49) = .slice (some ⟨g2, 0, none⟩) (32) (d2) := sk.fact 9 49 rfl (sd 9 rfl)
                exact Runs.ss2 rfl h44 h49 (r1.ext sE) (r2.ext sE) (fun w1 e1 b1 => ⟨e1, _, _, _, rfl, b1⟩)
              · refine stepE rfl fun sdn sa sw sE sd sk => ?_
                obtain ⟨A50, n50, c50, h50, r50⟩ := sk.fact 10 50 rfl (sd 10 rfl)
                refine Runs.call (f := 67) (vs := [.int .u8 (u8i (14 : UInt8)), .slice (A50) (n50) (c50)]) rfl rfl rfl (by simp only [List.map_toArray, List.map_cons, List.map_nil, h50] <;> rfl) (ent67 _ _) ((rtagged_any (14 : UInt8) _ _ _ _ sw r50 (by simp only [List.flatten_cons, List.flatten_nil, List.length_append, List.length_nil, Hl1.out, Hl2.out]; omega)).mono ?_); rintro e w' ⟨A', c', rfl, own, hx⟩; obtain ⟨ad', rfl, _⟩ := own.rb.cells (by omega); obtain ⟨g', rfl⟩ := own.plain; exact ⟨_, rfl, hx, g', c', rfl, (show OB w' sw.heap.size _ 32 c' (nodeV X Y) by simpa [nodeV] using own).base sE.size⟩
              · refine stepE rfl fun sdn sa sw sE sd sk => ?_
                obtain ⟨g51, d51, h51, o51⟩ := sk.fact 11 51 rfl (sd 11 rfl)
                exact Runs.one1 rfl h51 (fun w1 e1 b1 => ⟨e1, _, _, _, rfl, b1, o51.ext e1⟩)
              intro vals W1 hE hv
              have e0 : vals 0 = .slice (Pk) (k) (dk) := hv 0 (by omega) 40 rfl
              have e1 : vals 1 = .slice (some ⟨g, 0, none⟩) (N) (d) := hv 1 (by omega) 41 rfl
              have e2 : vals 2 = .int .i64 (((2 * k : Nat) : Int)) := hv 2 (by omega) 42 rfl
              have e3 : vals 3 = .pointer (some ((⟨g, 0, none⟩ : Addr).add ((2 * k)))) := hv 3 (by omega) 43 rfl
              have e4 : vals 4 = .slice (some ⟨g1, 0, none⟩) (32) (d1) := hv 4 (by omega) 44 rfl
              have e5 : vals 5 = .slice (some ⟨g, 0, none⟩) (N) (d) := hv 5 (by omega) 45 rfl
              have e6 : vals 6 = .int .i64 (((2 * k : Nat) : Int)) := hv 6 (by omega) 46 rfl
              have e7 : vals 7 = .int .i64 (((2 * k : Nat) : Int) + (1 : Int)) := hv 7 (by omega) 47 rfl
              have e8 : vals 8 = .pointer (some ((⟨g, 0, none⟩ : Addr).add (((2 * k) + 1)))) := hv 8 (by omega) 48 rfl
              have e9 : vals 9 = .slice (some ⟨g2, 0, none⟩) (32) (d2) := hv 9 (by omega) 49 rfl
              obtain ⟨A50, n50, c50, e10, r50⟩ := hv 10 (by omega) 50 rfl
              obtain ⟨g51, d51, e11, o51⟩ := hv 11 (by omega) 51 rfl
              obtain ⟨x52, g52, d52, e12, hc52, o52⟩ := hv 12 (by omega) 52 rfl
              simp only [putAll, Act.put, List.take_succ_cons, List.take_zero, List.drop_succ_cons, List.drop_zero, List.drop_nil, List.take_nil, Nat.reduceAdd, List.setIfInBounds_toArray, List.set_cons_succ, List.set_cons_zero, e0, e1, e2, e3, e4, e5, e6, e7, e8, e9, e10, e11, e12]
              clear hv e0 e1 e2 e3 e4 e5 e6 e7 e8 e9 e10 e11 e12
              have ownW := ownk.ext hE
              have hEw := hEk.trans hE
              have hne : some g52 ≠ blk Pk := by
                intro e
                have h1 := o52.ge
                have h2 := ownk.lt e.symm
                omega
              have oV := o52.base hEk.size
              go_wp2_with (refine appbd_law (base := wo.heap.size) (Y := nodeV X Y) rfl rfl rfl rfl hc52 ownW oV hne hEw.size (by omega) ?_; intro P5 d5 w5 own5 g5)
              go_roundw
              case rel =>
                refine ⟨k + 1, d5, P5, by omega, by go_num, rfl, ?_, hEw.then_grown g5 (fun b hb => (ownW.lt hb).1)⟩
                rw [range_snoc, ← HX.out, ← HY.out]
                exact own5
              case measure => simp [intOf]; omega
            · obtain rfl : k = N / 2 := by omega
              have hki : ¬ (((2 * (N / 2) : Nat) : Int) < (N : Int)) := by omega
              rw [← Hup.out] at ownk
              obtain ⟨gk, rfl⟩ := ownk.plain (by omega)
              have ownB := Hap.out _ _ _ (ownk.base hEo.size)
              have levk := lv.ext hEk
              have hBk := hB.ext hEk
              have hEok := hEo.trans hEk
              have y0 : wr.cell? ⟨w.heap.size, 1, none⟩ = some (.slice A' (h + 1) c') := hBk.cell (i := 1) rfl
              have hEa := Ext.new wr (.cells #[.slice (some ⟨gk, 0, none⟩) (N / 2) dk] 50)
              have hBa := Blk.new wr 50 #[.slice (some ⟨gk, 0, none⟩) (N / 2) dk]
              have hca := hBa.cell (i := 0) rfl
              have hca2 : (wr.alloc (.cells #[.slice (some ⟨gk, 0, none⟩) (N / 2) dk] 50)).cell? ((⟨wr.heap.size, 0, none⟩ : Addr).add 0) = some (.slice (some ⟨gk, 0, none⟩) (16 / 2 ^ (h + 1)) dk) := by rw [add_plain, ← HN.out]; exact hca
              have own4 := ownB.ext hEa
              have lev4 := levk.ext hEa
              have hB4 := hBk.ext hEa
              have hE4 := hEok.trans hEa
              have hne8 : some w.heap.size ≠ blk A' := by
                intro e
                obtain ⟨cs, t, fr, h1, h2, h3⟩ := lev4.other e.symm
                obtain ⟨vs, h4, _⟩ := lev4
                obtain ⟨cs', h5⟩ := row_type h4 (k := w.heap.size) (by rw [ownBlock_slice]; exact e.symm)
                rw [show _ = _ from hB4] at h5
                injection h5 with h5
                injection h5 with _ h5
                revert h5
                decide
              clear hB lv ownk levk hBk hEok ownB hBa hca own
              go_wp2_with (refine appl_law (b := w.heap.size) (n := h + 1) (g := gk) (d := dk) (S := S) rfl rfl rfl rfl hca2 lev4 own4 hE4.size (by omega) ?_; intro A5 c5 w5 lev5 own5 g5; have hB5 := hB4.grown g5 hne8; have y5 := hB5.cell (i := 1) (v := .slice A' (h + 1) c') rfl; have y6 := hB5.frozen 1)
              have gs := grown_set w5 ⟨w.heap.size, 1, none⟩ (.slice A5 (h + 1 + 1) c5)
              have lev6 := lev5.far hB5 (by decide) (by decide) (by decide) gs
              have own6 := own5.far gs (fun k hk => by cases hk; exact hB5.other (by decide) (by decide))
              have hB6 := hB5.set 1 (.slice A5 (h + 1 + 1) c5)
              have hE6 := (hE4.then_grown g5 (fun b hb => (lev4.lt hb).1)).set (p := ⟨w.heap.size, 1, none⟩) (Nat.le_refl _) (.slice A5 (h + 1 + 1) c5)
              clear lev5 own5 g5 hB5 y5 y6 gs hB4 own4 y0
              go_roundw
              case rel => exact ⟨h + 1, dk, c5, _, A5, by omega, by rw [HN.out], own6, lev6, hB6, hE6⟩
              case measure => simp [sliceLen]; omega
        · obtain rfl : h = 4 := by omega
          have e4 : (Value.slice P (16 / 2 ^ 4) d) = .slice P 1 d := rfl
          rw [e4]
          clear e4
          go_wp2_with fail
          go_ret
          exact ⟨w.heap.size, rfl, ⟨A, c, A', c', hr.ext hEo, hB, lv⟩, hEo⟩
end Go.Proofs.Ytmgnigofilkfmab
namespace Go.Proofs.Ytmgnigofilkfmab
set_option maxRecDepth 100000
open Go Go.RowKit
noncomputable def infYY : TypeInfo := (Try.prog.info? 50).getD default
theorem infYY_eq : Try.prog.info? 50 = some infYY := by kernel_rfl
theorem infYY_size : infYY.size = 1 := by kernel_rfl
theorem bin_shrI {P : Program} {w : World} (t : TypeId) {kk : IntKind} (k h : Nat) (hh : h ≤ 60) : (binOp .shr t (.int .i64 (k : Int)) (.int kk (h : Int))).run P w = .ok (.int .i64 ((k / 2 ^ h : Nat) : Int)) w := by
  have h1 : ¬ ((h : Int) < 0) := by omega
  have h2 : min (h : Int).toNat IntKind.i64.bits = h := by simp [IntKind.bits]; omega
  have e : ((k : Int)).fdiv (2 ^ h) = ((k / 2 ^ h : Nat) : Int) := by
    rw [Int.fdiv_eq_ediv_of_nonneg _ (Int.pow_nonneg (by decide))]
    simp
  simp only [binOp, Op.shift, if_neg h1, h2, e, Sem.run_pure]
theorem bin_and1 {P : Program} {w : World} (t : TypeId) (q : Nat) (hq : q < 16) : (binOp .and t (.int .i64 (q : Int)) (.int .i64 1)).run P w = .ok (.int .i64 ((q % 2 : Nat) : Int)) w := by
  have h : q = 0 ∨ q = 1 ∨ q = 2 ∨ q = 3 ∨ q = 4 ∨ q = 5 ∨ q = 6 ∨ q = 7 ∨ q = 8 ∨ q = 9 ∨ q = 10 ∨ q = 11 ∨ q = 12 ∨ q = 13 ∨ q = 14 ∨ q = 15 := by omega
  rcases h with rfl | rfl | rfl | rfl | rfl | rfl | rfl | rfl | rfl | rfl | rfl | rfl | rfl | rfl | rfl | rfl
  all_goals rfl
set_option maxHeartbeats 2000000 in
theorem rpublic_any (g b : Nat) (S : List UInt8) (w : World) (h : OwnR w b g S) :
    Calls Try.prog 37 #[.pointer (some ⟨g, 0, none⟩)] w fun e w' => ∃ A' c', e = .returned (.slice A' 32 c') ∧ RB w' A' 32 c' (ownP S) ∧ Ext w w' := by
  obtain ⟨A, c, LA, lc, h1, h2, h3⟩ := h
  obtain ⟨gl, rfl⟩ := h3.plain (by omega)
  obtain ⟨g4, d4, hc4, o4⟩ := h3.cell (j := 4) (by omega)
  have e4 : (Value.slice (some (⟨g4, 0, none⟩ : Addr)) (16 / 2 ^ 4) d4) = .slice (some ⟨g4, 0, none⟩) 1 d4 := rfl
  rw [e4, add_plain] at hc4
  have o4' : OBD w b (some ⟨g4, 0, none⟩) 1 d4 (lev S 4) := o4
  obtain ⟨g5, d5, hc5, o5⟩ := o4'.cell (j := 0) (by omega)
  rw [add_plain] at hc5
  have y1 : w.cell? ⟨g, 1, none⟩ = some (.slice (some ⟨gl, 0, none⟩) 5 lc) := h2.cell (i := 1) rfl
  clear e4 o4 h1
  go_enter Try.func37, Try.ntmps37
  go_wp2_with fail
  go_ret
  exact ⟨_, d5, rfl, o5.rb, Ext.refl _⟩
def RSignI (w1 : World) (S : List UInt8) (k dp : Nat) (Pp : Option Addr) (i : Value) (wr : World) : Prop :=
  ∃ (h dq : Nat) (Q : Option Addr), h ≤ 4 ∧ i = .int .i64 h ∧ OBC wr w1.heap.size Q h dq ((List.range h).map (pathB S k)) ∧ Blk wr w1.heap.size 52 #[.int .i64 (k : Int), .slice Pp 64 dp, .slice Q h dq] ∧ Ext w1 wr
theorem OBC.base {w : World} {base base' n c : Nat} {A : Option Addr} {Ls : List (List UInt8)} (h : OBC w base A n c Ls) (hb : base' ≤ base) : OBC w base' A n c Ls := by
  obtain ⟨vs, h1, h2⟩ := h
  exact ⟨vs, ownsRow_base h1 hb, h2⟩
theorem OwnR.far {w w' : World} {b g : Nat} {S : List UInt8} (h : OwnR w b g S) {k : Nat} {cs : Array Value} (hb : Blk w k 52 cs) (hno : ∀ (i : Nat) (x : Int), cs[i]? ≠ some (.int .u8 x)) (e : w.grownBy w' (some k)) : OwnR w' b g S := by
  obtain ⟨A, c, LA, lc, h1, h2, h3⟩ := h
  refine ⟨A, c, LA, lc, h1.grown e (h1.apart5 hb hno), h2.grown e (fun e' => ?_), h3.far hb (by decide) (by decide) (by decide) e⟩
  injection e' with e'
  subst e'
  unfold Blk at h2 hb
  rw [h2] at hb
  injection hb with hb
  injection hb with _ hb
  revert hb
  decide
set_option maxHeartbeats 4000000 in
theorem rsign_own (B : Option Addr) (g b m e' k : Nat) (S M : List UInt8) (w : World) (ho : OwnR w b g S) (hm : RB w B m e' M) (hmn : m ≤ 140737488355000) (hk : k < 16) :
    Calls Try.prog 36 #[.pointer (some ⟨g, 0, none⟩), .int .i64 (k : Int), .slice B m e'] w fun e w' => ∃ P d Q d', e = .returned (.agg #[.int .i64 (k : Int), .slice P 64 d, .slice Q 4 d']) ∧ OBC w' w.heap.size P 64 d ((List.range 64).map (partS (digestW M) S k)) ∧ OBC w' w.heap.size Q 4 d' (pathL S k) ∧ Ext w w' := by
  have hki : (k : Int) < 16 := by omega
  obtain ⟨A, c, LA, lc, h1, h2, h3⟩ := ho
  obtain ⟨gl, rfl⟩ := h3.plain (by omega)
  go_enter Try.func36, Try.ntmps36
  have hE0 := Ext.new w (.cells #[.int .i64 0, .slice none 0 0, .slice none 0 0] 52)
  have hB6 := Blk.new w 52 #[.int .i64 0, .slice none 0 0, .slice none 0 0]
  have y0 := (h2.ext hE0).cell (i := 0) rfl
  go_wp2_with fail
  refine (r4sign_any A B 32 c m e' S M k _ (h1.ext hE0) (by omega) (hm.ext hE0) hmn).mono ?_
  rintro e w1 ⟨P1, d1, rfl, own1, hE1⟩
  have hB6 := hB6.ext hE1
  have hE01 := hE0.trans hE1
  have h2 := h2.ext hE01
  have h3 := h3.ext hE01
  have hlt6 := hB6.lt
  clear hE1 hm y0 hE0 h1
  have hE2 := Ext.new w1 (.cells #[.int .i64 (k : Int), .slice P1 64 d1, .slice none 0 0] 52)
  have hB8 := Blk.new w1 52 #[.int .i64 (k : Int), .slice P1 64 d1, .slice none 0 0]
  go_wp2_with fail
  go_loopw [8] (fun i wr => RSignI w1 S k d1 P1 i wr) (fun i _ => 4 - (intOf i).toNat)
  case atStart => exact ⟨0, 0, none, by omega, rfl, OBC.none_ _ _, hB8, hE2⟩
  case round =>
    clear hB8 hE2
    obtain ⟨h, dq, Q, hh, rfl, ownQ, hB8, hEr⟩ := hrel
    have hlt8 := hB8.lt
    by_cases hlt : h < 4
    · have hhi : (h : Int) < 4 := by omega
      obtain ⟨s1, s2, s3⟩ := step_lt hk hlt
      have hq16 : k / 2 ^ h < 16 := Nat.lt_of_le_of_lt (Nat.div_le_self _ _) hk
      have hpB : pathB S k h = lb (lev S h) (k / 2 ^ h + 1 - 2 * (k / 2 ^ h % 2)) := rfl
      have hsn := range_snoc (pathB S k) h
      rw [hpB] at hsn
      have Hsn := Lib.hid hsn
      obtain ⟨gP, dP, hcP, oP⟩ := (h3.ext hEr).cell (j := h) (by omega)
      obtain ⟨g1, d9, hc1, o1⟩ := oP.cell (j := k / 2 ^ h + 1 - 2 * (k / 2 ^ h % 2)) s1
      have r1 := o1.rb
      obtain ⟨Y, hY⟩ : ∃ Y, Y = lb (lev S h) (k / 2 ^ h + 1 - 2 * (k / 2 ^ h % 2)) := ⟨_, rfl⟩
      rw [← hY] at r1 o1 Hsn
      obtain ⟨q, hq⟩ : ∃ q, q = k / 2 ^ h := ⟨_, rfl⟩
      rw [← hq] at hc1 s1 hq16
      have Hq := Lib.hid hq
      obtain ⟨N, hN⟩ : ∃ N, N = 16 / 2 ^ h := ⟨_, rfl⟩
      rw [← hN] at hcP s1
      clear hY hsn hpB s2 s3 hq hN oP
      have y1 : wr.cell? ⟨w1.heap.size, 2, none⟩ = some (.slice Q h dq) := hB8.cell (i := 2) rfl
      have y2 : wr.cell? ⟨g, 1, none⟩ = some (.slice (some ⟨gl, 0, none⟩) 5 lc) := (h2.ext hEr).cell (i := 1) rfl
      go_upto_region 5 with (fail)
      refine par_ext (n := 17) (by kernel_rfl) [.is (.pointer (some ⟨w1.heap.size, 2, none⟩)), .is (.slice (Q) (h) (dq)), .is (.pointer (some ⟨g, 0, none⟩)), .is (.pointer (some ⟨g, 0, none⟩)), .is (.pointer (some ⟨g, 1, none⟩)), .is (.slice (some ⟨gl, 0, none⟩) (5) (lc)), .is (.int .i64 (((h : Nat) : Int))), .is (.pointer (some ((⟨gl, 0, none⟩ : Addr).add (h)))), .is (.slice (some ⟨gP, 0, none⟩) (N) (dP)), .is (.int .i64 (((k : Nat) : Int))), .is (.int .i64 (((h : Nat) : Int))), .is (.int .u64 ((h : Nat) : Int)), .is (.int .i64 (((q : Nat) : Int))), .is (.int .i64 (((q + 1 - 2 * (q % 2) : Nat) : Int))), .is (.pointer (some ((⟨gP, 0, none⟩ : Addr).add ((q + 1 - 2 * (q % 2)))))), .is (.slice (some ⟨g1, 0, none⟩) (32) (d9)), .one1 (.slice (some ⟨g1, 0, none⟩) (32) (d9))] rfl ⟨?_, ?_, ?_, ?_, ?_, ?_, ?_, ?_, ?_, ?_, ?_, ?_, ?_, ?_, ?_, ?_, ?_, trivial⟩ ?_
      · refine stepE rfl fun sdn sa sw sE sd sk => ?_
        have h7 : sa.eval (.tmp 7) = .pointer (some ⟨w1.heap.size, 0, none⟩) := sk.old 7 rfl
        refine Runs.of_run (r := .pointer (some ⟨w1.heap.size, 2, none⟩)) (w' := sw) ?_ ⟨Ext.refl _, rfl⟩
        unfold execOp
        simp only [h7]
        go_simp
      · refine stepE rfl fun sdn sa sw sE sd sk => ?_
        have h22 : sa.eval (.tmp 22) = .pointer (some ⟨w1.heap.size, 2, none⟩) := sk.fact 0 22 rfl (sd 0 rfl)
        exact Runs.load rfl h22 (run_load1 Try.underlying50 rfl (sE.cell y1)) ⟨Ext.refl _, rfl⟩
      · refine stepE rfl fun sdn sa sw sE sd sk => ?_
        have h0 : sa.eval (.tmp 0) = .pointer (some ⟨g, 0, none⟩) := sk.old 0 rfl
        exact Runs.move rfl h0 ⟨Ext.refl _, rfl⟩
      · refine stepE rfl fun sdn sa sw sE sd sk => ?_
        have h24 : sa.eval (.tmp 24) = .pointer (some ⟨g, 0, none⟩) := sk.fact 2 24 rfl (sd 2 rfl)
        exact Runs.nil_ rfl h24 ⟨Ext.refl _, rfl⟩
      · refine stepE rfl fun sdn sa sw sE sd sk => ?_
        have h25 : sa.eval (.tmp 25) = .pointer (some ⟨g, 0, none⟩) := sk.fact 3 25 rfl (sd 3 rfl)
        refine Runs.of_run (r := .pointer (some ⟨g, 1, none⟩)) (w' := sw) ?_ ⟨Ext.refl _, rfl⟩
        unfold execOp
        simp only [h25]
        go_simp
      · refine stepE rfl fun sdn sa sw sE sd sk => ?_
        have h26 : sa.eval (.tmp 26) = .pointer (some ⟨g, 1, none⟩) := sk.fact 4 26 rfl (sd 4 rfl)
        exact Runs.load rfl h26 (run_load1 Try.underlying65 rfl (sE.cell y2)) ⟨Ext.refl _, rfl⟩
      · refine stepE rfl fun sdn sa sw sE sd sk => ?_
        have h8 : sa.eval (.tmp 8) = .int .i64 (((h : Nat) : Int)) := sk.old 8 rfl
        exact Runs.move rfl h8 ⟨Ext.refl _, rfl⟩
      · refine stepE rfl fun sdn sa sw sE sd sk => ?_
        have h27 : sa.eval (.tmp 27) = .slice (some ⟨gl, 0, none⟩) (5) (lc) := sk.fact 5 27 rfl (sd 5 rfl)
        have h28 : sa.eval (.tmp 28) = .int .i64 (((h : Nat) : Int)) := sk.fact 6 28 rfl (sd 6 rfl)
        exact Runs.idx rfl h27 h28 (run_idx_sl1 Try.underlying65 infYY_eq infYY_size (h) (by omega) (by omega)) ⟨Ext.refl _, rfl⟩
      · refine stepE rfl fun sdn sa sw sE sd sk => ?_
        have h29 : sa.eval (.tmp 29) = .pointer (some ((⟨gl, 0, none⟩ : Addr).add (h))) := sk.fact 7 29 rfl (sd 7 rfl)
        exact Runs.load rfl h29 (run_load1 Try.underlying50 rfl (sE.cell hcP)) ⟨Ext.refl _, rfl⟩
      · refine stepE rfl fun sdn sa sw sE sd sk => ?_
        have h1 : sa.eval (.tmp 1) = .int .i64 (((k : Nat) : Int)) := sk.old 1 rfl
        exact Runs.move rfl h1 ⟨Ext.refl _, rfl⟩
      · refine stepE rfl fun sdn sa sw sE sd sk => ?_
        have h8 : sa.eval (.tmp 8) = .int .i64 (((h : Nat) : Int)) := sk.old 8 rfl
        exact Runs.move rfl h8 ⟨Ext.refl _, rfl⟩
      · refine stepE rfl fun sdn sa sw sE sd sk => ?_
        have h32 : sa.eval (.tmp 32) = .int .i64 (((h : Nat) : Int)) := sk.fact 10 32 rfl (sd 10 rfl)
        exact Runs.conv rfl h32 (conv_i64_u64 Try.underlying3 Try.underlying93 _ h rfl (by omega)) ⟨Ext.refl _, rfl⟩
      · refine stepE rfl fun sdn sa sw sE sd sk => ?_
        have h31 : sa.eval (.tmp 31) = .int .i64 (((k : Nat) : Int)) := sk.fact 9 31 rfl (sd 9 rfl)
        have h33 : sa.eval (.tmp 33) = .int .u64 ((h : Nat) : Int) := sk.fact 11 33 rfl (sd 11 rfl)
        exact Runs.bin rfl h31 h33 (eqGuard_bin rfl) (bin_shrI _ k h (by omega)) ⟨Ext.refl _, congrArg (fun z : Nat => Value.int .i64 (z : Int)) Hq.out.symm⟩
      · refine stepE rfl fun sdn sa sw sE sd sk => ?_
        have h34 : sa.eval (.tmp 34) = .int .i64 (((q : Nat) : Int)) := sk.fact 12 34 rfl (sd 12 rfl)
        exact Runs.bin rfl h34 rfl (eqGuard_bin rfl) (bin_xor1 _ q hq16) ⟨Ext.refl _, rfl⟩
      · refine stepE rfl fun sdn sa sw sE sd sk => ?_
        have h30 : sa.eval (.tmp 30) = .slice (some ⟨gP, 0, none⟩) (N) (dP) := sk.fact 8 30 rfl (sd 8 rfl)
        have h35 : sa.eval (.tmp 35) = .int .i64 (((q + 1 - 2 * (q % 2) : Nat) : Int)) := sk.fact 13 35 rfl (sd 13 rfl)
        exact Runs.idx rfl h30 h35 (run_idx_sl1 Try.underlying50 infZZ_eq infZZ_size ((q + 1 - 2 * (q % 2))) (by omega) (by omega)) ⟨Ext.refl _, rfl⟩
      · refine stepE rfl fun sdn sa sw sE sd sk => ?_
        have h36 : sa.eval (.tmp 36) = .pointer (some ((⟨gP, 0, none⟩ : Addr).add ((q + 1 - 2 * (q % 2))))) := sk.fact 14 36 rfl (sd 14 rfl)
        exact Runs.load rfl h36 (run_load1 Try.underlying22 rfl (sE.cell hc1)) ⟨Ext.refl _, rfl⟩
      · refine stepE rfl fun sdn sa sw sE sd sk => ?_
        have h37 : sa.eval (.tmp 37) = .slice (some ⟨g1, 0, none⟩) (32) (d9) := sk.fact 15 37 rfl (sd 15 rfl)
        exact Runs.one1 rfl h37 (fun w1 e1 b1 => ⟨e1, _, rfl, b1⟩)
      intro vals W1 hE hv
      have e0 : vals 0 = .pointer (some ⟨w1.heap.size, 2, none⟩) := hv 0 (by omega) 22 rfl
      have e1 : vals 1 = .slice (Q) (h) (dq) := hv 1 (by omega) 23 rfl
      have e2 : vals 2 = .pointer (some ⟨g, 0, none⟩) := hv 2 (by omega) 24 rfl
      have e3 : vals 3 = .pointer (some ⟨g, 0, none⟩) := hv 3 (by omega) 25 rfl
      have e4 : vals 4 = .pointer (some ⟨g, 1, none⟩) := hv 4 (by omega) 26 rfl
      have e5 : vals 5 = .slice (some ⟨gl, 0, none⟩) (5) (lc) := hv 5 (by omega) 27 rfl
      have e6 : vals 6 = .int .i64 (((h : Nat) : Int)) := hv 6 (by omega) 28 rfl
      have e7 : vals 7 = .pointer (some ((⟨gl, 0, none⟩ : Addr).add (h))) := hv 7 (by omega) 29 rfl
      have e8 : vals 8 = .slice (some ⟨gP, 0, none⟩) (N) (dP) := hv 8 (by omega) 30 rfl
      have e9 : vals 9 = .int .i64 (((k : Nat) : Int)) := hv 9 (by omega) 31 rfl
      have e10 : vals 10 = .int .i64 (((h : Nat) : Int)) := hv 10 (by omega) 32 rfl
      have e11 : vals 11 = .int .u64 ((h : Nat) : Int) := hv 11 (by omega) 33 rfl
      have e12 : vals 12 = .int .i64 (((q : Nat) : Int)) := hv 12 (by omega) 34 rfl
      have e13 : vals 13 = .int .i64 (((q + 1 - 2 * (q % 2) : Nat) : Int)) := hv 13 (by omega) 35 rfl
      have e14 : vals 14 = .pointer (some ((⟨gP, 0, none⟩ : Addr).add ((q + 1 - 2 * (q % 2))))) := hv 14 (by omega) 36 rfl
      have e15 : vals 15 = .slice (some ⟨g1, 0, none⟩) (32) (d9) := hv 15 (by omega) 37 rfl
      obtain ⟨x38, e16, hc38⟩ := hv 16 (by omega) 38 rfl
      simp only [putAll, Act.put, List.take_succ_cons, List.take_zero, List.drop_succ_cons, List.drop_zero, List.drop_nil, List.take_nil, Nat.reduceAdd, List.setIfInBounds_toArray, List.set_cons_succ, List.set_cons_zero, e0, e1, e2, e3, e4, e5, e6, e7, e8, e9, e10, e11, e12, e13, e14, e15, e16]
      clear hv e0 e1 e2 e3 e4 e5 e6 e7 e8 e9 e10 e11 e12 e13 e14 e15 e16
      have ownQ1 := ownQ.ext hE
      have hB81 := hB8.ext hE
      have hEw := hEr.trans hE
      have hne : 0 < 32 → blk (some ⟨g1, 0, none⟩) ≠ blk Q := by
        intro _ e
        obtain ⟨vs, r1', _⟩ := ownQ
        obtain ⟨cs, hcs⟩ := row_type o1 (k := g1) (by rw [ownBlock_slice]; rfl)
        exact row_ne r1' hcs (by decide) (by rw [ownBlock_slice]; exact e.symm)
      have hne8 : some w1.heap.size ≠ blk Q := by
        intro e
        obtain ⟨vs, r1', _⟩ := ownQ
        exact row_ne r1' hB8 (by decide) (by rw [ownBlock_slice]; exact e.symm)
      go_wp2_with (refine appbc_law (base := w1.heap.size) (Y := Y) rfl rfl rfl rfl hc38 ownQ1 (r1.ext hE) hne hEw.size (by omega) ?_; intro Q5 d5 w5 ownQ5 g5; have hB85 := hB81.grown g5 hne8; have y5 := hB85.cell (i := 2) (v := .slice Q h dq) rfl; have y6 := hB85.frozen 2)
      have gs := grown_set w5 ⟨w1.heap.size, 2, none⟩ (.slice Q5 (h + 1) d5)
      have ownQ6 := ownQ5.far hB85 (by decide) (sig_no _ _ _ _ _ _ _) gs
      have hB86 := hB85.set 2 (.slice Q5 (h + 1) d5)
      have hE6 := (hEw.then_grown g5 (fun b hb => (ownQ1.lt hb).1)).set (p := ⟨w1.heap.size, 2, none⟩) (Nat.le_refl _) (.slice Q5 (h + 1) d5)
      clear hB81 hEw ownQ1 ownQ5 g5 hB85 y5 y6 gs y1 y2 hcP hc1 o1 r1
      go_roundw
      case rel => exact ⟨h + 1, d5, Q5, by omega, by go_num, by rw [Hsn.out]; exact ownQ6, hB86, hE6⟩
      case measure => simp [intOf]; omega
    · obtain rfl : h = 4 := by omega
      have z0 : wr.cell? ⟨w1.heap.size, 0, none⟩ = some (.int .i64 (k : Int)) := hB8.cell (i := 0) rfl
      have z1 : wr.cell? ⟨w1.heap.size, 1, none⟩ = some (.slice P1 64 d1) := hB8.cell (i := 1) rfl
      have z2 : wr.cell? ⟨w1.heap.size, 2, none⟩ = some (.slice Q 4 dq) := hB8.cell (i := 2) rfl
      have hB6r := hB6.ext hEr
      have f0 := hB6r.frozen 0
      have f1 := hB6r.frozen 1
      have f2 := hB6r.frozen 2
      have x0 := hB6r.cell (i := 0) rfl
      have x1 := hB6r.cell (i := 1) rfl
      have x2 := hB6r.cell (i := 2) rfl
      go_wp2_with fail
      have g1 := fun (w' : World) (u : Value) (i : Nat) => grown_set w' ⟨w.heap.size, i, none⟩ u
      have b1 := hB6r.set 0 (.int .i64 (k : Int))
      have b2 := b1.set 1 (.slice P1 64 d1)
      have b3 := b2.set 2 (.slice Q 4 dq)
      have oP := own1.ext hEr
      have oP3 := ((oP.far hB6r (by decide) (sig_no _ _ _ _ _ _ _) (g1 _ (.int .i64 (k : Int)) 0)).far b1 (by decide) (sig_no _ _ _ _ _ _ _) (g1 _ (.slice P1 64 d1) 1)).far b2 (by decide) (sig_no _ _ _ _ _ _ _) (g1 _ (.slice Q 4 dq) 2)
      have oQ3 := ((ownQ.far hB6r (by decide) (sig_no _ _ _ _ _ _ _) (g1 _ (.int .i64 (k : Int)) 0)).far b1 (by decide) (sig_no _ _ _ _ _ _ _) (g1 _ (.slice P1 64 d1) 1)).far b2 (by decide) (sig_no _ _ _ _ _ _ _) (g1 _ (.slice Q 4 dq) 2)
      have hEf := (((hE01.trans hEr).set (p := ⟨w.heap.size, 0, none⟩) (Nat.le_refl _) (.int .i64 (k : Int))).set (p := ⟨w.heap.size, 1, none⟩) (Nat.le_refl _) (.slice P1 64 d1)).set (p := ⟨w.heap.size, 2, none⟩) (Nat.le_refl _) (.slice Q 4 dq)
      clear oP ownQ hEr hB8 hB6 hB6r z0 z1 z2 x0 x1 x2 f0 f1 f2
      refine bodyPost_ret (results_cell_row rfl _ _ w.heap.size _ _ _ _ rfl b3 Try.underlying52 rfl rfl) rfl ?_
      exact ⟨P1, d1, Q, dq, rfl, oP3.base (by rw [World.size_alloc]; omega), oQ3.base hE01.size, hEf⟩
theorem rsign_any (B : Option Addr) (g b m e' k : Nat) (S M : List UInt8) (w : World) (ho : OwnR w b g S) (hm : RB w B m e' M) (hmn : m ≤ 140737488355000) (hk : k < 16) :
    Calls Try.prog 36 #[.pointer (some ⟨g, 0, none⟩), .int .i64 (k : Int), .slice B m e'] w fun e w' => ∃ P d Q d', e = .returned (.agg #[.int .i64 (k : Int), .slice P 64 d, .slice Q 4 d']) ∧ RBB w' P 64 d ((List.range 64).map (partS (digestW M) S k)) ∧ RBB w' Q 4 d' (pathL S k) ∧ Ext w w' := by
  refine (rsign_own B g b m e' k S M w ho hm hmn hk).mono ?_
  rintro e w' ⟨P, d, Q, d', h1, h2, h3, h4⟩
  exact ⟨P, d, Q, d', h1, h2.rbb, h3.rbb, h4⟩
end Go.Proofs.Ytmgnigofilkfmab
namespace Go.Proofs.Ytmgnigofilkfmab
set_option maxRecDepth 100000
open Go Go.RowKit
theorem right_yes {x : Int} {Ps Qs : List (List UInt8)} (h0 : 0 ≤ x) (h1 : x < 16) (h2 : Ps.length = 64) (h3 : Qs.length = 4) (h4 : all32 Ps) (h5 : all32 Qs) : rightB x Ps Qs = true := by
  unfold rightB hashB
  simp [h0, h1, h2, h3, h4, h5]
theorem right_no {x : Int} {Ps Qs : List (List UInt8)} (h : ¬ (0 ≤ x ∧ x < 16 ∧ Ps.length = 64 ∧ Qs.length = 4 ∧ all32 Ps ∧ all32 Qs)) : rightB x Ps Qs = false := by
  cases hr : rightB x Ps Qs with
  | false => rfl
  | true =>
    exfalso
    apply h
    unfold rightB hashB at hr
    simp only [Bool.and_eq_true, decide_eq_true_eq] at hr
    exact ⟨hr.1.1.1, hr.1.1.2, hr.1.2.1, hr.2.1, hr.1.2.2, hr.2.2⟩
def TwoI (w : World) (Ps Qs : List (List UInt8)) (i : Value) (wr : World) : Prop :=
  ∃ j : Nat, j ≤ 2 ∧ i = .int .i64 j ∧ (0 < j → all32 Ps) ∧ (1 < j → all32 Qs) ∧ wr = w
set_option maxHeartbeats 4000000 in
theorem rright_any (x : Int) (P Q : Option Addr) (np cp nq cq : Nat) (Ps Qs : List (List UInt8)) (w : World) (hp : RBB w P np cp Ps) (hq : RBB w Q nq cq Qs) :
    Calls Try.prog 77 #[.agg #[.int .i64 x, .slice P np cp, .slice Q nq cq]] w fun e w' => e = .returned (.bool (rightB x Ps Qs)) ∧ Ext w w' := by
  have hE1 := Ext.new w (.cells #[.int .i64 x, .slice P np cp, .slice Q nq cq] 52)
  have Hpl := Lib.hid hp.len
  have Hql := Lib.hid hq.len
  go_enter Try.func77, Try.ntmps77
  by_cases h0 : x < 0
  · have Hv := Lib.hid (right_no (x := x) (Ps := Ps) (Qs := Qs) (fun h => by omega))
    go_wp2_with fail
    go_ret
    exact ⟨by rw [Hv.out]; rfl, hE1⟩
  by_cases h1 : 16 ≤ x
  · have Hv := Lib.hid (right_no (x := x) (Ps := Ps) (Qs := Qs) (fun h => by omega))
    go_wp2_with fail
    go_ret
    exact ⟨by rw [Hv.out]; rfl, hE1⟩
  by_cases h2 : np = 64
  rotate_left
  · have Hv := Lib.hid (right_no (x := x) (Ps := Ps) (Qs := Qs) (fun h => h2 (Hpl.out.symm.trans h.2.2.1)))
    have hn : ¬ ((np : Int) = 64) := by omega
    go_wp2_with fail
    go_ret
    exact ⟨by rw [Hv.out]; rfl, hE1⟩
  by_cases h3 : nq = 4
  rotate_left
  · have Hv := Lib.hid (right_no (x := x) (Ps := Ps) (Qs := Qs) (fun h => h3 (Hql.out.symm.trans h.2.2.2.1)))
    have hn : ¬ ((nq : Int) = 4) := by omega
    have hm : (np : Int) = 64 := by omega
    subst h2
    go_wp2_with fail
    go_ret
    exact ⟨by rw [Hv.out]; rfl, hE1⟩
  subst h2
  subst h3
  obtain ⟨w1, hw1⟩ : ∃ w1, w1 = w.alloc (.cells #[.int .i64 x, .slice P 64 cp, .slice Q 4 cq] 52) := ⟨_, rfl⟩
  rw [← hw1] at hE1
  have hE2 := Ext.new w1 (.cells #[.slice P 64 cp, .slice Q 4 cq] 50)
  have hB2 := Blk.new w1 50 #[.slice P 64 cp, .slice Q 4 cq]
  have hs1 : w1.heap.size = w.heap.size + 1 := by rw [hw1]; exact World.size_alloc _ _
  rw [hs1, hw1] at hB2
  rw [hw1] at hE2
  rw [hw1] at hE1
  clear hw1 hs1
  have hp2 := (hp.ext hE1).ext hE2
  have hq2 := (hq.ext hE1).ext hE2
  have hE12 := hE1.trans hE2
  clear hp hq hE1 hE2
  go_wp2_with fail
  generalize (w.alloc (.cells #[.int .i64 x, .slice P 64 cp, .slice Q 4 cq] 52)).alloc (.cells #[.slice P 64 cp, .slice Q 4 cq] 50) = w2 at *
  go_loopw [32] (fun i wr => TwoI w2 Ps Qs i wr) (fun i _ => 2 - (intOf i).toNat)
  case atStart => exact ⟨0, by omega, rfl, fun h => absurd h (by omega), fun h => absurd h (by omega), rfl⟩
  case round =>
    obtain ⟨j, hj, rfl, ha, hb, rfl⟩ := hrel
    by_cases hlt : j < 2
    · have hji : (j : Int) < 2 := by omega
      obtain ⟨A, n, c, Ls, hcell, hr, hyes, hno⟩ : ∃ (A : Option Addr) (n c : Nat) (Ls : List (List UInt8)), wr.cell? ⟨w.heap.size + 1, j, none⟩ = some (.slice A n c) ∧ RBB wr A n c Ls ∧ (all32 Ls → (0 < j + 1 → all32 Ps) ∧ (1 < j + 1 → all32 Qs)) ∧ (¬ all32 Ls → rightB x Ps Qs = false) := by
        have hc : j = 0 ∨ j = 1 := by omega
        rcases hc with rfl | rfl
        · exact ⟨P, 64, cp, Ps, hB2.cell (i := 0) rfl, hp2, fun h => ⟨fun _ => h, fun h => absurd h (by omega)⟩, fun h => right_no fun h' => h h'.2.2.2.2.1⟩
        · exact ⟨Q, 4, cq, Qs, hB2.cell (i := 1) rfl, hq2, fun h => ⟨fun _ => ha (by omega), fun _ => h⟩, fun h => right_no fun h' => h h'.2.2.2.2.2⟩
      have hcap := hr.cap
      have hroom := hr.room
      unfold maxLen at hcap
      have Hl := Lib.hid hr.len
      have Hyes := Lib.hid hyes
      have Hno := Lib.hid hno
      clear ha hb hyes hno
      have hc2 : wr.cell? ((⟨w.heap.size + 1, 0, none⟩ : Addr).add j) = some (.slice A n c) := by rw [add_plain]; exact hcell
      go_wp2_with fail
      obtain ⟨w4, rfl⟩ : ∃ w4, w4 = wr := ⟨_, rfl⟩
      go_loopw [5] (fun i wi => IdxI w4 Ls i wi) (fun i _ => n - (intOf i).toNat)
      case atStart => exact ⟨0, by omega, rfl, fun j hj => absurd hj (Nat.not_lt_zero _), rfl⟩
      case round =>
        obtain ⟨k, hk, rfl, hall, rfl⟩ := hrel
        rw [Hl.out] at hk
        have Hall := Lib.hid hall
        clear hall
        by_cases hlt2 : k < n
        · have hki : (k : Int) < (n : Int) := by omega
          obtain ⟨ad, rfl, hc⟩ := hr.cells (by omega)
          obtain ⟨E, z, y, hcell3, hrE⟩ := hc k hlt2
          have Hz := Lib.hid hrE.len
          clear hc hrE
          by_cases h32 : z = 32
          · have hz : (z : Int) = 32 := by omega
            go_wp2_with fail
            go_roundw
            case rel =>
              refine ⟨k + 1, by rw [Hl.out]; omega, by go_num, fun j hj => ?_, rfl⟩
              by_cases hjk : j = k
              · subst hjk; rw [Hz.out]; exact h32
              · exact Hall.out j (by omega)
            case measure => simp [intOf]; omega
          · have hz : ¬ ((z : Int) = 32) := by omega
            have Hv := Lib.hid (Hno.out fun h => h32 (by rw [← Hz.out]; exact h k (by rw [Hl.out]; omega)))
            go_wp2_with fail
            go_ret
            exact ⟨by rw [Hv.out]; rfl, hE12⟩
        · obtain rfl : k = n := by omega
          have hal : all32 Ls := fun j hj => Hall.out j (by rw [← Hl.out]; exact hj)
          go_wp2_with fail
          go_roundw
          case rel => exact ⟨j + 1, by omega, by go_num, (Hyes.out hal).1, (Hyes.out hal).2, rfl⟩
          case measure => simp [intOf]; omega
    · obtain rfl : j = 2 := by omega
      have Hv := Lib.hid (right_yes (x := x) (by omega) (by omega) Hpl.out Hql.out (ha (by omega)) (hb (by omega)))
      go_wp2_with fail
      go_ret
      exact ⟨by rw [Hv.out]; rfl, hE12⟩
def RVerI (w1 : World) (k : Nat) (T : List UInt8) (Qs : List (List UInt8)) (t i : Value) (wr : World) : Prop :=
  ∃ (h d : Nat) (A : Option Addr), h ≤ 4 ∧ i = .int .i64 h ∧ t = .slice A 32 d ∧ RB wr A 32 d (climb k T Qs h) ∧ Ext w1 wr
set_option maxHeartbeats 4000000 in
theorem rverify_any (B D P Q : Option Addr) (m e' nd cd np cp nq cq : Nat) (x : Int) (X M : List UInt8) (Ps Qs : List (List UInt8)) (w : World) (hX : RB w D nd cd X) (hM : RB w B m e' M) (hmn : m ≤ 140737488355000) (hp : RBB w P np cp Ps) (hq : RBB w Q nq cq Qs) :
    Calls Try.prog 38 #[.slice D nd cd, .slice B m e', .agg #[.int .i64 x, .slice P np cp, .slice Q nq cq]] w fun e w' => e = .returned (.bool (verB X M x Ps Qs)) ∧ Ext w w' := by
  go_enter Try.func38, Try.ntmps38
  have hE1 := Ext.new w (.cells #[.int .i64 x, .slice P np cp, .slice Q nq cq] 52)
  have hB1 := Blk.new w 52 #[.int .i64 x, .slice P np cp, .slice Q nq cq]
  go_wp2_with fail
  refine (rright_any x P Q np cp nq cq Ps Qs _ (hp.ext hE1) (hq.ext hE1)).mono ?_
  rintro e w2 ⟨rfl, hE2⟩
  have hE12 := hE1.trans hE2
  have hB2 := hB1.ext hE2
  clear hB1
  cases hr : rightB x Ps Qs with
  | false =>
    have hv : verB X M x Ps Qs = false := by unfold verB; rw [hr]; rfl
    have Hv := Lib.hid hv
    clear hv hr
    go_wp2_with fail
    go_ret
    exact ⟨by rw [Hv.out]; rfl, hE12⟩
  | true =>
    obtain ⟨⟨k, hk, rfl⟩, hok, hql, hq32⟩ := rightB_true hr
    have hv : verB X M (k : Int) Ps Qs = decide (climb k (rootV M Ps) Qs 4 = X) := by unfold verB; rw [hr]; simp
    have Hv := Lib.hid hv
    clear hv hr
    obtain rfl : nq = 4 := hq.len.symm.trans hql
    have y1 : w2.cell? ⟨w.heap.size, 1, none⟩ = some (.slice P np cp) := hB2.cell (i := 1) rfl
    go_wp2_with fail
    refine (r4root_any B P m e' np cp M Ps _ (hM.ext hE12) hmn (hp.ext hE12)).mono ?_
    rintro e w3 ⟨hroot, _, hE3⟩
    obtain ⟨A3, c3, rfl, own3⟩ := hroot hok
    obtain ⟨T, hT⟩ : ∃ T, T = rootV M Ps := ⟨_, rfl⟩
    rw [← hT] at own3 Hv
    clear hT hroot y1
    have hE13 := hE12.trans hE3
    have hB3 := hB2.ext hE3
    have own3 := own3.rb
    go_wp2_with fail
    go_loopw [7, 9] (fun t i wr => RVerI w3 k T Qs t i wr) (fun _ i _ => 4 - (intOf i).toNat)
    case atStart => exact ⟨0, c3, A3, by omega, rfl, rfl, own3, Ext.refl _⟩
    case round =>
      clear own3
      obtain ⟨h, d, A, hh, rfl, rfl, own, hEr⟩ := hrel
      have hEw := hE13.trans hEr
      have hBr := hB3.ext hEr
      by_cases hlt : h < 4
      · have hhi : (h : Int) < 4 := by omega
        obtain ⟨ad, rfl, hc⟩ := hq.cells (by omega)
        obtain ⟨E, z, y, hcell, hrE⟩ := hc h hlt
        obtain rfl : z = 32 := hrE.len.symm.trans (hq32 h hlt)
        have y1 := hEw.cell hcell
        have rE := hrE.ext hEw
        have hl1 := Lib.hid rE.len
        have hl2 := Lib.hid own.len
        have hcl : climb k T Qs (h + 1) = climbB k h (climb k T Qs h) (lb Qs h) := rfl
        unfold climbB at hcl
        have Hcl := Lib.hid hcl
        have hq16 : k / 2 ^ h < 16 := Nat.lt_of_le_of_lt (Nat.div_le_self _ _) hk
        have y0 : wr.cell? ⟨w.heap.size, 0, none⟩ = some (.int .i64 (k : Int)) := hBr.cell (i := 0) rfl
        have y2 : wr.cell? ⟨w.heap.size, 2, none⟩ = some (.slice (some ad) 4 cq) := hBr.cell (i := 2) rfl
        clear hcl hcell hrE hc hq hBr
        generalize climb k T Qs h = V at *
        generalize lb Qs h = Y at *
        obtain ⟨q, hq⟩ : ∃ q, q = k / 2 ^ h := ⟨_, rfl⟩
        rw [← hq] at hq16 Hcl
        have Hq := Lib.hid hq
        clear hq
        obtain ⟨b0, hb0⟩ : ∃ b0, decide (((q % 2 : Nat) : Int) = 0) = b0 := ⟨_, rfl⟩
        have Hb0 := Lib.hid hb0
        clear hb0
        go_upto_region 7 with (fail)
        refine seq_ext (n := 7) (by kernel_rfl) [.is (.pointer (some ⟨w.heap.size, 0, none⟩)), .is (.int .i64 (((k : Nat) : Int))), .is (.int .i64 (((h : Nat) : Int))), .is (.int .u64 ((h : Nat) : Int)), .is (.int .i64 (((q : Nat) : Int))), .is (.int .i64 (((q % 2 : Nat) : Int))), .is (.bool (b0))] rfl ⟨?_, ?_, ?_, ?_, ?_, ?_, ?_, trivial⟩ ?_
        · refine stepE rfl fun sdn sa sw sE sd sk => ?_
          have h5 : sa.eval (.tmp 5) = .pointer (some ⟨w.heap.size, 0, none⟩) := sk.old 5 rfl
          refine Runs.of_run (r := .pointer (some ⟨w.heap.size, 0, none⟩)) (w' := sw) ?_ ⟨Ext.refl _, rfl⟩
          unfold execOp
          simp only [h5]
          go_simp
        · refine stepE rfl fun sdn sa sw sE sd sk => ?_
          have h24 : sa.eval (.tmp 24) = .pointer (some ⟨w.heap.size, 0, none⟩) := sk.fact 0 24 rfl (sd 0 rfl)
          exact Runs.load rfl h24 (run_load1 Try.underlying3 rfl (sE.cell y0)) ⟨Ext.refl _, rfl⟩
        · refine stepE rfl fun sdn sa sw sE sd sk => ?_
          have h9 : sa.eval (.tmp 9) = .int .i64 (((h : Nat) : Int)) := sk.old 9 rfl
          exact Runs.move rfl h9 ⟨Ext.refl _, rfl⟩
        · refine stepE rfl fun sdn sa sw sE sd sk => ?_
          have h26 : sa.eval (.tmp 26) = .int .i64 (((h : Nat) : Int)) := sk.fact 2 26 rfl (sd 2 rfl)
          exact Runs.conv rfl h26 (conv_i64_u64 Try.underlying3 Try.underlying93 _ h rfl (by omega)) ⟨Ext.refl _, rfl⟩
        · refine stepE rfl fun sdn sa sw sE sd sk => ?_
          have h25 : sa.eval (.tmp 25) = .int .i64 (((k : Nat) : Int)) := sk.fact 1 25 rfl (sd 1 rfl)
          have h27 : sa.eval (.tmp 27) = .int .u64 ((h : Nat) : Int) := sk.fact 3 27 rfl (sd 3 rfl)
          exact Runs.bin rfl h25 h27 (eqGuard_bin rfl) (bin_shrI _ k h (by omega)) ⟨Ext.refl _, congrArg (fun z : Nat => Value.int .i64 (z : Int)) Hq.out.symm⟩
        · refine stepE rfl fun sdn sa sw sE sd sk => ?_
          have h28 : sa.eval (.tmp 28) = .int .i64 (((q : Nat) : Int)) := sk.fact 4 28 rfl (sd 4 rfl)
          exact Runs.bin rfl h28 rfl (eqGuard_bin rfl) (bin_and1 _ q hq16) ⟨Ext.refl _, rfl⟩
        · refine stepE rfl fun sdn sa sw sE sd sk => ?_
          have h29 : sa.eval (.tmp 29) = .int .i64 (((q % 2 : Nat) : Int)) := sk.fact 5 29 rfl (sd 5 rfl)
          exact Runs.bin rfl h29 rfl (by rfl) (bin_eql _ _ _ _) ⟨Ext.refl _, congrArg Value.bool Hb0.out⟩
        intro vals w7 hE7 hv7
        have e0 : vals 0 = .pointer (some ⟨w.heap.size, 0, none⟩) := hv7 0 (by omega) 24 rfl
        have e1 : vals 1 = .int .i64 (((k : Nat) : Int)) := hv7 1 (by omega) 25 rfl
        have e2 : vals 2 = .int .i64 (((h : Nat) : Int)) := hv7 2 (by omega) 26 rfl
        have e3 : vals 3 = .int .u64 ((h : Nat) : Int) := hv7 3 (by omega) 27 rfl
        have e4 : vals 4 = .int .i64 (((q : Nat) : Int)) := hv7 4 (by omega) 28 rfl
        have e5 : vals 5 = .int .i64 (((q % 2 : Nat) : Int)) := hv7 5 (by omega) 29 rfl
        have e6 : vals 6 = .bool (b0) := hv7 6 (by omega) 30 rfl
        simp only [putAll, Act.put, List.take_succ_cons, List.take_zero, List.drop_succ_cons, List.drop_zero, List.drop_nil, List.take_nil, Nat.reduceAdd, List.setIfInBounds_toArray, List.set_cons_succ, List.set_cons_zero, e0, e1, e2, e3, e4, e5, e6]
        clear hv7 e0 e1 e2 e3 e4 e5 e6
        have own7 := own.ext hE7
        have rE7 := rE.ext hE7
        have hEr7 := hEr.trans hE7
        have hEw7 := hEw.trans hE7
        have y2 := hE7.cell y2
        have y3 := hE7.cell y1
        clear y1 y0 own rE
        cases b0 with
        | true =>
          have hq2 : q % 2 = 0 := by have := of_decide_eq_true Hb0.out; omega
          have r2 := RBB.of2 own7 rE7 22
          have hEa := Ext.new w7 (.cells #[.slice A 32 d, .slice E 32 y] 22)
          have hta := rtagged_any 14 _ 2 2 _ _ r2 (by simp only [List.flatten_cons, List.flatten_nil, List.length_append, List.length_nil, hl1.out, hl2.out]; omega)
          have e14 : u8i 14 = 14 := rfl
          rw [e14, show [V, Y].flatten = V ++ Y from by simp] at hta
          have Hta := Lib.hid hta
          have hcl2 : climb k T Qs (h + 1) = tagged 14 (V ++ Y) := by rw [Hcl.out, if_pos hq2]; rfl
          have Hcl2 := Lib.hid hcl2
          clear hta hcl2 e14 hq2
          go_wp2_with fail
          refine Hta.out.mono ?_
          rintro e w5 ⟨A5, c5, rfl, own5, hE5⟩
          go_wp2_with fail
          go_roundw
          case rel => exact ⟨h + 1, c5, A5, by omega, by go_num, rfl, by rw [Hcl2.out]; exact own5.rb, (hEr7.trans hEa).trans hE5⟩
          case measure => simp [intOf]; omega
        | false =>
          have hq2 : ¬ q % 2 = 0 := by have := of_decide_eq_false Hb0.out; omega
          have r2 := RBB.of2 rE7 own7 22
          have hEa := Ext.new w7 (.cells #[.slice E 32 y, .slice A 32 d] 22)
          have hta := rtagged_any 14 _ 2 2 _ _ r2 (by simp only [List.flatten_cons, List.flatten_nil, List.length_append, List.length_nil, hl1.out, hl2.out]; omega)
          have e14 : u8i 14 = 14 := rfl
          rw [e14, show [Y, V].flatten = Y ++ V from by simp] at hta
          have Hta := Lib.hid hta
          have hcl2 : climb k T Qs (h + 1) = tagged 14 (Y ++ V) := by rw [Hcl.out, if_neg hq2]; rfl
          have Hcl2 := Lib.hid hcl2
          clear hta hcl2 e14 hq2
          go_wp2_with fail
          refine Hta.out.mono ?_
          rintro e w5 ⟨A5, c5, rfl, own5, hE5⟩
          go_wp2_with fail
          go_roundw
          case rel => exact ⟨h + 1, c5, A5, by omega, by go_num, rfl, by rw [Hcl2.out]; exact own5.rb, (hEr7.trans hEa).trans hE5⟩
          case measure => simp [intOf]; omega
      · obtain rfl : h = 4 := by omega
        have rX := hX.ext hEw
        obtain ⟨V, hV⟩ : ∃ V, V = climb k T Qs 4 := ⟨_, rfl⟩
        rw [← hV] at own Hv
        clear hV hB3 hBr hE13
        obtain ⟨bv', hbv⟩ : ∃ b, decide (V = X) = b := ⟨_, rfl⟩
        rw [hbv] at Hv
        have Hbv := Lib.hid hbv
        clear hbv
        go_upto_region 10 with (fail)
        refine seq_ext (n := 9) (by kernel_rfl) [.is (.bool (true)), .is (.bool (true)), .is (.slice (A) (32) (d)), .is (.string (str (V))), .is (.slice (D) (nd) (cd)), .is (.string (str (X))), .is (.bool (bv')), .is (.bool (bv')), .is (.bool (bv'))] rfl ⟨?_, ?_, ?_, ?_, ?_, ?_, ?_, ?_, ?_, trivial⟩ ?_
        · refine stepE rfl fun sdn sa sw sE sd sk => ?_
          have h8 : sa.eval (.tmp 8) = .bool (true) := sk.old 8 rfl
          exact Runs.move rfl h8 ⟨Ext.refl _, rfl⟩
        · refine stepE rfl fun sdn sa sw sE sd sk => ?_
          have h47 : sa.eval (.tmp 47) = .bool (true) := sk.fact 0 47 rfl (sd 0 rfl)
          exact Runs.move rfl h47 ⟨Ext.refl _, rfl⟩
        · refine stepY (j := 1) (d := 48) (b := true) rfl rfl rfl (fun v w h => h) fun sdn sa sw sE sd sk => ?_
          have h7 : sa.eval (.tmp 7) = .slice (A) (32) (d) := sk.old 7 rfl
          exact Runs.move rfl h7 ⟨Ext.refl _, rfl⟩
        · refine stepY (j := 1) (d := 48) (b := true) rfl rfl rfl (fun v w h => h) fun sdn sa sw sE sd sk => ?_
          have h49 : sa.eval (.tmp 49) = .slice (A) (32) (d) := sk.fact 2 49 rfl (sd 2 rfl)
          exact Runs.conv rfl h49 (run_str (own.ext sE)) ⟨Ext.refl _, rfl⟩
        · refine stepY (j := 1) (d := 48) (b := true) rfl rfl rfl (fun v w h => h) fun sdn sa sw sE sd sk => ?_
          have h0 : sa.eval (.tmp 0) = .slice (D) (nd) (cd) := sk.old 0 rfl
          exact Runs.move rfl h0 ⟨Ext.refl _, rfl⟩
        · refine stepY (j := 1) (d := 48) (b := true) rfl rfl rfl (fun v w h => h) fun sdn sa sw sE sd sk => ?_
          have h51 : sa.eval (.tmp 51) = .slice (D) (nd) (cd) := sk.fact 4 51 rfl (sd 4 rfl)
          exact Runs.conv rfl h51 (run_str (rX.ext sE)) ⟨Ext.refl _, rfl⟩
        · refine stepY (j := 1) (d := 48) (b := true) rfl rfl rfl (fun v w h => h) fun sdn sa sw sE sd sk => ?_
          have h50 : sa.eval (.tmp 50) = .string (str (V)) := sk.fact 3 50 rfl (sd 3 rfl)
          have h52 : sa.eval (.tmp 52) = .string (str (X)) := sk.fact 5 52 rfl (sd 5 rfl)
          exact Runs.bin rfl h50 h52 (by rfl) (bin_eqs _ _ _) ⟨Ext.refl _, congrArg Value.bool Hbv.out⟩
        · refine stepE rfl fun sdn sa sw sE sd sk => ?_
          have h48 : sa.eval (.tmp 48) = .bool (true) := sk.fact 1 48 rfl (sd 1 rfl)
          have h53 : sa.eval (.tmp 53) = .bool (bv') := sk.fact 6 53 rfl (sd 6 rfl)
          exact Runs.pick rfl h48 ⟨Ext.refl _, by first | exact h53 | simpa using h53⟩
        · refine stepE rfl fun sdn sa sw sE sd sk => ?_
          have h54 : sa.eval (.tmp 54) = .bool (bv') := sk.fact 7 54 rfl (sd 7 rfl)
          exact Runs.assign rfl h54 ⟨Ext.refl _, rfl⟩
        intro vals W9 hE10 hv10
        have e0 : vals 0 = .bool (true) := hv10 0 (by omega) 47 rfl
        have e1 : vals 1 = .bool (true) := hv10 1 (by omega) 48 rfl
        have e2 : vals 2 = .slice (A) (32) (d) := hv10 2 (by omega) 49 rfl
        have e3 : vals 3 = .string (str (V)) := hv10 3 (by omega) 50 rfl
        have e4 : vals 4 = .slice (D) (nd) (cd) := hv10 4 (by omega) 51 rfl
        have e5 : vals 5 = .string (str (X)) := hv10 5 (by omega) 52 rfl
        have e6 : vals 6 = .bool (bv') := hv10 6 (by omega) 53 rfl
        have e7 : vals 7 = .bool (bv') := hv10 7 (by omega) 54 rfl
        have e8 : vals 8 = .bool (bv') := hv10 8 (by omega) 6 rfl
        simp only [putAll, Act.put, List.take_succ_cons, List.take_zero, List.drop_succ_cons, List.drop_zero, List.drop_nil, List.take_nil, Nat.reduceAdd, List.setIfInBounds_toArray, List.set_cons_succ, List.set_cons_zero, e0, e1, e2, e3, e4, e5, e6, e7, e8]
        clear hv10 e0 e1 e2 e3 e4 e5 e6 e7 e8
        go_wp2_with fail
        go_ret
        exact ⟨by rw [Hv.out]; rfl, hEw.trans hE10⟩
end Go.Proofs.Ytmgnigofilkfmab
