/-
  wire's Reader, walked: Byte, Num, Bytes, End. Manifests in plain Lean: what may be one, how it is written, how it is read. Manifests in plain Lean: what is written is read again; what is read is written so; cut or longer it is none. Numbers of two bytes, and conversions. Plain theorems. Rows of the call's own that bear the run-time's mark behind their cells (what '[]byte(s)' makes); appends to them. Plain theorems. The reference's Num onto a row with the run-time's mark, walked. A region that draws its order, whose operations append, one behind the other, to rows of the call's own. Plain theorems.
-/
import Derived.Test.YtkndgpjamijbbaaGreatLawNumbers22Q18
import Derived.Test.YtkndgpjamijbbaaGreatLawNumbers22Q11
import Derived.ArgAppend
import Derived.Lib.ConvBytes
import Derived.Test.YtkndgpjamijbbaaGreatLawNumbers22Q1
namespace Go.Proofs.YtkndgpjamijbbaaGreat
set_option maxRecDepth 100000
open Go Go.RowKit
def rbytes (L : List UInt8) (bad : Bool) (most : Int) : List UInt8 × List UInt8 × Bool :=
  rtake (rtake L bad 2).2.1 (rtake L bad 2).2.2 (if max most 0 < u32i (beNum (rtake L bad 2).1) then -1 else u32i (beNum (rtake L bad 2).1))
theorem conv_u32_i64 {P : Program} {w : World} {s t : TypeId} (hs : P.underlying s = some (.int .u32)) (ht : P.underlying t = some (.int .i64)) (x : UInt32) : (convert s t (.int .u32 (u32i x))).run P w = .ok (.int .i64 (u32i x)) w := by
  have h1 := u32i_lo x
  have h2 := u32i_hi x
  have e : IntKind.i64.wrap (u32i x) = u32i x := by rw [IntKind.wrap_i64]; omega
  simp [convert, run_underlying hs, run_underlying ht, Conv.intToInt, e]
set_option maxHeartbeats 1000000 in
theorem rbyte_any (w : World) (base q : Nat) (L : List UInt8) (bad : Bool) (hR : RdrS w base q L bad) :
    Calls Tryz.prog 72 #[.pointer (some ⟨q, 0, none⟩)] w fun e w' => e = .returned (.int .u8 (u8i (beNum (rtake L bad 1).1).toUInt8)) ∧ RdrS w' base q (rtake L bad 1).2.1 (rtake L bad 1).2.2 ∧ w.grownBy w' (some q) := by
  have hc := fun w' : World => conv_u32_u8 (P := Tryz.prog) (w := w') Tryz.underlying56 Tryz.underlying5 (beNum (rtake L bad 1).1)
  go_enter Tryz.func72, Tryz.ntmps72
  go_wp2_with fail
  refine (rnumber_any w base q L bad 1 hR (by omega) (by omega)).mono ?_
  rintro e w1 ⟨rfl, h1, h2⟩
  go_wp2_with fail
  go_ret
  exact ⟨rfl, h1, h2⟩
set_option maxHeartbeats 1000000 in
theorem rnum_any (w : World) (base q : Nat) (L : List UInt8) (bad : Bool) (hR : RdrS w base q L bad) :
    Calls Tryz.prog 74 #[.pointer (some ⟨q, 0, none⟩)] w fun e w' => e = .returned (.int .u32 (u32i (beNum (rtake L bad 4).1))) ∧ RdrS w' base q (rtake L bad 4).2.1 (rtake L bad 4).2.2 ∧ w.grownBy w' (some q) := by
  go_enter Tryz.func74, Tryz.ntmps74
  go_wp2_with fail
  refine (rnumber_any w base q L bad 4 hR (by omega) (by omega)).mono ?_
  rintro e w1 ⟨rfl, h1, h2⟩
  go_wp2_with fail
  go_ret
  exact ⟨rfl, h1, h2⟩
set_option maxHeartbeats 1000000 in
theorem rbytes_any (w : World) (base q : Nat) (L : List UInt8) (bad : Bool) (most : Int) (hR : RdrS w base q L bad) (hm : 0 ≤ most) (hm2 : most ≤ 1000000) :
    Calls Tryz.prog 73 #[.pointer (some ⟨q, 0, none⟩), .int .i64 most] w fun e w' => (∃ B m d, e = .returned (.slice B m d) ∧ OB w' w.heap.size B m d (rbytes L bad most).1) ∧ RdrS w' base q (rbytes L bad most).2.1 (rbytes L bad most).2.2 ∧ w.grownBy w' (some q) := by
  have hc := fun w' : World => conv_u32_i64 (P := Tryz.prog) (w := w') Tryz.underlying56 Tryz.underlying3 (beNum (rtake L bad 2).1)
  obtain ⟨x, hx⟩ : ∃ x, x = beNum (rtake L bad 2).1 := ⟨_, rfl⟩
  obtain ⟨z, hz⟩ : ∃ z : Int, z = if max most 0 < u32i x then -1 else u32i x := ⟨_, rfl⟩
  have hr : rbytes L bad most = rtake (rtake L bad 2).2.1 (rtake L bad 2).2.2 z := by rw [hz, hx]; rfl
  have hx0 := u32i_lo x
  have hx1 := u32i_hi x
  rw [hr]
  rw [← hx] at hc
  have Hx := Lib.hid hx
  have Hz := Lib.hid hz
  clear hx hz hr
  have hmx : max most 0 = most := by omega
  go_enter Tryz.func73, Tryz.ntmps73
  go_wp2_with fail
  refine (rnumber_any w base q L bad 2 hR (by omega) (by omega)).mono ?_
  rintro e w1 ⟨rfl, h1, h2⟩
  rw [← Hx.out]
  by_cases hlt : most < u32i x
  · have hz1 : z = -1 := by rw [Hz.out, hmx, if_pos hlt]
    subst hz1
    go_wp2_with fail
    refine (rraw_any w1 base q _ _ (-1) h1 (by omega) (by omega)).mono ?_
    rintro e w2 ⟨⟨B, m, d, rfl, own⟩, h3, h4⟩
    go_wp2_with fail
    go_ret
    exact ⟨⟨B, m, d, rfl, own.base h2.size⟩, h3, h2.trans h4⟩
  · have hz1 : z = u32i x := by rw [Hz.out, hmx, if_neg hlt]
    have Hz1 := Lib.hid hz1
    have hle : u32i x ≤ most := by omega
    clear hz1 hlt Hz Hx
    have d1 : decide (most < u32i x) = false := by rw [decide_eq_false_iff_not]; omega
    have Hle := Lib.hid hle
    clear hle hm hm2 hx0 hx1
    go_wp2_with fail
    rw [← Hz1.out]
    refine (rraw_any w1 base q _ _ z h1 (by rw [Hz1.out]; have := u32i_lo x; omega) (by rw [Hz1.out]; have := u32i_hi x; omega)).mono ?_
    rintro e w2 ⟨⟨B, m, d, rfl, own⟩, h3, h4⟩
    go_wp2_with fail
    go_ret
    exact ⟨⟨B, m, d, rfl, own.base h2.size⟩, h3, h2.trans h4⟩
set_option maxHeartbeats 1000000 in
theorem rend_blk (w : World) (q : Nat) (A : Option Addr) (n c : Nat) (L : List UInt8) (bad : Bool) (hb : Blk w q 126 #[.slice A n c, .bool bad]) (hl : L.length = n) (hn : n ≤ 140737488355328) :
    Calls Tryz.prog 76 #[.pointer (some ⟨q, 0, none⟩)] w fun e w' => e = .returned (.bool (!bad && L.isEmpty)) ∧ w = w' := by
  have y1 := hb.cell (i := 0) rfl
  have y2 := hb.cell (i := 1) rfl
  have hE : L.isEmpty = decide ((n : Int) = 0) := by
    rw [← hl]
    cases L <;> simp; omega
  rw [hE]
  clear hl hE hb
  cases bad with
  | true =>
    go_enter Tryz.func76, Tryz.ntmps76
    go_wp2_with fail
    go_ret
    exact ⟨rfl, rfl⟩
  | false =>
    go_enter Tryz.func76, Tryz.ntmps76
    go_wp2_with fail
    go_ret
    refine ⟨?_, rfl⟩
    simp [beq_dec]
end Go.Proofs.YtkndgpjamijbbaaGreat
namespace Go.Proofs.YtkndgpjamijbbaaGreat
set_option maxRecDepth 100000
structure Man where
  name : List UInt8
  ver : UInt32
  fw : List UInt8
  notes : List UInt8
def letter (c : UInt8) : Bool := decide (97 ≤ u8i c) && decide (u8i c ≤ 122)
def nameOK (s : List UInt8) : Bool := decide (1 ≤ s.length) && decide (s.length ≤ 20) && s.all letter
def rightM (m : Man) : Bool := nameOK m.name && decide (0 < u32i m.ver) && decide (m.fw.length = 32) && decide (m.notes.length ≤ 64)
def encM (m : Man) : List UInt8 := [77] ++ (be2 m.name.length ++ m.name) ++ beBytes m.ver 4 ++ m.fw ++ (be2 m.notes.length ++ m.notes)
/-- the reader's steps: mark, name, version, firmware, notes, what is left -/
structure Dec where
  first : UInt8
  man : Man
  left : List UInt8
  bad : Bool
def readM (b : List UInt8) : Dec :=
  let t1 := rtake b false 1
  let t2 := rbytes t1.2.1 t1.2.2 20
  let t3 := rtake t2.2.1 t2.2.2 4
  let t4 := rtake t3.2.1 t3.2.2 32
  let t5 := rbytes t4.2.1 t4.2.2 64
  { first := (beNum t1.1).toUInt8, man := ⟨t2.1, beNum t3.1, t4.1, t5.1⟩, left := t5.2.1, bad := t5.2.2 }
def decOK (b : List UInt8) : Bool := decide ((readM b).first = 77) && (!(readM b).bad && (readM b).left.isEmpty) && rightM (readM b).man
end Go.Proofs.YtkndgpjamijbbaaGreat
namespace Go.Proofs.YtkndgpjamijbbaaGreat
set_option maxRecDepth 100000
theorem beBytes4 (x : UInt32) : beBytes x 4 = [(shr x 24).toUInt8, (shr x 16).toUInt8, (shr x 8).toUInt8, (shr x 0).toUInt8] := rfl
theorem beBytes2 (x : UInt32) : beBytes x 2 = [(shr x 8).toUInt8, (shr x 0).toUInt8] := rfl
theorem byteAt (x : UInt32) (k : Nat) : (shr x k).toUInt8.toNat = x.toNat / 2 ^ k % 256 := by
  rw [UInt32.toNat_toUInt8, shr_toNat]
theorem be2_length (n : Nat) : (be2 n).length = 2 := beBytes_length _ _
end Go.Proofs.YtkndgpjamijbbaaGreat
namespace Go.Proofs.YtkndgpjamijbbaaGreat
set_option maxRecDepth 100000
open Go Go.RowKit
theorem shr_zero (x : UInt32) : shr x 0 = x := by rw [← UInt32.toNat_inj, shr_toNat]; simp
theorem be2_small (m : Nat) (h : m < 65536) : be2 m = [UInt8.ofNat (m / 256), UInt8.ofNat m] := by
  unfold be2
  have e : (UInt32.ofNat m).toNat = m := by rw [UInt32.toNat_ofNat']; exact Nat.mod_eq_of_lt (by omega)
  rw [beBytes2]
  congr 1
  · rw [← UInt8.toNat_inj, byteAt, UInt8.toNat_ofNat', e]
  congr 1
  · rw [← UInt8.toNat_inj, byteAt, UInt8.toNat_ofNat', e]; omega
theorem bin_shri64 {P : Program} {w : World} (t : TypeId) (kk : IntKind) (x k : Nat) (h : k ≤ 64) : (binOp .shr t (.int .i64 (x : Int)) (.int kk (k : Int))).run P w = .ok (.int .i64 ((x / 2 ^ k : Nat) : Int)) w := by
  have h1 : ¬ ((k : Int) < 0) := by omega
  have h2 : min (k : Int).toNat IntKind.i64.bits = k := by simp [IntKind.bits]; omega
  have e : ((x : Int)).fdiv (2 ^ k) = ((x / 2 ^ k : Nat) : Int) := by
    rw [Int.fdiv_eq_ediv_of_nonneg _ (Int.pow_nonneg (by decide))]
    simp
  simp only [binOp, Op.shift, if_neg h1, h2, e, Sem.run_pure]
theorem conv_i64_u8 {P : Program} {w : World} {s t : TypeId} (hs : P.underlying s = some (.int .i64)) (ht : P.underlying t = some (.int .u8)) (x : Nat) : (convert s t (.int .i64 (x : Int))).run P w = .ok (.int .u8 (u8i (UInt8.ofNat x))) w := by
  have e : IntKind.u8.wrap (x : Int) = u8i (UInt8.ofNat x) := by
    unfold u8i
    rw [IntKind.wrap_u8, UInt8.toNat_ofNat']
    omega
  simp [convert, run_underlying hs, run_underlying ht, Conv.intToInt, e]
end Go.Proofs.YtkndgpjamijbbaaGreat
namespace Go.Proofs.YtkndgpjamijbbaaGreat
set_option maxRecDepth 100000
open Go Go.RowKit
def OM (w : World) (base : Nat) (A : Option Addr) (n c : Nat) (L : List UInt8) : Prop :=
  ∃ g, A = some ⟨g, 0, none⟩ ∧ base ≤ g ∧ g < w.heap.size ∧ RB w A n c L ∧ ∀ j, j < c → (w.cell? ⟨g, j, none⟩).isSome = true ∧ w.frozen? ⟨g, j, none⟩ = false
theorem OM.rb {w : World} {base n c : Nat} {A : Option Addr} {L : List UInt8} (h : OM w base A n c L) : RB w A n c L := h.choose_spec.2.2.2.1
theorem OM.base {w : World} {base base' n c : Nat} {A : Option Addr} {L : List UInt8} (h : OM w base A n c L) (hb : base' ≤ base) : OM w base' A n c L := by
  obtain ⟨g, h1, h2, h3⟩ := h
  exact ⟨g, h1, Nat.le_trans hb h2, h3⟩
theorem OM.ext {w w' : World} {base n c : Nat} {A : Option Addr} {L : List UInt8} (h : OM w base A n c L) (e : Ext w w') : OM w' base A n c L := by
  obtain ⟨g, h1, h2, h3, h4, h5⟩ := h
  refine ⟨g, h1, h2, Nat.lt_of_lt_of_le h3 e.size, h4.ext e, fun j hj => ?_⟩
  rw [World.cell?_of_block (a := ⟨g, j, none⟩) (e.block h3), World.frozen?_of_block (a := ⟨g, j, none⟩) (e.block h3)]
  exact h5 j hj
theorem OM.of_ob {w : World} {base n c : Nat} {A : Option Addr} {L : List UInt8} (h : OB w base A n c L) (hc : 0 < n) : OM w base A n c L := by
  have hrb := h.rb
  have hf := fun g (e : A = some ⟨g, 0, none⟩) (j : Nat) => World.ownsRow.frozenAt (g := g) (by unfold OB at h; rw [← e]; exact h) j
  have hlt := fun k (hk : blk A = some k) => h.lt hk
  rcases h.2 with ⟨e, h0⟩ | ⟨g, cap, cur, e, hb, hg, hnc, hcm, hcs, ht⟩
  · omega
  · injection e with e1 e2 e3
    subst e1 e3
    refine ⟨g, rfl, hb, (hlt g rfl).2, hrb, fun j hj => ⟨?_, hf g rfl j⟩⟩
    rw [cell_of_row w g j cur _ _ hg]
    rw [Nat.mul_one] at hcs
    simp [hcs, hj]
theorem grown_setCell_ (w : World) (a : Addr) (u : Value) : w.grownBy (w.setCell a u) (some a.block) := ⟨rfl, rfl, rfl, by simp [World.setCell], fun i _ hne => Below.heap_setCell w a u i fun e => hne (by rw [e])⟩
theorem grown_setCells (g : Nat) : ∀ (vs : List Value) (o : Nat) (w : World), w.grownBy (w.setCells g o vs) (some g)
  | [], _, w => World.grownBy.refl w _
  | v :: r, o, w => (grown_setCell_ w ⟨g, o, none⟩ v).trans (grown_setCells g r (o + 1) _)
/-- nothing was turned but, perhaps, cells behind place n of one row from block b on -/
def Aps (b n : Nat) (w w' : World) : Prop := Ext w w' ∨ ∃ g, b ≤ g ∧ g < w.heap.size ∧ w.grownBy w' (some g) ∧ (∀ j, j < n → w'.cell? ⟨g, j, none⟩ = w.cell? ⟨g, j, none⟩) ∧ (∀ j, (w.cell? ⟨g, j, none⟩).isSome = true → (w'.cell? ⟨g, j, none⟩).isSome = true) ∧ ∀ j, w'.frozen? ⟨g, j, none⟩ = w.frozen? ⟨g, j, none⟩
theorem Aps.ext_ {a w w' : World} {b n : Nat} (h : Aps b n w w') (e : Ext a w) (hb : a.heap.size ≤ b) : Ext a w' := by
  rcases h with h | ⟨g, h1, _, h3, _⟩
  · exact e.trans h
  · exact e.then_grown h3 (by intro k hk; cases hk; omega)
theorem Aps.pre {w w1 w' : World} {b n : Nat} (e : Ext w w1) (h : Aps b n w1 w') : Aps b n w w' := by
  rcases h with h | ⟨g, h1, h2, h3, h4, h5, h6⟩
  · exact .inl (e.trans h)
  · rcases Nat.lt_or_ge g w.heap.size with hg | hg
    · have hc := fun j => World.cell?_of_block (a := ⟨g, j, none⟩) (e.block hg)
      have hf := fun j => World.frozen?_of_block (a := ⟨g, j, none⟩) (e.block hg)
      exact .inr ⟨g, h1, hg, (e.grownBy _).trans h3, fun j hj => (h4 j hj).trans (hc j), fun j hj => h5 j (by rw [hc]; exact hj), fun j => (h6 j).trans (hf j)⟩
    · exact .inl (e.then_grown h3 (by intro k hk; cases hk; exact hg))
theorem OM.aps {w w' : World} {b n' base n c : Nat} {A : Option Addr} {L : List UInt8} (h : OM w base A n c L) (e : Aps b n' w w') (hn : n ≤ n') : OM w' base A n c L := by
  rcases e with e | ⟨g, h1, h2, h3, h4, h5, h6⟩
  · exact h.ext e
  · obtain ⟨g', rfl, k1, k2, k3, k4⟩ := h
    by_cases hg : g' = g
    · subst hg
      refine ⟨g', rfl, k1, Nat.lt_of_lt_of_le k2 h3.size, ⟨k3.len, k3.room, k3.cap, fun hn0 => ?_⟩, fun j hj => ⟨h5 j (k4 j hj).1, (h6 j).trans (k4 j hj).2⟩⟩
      obtain ⟨ad, ha, hc⟩ := k3.cells hn0
      refine ⟨ad, ha, fun j hj => ?_⟩
      cases ha
      have := hc j hj
      rw [add_plain] at this ⊢
      exact (h4 j (by omega)).trans this
    · have hb := h3.block g' k2 (by intro e; cases e; exact hg rfl)
      have hc := fun j => World.cell?_of_block (a := ⟨g', j, none⟩) hb
      have hf := fun j => World.frozen?_of_block (a := ⟨g', j, none⟩) hb
      exact ⟨g', rfl, k1, Nat.lt_of_lt_of_le k2 h3.size, k3.grown h3 (fun _ e => by cases e; exact hg rfl), fun j hj => ⟨by rw [hc]; exact (k4 j hj).1, by rw [hf]; exact (k4 j hj).2⟩⟩
theorem cells_in {w : World} {B : Option Addr} {m d : Nat} {M : List UInt8} (hx : RB w B m d M) {bd : Addr} (hb : B = some bd) : ∀ j u, (bv M)[j]? = some u → w.cell? (bd.add j) = some u := by
  subst hb
  intro j u hu
  have hm := hx.len
  have hj : j < (bv M).length := by
    rcases Nat.lt_or_ge j (bv M).length with h1 | h1
    · exact h1
    · rw [List.getElem?_eq_none h1] at hu; cases hu
  rw [bv_length, hm] at hj
  obtain ⟨bd', e, hb⟩ := hx.cells (by omega)
  injection e with e
  subst e
  rw [bv_get (by omega)] at hu
  injection hu with hu
  rw [← hu]
  exact hb j hj
theorem appm (ty : TypeId) {w : World} {base n c : Nat} {A B : Option Addr} {m d : Nat} {L M : List UInt8} (hA : OM w base A n c L) (hx : RB w B m d M) (hm : 0 < m) (hbase : base ≤ w.heap.size) (hnm : n + m ≤ 140737488355328) :
    ∃ A' c' w', (Builtin.append_ #[26, 26] ty #[.slice A n c, .slice B m d]).run Tryz.prog w = .ok (.slice A' (n + m) c') w' ∧ OM w' base A' (n + m) c' (L ++ M) ∧ Aps base n w w' := by
  obtain ⟨i0, hi0, hz0, hz1, hz2⟩ := info_parts info_u8
  obtain ⟨g, rfl, hb, hlt, hr, hcs⟩ := hA
  have hl := hr.len
  have hml := hx.len
  rcases Nat.lt_or_ge c (n + m) with hc | hc
  · obtain ⟨A', c', w', h1, h2, h3⟩ := run_app_full ty hr hx hc hnm
    exact ⟨A', c', w', h1, OM.of_ob (h2.base hbase) (by omega), .inl h3⟩
  · obtain ⟨bd, rfl, hbc⟩ := hx.cells hm
    have hrun := run_append_room_cells (P := Tryz.prog) w 26 ty 5 i0 Tryz.underlying26 hi0 g 0 n c bd m d (bv M) (by rw [bv_length, hz1]; omega) (cells_in hx rfl)
      (by unfold bv; simp [Value.oneCell']) hc (fun j hj => by rw [bv_length] at hj; rw [hz1]; exact (hcs _ (by omega)).1) (fun j hj => by rw [bv_length] at hj; rw [hz1]; exact (hcs _ (by omega)).2)
    rw [hz1, Nat.zero_add, Nat.mul_one] at hrun
    have hgr := grown_setCells g (bv M) n w
    refine ⟨_, _, _, hrun, ⟨g, rfl, hb, Nat.lt_of_lt_of_le hlt hgr.size, ⟨by rw [List.length_append]; omega, hc, hr.cap, fun _ => ⟨_, rfl, fun j hj => ?_⟩⟩, fun j hj => ⟨?_, ?_⟩⟩, .inr ⟨g, hb, hlt, hgr, fun j hj => World.cell?_setCells_out g (bv M) n w ⟨g, j, none⟩ (fun _ _ => .inl hj), fun j hj => ?_, fun j => World.frozen?_setCells _ _ _ _ _⟩⟩
    · rw [add_plain]
      by_cases h1 : j < n
      · rw [World.cell?_setCells_out g (bv M) n w ⟨g, j, none⟩ (fun _ _ => .inl h1)]
        obtain ⟨ad, e, hca⟩ := hr.cells (by omega)
        injection e with e
        subst e
        have h2 := hca j h1
        rw [add_plain] at h2
        rw [h2]
        congr 3
        unfold ub
        simp [List.getElem?_append_left (show j < L.length by omega)]
      · have h2 := World.cell?_setCells_in g (bv M) n w (fun i hi => by rw [bv_length] at hi; exact (hcs _ (by omega)).1) (j - n) (by rw [bv_length]; omega)
        rw [show n + (j - n) = j from by omega] at h2
        rw [h2]
        have h3 := bv_get (L := M) (j := j - n) (by omega)
        rw [List.getElem?_eq_getElem (by rw [bv_length]; omega)] at h3
        rw [h3]
        congr 3
        unfold ub
        simp [List.getElem?_append_right (show L.length ≤ j by omega), hl]
    · by_cases h1 : n ≤ j ∧ j < n + m
      · have h2 := World.cell?_setCells_in g (bv M) n w (fun i hi => by rw [bv_length] at hi; exact (hcs _ (by omega)).1) (j - n) (by rw [bv_length]; omega)
        rw [show n + (j - n) = j from by omega] at h2
        rw [h2]
        rfl
      · rw [World.cell?_setCells_out g (bv M) n w ⟨g, j, none⟩ (fun _ _ => by show j < n ∨ n + (bv M).length ≤ j; rw [bv_length]; omega)]
        exact (hcs j hj).1
    · rw [World.frozen?_setCells]
      exact (hcs j hj).2
    · by_cases h1 : n ≤ j ∧ j < n + m
      · have h2 := World.cell?_setCells_in g (bv M) n w (fun i hi => by rw [bv_length] at hi; exact (hcs _ (by omega)).1) (j - n) (by rw [bv_length]; omega)
        rw [show n + (j - n) = j from by omega] at h2
        rw [h2]
        rfl
      · rw [World.cell?_setCells_out g (bv M) n w ⟨g, j, none⟩ (fun _ _ => by show j < n ∨ n + (bv M).length ≤ j; rw [bv_length]; omega)]
        exact hj
theorem appm_law {ops : Array Oper} {rest : List Oper} {o : Oper} {a : Act} {Q : Exit → Act → World → Prop} {w0 w : World} (hgd : o.guard = none) {s x : Operand} (ho : o.op = .call { callee := .builtin .append, args := #[s, x], argTypes := #[26, 26] })
    {A : Option Addr} {n c : Nat} (hs : a.eval s = .slice A n c) {B : Option Addr} {m d : Nat} (hx : a.eval x = .slice B m d) (hE : Ext w0 w)
    {L M : List UInt8} (hown : OM w w0.heap.size A n c L) (hr : RB w B m d M) (hm : 0 < m) {N : Nat} {LM : List UInt8} (hN : n + m = N) (hL : L ++ M = LM) (hnm : N ≤ 140737488355328)
    (h : ∀ A' c' w', OM w' w0.heap.size A' N c' LM → Ext w0 w' → Aps w0.heap.size n w w' → wpList Tryz.prog ops Q rest (a.put o.dst (.slice A' N c')) w') :
    wpList Tryz.prog ops Q (o :: rest) a w := by
  subst hN hL
  obtain ⟨A', c', w', hrun, h1, h2⟩ := appm o.type hown hr hm hE.size hnm
  refine run_law hgd (v := .slice A' (n + m) c') (w' := w') ?_ (h A' c' w' h1 (h2.ext_ hE (Nat.le_refl _)) h2)
  unfold execOp
  simp only [ho, resolve, invoke, builtin, Sem.run_bind, Sem.run_pure, Result.andThen_ok, List.map_toArray, List.map_cons, List.map_nil, hs, hx, hrun]
theorem OM.conv (w : World) (s : List UInt8) (hs : s.length ≤ 1000000) : ∃ c w', (convert 9 26 (.string (str s))).run Tryz.prog w = .ok (.slice (some ⟨w.heap.size, 0, none⟩) s.length c) w' ∧ OM w' w.heap.size (some ⟨w.heap.size, 0, none⟩) s.length c s ∧ Ext w w' := by
  have h := Lib.run_convert_string_bytes (P := Tryz.prog) w 9 26 5 (str s) Tryz.underlying9 Tryz.underlying26 Tryz.underlying5
  have hz : (str s).size = s.length := str_size s
  rw [hz] at h
  have hat := Lib.bytesWorld_at_new w 5 (str s)
  have hsz : (Lib.bytesCells w 5 (str s)).size = grownCap w s.length 0 5 := by
    have := grownCap_ge w s.length 0 5
    unfold Lib.bytesCells
    simp [size_zeroCells, hz, Value.cells]
    omega
  refine ⟨_, _, h, ⟨w.heap.size, rfl, Nat.le_refl _, by rw [Lib.bytesWorld_size]; omega, ⟨rfl, grownCap_ge _ _ _ _, grownCap_le_maxLen _ _ _ _ (small_maxLen hs), fun hn => ⟨_, rfl, fun j hj => ?_⟩⟩, fun j hj => ⟨?_, ?_⟩⟩, ⟨rfl, rfl, rfl, by rw [Lib.bytesWorld_size]; omega, fun k hk => Lib.bytesWorld_at_old w _ _ k hk⟩⟩
  · rw [add_plain, Lib.bytesWorld_cell w _ _ j (by rw [hz]; exact hj)]
    rfl
  · unfold World.cell?
    rw [hat]
    simp [hsz, hj]
  · unfold World.frozen?
    rw [hat]
    simp [hsz]
    omega
end Go.Proofs.YtkndgpjamijbbaaGreat
namespace Go.Proofs.YtkndgpjamijbbaaGreat
set_option maxRecDepth 100000
open Go Go.RowKit
set_option maxHeartbeats 1000000 in
theorem r1num_m (w0 w : World) (A : Option Addr) (n c : Nat) (L : List UInt8) (x : UInt32) (hE0 : Ext w0 w) (own : OM w w0.heap.size A n c L) (hn : n ≤ 70368744177664) :
    Calls Tryz.prog 79 #[.slice A n c, .int .u32 (u32i x)] w fun e w' => ∃ A' c', e = .returned (.slice A' (n + 4) c') ∧ OM w' w0.heap.size A' (n + 4) c' (L ++ beBytes x 4) ∧ Ext w0 w' ∧ Aps w0.heap.size n w w' := by
  go_enter Tryz.func79, Tryz.ntmps79
  go_upto_region 1 with (fail)
  refine seq_ext (n := 13) (by kernel_rfl) [.is (.slice (A) (n) (c)), .is (.int .u32 (u32i (x))), .is (.int .u32 (u32i (shr x 24))), .is (.int .u8 (u8i ((shr x 24)).toUInt8)), .is (.int .u32 (u32i (x))), .is (.int .u32 (u32i (shr x 16))), .is (.int .u8 (u8i ((shr x 16)).toUInt8)), .is (.int .u32 (u32i (x))), .is (.int .u32 (u32i (shr x 8))), .is (.int .u8 (u8i ((shr x 8)).toUInt8)), .is (.int .u32 (u32i (x))), .is (.int .u8 (u8i (x).toUInt8)), .rb ([((shr x 24)).toUInt8, ((shr x 16)).toUInt8, ((shr x 8)).toUInt8, (x).toUInt8])] rfl ⟨?_, ?_, ?_, ?_, ?_, ?_, ?_, ?_, ?_, ?_, ?_, ?_, ?_, trivial⟩ ?_
  · refine stepE rfl fun sdn sa sw sE sd sk => ?_
    have h0 : sa.eval (.tmp 0) = .slice (A) (n) (c) := sk.old 0 rfl
    exact Runs.move rfl h0 ⟨Ext.refl _, rfl⟩
  · refine stepE rfl fun sdn sa sw sE sd sk => ?_
    have h1 : sa.eval (.tmp 1) = .int .u32 (u32i (x)) := sk.old 1 rfl
    exact Runs.move rfl h1 ⟨Ext.refl _, rfl⟩
  · refine stepE rfl fun sdn sa sw sE sd sk => ?_
    have h6 : sa.eval (.tmp 6) = .int .u32 (u32i (x)) := sk.fact 1 6 rfl (sd 1 rfl)
    exact Runs.bin rfl h6 rfl (eqGuard_bin rfl) (bin_shr32 _ _ 24 _) ⟨Ext.refl _, rfl⟩
  · refine stepE rfl fun sdn sa sw sE sd sk => ?_
    have h7 : sa.eval (.tmp 7) = .int .u32 (u32i (shr x 24)) := sk.fact 2 7 rfl (sd 2 rfl)
    exact Runs.conv rfl h7 (conv_u32_u8 Tryz.underlying56 Tryz.underlying5 _) ⟨Ext.refl _, rfl⟩
  · refine stepE rfl fun sdn sa sw sE sd sk => ?_
    have h1 : sa.eval (.tmp 1) = .int .u32 (u32i (x)) := sk.old 1 rfl
    exact Runs.move rfl h1 ⟨Ext.refl _, rfl⟩
  · refine stepE rfl fun sdn sa sw sE sd sk => ?_
    have h9 : sa.eval (.tmp 9) = .int .u32 (u32i (x)) := sk.fact 4 9 rfl (sd 4 rfl)
    exact Runs.bin rfl h9 rfl (eqGuard_bin rfl) (bin_shr32 _ _ 16 _) ⟨Ext.refl _, rfl⟩
  · refine stepE rfl fun sdn sa sw sE sd sk => ?_
    have h10 : sa.eval (.tmp 10) = .int .u32 (u32i (shr x 16)) := sk.fact 5 10 rfl (sd 5 rfl)
    exact Runs.conv rfl h10 (conv_u32_u8 Tryz.underlying56 Tryz.underlying5 _) ⟨Ext.refl _, rfl⟩
  · refine stepE rfl fun sdn sa sw sE sd sk => ?_
    have h1 : sa.eval (.tmp 1) = .int .u32 (u32i (x)) := sk.old 1 rfl
    exact Runs.move rfl h1 ⟨Ext.refl _, rfl⟩
  · refine stepE rfl fun sdn sa sw sE sd sk => ?_
    have h12 : sa.eval (.tmp 12) = .int .u32 (u32i (x)) := sk.fact 7 12 rfl (sd 7 rfl)
    exact Runs.bin rfl h12 rfl (eqGuard_bin rfl) (bin_shr32 _ _ 8 _) ⟨Ext.refl _, rfl⟩
  · refine stepE rfl fun sdn sa sw sE sd sk => ?_
    have h13 : sa.eval (.tmp 13) = .int .u32 (u32i (shr x 8)) := sk.fact 8 13 rfl (sd 8 rfl)
    exact Runs.conv rfl h13 (conv_u32_u8 Tryz.underlying56 Tryz.underlying5 _) ⟨Ext.refl _, rfl⟩
  · refine stepE rfl fun sdn sa sw sE sd sk => ?_
    have h1 : sa.eval (.tmp 1) = .int .u32 (u32i (x)) := sk.old 1 rfl
    exact Runs.move rfl h1 ⟨Ext.refl _, rfl⟩
  · refine stepE rfl fun sdn sa sw sE sd sk => ?_
    have h15 : sa.eval (.tmp 15) = .int .u32 (u32i (x)) := sk.fact 10 15 rfl (sd 10 rfl)
    exact Runs.conv rfl h15 (conv_u32_u8 Tryz.underlying56 Tryz.underlying5 _) ⟨Ext.refl _, rfl⟩
  · refine stepE rfl fun sdn sa sw sE sd sk => ?_
    have h8 : sa.eval (.tmp 8) = .int .u8 (u8i ((shr x 24)).toUInt8) := sk.fact 3 8 rfl (sd 3 rfl)
    have h11 : sa.eval (.tmp 11) = .int .u8 (u8i ((shr x 16)).toUInt8) := sk.fact 6 11 rfl (sd 6 rfl)
    have h14 : sa.eval (.tmp 14) = .int .u8 (u8i ((shr x 8)).toUInt8) := sk.fact 9 14 rfl (sd 9 rfl)
    have h16 : sa.eval (.tmp 16) = .int .u8 (u8i (x).toUInt8) := sk.fact 11 16 rfl (sd 11 rfl)
    exact Runs.lit4 rfl h8 h11 h14 h16 (fun w1 e1 o1 => ⟨e1, _, _, _, rfl, o1.rb⟩)
  intro vals W1 hE hv
  have e0 : vals 0 = .slice (A) (n) (c) := hv 0 (by omega) 5 rfl
  have e1 : vals 1 = .int .u32 (u32i (x)) := hv 1 (by omega) 6 rfl
  have e2 : vals 2 = .int .u32 (u32i (shr x 24)) := hv 2 (by omega) 7 rfl
  have e3 : vals 3 = .int .u8 (u8i ((shr x 24)).toUInt8) := hv 3 (by omega) 8 rfl
  have e4 : vals 4 = .int .u32 (u32i (x)) := hv 4 (by omega) 9 rfl
  have e5 : vals 5 = .int .u32 (u32i (shr x 16)) := hv 5 (by omega) 10 rfl
  have e6 : vals 6 = .int .u8 (u8i ((shr x 16)).toUInt8) := hv 6 (by omega) 11 rfl
  have e7 : vals 7 = .int .u32 (u32i (x)) := hv 7 (by omega) 12 rfl
  have e8 : vals 8 = .int .u32 (u32i (shr x 8)) := hv 8 (by omega) 13 rfl
  have e9 : vals 9 = .int .u8 (u8i ((shr x 8)).toUInt8) := hv 9 (by omega) 14 rfl
  have e10 : vals 10 = .int .u32 (u32i (x)) := hv 10 (by omega) 15 rfl
  have e11 : vals 11 = .int .u8 (u8i (x).toUInt8) := hv 11 (by omega) 16 rfl
  obtain ⟨A17, n17, c17, e12, r17⟩ := hv 12 (by omega) 17 rfl
  simp only [putAll, Act.put, List.take_succ_cons, List.take_zero, List.drop_succ_cons, List.drop_zero, List.drop_nil, List.take_nil, Nat.reduceAdd, List.setIfInBounds_toArray, List.set_cons_succ, List.set_cons_zero, e0, e1, e2, e3, e4, e5, e6, e7, e8, e9, e10, e11, e12]
  clear hv e0 e1 e2 e3 e4 e5 e6 e7 e8 e9 e10 e11 e12
  go_wp2_with (refine appm_law (N := n + 4) (LM := L ++ beBytes x 4) rfl rfl rfl rfl (hE0.trans hE) (own.ext hE) r17 (by have h17 := r17.len; simp only [List.length_cons, List.length_nil] at h17; omega) (by rw [← r17.len]; rfl) (by rw [beBytes4, shr_zero]) (by omega) ?_; intro A3 c3 W3 own3 hE3 hg3)
  go_ret
  exact ⟨A3, c3, rfl, own3, hE3, hg3.pre hE⟩
end Go.Proofs.YtkndgpjamijbbaaGreat
namespace Go.Proofs.YtkndgpjamijbbaaGreat
set_option maxRecDepth 100000
open Go Go.RowKit
def ApOK (b n : Nat) (m : MP Ext) : Prop := ∀ (u : Value) (w w' : World), Aps b n w w' → m.p u w → m.p u w'
theorem apok_is (b n : Nat) (v : Value) : ApOK b n (MP.is v) := fun _ _ _ _ h => h
def MP.om (b n : Nat) (L : List UInt8) : MP Ext := ⟨fun u w => ∃ A c, u = .slice A n c ∧ OM w b A n c L, fun _ _ _ e ⟨A, c, h1, h2⟩ => ⟨A, c, h1, h2.ext e⟩⟩
theorem apok_om {b n n' : Nat} (h : n' ≤ n) (L : List UInt8) : ApOK b n (MP.om b n' L) := by
  rintro u w w' e ⟨A, c, h1, h2⟩
  exact ⟨A, c, h1, h2.aps e h⟩
def apPairs (K : List (Nat × Nat)) (i : Nat) (o : Oper) : Bool := K.all fun jk => jk.1 != i || (depsOf o).contains jk.2 || (depsOf o).any fun p => K.contains (p, jk.2)
def JQ (w0 : World) (K : List (Nat × Nat)) (done : Nat → Bool) (w : World) : Prop := Ext w0 w ∧ ∀ j k, K.contains (j, k) = true → done j = true → done k = true
section
variable {ops : Array Oper} {H : List Tmp} {F : List (MP Ext)} {a0 : Act} {w0 : World} {i : Nat} {K : List (Nat × Nat)} {o : Oper}
theorem JQ.set {done : Nat → Bool} {w w' : World} (h : JQ w0 K done w) (e : Ext w0 w') (hi : apPairs K i o = true) (hd : ∀ j, (depsOf o).contains j = true → done j = true) : JQ w0 K (setDone done i) w' := by
  refine ⟨e, fun j k hjk hdj => ?_⟩
  unfold setDone at hdj ⊢
  by_cases hki : k = i
  · rw [if_pos hki]
  · rw [if_neg hki]
    by_cases hji : j = i
    · subst hji
      have h1 := List.all_eq_true.1 hi (j, k) (List.contains_iff_mem.1 hjk)
      simp only [bne_self_eq_false, Bool.false_or, Bool.or_eq_true, List.any_eq_true] at h1
      rcases h1 with h1 | ⟨p, h1, h2⟩
      · exact hd k h1
      · exact h.2 p k h2 (hd p (List.contains_iff_mem.2 h1))
    · rw [if_neg hji] at hdj
      exact h.2 j k hjk hdj
theorem stepEP (ho : o.guard = none) (hi : apPairs K i o = true) (h : ∀ (done : Nat → Bool) (a : Act) (w : World), Ext w0 w → (∀ j, (depsOf o).contains j = true → done j = true) → Known ops H F a0 done a w →
    Runs Tryz.prog o a.eval w fun v w' => Ext w w' ∧ factAt F i v w') : StepOK Tryz.prog ops H F (JQ w0 K) a0 i o := by
  intro done a w hJ _ hd hk
  rw [if_pos (by simp [Region.wanted, ho])]
  exact (h done a w hJ.1 (deps_done hd) hk).mono fun v w' hg => ⟨fun j _ u hu => factAt_keep hg.1 j u hu, hJ.set (hJ.1.trans hg.1) hi (deps_done hd), hg.2⟩
theorem stepAP {n : Nat} (ho : o.guard = none) (hi : apPairs K i o = true) (hst : ∀ j m, F[j]? = some m → j ≠ i → K.contains (j, i) = false → ApOK w0.heap.size n m)
    (h : ∀ (done : Nat → Bool) (a : Act) (w : World), Ext w0 w → (∀ j, (depsOf o).contains j = true → done j = true) → Known ops H F a0 done a w →
    Runs Tryz.prog o a.eval w fun v w' => Aps w0.heap.size n w w' ∧ factAt F i v w') : StepOK Tryz.prog ops H F (JQ w0 K) a0 i o := by
  intro done a w hJ hnd hd hk
  rw [if_pos (by simp [Region.wanted, ho])]
  refine (h done a w hJ.1 (deps_done hd) hk).mono fun v w' hg => ⟨fun j hj u hu => ?_, hJ.set (hg.1.ext_ hJ.1 (Nat.le_refl _)) hi (deps_done hd), hg.2⟩
  have hji : j ≠ i := fun e => by subst e; rw [hj] at hnd; cases hnd
  have hK : K.contains (j, i) = false := by
    cases hc : K.contains (j, i) with
    | false => rfl
    | true => have := hJ.2 j i hc hj; rw [hnd] at this; cases this
  unfold factAt at hu ⊢
  cases hm : F[j]? with
  | none => trivial
  | some mm => rw [hm] at hu; exact hst j mm hm hji hK u w w' hg.1 hu
end
theorem par_ap {ops : Array Oper} {id n : Nat} {a : Act} {w : World} {Q : Exit → Act → World → Prop} (K : List (Nat × Nat))
    (hB : parB ops n = true) (F : List (MP Ext))
    (hsz : (dsts ops).all (fun t => decide (t < a.tmps.size)) = true)
    (steps : StepsOK Tryz.prog ops ((ops.toList.take n).filterMap (·.dst)) F (JQ w K) a 0 (ops.toList.take n))
    (fin : ∀ (vals : Nat → Value) (w' : World), Ext w w' → (∀ j, j < n → ∀ d, dstAt ops j = some d → factAt F j (vals j) w') → wpList Tryz.prog ops Q (ops.toList.drop n) (putAll a 0 (ops.toList.take n) vals) w') :
    (Code.region id ops true).wp Tryz.prog Q a w :=
  par_region (R := Ext) (by kernel_rfl) hB F (JQ w K) ⟨(Ext.refl w).drew, fun _ _ _ h => by cases h⟩ (fun t ht => by simpa using List.all_eq_true.1 hsz t ht) steps (fun vals w' h1 h2 => fin vals w' h1.1 h2)
    (fun d d' w h hj => ⟨hj.1, fun j k hjk hd => (h k).symm.trans (hj.2 j k hjk ((h j).trans hd))⟩)
theorem Runs.appm {o : Oper} {ρ : Operand → Value} {w : World} {G : Value → World → Prop} {s x : Operand} {base n c : Nat} {A B : Option Addr} {m d : Nat} {L M : List UInt8} (ho : o.op = .call { callee := .builtin .append, args := #[s, x], argTypes := #[26, 26] })
    (hs : ρ s = .slice A n c) (hx : ρ x = .slice B m d) (hA : OM w base A n c L) (hr : RB w B m d M) (hm : 0 < m) (hbase : base ≤ w.heap.size) (hnm : n + m ≤ 140737488355328)
    (h : ∀ A' c' w', OM w' base A' (n + m) c' (L ++ M) → Aps base n w w' → G (.slice A' (n + m) c') w') : Runs Tryz.prog o ρ w G := by
  obtain ⟨A', c', w', hrun, h1, h2⟩ := Go.Proofs.YtkndgpjamijbbaaGreat.appm o.type hA hr hm hbase hnm
  refine Runs.of_run (r := .slice A' (n + m) c') (w' := w') ?_ (h A' c' w' h1 h2)
  unfold execOp
  simp only [ho, resolve, invoke, builtin, Sem.run_bind, Sem.run_pure, Result.andThen_ok, List.map_toArray, List.map_cons, List.map_nil, hs, hx, hrun]
end Go.Proofs.YtkndgpjamijbbaaGreat
