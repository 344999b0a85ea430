/-
  wire's Writer and Reader, walked. wire's Writer, walked: New, Byte, Num, Bytes, Raw, Done. wire's Reader, walked: Read, take, number, Byte, Num, Bytes, Raw, End. wire's Reader, walked: Byte, Num, Bytes, End.
-/
import Derived.Test.YtmgnigofilkfmabClone
import Derived.Test.YtmgnigofilkfmabParApp
namespace Go.Proofs.Ytmgnigofilkfmab
set_option maxRecDepth 100000
open Go Go.RowKit

/-- but for block p and the row at A nothing that was there is turned -/
structure Chg (w w' : World) (p : Nat) (A : Option Addr) : Prop where
  os : w'.os = w.os
  tape : w'.tape = w.tape
  output : w'.output = w.output
  size : w.heap.size ≤ w'.heap.size
  block : ∀ k, k < w.heap.size → k ≠ p → blk A ≠ some k → w'.heap[k]? = w.heap[k]?
def Later (w : World) (A A' : Option Addr) : Prop := blk A' = blk A ∨ blk A' = none ∨ ∃ k, blk A' = some k ∧ w.heap.size ≤ k
theorem Chg.refl (w : World) (p : Nat) (A : Option Addr) : Chg w w p A := ⟨rfl, rfl, rfl, Nat.le_refl _, fun _ _ _ _ => rfl⟩
theorem Chg.trans {a b c : World} {p : Nat} {A B : Option Addr} (h : Chg a b p A) (hl : Later a A B) (k : Chg b c p B) : Chg a c p A :=
  ⟨k.os.trans h.os, k.tape.trans h.tape, k.output.trans h.output, Nat.le_trans h.size k.size, fun i hi h1 h2 => by
    refine (k.block i (Nat.lt_of_lt_of_le hi h.size) h1 ?_).trans (h.block i hi h1 h2)
    rcases hl with e | e | ⟨q, e, hq⟩
    · rw [e]; exact h2
    · rw [e]; simp
    · rw [e]; intro e2; cases e2; omega⟩
theorem Later.trans {a b : World} {A B C : Option Addr} (h : Later a A B) (hs : a.heap.size ≤ b.heap.size) (k : Later b B C) : Later a A C := by
  rcases k with e | e | ⟨q, e, hq⟩
  · rcases h with e' | e' | ⟨q', e', hq'⟩
    · exact .inl (e.trans e')
    · exact .inr (.inl (e.trans e'))
    · exact .inr (.inr ⟨q', e.trans e', hq'⟩)
  · exact .inr (.inl e)
  · exact .inr (.inr ⟨q, e, Nat.le_trans hs hq⟩)
theorem Later.refl (w : World) (A : Option Addr) : Later w A A := .inl rfl
theorem Ext.chg {w w' : World} (h : Ext w w') (p : Nat) (A : Option Addr) : Chg w w' p A := ⟨h.os, h.tape, h.output, h.size, fun _ hk _ _ => h.block hk⟩
/-- A Writer: block p holds the row that it has written so far. -/
structure Wtr (w : World) (base p : Nat) (A : Option Addr) (n c : Nat) (L : List UInt8) : Prop where
  blk : Blk w p 108 #[.slice A n c]
  own : OB w base A n c L
  ne : Go.Proofs.Ytmgnigofilkfmab.blk A ≠ some p
  base : base ≤ p
theorem Wtr.chg_ext {w0 w w' : World} {p n c : Nat} {A : Option Addr} {L : List UInt8} (h : Wtr w w0.heap.size p A n c L) (hE : Ext w0 w) (k : Chg w w' p A) : Ext w0 w' :=
  ⟨k.os.trans hE.os, k.tape.trans hE.tape, k.output.trans hE.output, Nat.le_trans hE.size k.size, fun i hi => by
    refine (k.block i (Nat.lt_of_lt_of_le hi hE.size) ?_ ?_).trans (hE.block hi)
    · have := h.base; omega
    · intro e; have := (h.own.lt e).1; omega⟩
/-- a slice that is read, apart from the Writer's own memory -/
def Away (B : Option Addr) (n p : Nat) (A : Option Addr) : Prop := 0 < n → ∀ k, blk B = some k → k ≠ p ∧ blk A ≠ some k
theorem RB.chg {w w' : World} {B : Option Addr} {n d p : Nat} {A : Option Addr} {M : List UInt8} (h : RB w B n d M) (k : Chg w w' p A) (ha : Away B n p A) : RB w' B n d M :=
  ⟨h.len, h.room, h.cap, fun hn => by
    obtain ⟨ad, rfl, hc⟩ := h.cells hn
    refine ⟨ad, rfl, fun j hj => ?_⟩
    have h1 := ha hn ad.block rfl
    have h2 := hc j hj
    have h3 := World.block_lt_of_cell? w _ h2
    rw [block_of_add] at h3
    refine (World.cell?_of_block ?_).trans h2
    rw [block_of_add]
    exact k.block _ h3 h1.1 h1.2⟩
theorem Away.later {w : World} {B : Option Addr} {n p : Nat} {A A' : Option Addr} (h : Away B n p A) (hl : Later w A A') (hb : 0 < n → ∀ k, blk B = some k → k < w.heap.size) : Away B n p A' := by
  intro hn k hk
  refine ⟨(h hn k hk).1, ?_⟩
  rcases hl with e | e | ⟨q, e, hq⟩
  · rw [e]; exact (h hn k hk).2
  · rw [e]; simp
  · rw [e]; intro e2; cases e2; have := hb hn _ hk; omega
theorem RB.blk_lt {w : World} {B : Option Addr} {n d : Nat} {M : List UInt8} (h : RB w B n d M) (hn : 0 < n) (k : Nat) (hk : blk B = some k) : k < w.heap.size := by
  obtain ⟨ad, rfl, hc⟩ := h.cells hn
  have h3 := World.block_lt_of_cell? w _ (hc 0 hn)
  rw [block_of_add] at h3
  cases hk
  exact h3
/-- what was there before the Writer was made is apart from it -/
theorem Wtr.away {w0 w : World} {p n c m d : Nat} {A B : Option Addr} {L M : List UInt8} (h : Wtr w w0.heap.size p A n c L) (hr : RB w0 B m d M) : Away B m p A := by
  intro hm k hk
  have h1 := hr.blk_lt hm k hk
  refine ⟨?_, ?_⟩
  · have := h.base; omega
  · intro e; have := (h.own.lt e).1; omega

theorem OB.far {w : World} {base n c : Nat} {A : Option Addr} {L : List UInt8} (h : OB w base A n c L) {p : Addr} {u : Value} (hp : blk A ≠ some p.block) : OB (w.setCell p u) base A n c L :=
  h.grown (grownBy_setCell w p u) (.inr hp)
def beBytes (x : UInt32) (z : Nat) : List UInt8 := (List.range z).map fun i => (shr x (8 * (z - 1 - i))).toUInt8
theorem beBytes_length (x : UInt32) (z : Nat) : (beBytes x z).length = z := by simp [beBytes]
theorem beBytes_take (x : UInt32) (z i : Nat) (hi : i < z) : (beBytes x z).take (i + 1) = (beBytes x z).take i ++ [(shr x (8 * (z - 1 - i))).toUInt8] := by
  rw [List.take_succ_eq_append_getElem (by rw [beBytes_length]; exact hi)]
  congr 2
  simp [beBytes]

set_option maxHeartbeats 1000000 in
theorem wnumber_any (wI w : World) (p n0 c0 : Nat) (A0 : Option Addr) (X0 : List UInt8) (x : UInt32) (z : Nat) (zI : Int) (hzI : zI = (z : Int)) (hz : z ≤ 4) (hz1 : 1 ≤ z) (hEI : Ext wI w) (hW : Wtr w wI.heap.size p A0 n0 c0 X0) (hn : n0 ≤ 70368744177664) :
    Calls Try.prog 91 #[.pointer (some ⟨p, 0, none⟩), .int .u32 (u32i x), .int .i64 zI] w fun e w' =>
      e = .returned (.tuple #[]) ∧ ∃ A c, Wtr w' wI.heap.size p A (n0 + z) c (X0 ++ beBytes x z) ∧ Chg w w' p A0 ∧ Later w A0 A := by
  subst hzI
  go_enter Try.func91, Try.ntmps91
  go_wp2_with fail
  go_loopw [6] (fun i wr => ∃ (m c : Nat) (A : Option Addr), m ≤ z ∧ (i = .int .i64 ((z : Int) - 1 - (m : Int))) ∧ Wtr wr wI.heap.size p A (n0 + m) c (X0 ++ (beBytes x z).take m) ∧ Chg w wr p A0 ∧ Later w A0 A) (fun i _ => (1 + intOf i).toNat)
  case atStart => exact ⟨0, c0, A0, by omega, by congr 1; omega, by simpa using hW, Chg.refl _ _ _, Later.refl _ _⟩
  case round =>
    obtain ⟨m, c, A, hm, rfl, hWr, hC, hLt⟩ := hrel
    by_cases hlt : m < z
    · go_upto_region 3 with (fail)
      have hb := hWr.blk
      have own := hWr.own
      have hA := hWr.ne
      obtain ⟨n, hnn⟩ : ∃ n, n = n0 + m := ⟨_, rfl⟩
      obtain ⟨X, hX⟩ : ∃ X, X = X0 ++ (beBytes x z).take m := ⟨_, rfl⟩
      rw [← hnn, ← hX] at own
      rw [← hnn] at hb
      have hEW := hW.chg_ext hEI hC
      obtain ⟨W, hWW⟩ : ∃ W, W = wr := ⟨_, rfl⟩
      rw [← hWW] at own hb hEW ⊢
      have hAlt : ∀ k, blk A = some k → k < W.heap.size := fun k hk => (own.lt hk).2
      have Hnn := Lib.hid hnn
      have HX := Lib.hid hX
      have HWW := Lib.hid hWW
      have hn16 : n ≤ 70368744177668 := by omega
      clear hnn hX hWW
      refine par_app (n := 12) 11 hEW own (by kernel_rfl) [.is (.pointer (some ⟨p, 0, none⟩)), .is (.pointer (some ⟨p, 0, none⟩)), .is (.pointer (some ⟨p, 0, none⟩)), .is (.pointer (some ⟨p, 0, none⟩)), .is (.slice (A) (n) (c)), .is (.int .u32 (u32i (x))), .is (.int .i64 ((z : Int) - 1 - (m : Int))), .is (.int .i64 ((8 : Int) * ((z : Int) - 1 - (m : Int)))), .is (.int .u32 (u32i (shr x (8 * (z - 1 - m))))), .is (.int .u8 (u8i ((shr x (8 * (z - 1 - m)))).toUInt8)), .rbf (W.heap.size) ([((shr x (8 * (z - 1 - m)))).toUInt8]), .app (wI.heap.size) (W.heap.size) (A) (n + 1) (X ++ [(shr x (8 * (z - 1 - m))).toUInt8])] rfl ⟨?_, ?_, ?_, ?_, ?_, ?_, ?_, ?_, ?_, ?_, ?_, ?_, trivial⟩ ?_
      · refine stepEA rfl (by decide) fun sdn sa sw sG sE sd sk => ?_
        have h0 : sa.eval (.tmp 0) = .pointer (some ⟨p, 0, none⟩) := sk.old 0 rfl
        exact Runs.move rfl h0 ⟨Ext.refl _, rfl⟩
      · refine stepEA rfl (by decide) fun sdn sa sw sG sE sd sk => ?_
        have h0 : sa.eval (.tmp 0) = .pointer (some ⟨p, 0, none⟩) := sk.old 0 rfl
        exact Runs.move rfl h0 ⟨Ext.refl _, rfl⟩
      · refine stepEA rfl (by decide) fun sdn sa sw sG sE sd sk => ?_
        have h14 : sa.eval (.tmp 14) = .pointer (some ⟨p, 0, none⟩) := sk.fact 1 14 rfl (sd 1 rfl)
        exact Runs.nil_ rfl h14 ⟨Ext.refl _, rfl⟩
      · refine stepEA rfl (by decide) fun sdn sa sw sG sE sd sk => ?_
        have h15 : sa.eval (.tmp 15) = .pointer (some ⟨p, 0, none⟩) := sk.fact 2 15 rfl (sd 2 rfl)
        refine Runs.of_run (r := .pointer (some ⟨p, 0, none⟩)) (w' := sw) ?_ ⟨Ext.refl _, rfl⟩
        unfold execOp
        simp only [h15]
        go_simp
      · refine stepEA rfl (by decide) fun sdn sa sw sG sE sd sk => ?_
        have h16 : sa.eval (.tmp 16) = .pointer (some ⟨p, 0, none⟩) := sk.fact 3 16 rfl (sd 3 rfl)
        exact Runs.load rfl h16 (run_load1 Try.underlying22 rfl (Blk.cell (hb.grown sG (by intro e; exact hA e.symm)) rfl)) ⟨Ext.refl _, rfl⟩
      · refine stepEA rfl (by decide) fun sdn sa sw sG sE sd sk => ?_
        have h1 : sa.eval (.tmp 1) = .int .u32 (u32i (x)) := sk.old 1 rfl
        exact Runs.move rfl h1 ⟨Ext.refl _, rfl⟩
      · refine stepEA rfl (by decide) fun sdn sa sw sG sE sd sk => ?_
        have h6 : sa.eval (.tmp 6) = .int .i64 ((z : Int) - 1 - (m : Int)) := sk.old 6 rfl
        exact Runs.move rfl h6 ⟨Ext.refl _, rfl⟩
      · refine stepEA rfl (by decide) fun sdn sa sw sG sE sd sk => ?_
        have h19 : sa.eval (.tmp 19) = .int .i64 ((z : Int) - 1 - (m : Int)) := sk.fact 6 19 rfl (sd 6 rfl)
        exact Runs.bin rfl rfl h19 (eqGuard_bin rfl) (bin_mul64 _ _ _ (by omega) (by omega)) ⟨Ext.refl _, rfl⟩
      · refine stepEA rfl (by decide) fun sdn sa sw sG sE sd sk => ?_
        have h18 : sa.eval (.tmp 18) = .int .u32 (u32i (x)) := sk.fact 5 18 rfl (sd 5 rfl)
        have h20 : sa.eval (.tmp 20) = .int .i64 ((8 : Int) * ((z : Int) - 1 - (m : Int))) := sk.fact 7 20 rfl (sd 7 rfl)
        exact Runs.bin rfl h18 h20 (eqGuard_bin rfl) (bin_shr32 _ _ (8 * (z - 1 - m)) _ (by omega) (by omega)) ⟨Ext.refl _, rfl⟩
      · refine stepEA rfl (by decide) fun sdn sa sw sG sE sd sk => ?_
        have h21 : sa.eval (.tmp 21) = .int .u32 (u32i (shr x (8 * (z - 1 - m)))) := sk.fact 8 21 rfl (sd 8 rfl)
        exact Runs.conv rfl h21 (conv_u32_u8 Try.underlying25 Try.underlying5 _) ⟨Ext.refl _, rfl⟩
      · refine stepEA rfl (by decide) fun sdn sa sw sG sE sd sk => ?_
        have h22 : sa.eval (.tmp 22) = .int .u8 (u8i ((shr x (8 * (z - 1 - m)))).toUInt8) := sk.fact 9 22 rfl (sd 9 rfl)
        exact Runs.lit1 rfl h22 (fun w1 e1 o1 => ⟨e1, _, _, _, rfl, o1.rb, fun k hk => by have h9 := (o1.lt hk).1; have h8 := sG.size; omega⟩)
      · refine stepApp (N := n + 1) (q := W.heap.size) rfl rfl (by omega) rfl rfl (Nat.le_refl _) ⟨.inr (stays_is _ _), .inr (stays_is _ _), .inr (stays_is _ _), .inr (stays_is _ _), .inr (stays_is _ _), .inr (stays_is _ _), .inr (stays_is _ _), .inr (stays_is _ _), .inr (stays_is _ _), .inr (stays_is _ _), .inr (stays_rbf hAlt), .inl rfl, trivial⟩ fun sdn sa sw sG sE sd sk => ?_
        have h17 : sa.eval (.tmp 17) = .slice (A) (n) (c) := sk.fact 4 17 rfl (sd 4 rfl)
        obtain ⟨A23, n23, c23, h23, r23, q23⟩ := sk.fact 10 23 rfl (sd 10 rfl)
        exact ⟨h17, A23, n23, c23, h23, r23, by rw [← r23.len]; rfl⟩
      ·
        intro vals W1 hG hE hv
        have e0 : vals 0 = .pointer (some ⟨p, 0, none⟩) := hv 0 (by omega) 13 rfl
        have e1 : vals 1 = .pointer (some ⟨p, 0, none⟩) := hv 1 (by omega) 14 rfl
        have e2 : vals 2 = .pointer (some ⟨p, 0, none⟩) := hv 2 (by omega) 15 rfl
        have e3 : vals 3 = .pointer (some ⟨p, 0, none⟩) := hv 3 (by omega) 16 rfl
        have e4 : vals 4 = .slice (A) (n) (c) := hv 4 (by omega) 17 rfl
        have e5 : vals 5 = .int .u32 (u32i (x)) := hv 5 (by omega) 18 rfl
        have e6 : vals 6 = .int .i64 ((z : Int) - 1 - (m : Int)) := hv 6 (by omega) 19 rfl
        have e7 : vals 7 = .int .i64 ((8 : Int) * ((z : Int) - 1 - (m : Int))) := hv 7 (by omega) 20 rfl
        have e8 : vals 8 = .int .u32 (u32i (shr x (8 * (z - 1 - m)))) := hv 8 (by omega) 21 rfl
        have e9 : vals 9 = .int .u8 (u8i ((shr x (8 * (z - 1 - m)))).toUInt8) := hv 9 (by omega) 22 rfl
        obtain ⟨A23, n23, c23, e10, r23, q23⟩ := hv 10 (by omega) 23 rfl
        obtain ⟨A24, c24, e11, o24, b24⟩ := hv 11 (by omega) 24 rfl
        simp only [putAll, Act.put, List.take_succ_cons, List.take_zero, List.drop_succ_cons, List.drop_zero, List.drop_nil, List.take_nil, Nat.reduceAdd, List.setIfInBounds_toArray, List.set_cons_succ, List.set_cons_zero, e0, e1, e2, e3, e4, e5, e6, e7, e8, e9, e10, e11]
        clear hv e0 e1 e2 e3 e4 e5 e6 e7 e8 e9 e10 e11
        have hb1 : Blk W1 p 108 #[.slice A n c] := hb.grown hG (by intro e; exact hA e.symm)
        have y1 := hb1.cell (i := 0) rfl
        have y2 := hb1.frozen 0
        go_wp2_with fail
        have hne : blk A24 ≠ some p := by
          rcases b24 with e | ⟨k, e, hk⟩
          · rw [e]; exact hA
          · rw [e]; intro e2; cases e2; have := hb.lt; omega
        go_roundw
        case rel =>
          refine ⟨m + 1, c24, A24, by omega, by go_num, ⟨?_, ?_, hne, hW.base⟩, ?_, ?_⟩
          · have h1 := hb1.set 0 (.slice A24 (n + 1) c24)
            have e : n0 + (m + 1) = n + 1 := by have := Hnn.out; omega
            rw [e]
            exact h1
          · have h2 := o24.far (p := ⟨p, 0, none⟩) (u := .slice A24 (n + 1) c24) hne
            rw [beBytes_take _ _ _ hlt, ← List.append_assoc, ← HX.out, ← Nat.add_assoc, ← Hnn.out]
            exact h2
          · rw [HWW.out] at hG
            refine hC.trans hLt ⟨hG.os, hG.tape, hG.output, by simpa [World.setCell] using hG.size, fun k hk h1 h2 => ?_⟩
            exact (Below.heap_setCell W1 ⟨p, 0, none⟩ _ k h1).trans (hG.block k hk (fun e => h2 e.symm))
          · refine hLt.trans hC.size ?_
            rw [HWW.out] at b24
            rcases b24 with e | e
            · exact .inl e
            · exact .inr (.inr e)
        case measure => simp [intOf]; omega
    · obtain rfl : m = z := by omega
      rw [List.take_of_length_le (by rw [beBytes_length]; exact Nat.le_refl _)] at hWr
      go_wp2_with fail
      go_end0
      exact ⟨rfl, A, c, hWr, hC, hLt⟩
end Go.Proofs.Ytmgnigofilkfmab
namespace Go.Proofs.Ytmgnigofilkfmab
set_option maxRecDepth 100000
open Go Go.RowKit
/-- behind a call that wrote: the Writer holds M; nothing but its own memory was turned -/
def WP (wI w : World) (p : Nat) (A0 : Option Addr) (N : Nat) (M : List UInt8) (w' : World) : Prop := ∃ A c, Wtr w' wI.heap.size p A N c M ∧ Chg w w' p A0 ∧ Later w A0 A
theorem conv_u8_u32' {P : Program} {w : World} {s t : TypeId} (hs : P.underlying s = some (.int .u8)) (ht : P.underlying t = some (.int .u32)) (b : UInt8) : (convert s t (.int .u8 (u8i b))).run P w = .ok (.int .u32 (u32i b.toUInt32)) w := conv_u8_u32 hs ht b
theorem beBytes_byte (b : UInt8) : beBytes b.toUInt32 1 = [b] := by
  have : ∀ b : UInt8, beBytes b.toUInt32 1 = [b] := by
    intro b
    simp only [beBytes, List.range_one, List.map_cons, List.map_nil]
    congr 1
    apply UInt8.toNat_inj.1
    rw [UInt32.toNat_toUInt8, shr_toNat, UInt8.toNat_toUInt32]
    simp
  exact this b
set_option maxHeartbeats 400000 in
theorem wnew_any (w : World) : Calls Try.prog 55 #[] w fun e w' => ∃ p, e = .returned (.pointer (some ⟨p, 0, none⟩)) ∧ Wtr w' w.heap.size p none 0 0 [] ∧ Ext w w' := by
  go_enter Try.func55, Try.ntmps55
  go_wp2_with fail
  go_ret
  exact ⟨w.heap.size, rfl, ⟨Blk.new w _ _, OB.none_ _ _, by simp [blk], Nat.le_refl _⟩, Ext.new w _⟩
set_option maxHeartbeats 400000 in
theorem wbyte_any (wI w : World) (p n0 c0 : Nat) (A0 : Option Addr) (X0 : List UInt8) (b : UInt8) (hEI : Ext wI w) (hW : Wtr w wI.heap.size p A0 n0 c0 X0) (hn : n0 ≤ 70368744177664) :
    Calls Try.prog 56 #[.pointer (some ⟨p, 0, none⟩), .int .u8 (u8i b)] w fun e w' => e = .returned (.tuple #[]) ∧ WP wI w p A0 (n0 + 1) (X0 ++ [b]) w' := by
  have hc := fun w' : World => conv_u8_u32' (P := Try.prog) (w := w') Try.underlying5 Try.underlying25 b
  go_enter Try.func56, Try.ntmps56
  go_wp2_with fail
  refine (wnumber_any wI w p n0 c0 A0 X0 b.toUInt32 1 _ rfl (by omega) (by omega) hEI hW hn).mono ?_
  rintro e w' ⟨rfl, A, c, h1, h2, h3⟩
  rw [beBytes_byte] at h1
  go_wp2_with fail
  go_end0
  exact ⟨rfl, A, c, h1, h2, h3⟩
set_option maxHeartbeats 400000 in
theorem wnum_any (wI w : World) (p n0 c0 : Nat) (A0 : Option Addr) (X0 : List UInt8) (x : UInt32) (hEI : Ext wI w) (hW : Wtr w wI.heap.size p A0 n0 c0 X0) (hn : n0 ≤ 70368744177664) :
    Calls Try.prog 58 #[.pointer (some ⟨p, 0, none⟩), .int .u32 (u32i x)] w fun e w' => e = .returned (.tuple #[]) ∧ WP wI w p A0 (n0 + 4) (X0 ++ beBytes x 4) w' := by
  go_enter Try.func58, Try.ntmps58
  go_wp2_with fail
  refine (wnumber_any wI w p n0 c0 A0 X0 x 4 _ rfl (by omega) (by omega) hEI hW hn).mono ?_
  rintro e w' ⟨rfl, A, c, h1, h2, h3⟩
  go_wp2_with fail
  go_end0
  exact ⟨rfl, A, c, h1, h2, h3⟩
set_option maxHeartbeats 400000 in
theorem wraw_any (wI w : World) (p n0 c0 m d : Nat) (A0 B : Option Addr) (X0 M : List UInt8) (hEI : Ext wI w) (hW : Wtr w wI.heap.size p A0 n0 c0 X0) (hr : RB w B m d M) (hn : n0 + m ≤ 140737488355328) :
    Calls Try.prog 59 #[.pointer (some ⟨p, 0, none⟩), .slice B m d] w fun e w' => e = .returned (.tuple #[]) ∧ WP wI w p A0 (n0 + m) (X0 ++ M) w' := by
  have y1 := hW.blk.cell (i := 0) rfl
  have hb := hW.blk
  have own := hW.own
  go_enter Try.func59, Try.ntmps59
  go_wp2_with (refine app_law rfl rfl rfl rfl own hr hn hEI.size ?_; intro A' c' w1 own1 g1 b1 s1; have y2 := (hb.grown g1 (by intro e; exact hW.ne e.symm)).cell (i := 0) rfl; have y3 := (hb.grown g1 (by intro e; exact hW.ne e.symm)).frozen 0)
  have hb1 := hb.grown g1 (by intro e; exact hW.ne e.symm)
  have hne : blk A' ≠ some p := by
    rcases b1 with e | e
    · rw [e]; exact hW.ne
    · rw [e]; intro e2; cases e2; have := hb.lt; omega
  go_end0
  refine ⟨rfl, A', c', ⟨hb1.set 0 _, own1.far hne, hne, hW.base⟩, ⟨g1.os, g1.tape, g1.output, by simpa [World.setCell] using g1.size, fun k hk h1 h2 => ?_⟩, ?_⟩
  · exact (Below.heap_setCell w1 ⟨p, 0, none⟩ _ k h1).trans (g1.block k hk (fun e => h2 e.symm))
  · rcases b1 with e | e
    · exact .inl e
    · exact .inr (.inr ⟨_, e, Nat.le_refl _⟩)
theorem conv_i64_u32 {P : Program} {w : World} {s t : TypeId} (hs : P.underlying s = some (.int .i64)) (ht : P.underlying t = some (.int .u32)) (n : Nat) : (convert s t (.int .i64 (n : Int))).run P w = .ok (.int .u32 (u32i (UInt32.ofNat n))) w := by
  have e : IntKind.u32.wrap (n : Int) = u32i (UInt32.ofNat n) := by
    unfold u32i
    rw [u32_wrap, UInt32.toNat_ofNat']
  simp [convert, run_underlying hs, run_underlying ht, Conv.intToInt, e]
def be2 (n : Nat) : List UInt8 := beBytes (UInt32.ofNat n) 2
theorem WP.trans {wI w w1 w2 : World} {p N N' : Nat} {A0 : Option Addr} {M M' : List UInt8} {A : Option Addr} {c : Nat} (h1 : Wtr w1 wI.heap.size p A N c M) (h2 : Chg w w1 p A0) (h3 : Later w A0 A) (k : WP wI w1 p A N' M' w2) : WP wI w p A0 N' M' w2 := by
  obtain ⟨A', c', k1, k2, k3⟩ := k
  exact ⟨A', c', k1, h2.trans h3 k2, h3.trans h2.size k3⟩
set_option maxHeartbeats 400000 in
theorem wbytes_any (wI w : World) (p n0 c0 m d : Nat) (A0 B : Option Addr) (X0 M : List UInt8) (hEI : Ext wI w) (hW : Wtr w wI.heap.size p A0 n0 c0 X0) (hr : RB w B m d M) (ha : Away B m p A0) (hn : n0 ≤ 70368744177664) (hm : m ≤ 65535) :
    Calls Try.prog 57 #[.pointer (some ⟨p, 0, none⟩), .slice B m d] w fun e w' => e = .returned (.bool true) ∧ WP wI w p A0 (n0 + 2 + m) (X0 ++ be2 m ++ M) w' := by
  have hc := fun w' : World => conv_i64_u32 (P := Try.prog) (w := w') Try.underlying3 Try.underlying25 m
  have hle : ¬ (65535 : Int) < (m : Int) := by omega
  go_enter Try.func57, Try.ntmps57
  go_wp2_with fail
  refine (wnumber_any wI w p n0 c0 A0 X0 (UInt32.ofNat m) 2 _ rfl (by omega) (by omega) hEI hW hn).mono ?_
  rintro e w1 ⟨rfl, A, c, h1, h2, h3⟩
  have hE1 := hW.chg_ext hEI h2
  go_wp2_with fail
  refine (wraw_any wI w1 p (n0 + 2) c m d A B (X0 ++ be2 m) M hE1 h1 (hr.chg h2 ha) (by omega)).mono ?_
  rintro e w2 ⟨rfl, k⟩
  go_wp2_with fail
  go_ret
  exact ⟨rfl, k.trans h1 h2 h3⟩
set_option maxHeartbeats 400000 in
theorem wdone_any (w : World) (base p n0 c0 : Nat) (A0 : Option Addr) (X0 : List UInt8) (hW : Wtr w base p A0 n0 c0 X0) (hn : n0 ≤ 140737488355328) :
    Calls Try.prog 60 #[.pointer (some ⟨p, 0, none⟩)] w fun e w' => ∃ B d, e = .returned (.slice B n0 d) ∧ OB w' w.heap.size B n0 d X0 ∧ Ext w w' := by
  have y1 := hW.blk.cell (i := 0) rfl
  go_enter Try.func60, Try.ntmps60
  go_wp2_with fail
  refine (clone_any A0 n0 c0 X0 w hW.own.rb hn).mono ?_
  rintro e w1 ⟨B, d, rfl, h1, h2⟩
  go_wp2_with fail
  go_ret
  exact ⟨B, d, rfl, h1, h2⟩
end Go.Proofs.Ytmgnigofilkfmab
namespace Go.Proofs.Ytmgnigofilkfmab
set_option maxRecDepth 100000
open Go Go.RowKit
/-- what a Reader does: what it takes, what is left, whether bytes lacked -/
def rtake (L : List UInt8) (bad : Bool) (z : Int) : List UInt8 × List UInt8 × Bool := if bad = true ∨ z < 0 ∨ (L.length : Int) < z then ([], [], true) else (L.take z.toNat, L.drop z.toNat, false)
/-- A Reader: block q holds what is left, and whether bytes lacked. -/
structure Rdr (w : World) (base q : Nat) (A : Option Addr) (n c : Nat) (L : List UInt8) (bad : Bool) : Prop where
  blk : Blk w q 105 #[.slice A n c, .bool bad]
  rb : RB w A n c L
  ne : 0 < n → Go.Proofs.Ytmgnigofilkfmab.blk A ≠ some q
  base : base ≤ q
  ty : 0 < n → ∀ k, Go.Proofs.Ytmgnigofilkfmab.blk A = some k → ∃ cs fr, w.heap[k]? = some (.cells cs 5 fr)
theorem OB.typed {w : World} {base n c : Nat} {A : Option Addr} {L : List UInt8} (h : OB w base A n c L) (k : Nat) (hk : blk A = some k) : ∃ cs fr, w.heap[k]? = some (.cells cs 5 fr) := by
  rcases h.2 with ⟨e, _⟩ | ⟨g, cap, cur, e, _, h1, _⟩
  · injection e with e1
    subst e1
    cases hk
  · injection e with e1
    subst e1
    have h2 : some g = some k := hk
    injection h2 with h2
    subst h2
    exact ⟨cur, (0, 0), h1⟩
theorem typed_ext {w w' : World} (e : Ext w w') {k : Nat} (h : ∃ cs fr, w.heap[k]? = some (.cells cs 5 fr)) : ∃ cs fr, w'.heap[k]? = some (.cells cs 5 fr) := by
  obtain ⟨cs, fr, h1⟩ := h
  exact ⟨cs, fr, (e.block (Array.getElem?_eq_some_iff.1 h1).1).trans h1⟩
def RdrS (w : World) (base q : Nat) (L : List UInt8) (bad : Bool) : Prop := ∃ A n c, n ≤ 140737488355328 ∧ Rdr w base q A n c L bad
theorem Rdr.later {w w' : World} {base q n c : Nat} {A : Option Addr} {L : List UInt8} {bad : Bool} (h : Rdr w base q A n c L bad) (e : Ext w w') : Rdr w' base q A n c L bad :=
  ⟨h.blk.ext e, h.rb.ext e, h.ne, h.base, fun hn k hk => typed_ext e (h.ty hn k hk)⟩
theorem RdrS.later {w w' : World} {base q : Nat} {L : List UInt8} {bad : Bool} (h : RdrS w base q L bad) (e : Ext w w') : RdrS w' base q L bad := by
  obtain ⟨A, n, c, h1, h2⟩ := h
  exact ⟨A, n, c, h1, h2.later e⟩
theorem cut_addr {ad : Addr} {c k : Nat} (h : c ≠ k) : (if c = k then some ad else some ({ block := ad.block, off := ad.off + k } : Addr)) = some ({ block := ad.block, off := ad.off + k } : Addr) := by rw [if_neg h]
set_option maxHeartbeats 1000000 in
theorem rread_any (A : Option Addr) (n c : Nat) (L : List UInt8) (w : World) (hr : RB w A n c L) (hn : n ≤ 140737488355328) :
    Calls Try.prog 47 #[.slice A n c] w fun e w' => ∃ q, e = .returned (.pointer (some ⟨q, 0, none⟩)) ∧ RdrS w' w.heap.size q L false ∧ Ext w w' := by
  go_enter Try.func47, Try.ntmps47
  go_wp2_with fail
  refine (clone_any A n c L w hr hn).mono ?_
  rintro e w1 ⟨B, d, rfl, own, hE⟩
  go_wp2_with fail
  go_ret
  refine ⟨w1.heap.size, rfl, ⟨B, n, d, hn, Blk.new w1 _ _, own.rb.ext (Ext.new w1 _), fun hn e => ?_, hE.size, fun _ k hk => typed_ext (Ext.new w1 _) (own.typed k hk)⟩, hE.alloc _⟩
  have := (own.lt e).2
  omega
set_option maxHeartbeats 1000000 in
theorem rtake_no (w : World) (base q n c : Nat) (A : Option Addr) (L : List UInt8) (bad : Bool) (z : Int) (hR : Rdr w base q A n c L bad) (hz0 : -9223372036854775808 ≤ z) (hz1 : z ≤ 9223372036854775807) (hno : bad = true ∨ z < 0 ∨ (n : Int) < z) :
    Calls Try.prog 89 #[.pointer (some ⟨q, 0, none⟩), .int .i64 z] w fun e w' => e = .returned (.slice none 0 0) ∧ RdrS w' base q [] true ∧ w.grownBy w' (some q) := by
  have y1 := hR.blk.cell (i := 0) rfl
  have y2 := hR.blk.cell (i := 1) rfl
  have y3 := hR.blk.frozen 0
  have y4 := hR.blk.frozen 1
  have hb := hR.blk
  have fin : ∀ w', w' = (w.setCell ⟨q, 0, none⟩ (.slice none 0 0)).setCell ⟨q, 1, none⟩ (.bool true) → RdrS w' base q [] true ∧ w.grownBy w' (some q) := by
    rintro w' rfl
    refine ⟨⟨none, 0, 0, by omega, (hb.set 0 _).set 1 _, RB.nil_ _, fun h => by omega, hR.base, fun h => by omega⟩, (grownBy_setCell w ⟨q, 0, none⟩ _).trans (grownBy_setCell _ ⟨q, 1, none⟩ _)⟩
  have Fin := Lib.hid fin
  clear fin hb hR
  by_cases hb : bad = true
  · subst hb
    go_enter Try.func89, Try.ntmps89
    go_wp2_with fail
    go_ret
    exact ⟨rfl, Fin.out _ rfl⟩
  · have hb' : bad = false := by simpa using hb
    subst hb'
    clear hb
    by_cases hz : z < 0
    · have d1 : decide (z < 0) = true := by simpa using hz
      go_enter Try.func89, Try.ntmps89
      go_wp2_with fail
      go_ret
      exact ⟨rfl, Fin.out _ rfl⟩
    · have d1 : decide (z < 0) = false := by simpa using hz
      have hlt : (n : Int) < z := by rcases hno with h | h | h <;> first | (cases h; done) | omega
      have d2 : decide ((n : Int) < z) = true := by simpa using hlt
      clear hno
      go_enter Try.func89, Try.ntmps89
      go_wp2_with fail
      go_ret
      exact ⟨rfl, Fin.out _ rfl⟩
set_option maxHeartbeats 1000000 in
theorem rtake_yes (w : World) (base q n c : Nat) (A : Option Addr) (L : List UInt8) (z : Int) (hR : Rdr w base q A n c L false) (hn : n ≤ 140737488355328) (hz0 : 0 ≤ z) (hz1 : z ≤ (n : Int)) :
    Calls Try.prog 89 #[.pointer (some ⟨q, 0, none⟩), .int .i64 z] w fun e w' => (∃ B m d, e = .returned (.slice B m d) ∧ RB w' B m d (L.take z.toNat) ∧ m ≤ 140737488355328 ∧ (0 < m → blk B ≠ some q)) ∧ RdrS w' base q (L.drop z.toNat) false ∧ w.grownBy w' (some q) := by
  obtain ⟨k, rfl⟩ := Int.eq_ofNat_of_zero_le hz0
  have hk : k ≤ n := by omega
  have hroom := hR.rb.room
  have hcap := hR.rb.cap
  unfold maxLen at hcap
  have y1 := hR.blk.cell (i := 0) rfl
  have y2 := hR.blk.cell (i := 1) rfl
  have y3 := hR.blk.frozen 0
  have y4 := hR.blk.frozen 1
  have d1 : decide ((k : Int) < 0) = false := by simp
  have d2 : decide ((n : Int) < (k : Int)) = false := by simp; omega
  have fin : ∀ (A' : Option Addr) (w' : World), (A' = if c = k then A else A.map (·.add (k * 1))) → w' = w.setCell ⟨q, 0, none⟩ (.slice A' (n - k) (c - k)) →
      (∃ B m d, Ending.returned (.slice A k c) = .returned (.slice B m d) ∧ RB w' B m d (L.take (k : Int).toNat) ∧ m ≤ 140737488355328 ∧ (0 < m → blk B ≠ some q)) ∧ RdrS w' base q (L.drop (k : Int).toNat) false ∧ w.grownBy w' (some q) := by
    rintro A' w' hA' rfl
    have hl := hR.rb.len
    have hbl : 0 < n - k → blk A' ≠ some q := by
      intro h e
      rw [hA', if_neg (by omega)] at e
      refine hR.ne (by omega) ?_
      cases A with
      | none => simp [blk] at e
      | some ad => simpa [blk, block_of_add] using e
    have hty : 0 < n - k → ∀ b, blk A' = some b → ∃ cs fr, (w.setCell ⟨q, 0, none⟩ (.slice A' (n - k) (c - k))).heap[b]? = some (.cells cs 5 fr) := by
      intro h b hb
      have hbq : b ≠ q := fun e => hbl h (by rw [hb, e])
      rw [Below.heap_setCell w ⟨q, 0, none⟩ _ b hbq]
      refine hR.ty (by omega) b ?_
      rw [hA', if_neg (by omega)] at hb
      cases A with
      | none => simp [blk] at hb
      | some ad => simpa [blk, block_of_add] using hb
    refine ⟨⟨A, k, c, rfl, ?_, by omega, fun h => hR.ne (by omega)⟩, ⟨A', n - k, c - k, by omega, ?_, ?_, hbl, hR.base, hty⟩, grownBy_setCell w ⟨q, 0, none⟩ _⟩
    · have h1 := hR.rb.cut (i := 0) (j := k) (c' := c) (A' := A) (by omega) hk rfl (fun _ => by cases A <;> simp [Addr.add])
      refine RB.grown (by simpa using h1) (grownBy_setCell w ⟨q, 0, none⟩ _) (fun h => hR.ne (by omega))
    · exact hR.blk.set 0 (.slice A' (n - k) (c - k))
    · have h2 := hR.rb.cut (i := k) (j := n) (c' := c - k) (A' := A') hk (Nat.le_refl _) rfl (fun h => by rw [hA', if_neg (by omega)]; simp)
      rw [List.take_of_length_le (by omega)] at h2
      exact RB.grown h2 (grownBy_setCell w ⟨q, 0, none⟩ _) hbl
  have Fin := Lib.hid fin
  clear fin hR
  by_cases hck : c = k
  · subst hck
    go_enter Try.func89, Try.ntmps89
    go_wp2_with fail
    go_ret
    have hcn : n - c = 0 := by omega
    exact Fin.out A _ (by simp) (by rw [Nat.sub_self]; try rw [hcn])
  · go_enter Try.func89, Try.ntmps89
    go_wp2_with fail
    go_ret
    exact Fin.out _ _ (by rw [if_neg hck, Nat.mul_one]) rfl
theorem rtake_any (w : World) (base q : Nat) (L : List UInt8) (bad : Bool) (z : Int) (hR : RdrS w base q L bad) (hz0 : -9223372036854775808 ≤ z) (hz1 : z ≤ 9223372036854775807) :
    Calls Try.prog 89 #[.pointer (some ⟨q, 0, none⟩), .int .i64 z] w fun e w' => (∃ B m d, e = .returned (.slice B m d) ∧ RB w' B m d (rtake L bad z).1 ∧ m ≤ 140737488355328 ∧ (0 < m → blk B ≠ some q)) ∧ RdrS w' base q (rtake L bad z).2.1 (rtake L bad z).2.2 ∧ w.grownBy w' (some q) := by
  obtain ⟨A, n, c, hn, hR⟩ := hR
  have hl := hR.rb.len
  unfold rtake
  by_cases h : bad = true ∨ z < 0 ∨ (L.length : Int) < z
  · rw [if_pos h]
    rw [hl] at h
    refine (rtake_no w base q n c A L bad z hR hz0 hz1 h).mono ?_
    rintro e w' ⟨rfl, h1, h2⟩
    exact ⟨⟨none, 0, 0, rfl, RB.nil_ _, by omega, fun h => by omega⟩, h1, h2⟩
  · rw [if_neg h]
    rw [hl] at h
    have hb : bad = false := by
      cases bad with
      | false => rfl
      | true => exact absurd (.inl rfl) h
    subst hb
    exact rtake_yes w base q n c A L z hR hn (by omega) (by omega)
set_option maxHeartbeats 1000000 in
theorem rraw_any (w : World) (base q : Nat) (L : List UInt8) (bad : Bool) (z : Int) (hR : RdrS w base q L bad) (hz0 : -9223372036854775808 ≤ z) (hz1 : z ≤ 9223372036854775807) :
    Calls Try.prog 51 #[.pointer (some ⟨q, 0, none⟩), .int .i64 z] w fun e w' => (∃ B m d, e = .returned (.slice B m d) ∧ OB w' w.heap.size B m d (rtake L bad z).1) ∧ RdrS w' base q (rtake L bad z).2.1 (rtake L bad z).2.2 ∧ w.grownBy w' (some q) := by
  go_enter Try.func51, Try.ntmps51
  go_wp2_with fail
  refine (rtake_any w base q L bad z hR hz0 hz1).mono ?_
  rintro e w1 ⟨⟨B, m, d, rfl, h1, h2, h3⟩, h4, h5⟩
  go_wp2_with fail
  refine (clone_any B m d _ w1 h1 h2).mono ?_
  rintro e w2 ⟨B2, d2, rfl, own, hE⟩
  go_wp2_with fail
  go_ret
  exact ⟨⟨B2, m, d2, rfl, own.base h5.size⟩, h4.later hE, h5.trans (hE.grownBy _)⟩
theorem bits_or32 (x y : UInt32) : bits .or .u32 (u32i x) (u32i y) = u32i (x ||| y) := by
  have h1 : BitVec.ofInt (IntKind.u32).bits (u32i x) = x.toBitVec := bitvec_u32 x
  have h2 : BitVec.ofInt (IntKind.u32).bits (u32i y) = y.toBitVec := bitvec_u32 y
  unfold bits
  simp only [h1, h2]
  exact u32_wrap_id (x ||| y)
theorem u32_shl8 (x : UInt32) : u32i x * 256 % 4294967296 = u32i (shl x 8) := by
  unfold u32i
  rw [shl_toNat]
  omega
/-- bytes, the highest first, as a number -/
def beNum (l : List UInt8) : UInt32 := l.foldl (fun n c => shl n 8 ||| c.toUInt32) 0
theorem beNum_snoc (l : List UInt8) (b : UInt8) : beNum (l ++ [b]) = (shl (beNum l) 8 ||| b.toUInt32) := by simp [beNum]
theorem take_snoc_ub (M : List UInt8) (k : Nat) (hk : k < M.length) : M.take (k + 1) = M.take k ++ [ub M k] := by
  rw [List.take_succ_eq_append_getElem hk]
  simp [ub, hk]
theorem beNum_nil : beNum [] = 0 := rfl
set_option maxHeartbeats 1000000 in
theorem rnumber_any (w : World) (base q : Nat) (L : List UInt8) (bad : Bool) (z : Int) (hR : RdrS w base q L bad) (hz0 : 0 ≤ z) (hz1 : z ≤ 4) :
    Calls Try.prog 88 #[.pointer (some ⟨q, 0, none⟩), .int .i64 z] w fun e w' => e = .returned (.int .u32 (u32i (beNum (rtake L bad z).1))) ∧ RdrS w' base q (rtake L bad z).2.1 (rtake L bad z).2.2 ∧ w.grownBy w' (some q) := by
  go_enter Try.func88, Try.ntmps88
  go_wp2_with fail
  refine (rtake_any w base q L bad z hR (by omega) (by omega)).mono ?_
  rintro e w1 ⟨⟨B, m, d, rfl, h1, h2, h3⟩, h4, h5⟩
  obtain ⟨M, hM⟩ : ∃ M, M = (rtake L bad z).1 := ⟨_, rfl⟩
  rw [← hM] at h1
  have HM := Lib.hid hM
  clear hM
  go_wp2_with fail
  go_loop [5, 12] (fun v i => ∃ k : Nat, k ≤ m ∧ i = .int .i64 k ∧ v = .int .u32 (u32i (beNum (M.take k)))) (fun _ i => m - (intOf i).toNat)
  case atStart => exact ⟨0, Nat.zero_le _, rfl, rfl⟩
  case round =>
    obtain ⟨k, hk, rfl, rfl⟩ := hrel
    have hroom := h1.room
    have hcap := h1.cap
    unfold maxLen at hcap
    by_cases hlt : k < m
    · obtain ⟨ad, rfl, hc⟩ := h1.cells (by omega)
      have y1 := hc k hlt
      clear hc
      have e2 := fun w' : World => conv_u8_u32' (P := Try.prog) (w := w') Try.underlying5 Try.underlying25 (ub M k)
      go_wp2_with fail
      go_round
      case rel => exact ⟨k + 1, by omega, by go_num, by rw [u32_shl8, bits_or32, take_snoc_ub M k (by rw [h1.len]; exact hlt), beNum_snoc]⟩
      case measure => simp [intOf]; omega
    · obtain rfl : k = m := by omega
      rw [List.take_of_length_le (by rw [h1.len]; exact Nat.le_refl _)]
      go_wp2_with fail
      go_ret
      refine ⟨?_, h4, h5⟩
      rw [← HM.out]
      rfl
end Go.Proofs.Ytmgnigofilkfmab
namespace Go.Proofs.Ytmgnigofilkfmab
set_option maxRecDepth 100000
open Go Go.RowKit
def rnum (L : List UInt8) (bad : Bool) (z : Int) : UInt32 × List UInt8 × Bool := (beNum (rtake L bad z).1, (rtake L bad z).2)
def rbytes (L : List UInt8) (bad : Bool) (most : Int) : List UInt8 × List UInt8 × Bool :=
  rtake (rtake L bad 2).2.1 (rtake L bad 2).2.2 (if max most 0 < u32i (beNum (rtake L bad 2).1) then -1 else u32i (beNum (rtake L bad 2).1))
theorem conv_u32_i64 {P : Program} {w : World} {s t : TypeId} (hs : P.underlying s = some (.int .u32)) (ht : P.underlying t = some (.int .i64)) (x : UInt32) : (convert s t (.int .u32 (u32i x))).run P w = .ok (.int .i64 (u32i x)) w := by
  have h1 := u32i_lo x
  have h2 := u32i_hi x
  have e : IntKind.i64.wrap (u32i x) = u32i x := by rw [IntKind.wrap_i64]; omega
  simp [convert, run_underlying hs, run_underlying ht, Conv.intToInt, e]
set_option maxHeartbeats 1000000 in
theorem rbyte_any (w : World) (base q : Nat) (L : List UInt8) (bad : Bool) (hR : RdrS w base q L bad) :
    Calls Try.prog 48 #[.pointer (some ⟨q, 0, none⟩)] w fun e w' => e = .returned (.int .u8 (u8i (beNum (rtake L bad 1).1).toUInt8)) ∧ RdrS w' base q (rtake L bad 1).2.1 (rtake L bad 1).2.2 ∧ w.grownBy w' (some q) := by
  have hc := fun w' : World => conv_u32_u8 (P := Try.prog) (w := w') Try.underlying25 Try.underlying5 (beNum (rtake L bad 1).1)
  go_enter Try.func48, Try.ntmps48
  go_wp2_with fail
  refine (rnumber_any w base q L bad 1 hR (by omega) (by omega)).mono ?_
  rintro e w1 ⟨rfl, h1, h2⟩
  go_wp2_with fail
  go_ret
  exact ⟨rfl, h1, h2⟩
set_option maxHeartbeats 1000000 in
theorem rnum_any (w : World) (base q : Nat) (L : List UInt8) (bad : Bool) (hR : RdrS w base q L bad) :
    Calls Try.prog 50 #[.pointer (some ⟨q, 0, none⟩)] w fun e w' => e = .returned (.int .u32 (u32i (beNum (rtake L bad 4).1))) ∧ RdrS w' base q (rtake L bad 4).2.1 (rtake L bad 4).2.2 ∧ w.grownBy w' (some q) := by
  go_enter Try.func50, Try.ntmps50
  go_wp2_with fail
  refine (rnumber_any w base q L bad 4 hR (by omega) (by omega)).mono ?_
  rintro e w1 ⟨rfl, h1, h2⟩
  go_wp2_with fail
  go_ret
  exact ⟨rfl, h1, h2⟩
set_option maxHeartbeats 1000000 in
theorem rbytes_any (w : World) (base q : Nat) (L : List UInt8) (bad : Bool) (most : Int) (hR : RdrS w base q L bad) (hm : 0 ≤ most) (hm2 : most ≤ 1000000) :
    Calls Try.prog 49 #[.pointer (some ⟨q, 0, none⟩), .int .i64 most] w fun e w' => (∃ B m d, e = .returned (.slice B m d) ∧ OB w' w.heap.size B m d (rbytes L bad most).1) ∧ RdrS w' base q (rbytes L bad most).2.1 (rbytes L bad most).2.2 ∧ w.grownBy w' (some q) := by
  have hc := fun w' : World => conv_u32_i64 (P := Try.prog) (w := w') Try.underlying25 Try.underlying3 (beNum (rtake L bad 2).1)
  obtain ⟨x, hx⟩ : ∃ x, x = beNum (rtake L bad 2).1 := ⟨_, rfl⟩
  obtain ⟨z, hz⟩ : ∃ z : Int, z = if max most 0 < u32i x then -1 else u32i x := ⟨_, rfl⟩
  have hr : rbytes L bad most = rtake (rtake L bad 2).2.1 (rtake L bad 2).2.2 z := by rw [hz, hx]; rfl
  have hx0 := u32i_lo x
  have hx1 := u32i_hi x
  rw [hr]
  rw [← hx] at hc
  have Hx := Lib.hid hx
  have Hz := Lib.hid hz
  clear hx hz hr
  have hmx : max most 0 = most := by omega
  go_enter Try.func49, Try.ntmps49
  go_wp2_with fail
  refine (rnumber_any w base q L bad 2 hR (by omega) (by omega)).mono ?_
  rintro e w1 ⟨rfl, h1, h2⟩
  rw [← Hx.out]
  by_cases hlt : most < u32i x
  · have hz1 : z = -1 := by rw [Hz.out, hmx, if_pos hlt]
    subst hz1
    go_wp2_with fail
    refine (rraw_any w1 base q _ _ (-1) h1 (by omega) (by omega)).mono ?_
    rintro e w2 ⟨⟨B, m, d, rfl, own⟩, h3, h4⟩
    go_wp2_with fail
    go_ret
    exact ⟨⟨B, m, d, rfl, own.base h2.size⟩, h3, h2.trans h4⟩
  · have hz1 : z = u32i x := by rw [Hz.out, hmx, if_neg hlt]
    have Hz1 := Lib.hid hz1
    have hle : u32i x ≤ most := by omega
    clear hz1 hlt Hz Hx
    have d1 : decide (most < u32i x) = false := by rw [decide_eq_false_iff_not]; omega
    have Hle := Lib.hid hle
    clear hle hm hm2 hx0 hx1
    go_wp2_with fail
    rw [← Hz1.out]
    refine (rraw_any w1 base q _ _ z h1 (by rw [Hz1.out]; have := u32i_lo x; omega) (by rw [Hz1.out]; have := u32i_hi x; omega)).mono ?_
    rintro e w2 ⟨⟨B, m, d, rfl, own⟩, h3, h4⟩
    go_wp2_with fail
    go_ret
    exact ⟨⟨B, m, d, rfl, own.base h2.size⟩, h3, h2.trans h4⟩
set_option maxHeartbeats 1000000 in
theorem rend_blk (w : World) (q : Nat) (A : Option Addr) (n c : Nat) (L : List UInt8) (bad : Bool) (hb : Blk w q 105 #[.slice A n c, .bool bad]) (hl : L.length = n) (hn : n ≤ 140737488355328) :
    Calls Try.prog 52 #[.pointer (some ⟨q, 0, none⟩)] w fun e w' => e = .returned (.bool (!bad && L.isEmpty)) ∧ w = w' := by
  have y1 := hb.cell (i := 0) rfl
  have y2 := hb.cell (i := 1) rfl
  have hE : L.isEmpty = decide ((n : Int) = 0) := by
    rw [← hl]
    cases L <;> simp; omega
  rw [hE]
  clear hl hE hb
  cases bad with
  | true =>
    go_enter Try.func52, Try.ntmps52
    go_wp2_with fail
    go_ret
    exact ⟨rfl, rfl⟩
  | false =>
    go_enter Try.func52, Try.ntmps52
    go_wp2_with fail
    go_ret
    refine ⟨?_, rfl⟩
    simp [beq_dec]
theorem rend_any (w : World) (base q : Nat) (L : List UInt8) (bad : Bool) (hR : RdrS w base q L bad) :
    Calls Try.prog 52 #[.pointer (some ⟨q, 0, none⟩)] w fun e w' => e = .returned (.bool (!bad && L.isEmpty)) ∧ w = w' := by
  obtain ⟨A, n, c, hn, hR⟩ := hR
  exact rend_blk w q A n c L bad hR.blk hR.rb.len hn
end Go.Proofs.Ytmgnigofilkfmab
