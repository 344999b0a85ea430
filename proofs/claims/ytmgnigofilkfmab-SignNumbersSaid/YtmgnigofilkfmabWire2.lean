/-
  wire's Writer, walked: New, Byte, Num, Bytes, Raw, Done.
-/
import Derived.Test.YtmgnigofilkfmabWire
namespace Go.Proofs.Ytmgnigofilkfmab
set_option maxRecDepth 100000
open Go Go.RowKit
/-- behind a call that wrote: the Writer holds M; nothing but its own memory was turned -/
def WP (wI w : World) (p : Nat) (A0 : Option Addr) (N : Nat) (M : List UInt8) (w' : World) : Prop := ∃ A c, Wtr w' wI.heap.size p A N c M ∧ Chg w w' p A0 ∧ Later w A0 A
theorem conv_u8_u32' {P : Program} {w : World} {s t : TypeId} (hs : P.underlying s = some (.int .u8)) (ht : P.underlying t = some (.int .u32)) (b : UInt8) : (convert s t (.int .u8 (u8i b))).run P w = .ok (.int .u32 (u32i b.toUInt32)) w := conv_u8_u32 hs ht b
theorem beBytes_byte (b : UInt8) : beBytes b.toUInt32 1 = [b] := by
  have : ∀ b : UInt8, beBytes b.toUInt32 1 = [b] := by
    intro b
    simp only [beBytes, List.range_one, List.map_cons, List.map_nil]
    congr 1
    apply UInt8.toNat_inj.1
    rw [UInt32.toNat_toUInt8, shr_toNat, UInt8.toNat_toUInt32]
    simp
  exact this b
set_option maxHeartbeats 400000 in
theorem wnew_any (w : World) : Calls Try.prog 55 #[] w fun e w' => ∃ p, e = .returned (.pointer (some ⟨p, 0, none⟩)) ∧ Wtr w' w.heap.size p none 0 0 [] ∧ Ext w w' := by
  go_enter Try.func55, Try.ntmps55
  go_wp2_with fail
  go_ret
  exact ⟨w.heap.size, rfl, ⟨Blk.new w _ _, OB.none_ _ _, by simp [blk], Nat.le_refl _⟩, Ext.new w _⟩
set_option maxHeartbeats 400000 in
theorem wbyte_any (wI w : World) (p n0 c0 : Nat) (A0 : Option Addr) (X0 : List UInt8) (b : UInt8) (hEI : Ext wI w) (hW : Wtr w wI.heap.size p A0 n0 c0 X0) (hn : n0 ≤ 70368744177664) :
    Calls Try.prog 56 #[.pointer (some ⟨p, 0, none⟩), .int .u8 (u8i b)] w fun e w' => e = .returned (.tuple #[]) ∧ WP wI w p A0 (n0 + 1) (X0 ++ [b]) w' := by
  have hc := fun w' : World => conv_u8_u32' (P := Try.prog) (w := w') Try.underlying5 Try.underlying25 b
  go_enter Try.func56, Try.ntmps56
  go_wp2_with fail
  refine (wnumber_any wI w p n0 c0 A0 X0 b.toUInt32 1 _ rfl (by omega) (by omega) hEI hW hn).mono ?_
  rintro e w' ⟨rfl, A, c, h1, h2, h3⟩
  rw [beBytes_byte] at h1
  go_wp2_with fail
  go_end0
  exact ⟨rfl, A, c, h1, h2, h3⟩
set_option maxHeartbeats 400000 in
theorem wnum_any (wI w : World) (p n0 c0 : Nat) (A0 : Option Addr) (X0 : List UInt8) (x : UInt32) (hEI : Ext wI w) (hW : Wtr w wI.heap.size p A0 n0 c0 X0) (hn : n0 ≤ 70368744177664) :
    Calls Try.prog 58 #[.pointer (some ⟨p, 0, none⟩), .int .u32 (u32i x)] w fun e w' => e = .returned (.tuple #[]) ∧ WP wI w p A0 (n0 + 4) (X0 ++ beBytes x 4) w' := by
  go_enter Try.func58, Try.ntmps58
  go_wp2_with fail
  refine (wnumber_any wI w p n0 c0 A0 X0 x 4 _ rfl (by omega) (by omega) hEI hW hn).mono ?_
  rintro e w' ⟨rfl, A, c, h1, h2, h3⟩
  go_wp2_with fail
  go_end0
  exact ⟨rfl, A, c, h1, h2, h3⟩
set_option maxHeartbeats 400000 in
theorem wraw_any (wI w : World) (p n0 c0 m d : Nat) (A0 B : Option Addr) (X0 M : List UInt8) (hEI : Ext wI w) (hW : Wtr w wI.heap.size p A0 n0 c0 X0) (hr : RB w B m d M) (hn : n0 + m ≤ 140737488355328) :
    Calls Try.prog 59 #[.pointer (some ⟨p, 0, none⟩), .slice B m d] w fun e w' => e = .returned (.tuple #[]) ∧ WP wI w p A0 (n0 + m) (X0 ++ M) w' := by
  have y1 := hW.blk.cell (i := 0) rfl
  have hb := hW.blk
  have own := hW.own
  go_enter Try.func59, Try.ntmps59
  go_wp2_with (refine app_law rfl rfl rfl rfl own hr hn hEI.size ?_; intro A' c' w1 own1 g1 b1 s1; have y2 := (hb.grown g1 (by intro e; exact hW.ne e.symm)).cell (i := 0) rfl; have y3 := (hb.grown g1 (by intro e; exact hW.ne e.symm)).frozen 0)
  have hb1 := hb.grown g1 (by intro e; exact hW.ne e.symm)
  have hne : blk A' ≠ some p := by
    rcases b1 with e | e
    · rw [e]; exact hW.ne
    · rw [e]; intro e2; cases e2; have := hb.lt; omega
  go_end0
  refine ⟨rfl, A', c', ⟨hb1.set 0 _, own1.far hne, hne, hW.base⟩, ⟨g1.os, g1.tape, g1.output, by simpa [World.setCell] using g1.size, fun k hk h1 h2 => ?_⟩, ?_⟩
  · exact (Below.heap_setCell w1 ⟨p, 0, none⟩ _ k h1).trans (g1.block k hk (fun e => h2 e.symm))
  · rcases b1 with e | e
    · exact .inl e
    · exact .inr (.inr ⟨_, e, Nat.le_refl _⟩)
theorem conv_i64_u32 {P : Program} {w : World} {s t : TypeId} (hs : P.underlying s = some (.int .i64)) (ht : P.underlying t = some (.int .u32)) (n : Nat) : (convert s t (.int .i64 (n : Int))).run P w = .ok (.int .u32 (u32i (UInt32.ofNat n))) w := by
  have e : IntKind.u32.wrap (n : Int) = u32i (UInt32.ofNat n) := by
    unfold u32i
    rw [u32_wrap, UInt32.toNat_ofNat']
  simp [convert, run_underlying hs, run_underlying ht, Conv.intToInt, e]
def be2 (n : Nat) : List UInt8 := beBytes (UInt32.ofNat n) 2
theorem WP.trans {wI w w1 w2 : World} {p N N' : Nat} {A0 : Option Addr} {M M' : List UInt8} {A : Option Addr} {c : Nat} (h1 : Wtr w1 wI.heap.size p A N c M) (h2 : Chg w w1 p A0) (h3 : Later w A0 A) (k : WP wI w1 p A N' M' w2) : WP wI w p A0 N' M' w2 := by
  obtain ⟨A', c', k1, k2, k3⟩ := k
  exact ⟨A', c', k1, h2.trans h3 k2, h3.trans h2.size k3⟩
set_option maxHeartbeats 400000 in
theorem wbytes_any (wI w : World) (p n0 c0 m d : Nat) (A0 B : Option Addr) (X0 M : List UInt8) (hEI : Ext wI w) (hW : Wtr w wI.heap.size p A0 n0 c0 X0) (hr : RB w B m d M) (ha : Away B m p A0) (hn : n0 ≤ 70368744177664) (hm : m ≤ 65535) :
    Calls Try.prog 57 #[.pointer (some ⟨p, 0, none⟩), .slice B m d] w fun e w' => e = .returned (.bool true) ∧ WP wI w p A0 (n0 + 2 + m) (X0 ++ be2 m ++ M) w' := by
  have hc := fun w' : World => conv_i64_u32 (P := Try.prog) (w := w') Try.underlying3 Try.underlying25 m
  have hle : ¬ (65535 : Int) < (m : Int) := by omega
  go_enter Try.func57, Try.ntmps57
  go_wp2_with fail
  refine (wnumber_any wI w p n0 c0 A0 X0 (UInt32.ofNat m) 2 _ rfl (by omega) (by omega) hEI hW hn).mono ?_
  rintro e w1 ⟨rfl, A, c, h1, h2, h3⟩
  have hE1 := hW.chg_ext hEI h2
  go_wp2_with fail
  refine (wraw_any wI w1 p (n0 + 2) c m d A B (X0 ++ be2 m) M hE1 h1 (hr.chg h2 ha) (by omega)).mono ?_
  rintro e w2 ⟨rfl, k⟩
  go_wp2_with fail
  go_ret
  exact ⟨rfl, k.trans h1 h2 h3⟩
set_option maxHeartbeats 400000 in
theorem wdone_any (w : World) (base p n0 c0 : Nat) (A0 : Option Addr) (X0 : List UInt8) (hW : Wtr w base p A0 n0 c0 X0) (hn : n0 ≤ 140737488355328) :
    Calls Try.prog 60 #[.pointer (some ⟨p, 0, none⟩)] w fun e w' => ∃ B d, e = .returned (.slice B n0 d) ∧ OB w' w.heap.size B n0 d X0 ∧ Ext w w' := by
  have y1 := hW.blk.cell (i := 0) rfl
  go_enter Try.func60, Try.ntmps60
  go_wp2_with fail
  refine (clone_any A0 n0 c0 X0 w hW.own.rb hn).mono ?_
  rintro e w1 ⟨B, d, rfl, h1, h2⟩
  go_wp2_with fail
  go_ret
  exact ⟨B, d, rfl, h1, h2⟩
end Go.Proofs.Ytmgnigofilkfmab
