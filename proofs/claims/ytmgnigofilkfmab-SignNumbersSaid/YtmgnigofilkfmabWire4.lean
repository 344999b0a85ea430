/-
  wire's Reader, walked: Byte, Num, Bytes, End.
-/
import Derived.Test.YtmgnigofilkfmabWire3
namespace Go.Proofs.Ytmgnigofilkfmab
set_option maxRecDepth 100000
open Go Go.RowKit
def rnum (L : List UInt8) (bad : Bool) (z : Int) : UInt32 × List UInt8 × Bool := (beNum (rtake L bad z).1, (rtake L bad z).2)
def rbytes (L : List UInt8) (bad : Bool) (most : Int) : List UInt8 × List UInt8 × Bool :=
  rtake (rtake L bad 2).2.1 (rtake L bad 2).2.2 (if max most 0 < u32i (beNum (rtake L bad 2).1) then -1 else u32i (beNum (rtake L bad 2).1))
theorem conv_u32_i64 {P : Program} {w : World} {s t : TypeId} (hs : P.underlying s = some (.int .u32)) (ht : P.underlying t = some (.int .i64)) (x : UInt32) : (convert s t (.int .u32 (u32i x))).run P w = .ok (.int .i64 (u32i x)) w := by
  have h1 := u32i_lo x
  have h2 := u32i_hi x
  have e : IntKind.i64.wrap (u32i x) = u32i x := by rw [IntKind.wrap_i64]; omega
  simp [convert, run_underlying hs, run_underlying ht, Conv.intToInt, e]
set_option maxHeartbeats 1000000 in
theorem rbyte_any (w : World) (base q : Nat) (L : List UInt8) (bad : Bool) (hR : RdrS w base q L bad) :
    Calls Try.prog 48 #[.pointer (some ⟨q, 0, none⟩)] w fun e w' => e = .returned (.int .u8 (u8i (beNum (rtake L bad 1).1).toUInt8)) ∧ RdrS w' base q (rtake L bad 1).2.1 (rtake L bad 1).2.2 ∧ w.grownBy w' (some q) := by
  have hc := fun w' : World => conv_u32_u8 (P := Try.prog) (w := w') Try.underlying25 Try.underlying5 (beNum (rtake L bad 1).1)
  go_enter Try.func48, Try.ntmps48
  go_wp2_with fail
  refine (rnumber_any w base q L bad 1 hR (by omega) (by omega)).mono ?_
  rintro e w1 ⟨rfl, h1, h2⟩
  go_wp2_with fail
  go_ret
  exact ⟨rfl, h1, h2⟩
set_option maxHeartbeats 1000000 in
theorem rnum_any (w : World) (base q : Nat) (L : List UInt8) (bad : Bool) (hR : RdrS w base q L bad) :
    Calls Try.prog 50 #[.pointer (some ⟨q, 0, none⟩)] w fun e w' => e = .returned (.int .u32 (u32i (beNum (rtake L bad 4).1))) ∧ RdrS w' base q (rtake L bad 4).2.1 (rtake L bad 4).2.2 ∧ w.grownBy w' (some q) := by
  go_enter Try.func50, Try.ntmps50
  go_wp2_with fail
  refine (rnumber_any w base q L bad 4 hR (by omega) (by omega)).mono ?_
  rintro e w1 ⟨rfl, h1, h2⟩
  go_wp2_with fail
  go_ret
  exact ⟨rfl, h1, h2⟩
set_option maxHeartbeats 1000000 in
theorem rbytes_any (w : World) (base q : Nat) (L : List UInt8) (bad : Bool) (most : Int) (hR : RdrS w base q L bad) (hm : 0 ≤ most) (hm2 : most ≤ 1000000) :
    Calls Try.prog 49 #[.pointer (some ⟨q, 0, none⟩), .int .i64 most] w fun e w' => (∃ B m d, e = .returned (.slice B m d) ∧ OB w' w.heap.size B m d (rbytes L bad most).1) ∧ RdrS w' base q (rbytes L bad most).2.1 (rbytes L bad most).2.2 ∧ w.grownBy w' (some q) := by
  have hc := fun w' : World => conv_u32_i64 (P := Try.prog) (w := w') Try.underlying25 Try.underlying3 (beNum (rtake L bad 2).1)
  obtain ⟨x, hx⟩ : ∃ x, x = beNum (rtake L bad 2).1 := ⟨_, rfl⟩
  obtain ⟨z, hz⟩ : ∃ z : Int, z = if max most 0 < u32i x then -1 else u32i x := ⟨_, rfl⟩
  have hr : rbytes L bad most = rtake (rtake L bad 2).2.1 (rtake L bad 2).2.2 z := by rw [hz, hx]; rfl
  have hx0 := u32i_lo x
  have hx1 := u32i_hi x
  rw [hr]
  rw [← hx] at hc
  have Hx := Lib.hid hx
  have Hz := Lib.hid hz
  clear hx hz hr
  have hmx : max most 0 = most := by omega
  go_enter Try.func49, Try.ntmps49
  go_wp2_with fail
  refine (rnumber_any w base q L bad 2 hR (by omega) (by omega)).mono ?_
  rintro e w1 ⟨rfl, h1, h2⟩
  rw [← Hx.out]
  by_cases hlt : most < u32i x
  · have hz1 : z = -1 := by rw [Hz.out, hmx, if_pos hlt]
    subst hz1
    go_wp2_with fail
    refine (rraw_any w1 base q _ _ (-1) h1 (by omega) (by omega)).mono ?_
    rintro e w2 ⟨⟨B, m, d, rfl, own⟩, h3, h4⟩
    go_wp2_with fail
    go_ret
    exact ⟨⟨B, m, d, rfl, own.base h2.size⟩, h3, h2.trans h4⟩
  · have hz1 : z = u32i x := by rw [Hz.out, hmx, if_neg hlt]
    have Hz1 := Lib.hid hz1
    have hle : u32i x ≤ most := by omega
    clear hz1 hlt Hz Hx
    have d1 : decide (most < u32i x) = false := by rw [decide_eq_false_iff_not]; omega
    have Hle := Lib.hid hle
    clear hle hm hm2 hx0 hx1
    go_wp2_with fail
    rw [← Hz1.out]
    refine (rraw_any w1 base q _ _ z h1 (by rw [Hz1.out]; have := u32i_lo x; omega) (by rw [Hz1.out]; have := u32i_hi x; omega)).mono ?_
    rintro e w2 ⟨⟨B, m, d, rfl, own⟩, h3, h4⟩
    go_wp2_with fail
    go_ret
    exact ⟨⟨B, m, d, rfl, own.base h2.size⟩, h3, h2.trans h4⟩
set_option maxHeartbeats 1000000 in
theorem rend_blk (w : World) (q : Nat) (A : Option Addr) (n c : Nat) (L : List UInt8) (bad : Bool) (hb : Blk w q 105 #[.slice A n c, .bool bad]) (hl : L.length = n) (hn : n ≤ 140737488355328) :
    Calls Try.prog 52 #[.pointer (some ⟨q, 0, none⟩)] w fun e w' => e = .returned (.bool (!bad && L.isEmpty)) ∧ w = w' := by
  have y1 := hb.cell (i := 0) rfl
  have y2 := hb.cell (i := 1) rfl
  have hE : L.isEmpty = decide ((n : Int) = 0) := by
    rw [← hl]
    cases L <;> simp; omega
  rw [hE]
  clear hl hE hb
  cases bad with
  | true =>
    go_enter Try.func52, Try.ntmps52
    go_wp2_with fail
    go_ret
    exact ⟨rfl, rfl⟩
  | false =>
    go_enter Try.func52, Try.ntmps52
    go_wp2_with fail
    go_ret
    refine ⟨?_, rfl⟩
    simp [beq_dec]
theorem rend_any (w : World) (base q : Nat) (L : List UInt8) (bad : Bool) (hR : RdrS w base q L bad) :
    Calls Try.prog 52 #[.pointer (some ⟨q, 0, none⟩)] w fun e w' => e = .returned (.bool (!bad && L.isEmpty)) ∧ w = w' := by
  obtain ⟨A, n, c, hn, hR⟩ := hR
  exact rend_blk w q A n c L bad hR.blk hR.rb.len hn
end Go.Proofs.Ytmgnigofilkfmab
