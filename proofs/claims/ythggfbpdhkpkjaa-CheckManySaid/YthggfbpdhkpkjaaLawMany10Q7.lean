/-
  wire's Reader, walked: Read, take, number, Byte, Num, Bytes, Raw, End. wire's Reader, walked: Byte, Num, Bytes, End.
-/
import Derived.Test.YthggfbpdhkpkjaaLawMany10Q6
namespace Go.Proofs.Ythggfbpdhkpkjaa
set_option maxRecDepth 100000
open Go Go.RowKit
/-- what a Reader does: what it takes, what is left, whether bytes lacked -/
def rtake (L : List UInt8) (bad : Bool) (z : Int) : List UInt8 × List UInt8 × Bool := if bad = true ∨ z < 0 ∨ (L.length : Int) < z then ([], [], true) else (L.take z.toNat, L.drop z.toNat, false)
/-- A Reader: block q holds what is left, and whether bytes lacked. -/
structure Rdr (w : World) (base q : Nat) (A : Option Addr) (n c : Nat) (L : List UInt8) (bad : Bool) : Prop where
  blk : Blk w q 115 #[.slice A n c, .bool bad]
  rb : RB w A n c L
  ne : 0 < n → Go.Proofs.Ythggfbpdhkpkjaa.blk A ≠ some q
  base : base ≤ q
  ty : 0 < n → ∀ k, Go.Proofs.Ythggfbpdhkpkjaa.blk A = some k → ∃ cs fr, w.heap[k]? = some (.cells cs 5 fr)
theorem OB.typed {w : World} {base n c : Nat} {A : Option Addr} {L : List UInt8} (h : OB w base A n c L) (k : Nat) (hk : blk A = some k) : ∃ cs fr, w.heap[k]? = some (.cells cs 5 fr) := by
  rcases h.2 with ⟨e, _⟩ | ⟨g, cap, cur, e, _, h1, _⟩
  · injection e with e1
    subst e1
    cases hk
  · injection e with e1
    subst e1
    have h2 : some g = some k := hk
    injection h2 with h2
    subst h2
    exact ⟨cur, (0, 0), h1⟩
theorem typed_ext {w w' : World} (e : Ext w w') {k : Nat} (h : ∃ cs fr, w.heap[k]? = some (.cells cs 5 fr)) : ∃ cs fr, w'.heap[k]? = some (.cells cs 5 fr) := by
  obtain ⟨cs, fr, h1⟩ := h
  exact ⟨cs, fr, (e.block (Array.getElem?_eq_some_iff.1 h1).1).trans h1⟩
def RdrS (w : World) (base q : Nat) (L : List UInt8) (bad : Bool) : Prop := ∃ A n c, n ≤ 140737488355328 ∧ Rdr w base q A n c L bad
theorem Rdr.later {w w' : World} {base q n c : Nat} {A : Option Addr} {L : List UInt8} {bad : Bool} (h : Rdr w base q A n c L bad) (e : Ext w w') : Rdr w' base q A n c L bad :=
  ⟨h.blk.ext e, h.rb.ext e, h.ne, h.base, fun hn k hk => typed_ext e (h.ty hn k hk)⟩
theorem RdrS.later {w w' : World} {base q : Nat} {L : List UInt8} {bad : Bool} (h : RdrS w base q L bad) (e : Ext w w') : RdrS w' base q L bad := by
  obtain ⟨A, n, c, h1, h2⟩ := h
  exact ⟨A, n, c, h1, h2.later e⟩
set_option maxHeartbeats 1000000 in
theorem rread_any (A : Option Addr) (n c : Nat) (L : List UInt8) (w : World) (hr : RB w A n c L) (hn : n ≤ 140737488355328) :
    Calls Try.prog 24 #[.slice A n c] w fun e w' => ∃ q, e = .returned (.pointer (some ⟨q, 0, none⟩)) ∧ RdrS w' w.heap.size q L false ∧ Ext w w' := by
  go_enter Try.func24, Try.ntmps24
  go_wp2_with fail
  refine (clone_any A n c L w hr hn).mono ?_
  rintro e w1 ⟨B, d, rfl, own, hE⟩
  go_wp2_with fail
  go_ret
  refine ⟨w1.heap.size, rfl, ⟨B, n, d, hn, Blk.new w1 _ _, own.rb.ext (Ext.new w1 _), fun hn e => ?_, hE.size, fun _ k hk => typed_ext (Ext.new w1 _) (own.typed k hk)⟩, hE.alloc _⟩
  have := (own.lt e).2
  omega
set_option maxHeartbeats 1000000 in
theorem rtake_no (w : World) (base q n c : Nat) (A : Option Addr) (L : List UInt8) (bad : Bool) (z : Int) (hR : Rdr w base q A n c L bad) (hz0 : -9223372036854775808 ≤ z) (hz1 : z ≤ 9223372036854775807) (hno : bad = true ∨ z < 0 ∨ (n : Int) < z) :
    Calls Try.prog 100 #[.pointer (some ⟨q, 0, none⟩), .int .i64 z] w fun e w' => e = .returned (.slice none 0 0) ∧ RdrS w' base q [] true ∧ w.grownBy w' (some q) := by
  have y1 := hR.blk.cell (i := 0) rfl
  have y2 := hR.blk.cell (i := 1) rfl
  have y3 := hR.blk.frozen 0
  have y4 := hR.blk.frozen 1
  have hb := hR.blk
  have fin : ∀ w', w' = (w.setCell ⟨q, 0, none⟩ (.slice none 0 0)).setCell ⟨q, 1, none⟩ (.bool true) → RdrS w' base q [] true ∧ w.grownBy w' (some q) := by
    rintro w' rfl
    refine ⟨⟨none, 0, 0, by omega, (hb.set 0 _).set 1 _, RB.nil_ _, fun h => by omega, hR.base, fun h => by omega⟩, (grownBy_setCell w ⟨q, 0, none⟩ _).trans (grownBy_setCell _ ⟨q, 1, none⟩ _)⟩
  have Fin := Lib.hid fin
  clear fin hb hR
  by_cases hb : bad = true
  · subst hb
    go_enter Try.func100, Try.ntmps100
    go_wp2_with fail
    go_ret
    exact ⟨rfl, Fin.out _ rfl⟩
  · have hb' : bad = false := by simpa using hb
    subst hb'
    clear hb
    by_cases hz : z < 0
    · have d1 : decide (z < 0) = true := by simpa using hz
      go_enter Try.func100, Try.ntmps100
      go_wp2_with fail
      go_ret
      exact ⟨rfl, Fin.out _ rfl⟩
    · have d1 : decide (z < 0) = false := by simpa using hz
      have hlt : (n : Int) < z := by rcases hno with h | h | h <;> first | (cases h; done) | omega
      have d2 : decide ((n : Int) < z) = true := by simpa using hlt
      clear hno
      go_enter Try.func100, Try.ntmps100
      go_wp2_with fail
      go_ret
      exact ⟨rfl, Fin.out _ rfl⟩
set_option maxHeartbeats 1000000 in
theorem rtake_yes (w : World) (base q n c : Nat) (A : Option Addr) (L : List UInt8) (z : Int) (hR : Rdr w base q A n c L false) (hn : n ≤ 140737488355328) (hz0 : 0 ≤ z) (hz1 : z ≤ (n : Int)) :
    Calls Try.prog 100 #[.pointer (some ⟨q, 0, none⟩), .int .i64 z] w fun e w' => (∃ B m d, e = .returned (.slice B m d) ∧ RB w' B m d (L.take z.toNat) ∧ m ≤ 140737488355328 ∧ (0 < m → blk B ≠ some q)) ∧ RdrS w' base q (L.drop z.toNat) false ∧ w.grownBy w' (some q) := by
  obtain ⟨k, rfl⟩ := Int.eq_ofNat_of_zero_le hz0
  have hk : k ≤ n := by omega
  have hroom := hR.rb.room
  have hcap := hR.rb.cap
  unfold maxLen at hcap
  have y1 := hR.blk.cell (i := 0) rfl
  have y2 := hR.blk.cell (i := 1) rfl
  have y3 := hR.blk.frozen 0
  have y4 := hR.blk.frozen 1
  have d1 : decide ((k : Int) < 0) = false := by simp
  have d2 : decide ((n : Int) < (k : Int)) = false := by simp; omega
  have fin : ∀ (A' : Option Addr) (w' : World), (A' = if c = k then A else A.map (·.add (k * 1))) → w' = w.setCell ⟨q, 0, none⟩ (.slice A' (n - k) (c - k)) →
      (∃ B m d, Ending.returned (.slice A k c) = .returned (.slice B m d) ∧ RB w' B m d (L.take (k : Int).toNat) ∧ m ≤ 140737488355328 ∧ (0 < m → blk B ≠ some q)) ∧ RdrS w' base q (L.drop (k : Int).toNat) false ∧ w.grownBy w' (some q) := by
    rintro A' w' hA' rfl
    have hl := hR.rb.len
    have hbl : 0 < n - k → blk A' ≠ some q := by
      intro h e
      rw [hA', if_neg (by omega)] at e
      refine hR.ne (by omega) ?_
      cases A with
      | none => simp [blk] at e
      | some ad => simpa [blk, block_of_add] using e
    have hty : 0 < n - k → ∀ b, blk A' = some b → ∃ cs fr, (w.setCell ⟨q, 0, none⟩ (.slice A' (n - k) (c - k))).heap[b]? = some (.cells cs 5 fr) := by
      intro h b hb
      have hbq : b ≠ q := fun e => hbl h (by rw [hb, e])
      rw [Below.heap_setCell w ⟨q, 0, none⟩ _ b hbq]
      refine hR.ty (by omega) b ?_
      rw [hA', if_neg (by omega)] at hb
      cases A with
      | none => simp [blk] at hb
      | some ad => simpa [blk, block_of_add] using hb
    refine ⟨⟨A, k, c, rfl, ?_, by omega, fun h => hR.ne (by omega)⟩, ⟨A', n - k, c - k, by omega, ?_, ?_, hbl, hR.base, hty⟩, grownBy_setCell w ⟨q, 0, none⟩ _⟩
    · have h1 := hR.rb.cut (i := 0) (j := k) (c' := c) (A' := A) (by omega) hk rfl (fun _ => by cases A <;> simp [Addr.add])
      refine RB.grown (by simpa using h1) (grownBy_setCell w ⟨q, 0, none⟩ _) (fun h => hR.ne (by omega))
    · exact hR.blk.set 0 (.slice A' (n - k) (c - k))
    · have h2 := hR.rb.cut (i := k) (j := n) (c' := c - k) (A' := A') hk (Nat.le_refl _) rfl (fun h => by rw [hA', if_neg (by omega)]; simp)
      rw [List.take_of_length_le (by omega)] at h2
      exact RB.grown h2 (grownBy_setCell w ⟨q, 0, none⟩ _) hbl
  have Fin := Lib.hid fin
  clear fin hR
  by_cases hck : c = k
  · subst hck
    go_enter Try.func100, Try.ntmps100
    go_wp2_with fail
    go_ret
    have hcn : n - c = 0 := by omega
    exact Fin.out A _ (by simp) (by rw [Nat.sub_self]; try rw [hcn])
  · go_enter Try.func100, Try.ntmps100
    go_wp2_with fail
    go_ret
    exact Fin.out _ _ (by rw [if_neg hck, Nat.mul_one]) rfl
theorem rtake_any (w : World) (base q : Nat) (L : List UInt8) (bad : Bool) (z : Int) (hR : RdrS w base q L bad) (hz0 : -9223372036854775808 ≤ z) (hz1 : z ≤ 9223372036854775807) :
    Calls Try.prog 100 #[.pointer (some ⟨q, 0, none⟩), .int .i64 z] w fun e w' => (∃ B m d, e = .returned (.slice B m d) ∧ RB w' B m d (rtake L bad z).1 ∧ m ≤ 140737488355328 ∧ (0 < m → blk B ≠ some q)) ∧ RdrS w' base q (rtake L bad z).2.1 (rtake L bad z).2.2 ∧ w.grownBy w' (some q) := by
  obtain ⟨A, n, c, hn, hR⟩ := hR
  have hl := hR.rb.len
  unfold rtake
  by_cases h : bad = true ∨ z < 0 ∨ (L.length : Int) < z
  · rw [if_pos h]
    rw [hl] at h
    refine (rtake_no w base q n c A L bad z hR hz0 hz1 h).mono ?_
    rintro e w' ⟨rfl, h1, h2⟩
    exact ⟨⟨none, 0, 0, rfl, RB.nil_ _, by omega, fun h => by omega⟩, h1, h2⟩
  · rw [if_neg h]
    rw [hl] at h
    have hb : bad = false := by
      cases bad with
      | false => rfl
      | true => exact absurd (.inl rfl) h
    subst hb
    exact rtake_yes w base q n c A L z hR hn (by omega) (by omega)
set_option maxHeartbeats 1000000 in
theorem rraw_any (w : World) (base q : Nat) (L : List UInt8) (bad : Bool) (z : Int) (hR : RdrS w base q L bad) (hz0 : -9223372036854775808 ≤ z) (hz1 : z ≤ 9223372036854775807) :
    Calls Try.prog 72 #[.pointer (some ⟨q, 0, none⟩), .int .i64 z] w fun e w' => (∃ B m d, e = .returned (.slice B m d) ∧ OB w' w.heap.size B m d (rtake L bad z).1) ∧ RdrS w' base q (rtake L bad z).2.1 (rtake L bad z).2.2 ∧ w.grownBy w' (some q) := by
  go_enter Try.func72, Try.ntmps72
  go_wp2_with fail
  refine (rtake_any w base q L bad z hR hz0 hz1).mono ?_
  rintro e w1 ⟨⟨B, m, d, rfl, h1, h2, h3⟩, h4, h5⟩
  go_wp2_with fail
  refine (clone_any B m d _ w1 h1 h2).mono ?_
  rintro e w2 ⟨B2, d2, rfl, own, hE⟩
  go_wp2_with fail
  go_ret
  exact ⟨⟨B2, m, d2, rfl, own.base h5.size⟩, h4.later hE, h5.trans (hE.grownBy _)⟩
theorem bits_or32 (x y : UInt32) : bits .or .u32 (u32i x) (u32i y) = u32i (x ||| y) := by
  have h1 : BitVec.ofInt (IntKind.u32).bits (u32i x) = x.toBitVec := bitvec_u32 x
  have h2 : BitVec.ofInt (IntKind.u32).bits (u32i y) = y.toBitVec := bitvec_u32 y
  unfold bits
  simp only [h1, h2]
  exact u32_wrap_id (x ||| y)
theorem u32_shl8 (x : UInt32) : u32i x * 256 % 4294967296 = u32i (shl x 8) := by
  unfold u32i
  rw [shl_toNat]
  omega
/-- bytes, the highest first, as a number -/
def beNum (l : List UInt8) : UInt32 := l.foldl (fun n c => shl n 8 ||| c.toUInt32) 0
theorem beNum_snoc (l : List UInt8) (b : UInt8) : beNum (l ++ [b]) = (shl (beNum l) 8 ||| b.toUInt32) := by simp [beNum]
theorem take_snoc_ub (M : List UInt8) (k : Nat) (hk : k < M.length) : M.take (k + 1) = M.take k ++ [ub M k] := by
  rw [List.take_succ_eq_append_getElem hk]
  simp [ub, hk]
set_option maxHeartbeats 1000000 in
theorem rnumber_any (w : World) (base q : Nat) (L : List UInt8) (bad : Bool) (z : Int) (hR : RdrS w base q L bad) (hz0 : 0 ≤ z) (hz1 : z ≤ 4) :
    Calls Try.prog 99 #[.pointer (some ⟨q, 0, none⟩), .int .i64 z] w fun e w' => e = .returned (.int .u32 (u32i (beNum (rtake L bad z).1))) ∧ RdrS w' base q (rtake L bad z).2.1 (rtake L bad z).2.2 ∧ w.grownBy w' (some q) := by
  go_enter Try.func99, Try.ntmps99
  go_wp2_with fail
  refine (rtake_any w base q L bad z hR (by omega) (by omega)).mono ?_
  rintro e w1 ⟨⟨B, m, d, rfl, h1, h2, h3⟩, h4, h5⟩
  obtain ⟨M, hM⟩ : ∃ M, M = (rtake L bad z).1 := ⟨_, rfl⟩
  rw [← hM] at h1
  have HM := Lib.hid hM
  clear hM
  go_wp2_with fail
  go_loop [5, 12] (fun v i => ∃ k : Nat, k ≤ m ∧ i = .int .i64 k ∧ v = .int .u32 (u32i (beNum (M.take k)))) (fun _ i => m - (intOf i).toNat)
  case atStart => exact ⟨0, Nat.zero_le _, rfl, rfl⟩
  case round =>
    obtain ⟨k, hk, rfl, rfl⟩ := hrel
    have hroom := h1.room
    have hcap := h1.cap
    unfold maxLen at hcap
    by_cases hlt : k < m
    · obtain ⟨ad, rfl, hc⟩ := h1.cells (by omega)
      have y1 := hc k hlt
      clear hc
      have e2 := fun w' : World => conv_u8_u32' (P := Try.prog) (w := w') Try.underlying5 Try.underlying101 (ub M k)
      go_wp2_with fail
      go_round
      case rel => exact ⟨k + 1, by omega, by go_num, by rw [u32_shl8, bits_or32, take_snoc_ub M k (by rw [h1.len]; exact hlt), beNum_snoc]⟩
      case measure => simp [intOf]; omega
    · obtain rfl : k = m := by omega
      rw [List.take_of_length_le (by rw [h1.len]; exact Nat.le_refl _)]
      go_wp2_with fail
      go_ret
      refine ⟨?_, h4, h5⟩
      rw [← HM.out]
      rfl
end Go.Proofs.Ythggfbpdhkpkjaa
namespace Go.Proofs.Ythggfbpdhkpkjaa
set_option maxRecDepth 100000
open Go Go.RowKit
set_option maxHeartbeats 1000000 in
theorem rnum_any (w : World) (base q : Nat) (L : List UInt8) (bad : Bool) (hR : RdrS w base q L bad) :
    Calls Try.prog 71 #[.pointer (some ⟨q, 0, none⟩)] w fun e w' => e = .returned (.int .u32 (u32i (beNum (rtake L bad 4).1))) ∧ RdrS w' base q (rtake L bad 4).2.1 (rtake L bad 4).2.2 ∧ w.grownBy w' (some q) := by
  go_enter Try.func71, Try.ntmps71
  go_wp2_with fail
  refine (rnumber_any w base q L bad 4 hR (by omega) (by omega)).mono ?_
  rintro e w1 ⟨rfl, h1, h2⟩
  go_wp2_with fail
  go_ret
  exact ⟨rfl, h1, h2⟩
set_option maxHeartbeats 1000000 in
theorem rend_blk (w : World) (q : Nat) (A : Option Addr) (n c : Nat) (L : List UInt8) (bad : Bool) (hb : Blk w q 115 #[.slice A n c, .bool bad]) (hl : L.length = n) (hn : n ≤ 140737488355328) :
    Calls Try.prog 74 #[.pointer (some ⟨q, 0, none⟩)] w fun e w' => e = .returned (.bool (!bad && L.isEmpty)) ∧ w = w' := by
  have y1 := hb.cell (i := 0) rfl
  have y2 := hb.cell (i := 1) rfl
  have hE : L.isEmpty = decide ((n : Int) = 0) := by
    rw [← hl]
    cases L <;> simp; omega
  rw [hE]
  clear hl hE hb
  cases bad with
  | true =>
    go_enter Try.func74, Try.ntmps74
    go_wp2_with fail
    go_ret
    exact ⟨rfl, rfl⟩
  | false =>
    go_enter Try.func74, Try.ntmps74
    go_wp2_with fail
    go_ret
    refine ⟨?_, rfl⟩
    simp [beq_dec]
theorem rend_any (w : World) (base q : Nat) (L : List UInt8) (bad : Bool) (hR : RdrS w base q L bad) :
    Calls Try.prog 74 #[.pointer (some ⟨q, 0, none⟩)] w fun e w' => e = .returned (.bool (!bad && L.isEmpty)) ∧ w = w' := by
  obtain ⟨A, n, c, hn, hR⟩ := hR
  exact rend_blk w q A n c L bad hR.blk hR.rb.len hn
end Go.Proofs.Ythggfbpdhkpkjaa
