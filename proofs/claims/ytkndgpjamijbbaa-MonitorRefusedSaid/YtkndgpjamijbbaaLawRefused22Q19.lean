/-
  wire's Reader, walked: Read, take, number, Byte, Num, Bytes, Raw, End. wire's Reader, walked: Byte, Num, Bytes, End. Manifests in plain Lean: what may be one, how it is written, how it is read. Manifests in plain Lean: what is written is read again; what is read is written so; cut or longer it is none. Numbers of two bytes, and conversions. Plain theorems.
-/
import Derived.Test.YtkndgpjamijbbaaLawRefused22Q16
import Derived.Test.YtkndgpjamijbbaaLawRefused22Q12
namespace Go.Proofs.Ytkndgpjamijbbaa
set_option maxRecDepth 100000
open Go Go.RowKit
/-- what a Reader does: what it takes, what is left, whether bytes lacked -/
def rtake (L : List UInt8) (bad : Bool) (z : Int) : List UInt8 × List UInt8 × Bool := if bad = true ∨ z < 0 ∨ (L.length : Int) < z then ([], [], true) else (L.take z.toNat, L.drop z.toNat, false)
/-- A Reader: block q holds what is left, and whether bytes lacked. -/
structure Rdr (w : World) (base q : Nat) (A : Option Addr) (n c : Nat) (L : List UInt8) (bad : Bool) : Prop where
  blk : Blk w q 151 #[.slice A n c, .bool bad]
  rb : RB w A n c L
  ne : 0 < n → Go.Proofs.Ytkndgpjamijbbaa.blk A ≠ some q
  base : base ≤ q
  ty : 0 < n → ∀ k, Go.Proofs.Ytkndgpjamijbbaa.blk A = some k → ∃ cs fr, w.heap[k]? = some (.cells cs 5 fr)
theorem OB.typed {w : World} {base n c : Nat} {A : Option Addr} {L : List UInt8} (h : OB w base A n c L) (k : Nat) (hk : blk A = some k) : ∃ cs fr, w.heap[k]? = some (.cells cs 5 fr) := by
  rcases h.2 with ⟨e, _⟩ | ⟨g, cap, cur, e, _, h1, _⟩
  · injection e with e1
    subst e1
    cases hk
  · injection e with e1
    subst e1
    have h2 : some g = some k := hk
    injection h2 with h2
    subst h2
    exact ⟨cur, (0, 0), h1⟩
theorem typed_ext {w w' : World} (e : Ext w w') {k : Nat} (h : ∃ cs fr, w.heap[k]? = some (.cells cs 5 fr)) : ∃ cs fr, w'.heap[k]? = some (.cells cs 5 fr) := by
  obtain ⟨cs, fr, h1⟩ := h
  exact ⟨cs, fr, (e.block (Array.getElem?_eq_some_iff.1 h1).1).trans h1⟩
def RdrS (w : World) (base q : Nat) (L : List UInt8) (bad : Bool) : Prop := ∃ A n c, n ≤ 140737488355328 ∧ Rdr w base q A n c L bad
theorem Rdr.later {w w' : World} {base q n c : Nat} {A : Option Addr} {L : List UInt8} {bad : Bool} (h : Rdr w base q A n c L bad) (e : Ext w w') : Rdr w' base q A n c L bad :=
  ⟨h.blk.ext e, h.rb.ext e, h.ne, h.base, fun hn k hk => typed_ext e (h.ty hn k hk)⟩
theorem RdrS.later {w w' : World} {base q : Nat} {L : List UInt8} {bad : Bool} (h : RdrS w base q L bad) (e : Ext w w') : RdrS w' base q L bad := by
  obtain ⟨A, n, c, h1, h2⟩ := h
  exact ⟨A, n, c, h1, h2.later e⟩
set_option maxHeartbeats 1000000 in
theorem rread_any (A : Option Addr) (n c : Nat) (L : List UInt8) (w : World) (hr : RB w A n c L) (hn : n ≤ 140737488355328) :
    Calls Try.prog 102 #[.slice A n c] w fun e w' => ∃ q, e = .returned (.pointer (some ⟨q, 0, none⟩)) ∧ RdrS w' w.heap.size q L false ∧ Ext w w' := by
  go_enter Try.func102, Try.ntmps102
  go_wp2_with fail
  refine (clone_any A n c L w hr hn).mono ?_
  rintro e w1 ⟨B, d, rfl, own, hE⟩
  go_wp2_with fail
  go_ret
  refine ⟨w1.heap.size, rfl, ⟨B, n, d, hn, Blk.new w1 _ _, own.rb.ext (Ext.new w1 _), fun hn e => ?_, hE.size, fun _ k hk => typed_ext (Ext.new w1 _) (own.typed k hk)⟩, hE.alloc _⟩
  have := (own.lt e).2
  omega
set_option maxHeartbeats 1000000 in
theorem rtake_no (w : World) (base q n c : Nat) (A : Option Addr) (L : List UInt8) (bad : Bool) (z : Int) (hR : Rdr w base q A n c L bad) (hz0 : -9223372036854775808 ≤ z) (hz1 : z ≤ 9223372036854775807) (hno : bad = true ∨ z < 0 ∨ (n : Int) < z) :
    Calls Try.prog 126 #[.pointer (some ⟨q, 0, none⟩), .int .i64 z] w fun e w' => e = .returned (.slice none 0 0) ∧ RdrS w' base q [] true ∧ w.grownBy w' (some q) := by
  have y1 := hR.blk.cell (i := 0) rfl
  have y2 := hR.blk.cell (i := 1) rfl
  have y3 := hR.blk.frozen 0
  have y4 := hR.blk.frozen 1
  have hb := hR.blk
  have fin : ∀ w', w' = (w.setCell ⟨q, 0, none⟩ (.slice none 0 0)).setCell ⟨q, 1, none⟩ (.bool true) → RdrS w' base q [] true ∧ w.grownBy w' (some q) := by
    rintro w' rfl
    refine ⟨⟨none, 0, 0, by omega, (hb.set 0 _).set 1 _, RB.nil_ _, fun h => by omega, hR.base, fun h => by omega⟩, (grownBy_setCell w ⟨q, 0, none⟩ _).trans (grownBy_setCell _ ⟨q, 1, none⟩ _)⟩
  have Fin := Lib.hid fin
  clear fin hb hR
  by_cases hb : bad = true
  · subst hb
    go_enter Try.func126, Try.ntmps126
    go_wp2_with fail
    go_ret
    exact ⟨rfl, Fin.out _ rfl⟩
  · have hb' : bad = false := by simpa using hb
    subst hb'
    clear hb
    by_cases hz : z < 0
    · have d1 : decide (z < 0) = true := by simpa using hz
      go_enter Try.func126, Try.ntmps126
      go_wp2_with fail
      go_ret
      exact ⟨rfl, Fin.out _ rfl⟩
    · have d1 : decide (z < 0) = false := by simpa using hz
      have hlt : (n : Int) < z := by rcases hno with h | h | h <;> first | (cases h; done) | omega
      have d2 : decide ((n : Int) < z) = true := by simpa using hlt
      clear hno
      go_enter Try.func126, Try.ntmps126
      go_wp2_with fail
      go_ret
      exact ⟨rfl, Fin.out _ rfl⟩
set_option maxHeartbeats 1000000 in
theorem rtake_yes (w : World) (base q n c : Nat) (A : Option Addr) (L : List UInt8) (z : Int) (hR : Rdr w base q A n c L false) (hn : n ≤ 140737488355328) (hz0 : 0 ≤ z) (hz1 : z ≤ (n : Int)) :
    Calls Try.prog 126 #[.pointer (some ⟨q, 0, none⟩), .int .i64 z] w fun e w' => (∃ B m d, e = .returned (.slice B m d) ∧ RB w' B m d (L.take z.toNat) ∧ m ≤ 140737488355328 ∧ (0 < m → blk B ≠ some q)) ∧ RdrS w' base q (L.drop z.toNat) false ∧ w.grownBy w' (some q) := by
  obtain ⟨k, rfl⟩ := Int.eq_ofNat_of_zero_le hz0
  have hk : k ≤ n := by omega
  have hroom := hR.rb.room
  have hcap := hR.rb.cap
  unfold maxLen at hcap
  have y1 := hR.blk.cell (i := 0) rfl
  have y2 := hR.blk.cell (i := 1) rfl
  have y3 := hR.blk.frozen 0
  have y4 := hR.blk.frozen 1
  have d1 : decide ((k : Int) < 0) = false := by simp
  have d2 : decide ((n : Int) < (k : Int)) = false := by simp; omega
  have fin : ∀ (A' : Option Addr) (w' : World), (A' = if c = k then A else A.map (·.add (k * 1))) → w' = w.setCell ⟨q, 0, none⟩ (.slice A' (n - k) (c - k)) →
      (∃ B m d, Ending.returned (.slice A k c) = .returned (.slice B m d) ∧ RB w' B m d (L.take (k : Int).toNat) ∧ m ≤ 140737488355328 ∧ (0 < m → blk B ≠ some q)) ∧ RdrS w' base q (L.drop (k : Int).toNat) false ∧ w.grownBy w' (some q) := by
    rintro A' w' hA' rfl
    have hl := hR.rb.len
    have hbl : 0 < n - k → blk A' ≠ some q := by
      intro h e
      rw [hA', if_neg (by omega)] at e
      refine hR.ne (by omega) ?_
      cases A with
      | none => simp [blk] at e
      | some ad => simpa [blk, block_of_add] using e
    have hty : 0 < n - k → ∀ b, blk A' = some b → ∃ cs fr, (w.setCell ⟨q, 0, none⟩ (.slice A' (n - k) (c - k))).heap[b]? = some (.cells cs 5 fr) := by
      intro h b hb
      have hbq : b ≠ q := fun e => hbl h (by rw [hb, e])
      rw [Below.heap_setCell w ⟨q, 0, none⟩ _ b hbq]
      refine hR.ty (by omega) b ?_
      rw [hA', if_neg (by omega)] at hb
      cases A with
      | none => simp [blk] at hb
      | some ad => simpa [blk, block_of_add] using hb
    refine ⟨⟨A, k, c, rfl, ?_, by omega, fun h => hR.ne (by omega)⟩, ⟨A', n - k, c - k, by omega, ?_, ?_, hbl, hR.base, hty⟩, grownBy_setCell w ⟨q, 0, none⟩ _⟩
    · have h1 := hR.rb.cut (i := 0) (j := k) (c' := c) (A' := A) (by omega) hk rfl (fun _ => by cases A <;> simp [Addr.add])
      refine RB.grown (by simpa using h1) (grownBy_setCell w ⟨q, 0, none⟩ _) (fun h => hR.ne (by omega))
    · exact hR.blk.set 0 (.slice A' (n - k) (c - k))
    · have h2 := hR.rb.cut (i := k) (j := n) (c' := c - k) (A' := A') hk (Nat.le_refl _) rfl (fun h => by rw [hA', if_neg (by omega)]; simp)
      rw [List.take_of_length_le (by omega)] at h2
      exact RB.grown h2 (grownBy_setCell w ⟨q, 0, none⟩ _) hbl
  have Fin := Lib.hid fin
  clear fin hR
  by_cases hck : c = k
  · subst hck
    go_enter Try.func126, Try.ntmps126
    go_wp2_with fail
    go_ret
    have hcn : n - c = 0 := by omega
    exact Fin.out A _ (by simp) (by rw [Nat.sub_self]; try rw [hcn])
  · go_enter Try.func126, Try.ntmps126
    go_wp2_with fail
    go_ret
    exact Fin.out _ _ (by rw [if_neg hck, Nat.mul_one]) rfl
theorem rtake_any (w : World) (base q : Nat) (L : List UInt8) (bad : Bool) (z : Int) (hR : RdrS w base q L bad) (hz0 : -9223372036854775808 ≤ z) (hz1 : z ≤ 9223372036854775807) :
    Calls Try.prog 126 #[.pointer (some ⟨q, 0, none⟩), .int .i64 z] w fun e w' => (∃ B m d, e = .returned (.slice B m d) ∧ RB w' B m d (rtake L bad z).1 ∧ m ≤ 140737488355328 ∧ (0 < m → blk B ≠ some q)) ∧ RdrS w' base q (rtake L bad z).2.1 (rtake L bad z).2.2 ∧ w.grownBy w' (some q) := by
  obtain ⟨A, n, c, hn, hR⟩ := hR
  have hl := hR.rb.len
  unfold rtake
  by_cases h : bad = true ∨ z < 0 ∨ (L.length : Int) < z
  · rw [if_pos h]
    rw [hl] at h
    refine (rtake_no w base q n c A L bad z hR hz0 hz1 h).mono ?_
    rintro e w' ⟨rfl, h1, h2⟩
    exact ⟨⟨none, 0, 0, rfl, RB.nil_ _, by omega, fun h => by omega⟩, h1, h2⟩
  · rw [if_neg h]
    rw [hl] at h
    have hb : bad = false := by
      cases bad with
      | false => rfl
      | true => exact absurd (.inl rfl) h
    subst hb
    exact rtake_yes w base q n c A L z hR hn (by omega) (by omega)
set_option maxHeartbeats 1000000 in
theorem rraw_any (w : World) (base q : Nat) (L : List UInt8) (bad : Bool) (z : Int) (hR : RdrS w base q L bad) (hz0 : -9223372036854775808 ≤ z) (hz1 : z ≤ 9223372036854775807) :
    Calls Try.prog 106 #[.pointer (some ⟨q, 0, none⟩), .int .i64 z] w fun e w' => (∃ B m d, e = .returned (.slice B m d) ∧ OB w' w.heap.size B m d (rtake L bad z).1) ∧ RdrS w' base q (rtake L bad z).2.1 (rtake L bad z).2.2 ∧ w.grownBy w' (some q) := by
  go_enter Try.func106, Try.ntmps106
  go_wp2_with fail
  refine (rtake_any w base q L bad z hR hz0 hz1).mono ?_
  rintro e w1 ⟨⟨B, m, d, rfl, h1, h2, h3⟩, h4, h5⟩
  go_wp2_with fail
  refine (clone_any B m d _ w1 h1 h2).mono ?_
  rintro e w2 ⟨B2, d2, rfl, own, hE⟩
  go_wp2_with fail
  go_ret
  exact ⟨⟨B2, m, d2, rfl, own.base h5.size⟩, h4.later hE, h5.trans (hE.grownBy _)⟩
theorem bits_or32 (x y : UInt32) : bits .or .u32 (u32i x) (u32i y) = u32i (x ||| y) := by
  have h1 : BitVec.ofInt (IntKind.u32).bits (u32i x) = x.toBitVec := bitvec_u32 x
  have h2 : BitVec.ofInt (IntKind.u32).bits (u32i y) = y.toBitVec := bitvec_u32 y
  unfold bits
  simp only [h1, h2]
  exact u32_wrap_id (x ||| y)
theorem u32_shl8 (x : UInt32) : u32i x * 256 % 4294967296 = u32i (shl x 8) := by
  unfold u32i
  rw [shl_toNat]
  omega
/-- bytes, the highest first, as a number -/
def beNum (l : List UInt8) : UInt32 := l.foldl (fun n c => shl n 8 ||| c.toUInt32) 0
theorem beNum_snoc (l : List UInt8) (b : UInt8) : beNum (l ++ [b]) = (shl (beNum l) 8 ||| b.toUInt32) := by simp [beNum]
theorem take_snoc_ub (M : List UInt8) (k : Nat) (hk : k < M.length) : M.take (k + 1) = M.take k ++ [ub M k] := by
  rw [List.take_succ_eq_append_getElem hk]
  simp [ub, hk]
set_option maxHeartbeats 1000000 in
theorem rnumber_any (w : World) (base q : Nat) (L : List UInt8) (bad : Bool) (z : Int) (hR : RdrS w base q L bad) (hz0 : 0 ≤ z) (hz1 : z ≤ 4) :
    Calls Try.prog 125 #[.pointer (some ⟨q, 0, none⟩), .int .i64 z] w fun e w' => e = .returned (.int .u32 (u32i (beNum (rtake L bad z).1))) ∧ RdrS w' base q (rtake L bad z).2.1 (rtake L bad z).2.2 ∧ w.grownBy w' (some q) := by
  go_enter Try.func125, Try.ntmps125
  go_wp2_with fail
  refine (rtake_any w base q L bad z hR (by omega) (by omega)).mono ?_
  rintro e w1 ⟨⟨B, m, d, rfl, h1, h2, h3⟩, h4, h5⟩
  obtain ⟨M, hM⟩ : ∃ M, M = (rtake L bad z).1 := ⟨_, rfl⟩
  rw [← hM] at h1
  have HM := Lib.hid hM
  clear hM
  go_wp2_with fail
  go_loop [5, 12] (fun v i => ∃ k : Nat, k ≤ m ∧ i = .int .i64 k ∧ v = .int .u32 (u32i (beNum (M.take k)))) (fun _ i => m - (intOf i).toNat)
  case atStart => exact ⟨0, Nat.zero_le _, rfl, rfl⟩
  case round =>
    obtain ⟨k, hk, rfl, rfl⟩ := hrel
    have hroom := h1.room
    have hcap := h1.cap
    unfold maxLen at hcap
    by_cases hlt : k < m
    · obtain ⟨ad, rfl, hc⟩ := h1.cells (by omega)
      have y1 := hc k hlt
      clear hc
      have e2 := fun w' : World => conv_u8_u32' (P := Try.prog) (w := w') Try.underlying5 Try.underlying84 (ub M k)
      go_wp2_with fail
      go_round
      case rel => exact ⟨k + 1, by omega, by go_num, by rw [u32_shl8, bits_or32, take_snoc_ub M k (by rw [h1.len]; exact hlt), beNum_snoc]⟩
      case measure => simp [intOf]; omega
    · obtain rfl : k = m := by omega
      rw [List.take_of_length_le (by rw [h1.len]; exact Nat.le_refl _)]
      go_wp2_with fail
      go_ret
      refine ⟨?_, h4, h5⟩
      rw [← HM.out]
      rfl
end Go.Proofs.Ytkndgpjamijbbaa
namespace Go.Proofs.Ytkndgpjamijbbaa
set_option maxRecDepth 100000
open Go Go.RowKit
def rbytes (L : List UInt8) (bad : Bool) (most : Int) : List UInt8 × List UInt8 × Bool :=
  rtake (rtake L bad 2).2.1 (rtake L bad 2).2.2 (if max most 0 < u32i (beNum (rtake L bad 2).1) then -1 else u32i (beNum (rtake L bad 2).1))
theorem conv_u32_i64 {P : Program} {w : World} {s t : TypeId} (hs : P.underlying s = some (.int .u32)) (ht : P.underlying t = some (.int .i64)) (x : UInt32) : (convert s t (.int .u32 (u32i x))).run P w = .ok (.int .i64 (u32i x)) w := by
  have h1 := u32i_lo x
  have h2 := u32i_hi x
  have e : IntKind.i64.wrap (u32i x) = u32i x := by rw [IntKind.wrap_i64]; omega
  simp [convert, run_underlying hs, run_underlying ht, Conv.intToInt, e]
set_option maxHeartbeats 1000000 in
theorem rbyte_any (w : World) (base q : Nat) (L : List UInt8) (bad : Bool) (hR : RdrS w base q L bad) :
    Calls Try.prog 103 #[.pointer (some ⟨q, 0, none⟩)] w fun e w' => e = .returned (.int .u8 (u8i (beNum (rtake L bad 1).1).toUInt8)) ∧ RdrS w' base q (rtake L bad 1).2.1 (rtake L bad 1).2.2 ∧ w.grownBy w' (some q) := by
  have hc := fun w' : World => conv_u32_u8 (P := Try.prog) (w := w') Try.underlying84 Try.underlying5 (beNum (rtake L bad 1).1)
  go_enter Try.func103, Try.ntmps103
  go_wp2_with fail
  refine (rnumber_any w base q L bad 1 hR (by omega) (by omega)).mono ?_
  rintro e w1 ⟨rfl, h1, h2⟩
  go_wp2_with fail
  go_ret
  exact ⟨rfl, h1, h2⟩
set_option maxHeartbeats 1000000 in
theorem rnum_any (w : World) (base q : Nat) (L : List UInt8) (bad : Bool) (hR : RdrS w base q L bad) :
    Calls Try.prog 105 #[.pointer (some ⟨q, 0, none⟩)] w fun e w' => e = .returned (.int .u32 (u32i (beNum (rtake L bad 4).1))) ∧ RdrS w' base q (rtake L bad 4).2.1 (rtake L bad 4).2.2 ∧ w.grownBy w' (some q) := by
  go_enter Try.func105, Try.ntmps105
  go_wp2_with fail
  refine (rnumber_any w base q L bad 4 hR (by omega) (by omega)).mono ?_
  rintro e w1 ⟨rfl, h1, h2⟩
  go_wp2_with fail
  go_ret
  exact ⟨rfl, h1, h2⟩
set_option maxHeartbeats 1000000 in
theorem rbytes_any (w : World) (base q : Nat) (L : List UInt8) (bad : Bool) (most : Int) (hR : RdrS w base q L bad) (hm : 0 ≤ most) (hm2 : most ≤ 1000000) :
    Calls Try.prog 104 #[.pointer (some ⟨q, 0, none⟩), .int .i64 most] w fun e w' => (∃ B m d, e = .returned (.slice B m d) ∧ OB w' w.heap.size B m d (rbytes L bad most).1) ∧ RdrS w' base q (rbytes L bad most).2.1 (rbytes L bad most).2.2 ∧ w.grownBy w' (some q) := by
  have hc := fun w' : World => conv_u32_i64 (P := Try.prog) (w := w') Try.underlying84 Try.underlying3 (beNum (rtake L bad 2).1)
  obtain ⟨x, hx⟩ : ∃ x, x = beNum (rtake L bad 2).1 := ⟨_, rfl⟩
  obtain ⟨z, hz⟩ : ∃ z : Int, z = if max most 0 < u32i x then -1 else u32i x := ⟨_, rfl⟩
  have hr : rbytes L bad most = rtake (rtake L bad 2).2.1 (rtake L bad 2).2.2 z := by rw [hz, hx]; rfl
  have hx0 := u32i_lo x
  have hx1 := u32i_hi x
  rw [hr]
  rw [← hx] at hc
  have Hx := Lib.hid hx
  have Hz := Lib.hid hz
  clear hx hz hr
  have hmx : max most 0 = most := by omega
  go_enter Try.func104, Try.ntmps104
  go_wp2_with fail
  refine (rnumber_any w base q L bad 2 hR (by omega) (by omega)).mono ?_
  rintro e w1 ⟨rfl, h1, h2⟩
  rw [← Hx.out]
  by_cases hlt : most < u32i x
  · have hz1 : z = -1 := by rw [Hz.out, hmx, if_pos hlt]
    subst hz1
    go_wp2_with fail
    refine (rraw_any w1 base q _ _ (-1) h1 (by omega) (by omega)).mono ?_
    rintro e w2 ⟨⟨B, m, d, rfl, own⟩, h3, h4⟩
    go_wp2_with fail
    go_ret
    exact ⟨⟨B, m, d, rfl, own.base h2.size⟩, h3, h2.trans h4⟩
  · have hz1 : z = u32i x := by rw [Hz.out, hmx, if_neg hlt]
    have Hz1 := Lib.hid hz1
    have hle : u32i x ≤ most := by omega
    clear hz1 hlt Hz Hx
    have d1 : decide (most < u32i x) = false := by rw [decide_eq_false_iff_not]; omega
    have Hle := Lib.hid hle
    clear hle hm hm2 hx0 hx1
    go_wp2_with fail
    rw [← Hz1.out]
    refine (rraw_any w1 base q _ _ z h1 (by rw [Hz1.out]; have := u32i_lo x; omega) (by rw [Hz1.out]; have := u32i_hi x; omega)).mono ?_
    rintro e w2 ⟨⟨B, m, d, rfl, own⟩, h3, h4⟩
    go_wp2_with fail
    go_ret
    exact ⟨⟨B, m, d, rfl, own.base h2.size⟩, h3, h2.trans h4⟩
set_option maxHeartbeats 1000000 in
theorem rend_blk (w : World) (q : Nat) (A : Option Addr) (n c : Nat) (L : List UInt8) (bad : Bool) (hb : Blk w q 151 #[.slice A n c, .bool bad]) (hl : L.length = n) (hn : n ≤ 140737488355328) :
    Calls Try.prog 107 #[.pointer (some ⟨q, 0, none⟩)] w fun e w' => e = .returned (.bool (!bad && L.isEmpty)) ∧ w = w' := by
  have y1 := hb.cell (i := 0) rfl
  have y2 := hb.cell (i := 1) rfl
  have hE : L.isEmpty = decide ((n : Int) = 0) := by
    rw [← hl]
    cases L <;> simp; omega
  rw [hE]
  clear hl hE hb
  cases bad with
  | true =>
    go_enter Try.func107, Try.ntmps107
    go_wp2_with fail
    go_ret
    exact ⟨rfl, rfl⟩
  | false =>
    go_enter Try.func107, Try.ntmps107
    go_wp2_with fail
    go_ret
    refine ⟨?_, rfl⟩
    simp [beq_dec]
end Go.Proofs.Ytkndgpjamijbbaa
namespace Go.Proofs.Ytkndgpjamijbbaa
set_option maxRecDepth 100000
structure Man where
  name : List UInt8
  ver : UInt32
  fw : List UInt8
  notes : List UInt8
def letter (c : UInt8) : Bool := decide (97 ≤ u8i c) && decide (u8i c ≤ 122)
def nameOK (s : List UInt8) : Bool := decide (1 ≤ s.length) && decide (s.length ≤ 20) && s.all letter
def rightM (m : Man) : Bool := nameOK m.name && decide (0 < u32i m.ver) && decide (m.fw.length = 32) && decide (m.notes.length ≤ 64)
def encM (m : Man) : List UInt8 := [77] ++ (be2 m.name.length ++ m.name) ++ beBytes m.ver 4 ++ m.fw ++ (be2 m.notes.length ++ m.notes)
/-- the reader's steps: mark, name, version, firmware, notes, what is left -/
structure Dec where
  first : UInt8
  man : Man
  left : List UInt8
  bad : Bool
def readM (b : List UInt8) : Dec :=
  let t1 := rtake b false 1
  let t2 := rbytes t1.2.1 t1.2.2 20
  let t3 := rtake t2.2.1 t2.2.2 4
  let t4 := rtake t3.2.1 t3.2.2 32
  let t5 := rbytes t4.2.1 t4.2.2 64
  { first := (beNum t1.1).toUInt8, man := ⟨t2.1, beNum t3.1, t4.1, t5.1⟩, left := t5.2.1, bad := t5.2.2 }
def decOK (b : List UInt8) : Bool := decide ((readM b).first = 77) && (!(readM b).bad && (readM b).left.isEmpty) && rightM (readM b).man
end Go.Proofs.Ytkndgpjamijbbaa
namespace Go.Proofs.Ytkndgpjamijbbaa
set_option maxRecDepth 100000
theorem beBytes4 (x : UInt32) : beBytes x 4 = [(shr x 24).toUInt8, (shr x 16).toUInt8, (shr x 8).toUInt8, (shr x 0).toUInt8] := rfl
theorem beBytes2 (x : UInt32) : beBytes x 2 = [(shr x 8).toUInt8, (shr x 0).toUInt8] := rfl
theorem byteAt (x : UInt32) (k : Nat) : (shr x k).toUInt8.toNat = x.toNat / 2 ^ k % 256 := by
  rw [UInt32.toNat_toUInt8, shr_toNat]
theorem be2_length (n : Nat) : (be2 n).length = 2 := beBytes_length _ _
theorem len2 {l : List UInt8} (h : l.length = 2) : ∃ a b, l = [a, b] := by
  match l, h with
  | [a, b], _ => exact ⟨a, b, rfl⟩
end Go.Proofs.Ytkndgpjamijbbaa
namespace Go.Proofs.Ytkndgpjamijbbaa
set_option maxRecDepth 100000
open Go Go.RowKit
theorem shr_zero (x : UInt32) : shr x 0 = x := by rw [← UInt32.toNat_inj, shr_toNat]; simp
theorem be2_small (m : Nat) (h : m < 65536) : be2 m = [UInt8.ofNat (m / 256), UInt8.ofNat m] := by
  unfold be2
  have e : (UInt32.ofNat m).toNat = m := by rw [UInt32.toNat_ofNat']; exact Nat.mod_eq_of_lt (by omega)
  rw [beBytes2]
  congr 1
  · rw [← UInt8.toNat_inj, byteAt, UInt8.toNat_ofNat', e]
  congr 1
  · rw [← UInt8.toNat_inj, byteAt, UInt8.toNat_ofNat', e]; omega
theorem bin_shri64 {P : Program} {w : World} (t : TypeId) (kk : IntKind) (x k : Nat) (h : k ≤ 64) : (binOp .shr t (.int .i64 (x : Int)) (.int kk (k : Int))).run P w = .ok (.int .i64 ((x / 2 ^ k : Nat) : Int)) w := by
  have h1 : ¬ ((k : Int) < 0) := by omega
  have h2 : min (k : Int).toNat IntKind.i64.bits = k := by simp [IntKind.bits]; omega
  have e : ((x : Int)).fdiv (2 ^ k) = ((x / 2 ^ k : Nat) : Int) := by
    rw [Int.fdiv_eq_ediv_of_nonneg _ (Int.pow_nonneg (by decide))]
    simp
  simp only [binOp, Op.shift, if_neg h1, h2, e, Sem.run_pure]
theorem conv_i64_u8 {P : Program} {w : World} {s t : TypeId} (hs : P.underlying s = some (.int .i64)) (ht : P.underlying t = some (.int .u8)) (x : Nat) : (convert s t (.int .i64 (x : Int))).run P w = .ok (.int .u8 (u8i (UInt8.ofNat x))) w := by
  have e : IntKind.u8.wrap (x : Int) = u8i (UInt8.ofNat x) := by
    unfold u8i
    rw [IntKind.wrap_u8, UInt8.toNat_ofNat']
    omega
  simp [convert, run_underlying hs, run_underlying ht, Conv.intToInt, e]
end Go.Proofs.Ytkndgpjamijbbaa
