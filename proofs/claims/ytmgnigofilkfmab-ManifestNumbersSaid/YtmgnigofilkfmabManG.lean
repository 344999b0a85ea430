/-
  Manifests in plain Lean: what may be one, how it is written, how it is read. Manifests in plain Lean: what is written is read again; what is read is written so; cut or longer it is none. Numbers of two bytes, and conversions. Plain theorems. Package manifest, walked: name, Right, Encode. The reference's Num and Bytes, walked. manifest.Encode, walked. manifest.Decode, walked. The reference's Encode and Same of manifests, walked. The reference's Reader, walked.
-/
import Derived.Test.YtmgnigofilkfmabWireG
import Derived.Test.YtmgnigofilkfmabAppOne
import Derived.Test.YtmgnigofilkfmabChain
import Derived.Test.YtmgnigofilkfmabOwn
namespace Go.Proofs.Ytmgnigofilkfmab
set_option maxRecDepth 100000
structure Man where
  name : List UInt8
  ver : UInt32
  fw : List UInt8
  notes : List UInt8
def letter (c : UInt8) : Bool := decide (97 ≤ u8i c) && decide (u8i c ≤ 122)
def nameOK (s : List UInt8) : Bool := decide (1 ≤ s.length) && decide (s.length ≤ 20) && s.all letter
def rightM (m : Man) : Bool := nameOK m.name && decide (0 < u32i m.ver) && decide (m.fw.length = 32) && decide (m.notes.length ≤ 64)
def encM (m : Man) : List UInt8 := [77] ++ (be2 m.name.length ++ m.name) ++ beBytes m.ver 4 ++ m.fw ++ (be2 m.notes.length ++ m.notes)
/-- the reader's steps: mark, name, version, firmware, notes, what is left -/
structure Dec where
  first : UInt8
  man : Man
  left : List UInt8
  bad : Bool
def readM (b : List UInt8) : Dec :=
  let t1 := rtake b false 1
  let t2 := rbytes t1.2.1 t1.2.2 20
  let t3 := rtake t2.2.1 t2.2.2 4
  let t4 := rtake t3.2.1 t3.2.2 32
  let t5 := rbytes t4.2.1 t4.2.2 64
  { first := (beNum t1.1).toUInt8, man := ⟨t2.1, beNum t3.1, t4.1, t5.1⟩, left := t5.2.1, bad := t5.2.2 }
def decOK (b : List UInt8) : Bool := decide ((readM b).first = 77) && (!(readM b).bad && (readM b).left.isEmpty) && rightM (readM b).man
end Go.Proofs.Ytmgnigofilkfmab
namespace Go.Proofs.Ytmgnigofilkfmab
set_option maxRecDepth 100000
theorem or8_toNat (x : UInt32) (c : UInt8) : (shl x 8 ||| c.toUInt32).toNat = x.toNat * 256 % 4294967296 + c.toNat := by
  rw [UInt32.toNat_or, shl_toNat, UInt8.toNat_toUInt32]
  have hc := c.toNat_lt
  have e : x.toNat * 2 ^ 8 % 4294967296 = 2 ^ 8 * (x.toNat % 16777216) := by omega
  have e2 := Nat.two_pow_add_eq_or_of_lt (i := 8) (b := c.toNat) (by omega) (x.toNat % 16777216)
  have e3 : x.toNat * 256 % 4294967296 = 2 ^ 8 * (x.toNat % 16777216) := by omega
  rw [e3, e2]
theorem beNum2 (a b : UInt8) : (beNum [a, b]).toNat = a.toNat * 256 + b.toNat := by
  have h1 := or8_toNat (shl 0 8 ||| a.toUInt32) b
  have h2 := or8_toNat 0 a
  have h3 := a.toNat_lt
  have e : beNum [a, b] = (shl (shl 0 8 ||| a.toUInt32) 8 ||| b.toUInt32) := rfl
  have h0 : (0 : UInt32).toNat = 0 := rfl
  rw [e, h1, h2, h0]
  omega
theorem beNum4 (a b c d : UInt8) : (beNum [a, b, c, d]).toNat = ((a.toNat * 256 + b.toNat) * 256 + c.toNat) * 256 + d.toNat := by
  have h1 := or8_toNat (beNum [a, b, c]) d
  have h2 := or8_toNat (beNum [a, b]) c
  have h3 := beNum2 a b
  have ha := a.toNat_lt
  have hb := b.toNat_lt
  have hc := c.toNat_lt
  have e : beNum [a, b, c, d] = (shl (beNum [a, b, c]) 8 ||| d.toUInt32) := rfl
  have e2 : beNum [a, b, c] = (shl (beNum [a, b]) 8 ||| c.toUInt32) := rfl
  rw [e, h1, e2, h2, h3]
  omega
theorem beBytes4 (x : UInt32) : beBytes x 4 = [(shr x 24).toUInt8, (shr x 16).toUInt8, (shr x 8).toUInt8, (shr x 0).toUInt8] := rfl
theorem beBytes2 (x : UInt32) : beBytes x 2 = [(shr x 8).toUInt8, (shr x 0).toUInt8] := rfl
theorem byteAt (x : UInt32) (k : Nat) : (shr x k).toUInt8.toNat = x.toNat / 2 ^ k % 256 := by
  rw [UInt32.toNat_toUInt8, shr_toNat]
theorem beNum_beBytes4 (x : UInt32) : beNum (beBytes x 4) = x := by
  rw [← UInt32.toNat_inj, beBytes4, beNum4, byteAt _ _, byteAt _ _, byteAt _ _, byteAt _ _]
  have := x.toNat_lt
  omega
theorem beNum_be2 (n : Nat) (hn : n < 65536) : (beNum (be2 n)).toNat = n := by
  unfold be2
  have e : (UInt32.ofNat n).toNat = n := by rw [UInt32.toNat_ofNat']; exact Nat.mod_eq_of_lt (by omega)
  rw [beBytes2, beNum2, byteAt _ _, byteAt _ _, e]
  omega
theorem be2_length (n : Nat) : (be2 n).length = 2 := beBytes_length _ _
theorem len2 {l : List UInt8} (h : l.length = 2) : ∃ a b, l = [a, b] := by
  match l, h with
  | [a, b], _ => exact ⟨a, b, rfl⟩
theorem len4 {l : List UInt8} (h : l.length = 4) : ∃ a b c d, l = [a, b, c, d] := by
  match l, h with
  | [a, b, c, d], _ => exact ⟨a, b, c, d, rfl⟩
theorem len1 {l : List UInt8} (h : l.length = 1) : ∃ a, l = [a] := by
  match l, h with
  | [a], _ => exact ⟨a, rfl⟩
theorem beBytes_beNum4 {l : List UInt8} (h : l.length = 4) : beBytes (beNum l) 4 = l := by
  obtain ⟨a, b, c, d, rfl⟩ := len4 h
  have ha := a.toNat_lt
  have hb := b.toNat_lt
  have hc := c.toNat_lt
  have hd := d.toNat_lt
  have e := beNum4 a b c d
  rw [beBytes4]
  congr 1
  · rw [← UInt8.toNat_inj, byteAt _ _, e]; omega
  congr 1
  · rw [← UInt8.toNat_inj, byteAt _ _, e]; omega
  congr 1
  · rw [← UInt8.toNat_inj, byteAt _ _, e]; omega
  congr 1
  · rw [← UInt8.toNat_inj, byteAt _ _, e]; omega
theorem be2_beNum {l : List UInt8} (h : l.length = 2) : be2 (beNum l).toNat = l := by
  obtain ⟨a, b, rfl⟩ := len2 h
  have ha := a.toNat_lt
  have hb := b.toNat_lt
  have e := beNum2 a b
  have e2 : (UInt32.ofNat (beNum [a, b]).toNat).toNat = a.toNat * 256 + b.toNat := by rw [UInt32.toNat_ofNat', e]; omega
  unfold be2
  rw [beBytes2]
  congr 1
  · rw [← UInt8.toNat_inj, byteAt _ _, e2]; omega
  congr 1
  · rw [← UInt8.toNat_inj, byteAt _ _, e2]; omega
/-- what is there is taken -/
theorem rtake_app (X Y : List UInt8) (z : Int) (hz : z = X.length) : rtake (X ++ Y) false z = (X, Y, false) := by
  subst hz
  unfold rtake
  rw [if_neg (by simp; omega)]
  simp
theorem rbytes_app (X Y : List UInt8) (most : Int) (hm : (X.length : Int) ≤ most) (hl : X.length < 65536) : rbytes (be2 X.length ++ X ++ Y) false most = (X, Y, false) := by
  unfold rbytes
  rw [List.append_assoc, rtake_app (be2 X.length) (X ++ Y) 2 (by rw [be2_length]; rfl)]
  have e : u32i (beNum (be2 X.length)) = X.length := by unfold u32i; rw [beNum_be2 _ hl]
  simp only [e]
  rw [if_neg (by omega)]
  exact rtake_app X Y _ rfl
theorem rtake_bad (L : List UInt8) (z : Int) : rtake L true z = ([], [], true) := by unfold rtake; simp
theorem rtake_back {L : List UInt8} {bad : Bool} {z : Int} (h : (rtake L bad z).2.2 = false) : bad = false ∧ L = (rtake L bad z).1 ++ (rtake L bad z).2.1 ∧ ((rtake L bad z).1.length : Int) = z := by
  unfold rtake at h ⊢
  by_cases hc : bad = true ∨ z < 0 ∨ (L.length : Int) < z
  · rw [if_pos hc] at h; cases h
  · rw [if_neg hc]
    refine ⟨?_, ?_, ?_⟩
    · cases bad with
      | false => rfl
      | true => exact absurd (.inl rfl) hc
    · simp
    · have : ¬ (L.length : Int) < z := fun h => hc (.inr (.inr h))
      have : ¬ z < 0 := fun h => hc (.inr (.inl h))
      simp
      omega
theorem rbytes_back {L : List UInt8} {bad : Bool} {most : Int} (h : (rbytes L bad most).2.2 = false) : bad = false ∧ L = be2 (rbytes L bad most).1.length ++ (rbytes L bad most).1 ++ (rbytes L bad most).2.1 := by
  unfold rbytes at h ⊢
  obtain ⟨h1, h2, h3⟩ := rtake_back h
  obtain ⟨h4, h5, h6⟩ := rtake_back h1
  refine ⟨h4, ?_⟩
  generalize rtake L bad 2 = t at *
  have hz : ¬ max most 0 < u32i (beNum t.1) := by
    intro hc
    rw [if_pos hc] at h3
    omega
  rw [if_neg hz] at h3 h2 ⊢
  generalize rtake t.2.1 t.2.2 (u32i (beNum t.1)) = s at *
  have e : s.1.length = (beNum t.1).toNat := by unfold u32i at h3; omega
  rw [e, be2_beNum (by omega), List.append_assoc, ← h2]
  exact h5
theorem right_is {m : Man} (h : rightM m = true) : (1 ≤ m.name.length ∧ m.name.length ≤ 20 ∧ m.name.all letter = true) ∧ 0 < u32i m.ver ∧ m.fw.length = 32 ∧ m.notes.length ≤ 64 := by
  unfold rightM nameOK at h
  simp only [Bool.and_eq_true, decide_eq_true_eq] at h
  exact ⟨⟨h.1.1.1.1.1, h.1.1.1.1.2, h.1.1.1.2⟩, h.1.1.2, h.1.2, h.2⟩
theorem read_enc {m : Man} (h : rightM m = true) (r : List UInt8) : readM (encM m ++ r) = ⟨77, m, r, false⟩ := by
  obtain ⟨⟨h1, h2, h3⟩, h4, h5, h6⟩ := right_is h
  have e : encM m ++ r = [77] ++ (be2 m.name.length ++ m.name ++ (beBytes m.ver 4 ++ (m.fw ++ (be2 m.notes.length ++ m.notes ++ r)))) := by simp [encM, List.append_assoc]
  rw [e]
  unfold readM
  rw [rtake_app [77] _ 1 rfl]
  dsimp only
  rw [rbytes_app m.name _ 20 (by omega) (by omega)]
  dsimp only
  rw [rtake_app (beBytes m.ver 4) _ 4 (by rw [beBytes_length]; rfl)]
  dsimp only
  rw [rtake_app m.fw _ 32 (by rw [h5]; rfl)]
  dsimp only
  rw [rbytes_app m.notes _ 64 (by omega) (by omega), beNum_beBytes4]
  rfl
theorem dec_app {m : Man} (h : rightM m = true) (r : List UInt8) : decOK (encM m ++ r) = r.isEmpty := by
  unfold decOK
  rw [read_enc h]
  simp [h]
theorem dec_enc {m : Man} (h : rightM m = true) : decOK (encM m) = true := by
  have := dec_app h []
  simpa using this
theorem dec_man {m : Man} (h : rightM m = true) : (readM (encM m)).man = m := by
  have := read_enc h []
  rw [List.append_nil] at this
  rw [this]
theorem dec_back {b : List UInt8} (h : decOK b = true) : rightM (readM b).man = true ∧ encM (readM b).man = b := by
  unfold decOK at h
  simp only [Bool.and_eq_true, decide_eq_true_eq, Bool.not_eq_true', List.isEmpty_iff] at h
  obtain ⟨⟨h1, h2, h3⟩, h4⟩ := h
  refine ⟨h4, ?_⟩
  unfold readM at h1 h2 h3 ⊢
  dsimp only at h1 h2 h3 ⊢
  obtain ⟨a4, a5⟩ := rbytes_back h2
  obtain ⟨b4, b5, b6⟩ := rtake_back a4
  obtain ⟨c4, c5, c6⟩ := rtake_back b4
  obtain ⟨d4, d5⟩ := rbytes_back c4
  obtain ⟨_, e5, e6⟩ := rtake_back d4
  generalize rtake b false 1 = t1 at *
  generalize rbytes t1.2.1 t1.2.2 20 = t2 at *
  generalize rtake t2.2.1 t2.2.2 4 = t3 at *
  generalize rtake t3.2.1 t3.2.2 32 = t4 at *
  generalize rbytes t4.2.1 t4.2.2 64 = t5 at *
  have f1 : t1.1 = [77] := by
    obtain ⟨x, hx⟩ := len1 (by omega : t1.1.length = 1)
    rw [hx] at h1 ⊢
    have e : (beNum [x]).toUInt8 = x := by
      rw [← UInt8.toNat_inj, UInt32.toNat_toUInt8, show beNum [x] = (shl 0 8 ||| x.toUInt32) from rfl, or8_toNat]
      have := x.toNat_lt
      have h0 : (0 : UInt32).toNat = 0 := rfl
      rw [h0]
      omega
    rw [e] at h1
    rw [h1]
  have f3 : beBytes (beNum t3.1) 4 = t3.1 := beBytes_beNum4 (by omega)
  unfold encM
  dsimp only
  rw [f3]
  rw [h3, List.append_nil] at a5
  rw [← a5]
  rw [e5, f1, d5, c5, b5]
  simp only [List.append_assoc]
theorem dec_cut {m : Man} (h : rightM m = true) {k : Nat} (hk : k < (encM m).length) : decOK ((encM m).take k) = false := by
  cases hd : decOK ((encM m).take k) with
  | false => rfl
  | true =>
    obtain ⟨h1, h2⟩ := dec_back hd
    have h3 := read_enc h1 ((encM m).drop k)
    rw [h2, List.take_append_drop] at h3
    have h4 := read_enc h []
    rw [List.append_nil, h3] at h4
    have h5 : (encM m).drop k = [] := congrArg Dec.left h4
    have := congrArg List.length h5
    simp at this
    omega
theorem enc_length (m : Man) : (encM m).length = 9 + m.name.length + m.fw.length + m.notes.length := by
  unfold encM
  simp only [List.length_append, beBytes_length, be2_length, List.length_cons, List.length_nil]
  omega
end Go.Proofs.Ytmgnigofilkfmab
namespace Go.Proofs.Ytmgnigofilkfmab
set_option maxRecDepth 100000
open Go Go.RowKit
theorem shr_zero (x : UInt32) : shr x 0 = x := by rw [← UInt32.toNat_inj, shr_toNat]; simp
theorem be2_small (m : Nat) (h : m < 65536) : be2 m = [UInt8.ofNat (m / 256), UInt8.ofNat m] := by
  unfold be2
  have e : (UInt32.ofNat m).toNat = m := by rw [UInt32.toNat_ofNat']; exact Nat.mod_eq_of_lt (by omega)
  rw [beBytes2]
  congr 1
  · rw [← UInt8.toNat_inj, byteAt, UInt8.toNat_ofNat', e]
  congr 1
  · rw [← UInt8.toNat_inj, byteAt, UInt8.toNat_ofNat', e]; omega
theorem bin_shri64 {P : Program} {w : World} (t : TypeId) (kk : IntKind) (x k : Nat) (h : k ≤ 64) : (binOp .shr t (.int .i64 (x : Int)) (.int kk (k : Int))).run P w = .ok (.int .i64 ((x / 2 ^ k : Nat) : Int)) w := by
  have h1 : ¬ ((k : Int) < 0) := by omega
  have h2 : min (k : Int).toNat IntKind.i64.bits = k := by simp [IntKind.bits]; omega
  have e : ((x : Int)).fdiv (2 ^ k) = ((x / 2 ^ k : Nat) : Int) := by
    rw [Int.fdiv_eq_ediv_of_nonneg _ (Int.pow_nonneg (by decide))]
    simp
  simp only [binOp, Op.shift, if_neg h1, h2, e, Sem.run_pure]
theorem conv_i64_u8 {P : Program} {w : World} {s t : TypeId} (hs : P.underlying s = some (.int .i64)) (ht : P.underlying t = some (.int .u8)) (x : Nat) : (convert s t (.int .i64 (x : Int))).run P w = .ok (.int .u8 (u8i (UInt8.ofNat x))) w := by
  have e : IntKind.u8.wrap (x : Int) = u8i (UInt8.ofNat x) := by
    unfold u8i
    rw [IntKind.wrap_u8, UInt8.toNat_ofNat']
    omega
  simp [convert, run_underlying hs, run_underlying ht, Conv.intToInt, e]
end Go.Proofs.Ytmgnigofilkfmab
namespace Go.Proofs.Ytmgnigofilkfmab
set_option maxRecDepth 100000
open Go Go.RowKit
theorem run_index_str {P : Program} {w : World} {t : TypeId} {k : IntKind} (ht : P.underlying t = some .string) (L : List UInt8) (j : Nat) (h : j < L.length) : (Instr.index t (.string (str L)) (.int k (j : Int))).run P w = .ok (.int .u8 (u8i (ub L j))) w := by
  have h1 : (str L)[j]? = some (ub L j) := by
    have hs : j < (str L).size := by rw [str_size]; exact h
    rw [getElem?_pos (str L) j hs]
    congr 1
    show L.toArray[j]'(by simpa using h) = _
    rw [List.getElem_toArray]
    simp [ub, h]
  simp [Instr.index, asIntOf, run_underlying ht, h1, u8i]
theorem all_take_succ (s : List UInt8) (k : Nat) (hk : k < s.length) : (s.take (k + 1)).all letter = ((s.take k).all letter && letter (ub s k)) := by
  rw [take_snoc_ub s k hk]
  simp
theorem all_no {s : List UInt8} {k : Nat} (hk : k < s.length) (h : letter (ub s k) = false) : s.all letter = false := by
  rw [List.all_eq_false]
  refine ⟨s[k], List.getElem_mem hk, ?_⟩
  have e : ub s k = s[k] := by simp [ub, hk]
  rw [← e, h]
  simp
theorem letter_lo {c : UInt8} (h : decide (u8i c < 97) = true) : letter c = false := by
  rw [decide_eq_true_iff] at h
  simp [letter]
  omega
theorem letter_hi {c : UInt8} (h : decide (122 < u8i c) = true) : letter c = false := by
  rw [decide_eq_true_iff] at h
  simp [letter]
  omega
theorem letter_yes {c : UInt8} (h1 : decide (u8i c < 97) = false) (h2 : decide (122 < u8i c) = false) : letter c = true := by
  rw [decide_eq_false_iff_not] at h1 h2
  simp [letter]
  omega
set_option maxHeartbeats 1000000 in
theorem name_any (s : List UInt8) (w : World) (hs : s.length ≤ 9223372036854775807) :
    Calls Try.prog 90 #[.string (str s)] w fun e w' => e = .returned (.bool (nameOK s)) ∧ w = w' := by
  have hsz : (str s).size = s.length := str_size s
  by_cases h1 : s.length < 1
  · have hno : nameOK s = false := by simp [nameOK]; omega
    have d1 : decide ((s.length : Int) < 1) = true := by simp; omega
    rw [hno]
    go_enter Try.func90, Try.ntmps90
    go_wp2_with fail
    go_ret
    exact ⟨rfl, rfl⟩
  · have d1 : decide ((s.length : Int) < 1) = false := by simp; omega
    by_cases h2 : 20 < s.length
    · have hno : nameOK s = false := by simp [nameOK]; omega
      have d2 : decide (20 < (s.length : Int)) = true := by simp; omega
      rw [hno]
      go_enter Try.func90, Try.ntmps90
      go_wp2_with fail
      go_ret
      exact ⟨rfl, rfl⟩
    · have d2 : decide (20 < (s.length : Int)) = false := by simp; omega
      have hall : nameOK s = s.all letter := by
        have a1 : decide (1 ≤ s.length) = true := by simp; omega
        have a2 : decide (s.length ≤ 20) = true := by simp; omega
        simp [nameOK, a1, a2]
      rw [hall]
      clear hall
      go_enter Try.func90, Try.ntmps90
      go_wp2_with fail
      go_loop [14] (fun i => ∃ k : Nat, k ≤ s.length ∧ i = .int .i64 k ∧ (s.take k).all letter = true) (fun i => s.length - (intOf i).toNat)
      case atStart => exact ⟨0, Nat.zero_le _, rfl, rfl⟩
      case round =>
        obtain ⟨k, hk, rfl, hall⟩ := hrel
        have Hall := Lib.hid hall
        clear hall
        by_cases hlt : k < s.length
        · have e1 := fun w' : World => run_index_str (P := Try.prog) (w := w') (k := .i64) Try.underlying9 s k hlt
          by_cases a1 : decide (u8i (ub s k) < 97) = true
          · go_wp2_with fail
            go_ret
            exact ⟨by rw [all_no hlt (letter_lo a1)]; rfl, rfl⟩
          · have a1' : decide (u8i (ub s k) < 97) = false := by simpa using a1
            clear a1
            by_cases a2 : decide (122 < u8i (ub s k)) = true
            · go_wp2_with fail
              go_ret
              exact ⟨by rw [all_no hlt (letter_hi a2)]; rfl, rfl⟩
            · have a2' : decide (122 < u8i (ub s k)) = false := by simpa using a2
              clear a2
              go_wp2_with fail
              go_round
              case rel => exact ⟨k + 1, by omega, by go_num, by rw [all_take_succ s k hlt, Hall.out, letter_yes a1' a2']; rfl⟩
              case measure => simp [intOf]; omega
        · obtain rfl : k = s.length := by omega
          have hall := Hall.out
          rw [List.take_length] at hall
          have Hall2 := Lib.hid hall
          clear hall
          go_wp2_with fail
          go_ret
          exact ⟨by rw [Hall2.out]; rfl, rfl⟩
/-- a manifest's value, as it is handed on -/
def manV (m : Man) (F : Option Addr) (nf cf : Nat) (N : Option Addr) (nn cn : Nat) : Value := .agg #[.string (str m.name), .int .u32 (u32i m.ver), .slice F nf cf, .slice N nn cn]
set_option maxHeartbeats 1000000 in
theorem right_any (m : Man) (F N : Option Addr) (nf cf nn cn : Nat) (w : World) (hs : m.name.length ≤ 9223372036854775807) (hf : m.fw.length = nf) (hn : m.notes.length = nn) :
    Calls Try.prog 53 #[manV m F nf cf N nn cn] w fun e w' => e = .returned (.bool (rightM m)) ∧ Ext w w' := by
  have hR : rightM m = (nameOK m.name && decide (0 < u32i m.ver) && decide (nf = 32) && decide (nn ≤ 64)) := by rw [← hf, ← hn]; rfl
  rw [hR]
  clear hR hf hn
  unfold manV
  cases h1 : nameOK m.name with
  | false =>
    go_enter Try.func53, Try.ntmps53
    go_wp2_with fail
    refine (name_any m.name _ hs).mono ?_
    rintro e w1 ⟨rfl, rfl⟩
    rw [h1]
    go_wp2_with fail
    go_ret
    exact ⟨rfl, Ext.new w _⟩
  | true =>
    cases h2 : decide (0 < u32i m.ver) with
    | false =>
      go_enter Try.func53, Try.ntmps53
      go_wp2_with fail
      refine (name_any m.name _ hs).mono ?_
      rintro e w1 ⟨rfl, rfl⟩
      rw [h1]
      go_wp2_with fail
      go_ret
      exact ⟨rfl, Ext.new w _⟩
    | true =>
      by_cases h3 : nf = 32
      · subst h3
        by_cases h4 : nn ≤ 64
        · have d4 : decide ((nn : Int) ≤ 64) = true := by simp; omega
          rw [decide_eq_true h4]
          go_enter Try.func53, Try.ntmps53
          go_wp2_with fail
          refine (name_any m.name _ hs).mono ?_
          rintro e w1 ⟨rfl, rfl⟩
          rw [h1]
          go_wp2_with fail
          go_ret
          exact ⟨rfl, Ext.new w _⟩
        · have d4 : decide ((nn : Int) ≤ 64) = false := by simp; omega
          rw [decide_eq_false h4]
          go_enter Try.func53, Try.ntmps53
          go_wp2_with fail
          refine (name_any m.name _ hs).mono ?_
          rintro e w1 ⟨rfl, rfl⟩
          rw [h1]
          go_wp2_with fail
          go_ret
          exact ⟨rfl, Ext.new w _⟩
      · have d3 : ((nf : Int) == 32) = false := by rw [beq_eq_false_iff_ne]; omega
        rw [decide_eq_false h3]
        go_enter Try.func53, Try.ntmps53
        go_wp2_with fail
        refine (name_any m.name _ hs).mono ?_
        rintro e w1 ⟨rfl, rfl⟩
        rw [h1]
        go_wp2_with fail
        go_ret
        exact ⟨rfl, Ext.new w _⟩
end Go.Proofs.Ytmgnigofilkfmab
namespace Go.Proofs.Ytmgnigofilkfmab
set_option maxRecDepth 100000
open Go Go.RowKit
set_option maxHeartbeats 1000000 in
theorem r1num_any (w0 w : World) (A : Option Addr) (n c : Nat) (L : List UInt8) (x : UInt32) (hE0 : Ext w0 w) (own : OB w w0.heap.size A n c L) (hn : n ≤ 70368744177664) :
    Calls Try.prog 85 #[.slice A n c, .int .u32 (u32i x)] w fun e w' => ∃ A' c', e = .returned (.slice A' (n + 4) c') ∧ OB w' w0.heap.size A' (n + 4) c' (L ++ beBytes x 4) ∧ Ext w0 w' := by
  go_enter Try.func85, Try.ntmps85
  go_upto_region 1 with (fail)
  refine seq_ext (n := 13) (by kernel_rfl) [.is (.slice (A) (n) (c)), .is (.int .u32 (u32i (x))), .is (.int .u32 (u32i (shr x 24))), .is (.int .u8 (u8i ((shr x 24)).toUInt8)), .is (.int .u32 (u32i (x))), .is (.int .u32 (u32i (shr x 16))), .is (.int .u8 (u8i ((shr x 16)).toUInt8)), .is (.int .u32 (u32i (x))), .is (.int .u32 (u32i (shr x 8))), .is (.int .u8 (u8i ((shr x 8)).toUInt8)), .is (.int .u32 (u32i (x))), .is (.int .u8 (u8i (x).toUInt8)), .rb ([((shr x 24)).toUInt8, ((shr x 16)).toUInt8, ((shr x 8)).toUInt8, (x).toUInt8])] rfl ⟨?_, ?_, ?_, ?_, ?_, ?_, ?_, ?_, ?_, ?_, ?_, ?_, ?_, trivial⟩ ?_
  · refine stepE rfl fun sdn sa sw sE sd sk => ?_
    have h0 : sa.eval (.tmp 0) = .slice (A) (n) (c) := sk.old 0 rfl
    exact Runs.move rfl h0 ⟨Ext.refl _, rfl⟩
  · refine stepE rfl fun sdn sa sw sE sd sk => ?_
    have h1 : sa.eval (.tmp 1) = .int .u32 (u32i (x)) := sk.old 1 rfl
    exact Runs.move rfl h1 ⟨Ext.refl _, rfl⟩
  · refine stepE rfl fun sdn sa sw sE sd sk => ?_
    have h6 : sa.eval (.tmp 6) = .int .u32 (u32i (x)) := sk.fact 1 6 rfl (sd 1 rfl)
    exact Runs.bin rfl h6 rfl (eqGuard_bin rfl) (bin_shr32 _ _ 24 _) ⟨Ext.refl _, rfl⟩
  · refine stepE rfl fun sdn sa sw sE sd sk => ?_
    have h7 : sa.eval (.tmp 7) = .int .u32 (u32i (shr x 24)) := sk.fact 2 7 rfl (sd 2 rfl)
    exact Runs.conv rfl h7 (conv_u32_u8 Try.underlying25 Try.underlying5 _) ⟨Ext.refl _, rfl⟩
  · refine stepE rfl fun sdn sa sw sE sd sk => ?_
    have h1 : sa.eval (.tmp 1) = .int .u32 (u32i (x)) := sk.old 1 rfl
    exact Runs.move rfl h1 ⟨Ext.refl _, rfl⟩
  · refine stepE rfl fun sdn sa sw sE sd sk => ?_
    have h9 : sa.eval (.tmp 9) = .int .u32 (u32i (x)) := sk.fact 4 9 rfl (sd 4 rfl)
    exact Runs.bin rfl h9 rfl (eqGuard_bin rfl) (bin_shr32 _ _ 16 _) ⟨Ext.refl _, rfl⟩
  · refine stepE rfl fun sdn sa sw sE sd sk => ?_
    have h10 : sa.eval (.tmp 10) = .int .u32 (u32i (shr x 16)) := sk.fact 5 10 rfl (sd 5 rfl)
    exact Runs.conv rfl h10 (conv_u32_u8 Try.underlying25 Try.underlying5 _) ⟨Ext.refl _, rfl⟩
  · refine stepE rfl fun sdn sa sw sE sd sk => ?_
    have h1 : sa.eval (.tmp 1) = .int .u32 (u32i (x)) := sk.old 1 rfl
    exact Runs.move rfl h1 ⟨Ext.refl _, rfl⟩
  · refine stepE rfl fun sdn sa sw sE sd sk => ?_
    have h12 : sa.eval (.tmp 12) = .int .u32 (u32i (x)) := sk.fact 7 12 rfl (sd 7 rfl)
    exact Runs.bin rfl h12 rfl (eqGuard_bin rfl) (bin_shr32 _ _ 8 _) ⟨Ext.refl _, rfl⟩
  · refine stepE rfl fun sdn sa sw sE sd sk => ?_
    have h13 : sa.eval (.tmp 13) = .int .u32 (u32i (shr x 8)) := sk.fact 8 13 rfl (sd 8 rfl)
    exact Runs.conv rfl h13 (conv_u32_u8 Try.underlying25 Try.underlying5 _) ⟨Ext.refl _, rfl⟩
  · refine stepE rfl fun sdn sa sw sE sd sk => ?_
    have h1 : sa.eval (.tmp 1) = .int .u32 (u32i (x)) := sk.old 1 rfl
    exact Runs.move rfl h1 ⟨Ext.refl _, rfl⟩
  · refine stepE rfl fun sdn sa sw sE sd sk => ?_
    have h15 : sa.eval (.tmp 15) = .int .u32 (u32i (x)) := sk.fact 10 15 rfl (sd 10 rfl)
    exact Runs.conv rfl h15 (conv_u32_u8 Try.underlying25 Try.underlying5 _) ⟨Ext.refl _, rfl⟩
  · refine stepE rfl fun sdn sa sw sE sd sk => ?_
    have h8 : sa.eval (.tmp 8) = .int .u8 (u8i ((shr x 24)).toUInt8) := sk.fact 3 8 rfl (sd 3 rfl)
    have h11 : sa.eval (.tmp 11) = .int .u8 (u8i ((shr x 16)).toUInt8) := sk.fact 6 11 rfl (sd 6 rfl)
    have h14 : sa.eval (.tmp 14) = .int .u8 (u8i ((shr x 8)).toUInt8) := sk.fact 9 14 rfl (sd 9 rfl)
    have h16 : sa.eval (.tmp 16) = .int .u8 (u8i (x).toUInt8) := sk.fact 11 16 rfl (sd 11 rfl)
    exact Runs.lit4 rfl h8 h11 h14 h16 (fun w1 e1 o1 => ⟨e1, _, _, _, rfl, o1.rb⟩)
  intro vals W1 hE hv
  have e0 : vals 0 = .slice (A) (n) (c) := hv 0 (by omega) 5 rfl
  have e1 : vals 1 = .int .u32 (u32i (x)) := hv 1 (by omega) 6 rfl
  have e2 : vals 2 = .int .u32 (u32i (shr x 24)) := hv 2 (by omega) 7 rfl
  have e3 : vals 3 = .int .u8 (u8i ((shr x 24)).toUInt8) := hv 3 (by omega) 8 rfl
  have e4 : vals 4 = .int .u32 (u32i (x)) := hv 4 (by omega) 9 rfl
  have e5 : vals 5 = .int .u32 (u32i (shr x 16)) := hv 5 (by omega) 10 rfl
  have e6 : vals 6 = .int .u8 (u8i ((shr x 16)).toUInt8) := hv 6 (by omega) 11 rfl
  have e7 : vals 7 = .int .u32 (u32i (x)) := hv 7 (by omega) 12 rfl
  have e8 : vals 8 = .int .u32 (u32i (shr x 8)) := hv 8 (by omega) 13 rfl
  have e9 : vals 9 = .int .u8 (u8i ((shr x 8)).toUInt8) := hv 9 (by omega) 14 rfl
  have e10 : vals 10 = .int .u32 (u32i (x)) := hv 10 (by omega) 15 rfl
  have e11 : vals 11 = .int .u8 (u8i (x).toUInt8) := hv 11 (by omega) 16 rfl
  obtain ⟨A17, n17, c17, e12, r17⟩ := hv 12 (by omega) 17 rfl
  simp only [putAll, Act.put, List.take_succ_cons, List.take_zero, List.drop_succ_cons, List.drop_zero, List.drop_nil, List.take_nil, Nat.reduceAdd, List.setIfInBounds_toArray, List.set_cons_succ, List.set_cons_zero, e0, e1, e2, e3, e4, e5, e6, e7, e8, e9, e10, e11, e12]
  clear hv e0 e1 e2 e3 e4 e5 e6 e7 e8 e9 e10 e11 e12
  go_wp2_with (refine app_own (N := n + 4) (LM := L ++ beBytes x 4) rfl rfl rfl rfl (hE0.trans hE) (own.ext hE) r17 (by rw [← r17.len]; rfl) (by rw [beBytes4, shr_zero]) (by omega) ?_; intro A3 c3 W3 own3 hE3)
  go_ret
  exact ⟨A3, c3, rfl, own3, hE3⟩
set_option maxHeartbeats 1000000 in
theorem r1bytes_any (w0 w : World) (A : Option Addr) (n c : Nat) (L : List UInt8) (B : Option Addr) (m d : Nat) (M : List UInt8) (hE0 : Ext w0 w) (own : OB w w0.heap.size A n c L) (hr : RB w B m d M) (hdis : 0 < m → blk B ≠ blk A) (hn : n ≤ 70368744177664) (hm : m < 65536) :
    Calls Try.prog 86 #[.slice A n c, .slice B m d] w fun e w' => ∃ A' c', e = .returned (.slice A' (n + (2 + m)) c') ∧ OB w' w0.heap.size A' (n + (2 + m)) c' (L ++ (be2 m ++ M)) ∧ Ext w0 w' := by
  go_enter Try.func86, Try.ntmps86
  go_upto_region 1 with (fail)
  refine seq_ext (n := 9) (by kernel_rfl) [.is (.slice (A) (n) (c)), .is (.slice (B) (m) (d)), .is (.int .i64 ((m : Nat))), .is (.int .i64 (((m / 2 ^ 8 : Nat) : Int))), .is (.int .u8 (u8i (UInt8.ofNat (m / 2 ^ 8)))), .is (.slice (B) (m) (d)), .is (.int .i64 ((m : Nat))), .is (.int .u8 (u8i (UInt8.ofNat (m)))), .rb ([(UInt8.ofNat (m / 2 ^ 8)), (UInt8.ofNat (m))])] rfl ⟨?_, ?_, ?_, ?_, ?_, ?_, ?_, ?_, ?_, trivial⟩ ?_
  · refine stepE rfl fun sdn sa sw sE sd sk => ?_
    have h0 : sa.eval (.tmp 0) = .slice (A) (n) (c) := sk.old 0 rfl
    exact Runs.move rfl h0 ⟨Ext.refl _, rfl⟩
  · refine stepE rfl fun sdn sa sw sE sd sk => ?_
    have h1 : sa.eval (.tmp 1) = .slice (B) (m) (d) := sk.old 1 rfl
    exact Runs.move rfl h1 ⟨Ext.refl _, rfl⟩
  · refine stepE rfl fun sdn sa sw sE sd sk => ?_
    have h6 : sa.eval (.tmp 6) = .slice (B) (m) (d) := sk.fact 1 6 rfl (sd 1 rfl)
    exact Runs.len Try.underlying22 rfl h6 ⟨Ext.refl _, rfl⟩
  · refine stepE rfl fun sdn sa sw sE sd sk => ?_
    have h7 : sa.eval (.tmp 7) = .int .i64 ((m : Nat)) := sk.fact 2 7 rfl (sd 2 rfl)
    exact Runs.bin rfl h7 rfl (eqGuard_bin rfl) (bin_shri64 _ _ m 8 (by omega)) ⟨Ext.refl _, rfl⟩
  · refine stepE rfl fun sdn sa sw sE sd sk => ?_
    have h8 : sa.eval (.tmp 8) = .int .i64 (((m / 2 ^ 8 : Nat) : Int)) := sk.fact 3 8 rfl (sd 3 rfl)
    exact Runs.conv rfl h8 (conv_i64_u8 Try.underlying3 Try.underlying5 (m / 2 ^ 8)) ⟨Ext.refl _, rfl⟩
  · refine stepE rfl fun sdn sa sw sE sd sk => ?_
    have h1 : sa.eval (.tmp 1) = .slice (B) (m) (d) := sk.old 1 rfl
    exact Runs.move rfl h1 ⟨Ext.refl _, rfl⟩
  · refine stepE rfl fun sdn sa sw sE sd sk => ?_
    have h10 : sa.eval (.tmp 10) = .slice (B) (m) (d) := sk.fact 5 10 rfl (sd 5 rfl)
    exact Runs.len Try.underlying22 rfl h10 ⟨Ext.refl _, rfl⟩
  · refine stepE rfl fun sdn sa sw sE sd sk => ?_
    have h11 : sa.eval (.tmp 11) = .int .i64 ((m : Nat)) := sk.fact 6 11 rfl (sd 6 rfl)
    exact Runs.conv rfl h11 (conv_i64_u8 Try.underlying3 Try.underlying5 (m)) ⟨Ext.refl _, rfl⟩
  · refine stepE rfl fun sdn sa sw sE sd sk => ?_
    have h9 : sa.eval (.tmp 9) = .int .u8 (u8i (UInt8.ofNat (m / 2 ^ 8))) := sk.fact 4 9 rfl (sd 4 rfl)
    have h12 : sa.eval (.tmp 12) = .int .u8 (u8i (UInt8.ofNat (m))) := sk.fact 7 12 rfl (sd 7 rfl)
    exact Runs.lit2 rfl h9 h12 (fun w1 e1 o1 => ⟨e1, _, _, _, rfl, o1.rb⟩)
  intro vals W1 hE hv
  have e0 : vals 0 = .slice (A) (n) (c) := hv 0 (by omega) 5 rfl
  have e1 : vals 1 = .slice (B) (m) (d) := hv 1 (by omega) 6 rfl
  have e2 : vals 2 = .int .i64 ((m : Nat)) := hv 2 (by omega) 7 rfl
  have e3 : vals 3 = .int .i64 (((m / 2 ^ 8 : Nat) : Int)) := hv 3 (by omega) 8 rfl
  have e4 : vals 4 = .int .u8 (u8i (UInt8.ofNat (m / 2 ^ 8))) := hv 4 (by omega) 9 rfl
  have e5 : vals 5 = .slice (B) (m) (d) := hv 5 (by omega) 10 rfl
  have e6 : vals 6 = .int .i64 ((m : Nat)) := hv 6 (by omega) 11 rfl
  have e7 : vals 7 = .int .u8 (u8i (UInt8.ofNat (m))) := hv 7 (by omega) 12 rfl
  obtain ⟨A13, n13, c13, e8, r13⟩ := hv 8 (by omega) 13 rfl
  simp only [putAll, Act.put, List.take_succ_cons, List.take_zero, List.drop_succ_cons, List.drop_zero, List.drop_nil, List.take_nil, Nat.reduceAdd, List.setIfInBounds_toArray, List.set_cons_succ, List.set_cons_zero, e0, e1, e2, e3, e4, e5, e6, e7, e8]
  clear hv e0 e1 e2 e3 e4 e5 e6 e7 e8
  go_wp2_with (first | (refine app_to (N := n + 2) (LM := L ++ be2 m) rfl rfl rfl rfl (own.ext hE) r13 (by rw [← r13.len]; rfl) (by rw [be2_small m hm]) (by omega) (hE0.trans hE).size ?_; intro A3 c3 W3 own3 g3 h3 s3; have hE3 : Ext w0 W3 := (own.ext hE).step (hE0.trans hE) g3; have hr3 := (hr.ext hE).grown g3 hdis) | (refine app_own (N := n + (2 + m)) (LM := L ++ (be2 m ++ M)) rfl rfl rfl rfl hE3 own3 hr3 (by omega) (by simp [List.append_assoc]) (by omega) ?_; intro A4 c4 W4 own4 hE4))
  go_ret
  exact ⟨A4, c4, rfl, own4, hE4⟩
set_option maxHeartbeats 1000000 in
theorem r1bytes_full (w : World) (A : Addr) (n : Nat) (L : List UInt8) (B : Option Addr) (m d : Nat) (M : List UInt8) (hA : RB w (some A) n n L) (hr : RB w B m d M) (hn : n ≤ 70368744177664) (hm : m < 65536) :
    Calls Try.prog 86 #[.slice (some A) n n, .slice B m d] w fun e w' => ∃ A' c', e = .returned (.slice A' (n + (2 + m)) c') ∧ OB w' w.heap.size A' (n + (2 + m)) c' (L ++ (be2 m ++ M)) ∧ Ext w w' := by
  obtain ⟨c, hc⟩ : ∃ c, c = n := ⟨_, rfl⟩
  have own := hA
  rw [← hc] at own
  have Hc := Lib.hid hc
  obtain ⟨c', hc'⟩ : ∃ A', A' = some A := ⟨_, rfl⟩
  clear hc'
  go_enter Try.func86, Try.ntmps86
  go_upto_region 1 with (fail)
  refine seq_ext (n := 9) (by kernel_rfl) [.is (.slice (some A) (n) (n)), .is (.slice (B) (m) (d)), .is (.int .i64 ((m : Nat))), .is (.int .i64 (((m / 2 ^ 8 : Nat) : Int))), .is (.int .u8 (u8i (UInt8.ofNat (m / 2 ^ 8)))), .is (.slice (B) (m) (d)), .is (.int .i64 ((m : Nat))), .is (.int .u8 (u8i (UInt8.ofNat (m)))), .rb ([(UInt8.ofNat (m / 2 ^ 8)), (UInt8.ofNat (m))]), .is (.slice (some A) (n) (n)), .is (.slice (B) (m) (d)), .is (.int .i64 ((m : Nat))), .is (.int .i64 (((m / 2 ^ 8 : Nat) : Int))), .is (.int .u8 (u8i (UInt8.ofNat (m / 2 ^ 8)))), .is (.slice (B) (m) (d)), .is (.int .i64 ((m : Nat))), .is (.int .u8 (u8i (UInt8.ofNat (m)))), .rb ([(UInt8.ofNat (m / 2 ^ 8)), (UInt8.ofNat (m))])] rfl ⟨?_, ?_, ?_, ?_, ?_, ?_, ?_, ?_, ?_, trivial⟩ ?_
  · refine stepE rfl fun sdn sa sw sE sd sk => ?_
    have h0 : sa.eval (.tmp 0) = .slice (some A) (n) (n) := sk.old 0 rfl
    exact Runs.move rfl h0 ⟨Ext.refl _, rfl⟩
  · refine stepE rfl fun sdn sa sw sE sd sk => ?_
    have h1 : sa.eval (.tmp 1) = .slice (B) (m) (d) := sk.old 1 rfl
    exact Runs.move rfl h1 ⟨Ext.refl _, rfl⟩
  · refine stepE rfl fun sdn sa sw sE sd sk => ?_
    have h6 : sa.eval (.tmp 6) = .slice (B) (m) (d) := sk.fact 1 6 rfl (sd 1 rfl)
    exact Runs.len Try.underlying22 rfl h6 ⟨Ext.refl _, rfl⟩
  · refine stepE rfl fun sdn sa sw sE sd sk => ?_
    have h7 : sa.eval (.tmp 7) = .int .i64 ((m : Nat)) := sk.fact 2 7 rfl (sd 2 rfl)
    exact Runs.bin rfl h7 rfl (eqGuard_bin rfl) (bin_shri64 _ _ m 8 (by omega)) ⟨Ext.refl _, rfl⟩
  · refine stepE rfl fun sdn sa sw sE sd sk => ?_
    have h8 : sa.eval (.tmp 8) = .int .i64 (((m / 2 ^ 8 : Nat) : Int)) := sk.fact 3 8 rfl (sd 3 rfl)
    exact Runs.conv rfl h8 (conv_i64_u8 Try.underlying3 Try.underlying5 (m / 2 ^ 8)) ⟨Ext.refl _, rfl⟩
  · refine stepE rfl fun sdn sa sw sE sd sk => ?_
    have h1 : sa.eval (.tmp 1) = .slice (B) (m) (d) := sk.old 1 rfl
    exact Runs.move rfl h1 ⟨Ext.refl _, rfl⟩
  · refine stepE rfl fun sdn sa sw sE sd sk => ?_
    have h10 : sa.eval (.tmp 10) = .slice (B) (m) (d) := sk.fact 5 10 rfl (sd 5 rfl)
    exact Runs.len Try.underlying22 rfl h10 ⟨Ext.refl _, rfl⟩
  · refine stepE rfl fun sdn sa sw sE sd sk => ?_
    have h11 : sa.eval (.tmp 11) = .int .i64 ((m : Nat)) := sk.fact 6 11 rfl (sd 6 rfl)
    exact Runs.conv rfl h11 (conv_i64_u8 Try.underlying3 Try.underlying5 (m)) ⟨Ext.refl _, rfl⟩
  · refine stepE rfl fun sdn sa sw sE sd sk => ?_
    have h9 : sa.eval (.tmp 9) = .int .u8 (u8i (UInt8.ofNat (m / 2 ^ 8))) := sk.fact 4 9 rfl (sd 4 rfl)
    have h12 : sa.eval (.tmp 12) = .int .u8 (u8i (UInt8.ofNat (m))) := sk.fact 7 12 rfl (sd 7 rfl)
    exact Runs.lit2 rfl h9 h12 (fun w1 e1 o1 => ⟨e1, _, _, _, rfl, o1.rb⟩)
  intro vals W1 hE hv
  have e0 : vals 0 = .slice (some A) (n) (n) := hv 0 (by omega) 5 rfl
  have e1 : vals 1 = .slice (B) (m) (d) := hv 1 (by omega) 6 rfl
  have e2 : vals 2 = .int .i64 ((m : Nat)) := hv 2 (by omega) 7 rfl
  have e3 : vals 3 = .int .i64 (((m / 2 ^ 8 : Nat) : Int)) := hv 3 (by omega) 8 rfl
  have e4 : vals 4 = .int .u8 (u8i (UInt8.ofNat (m / 2 ^ 8))) := hv 4 (by omega) 9 rfl
  have e5 : vals 5 = .slice (B) (m) (d) := hv 5 (by omega) 10 rfl
  have e6 : vals 6 = .int .i64 ((m : Nat)) := hv 6 (by omega) 11 rfl
  have e7 : vals 7 = .int .u8 (u8i (UInt8.ofNat (m))) := hv 7 (by omega) 12 rfl
  obtain ⟨A13, n13, c13, e8, r13⟩ := hv 8 (by omega) 13 rfl
  simp only [putAll, Act.put, List.take_succ_cons, List.take_zero, List.drop_succ_cons, List.drop_zero, List.drop_nil, List.take_nil, Nat.reduceAdd, List.setIfInBounds_toArray, List.set_cons_succ, List.set_cons_zero, e0, e1, e2, e3, e4, e5, e6, e7, e8]
  clear hv e0 e1 e2 e3 e4 e5 e6 e7 e8
  go_wp2_with (first | (refine app_full rfl rfl rfl rfl (hA.ext hE) r13 (by have := r13.len; simp at this; omega) (by have := r13.len; simp at this; omega) ?_; intro A3 c3 W3 own3 hE3; have h2 : n13 = 2 := (by rw [← r13.len]; rfl); subst h2; have hE3' := hE.trans hE3; have own3' := own3.base hE.size) | (refine app_own (N := n + (2 + m)) (LM := L ++ (be2 m ++ M)) rfl rfl rfl rfl hE3' own3' (hr.ext hE3') (by omega) (by rw [be2_small m hm, List.append_assoc]) (by omega) ?_; intro A4 c4 W4 own4 hE4))
  go_ret
  exact ⟨A4, c4, rfl, own4, hE4⟩
theorem r1num_to {N : Nat} {X : List UInt8} (w0 w : World) (A : Option Addr) (n c : Nat) (L : List UInt8) (x : UInt32) (hE0 : Ext w0 w) (own : OB w w0.heap.size A n c L) (hn : n ≤ 70368744177664) (hN : n + 4 = N) (hX : L ++ beBytes x 4 = X) :
    Calls Try.prog 85 #[.slice A n c, .int .u32 (u32i x)] w fun e w' => ∃ A' c', e = .returned (.slice A' N c') ∧ OB w' w0.heap.size A' N c' X ∧ Ext w0 w' := by
  subst hN
  subst hX
  exact r1num_any w0 w A n c L x hE0 own hn
theorem r1bytes_to {N : Nat} {X : List UInt8} (w0 w : World) (A : Option Addr) (n c : Nat) (L : List UInt8) (B : Option Addr) (m d : Nat) (M : List UInt8) (hE0 : Ext w0 w) (own : OB w w0.heap.size A n c L) (hr : RB w B m d M) (hdis : 0 < m → blk B ≠ blk A) (hn : n ≤ 70368744177664) (hm : m < 65536) (hN : n + (2 + m) = N) (hX : L ++ (be2 m ++ M) = X) :
    Calls Try.prog 86 #[.slice A n c, .slice B m d] w fun e w' => ∃ A' c', e = .returned (.slice A' N c') ∧ OB w' w0.heap.size A' N c' X ∧ Ext w0 w' := by
  subst hN
  subst hX
  exact r1bytes_any w0 w A n c L B m d M hE0 own hr hdis hn hm
end Go.Proofs.Ytmgnigofilkfmab
namespace Go.Proofs.Ytmgnigofilkfmab
set_option maxRecDepth 100000
open Go Go.RowKit
theorem run_conv_bytes (w : World) (s : List UInt8) (hs : s.length ≤ 1000000) : ∃ c w', (convert 9 22 (.string (str s))).run Try.prog w = .ok (.slice (some ⟨w.heap.size, 0, none⟩) s.length c) w' ∧ RB w' (some ⟨w.heap.size, 0, none⟩) s.length c s ∧ Ext w w' ∧ w'.heap.size = w.heap.size + 1 := by
  have h := Lib.run_convert_string_bytes (P := Try.prog) w 9 22 5 (str s) Try.underlying9 Try.underlying22 Try.underlying5
  have hz : (str s).size = s.length := str_size s
  rw [hz] at h
  refine ⟨_, _, h, ⟨rfl, grownCap_ge _ _ _ _, grownCap_le_maxLen _ _ _ _ (small_maxLen hs), fun hn => ⟨_, rfl, fun j hj => ?_⟩⟩, ⟨rfl, rfl, rfl, by rw [Lib.bytesWorld_size]; omega, fun k hk => Lib.bytesWorld_at_old w _ _ k hk⟩, Lib.bytesWorld_size _ _ _⟩
  rw [add_plain, Lib.bytesWorld_cell w _ _ j (by rw [hz]; exact hj)]
  rfl
theorem cb_law {ops : Array Oper} {rest : List Oper} {o : Oper} {a : Act} {Q : Exit → Act → World → Prop} {w : World} (hgd : o.guard = none) {x : Operand} (ho : o.op = .convert 9 22 x) {s : List UInt8} (hx : a.eval x = .string (str s)) (hs : s.length ≤ 1000000)
    (h : ∀ c w', RB w' (some ⟨w.heap.size, 0, none⟩) s.length c s → Ext w w' → wpList Try.prog ops Q rest (a.put o.dst (.slice (some ⟨w.heap.size, 0, none⟩) s.length c)) w') : wpList Try.prog ops Q (o :: rest) a w := by
  obtain ⟨c, w', hr, h1, h2, _⟩ := run_conv_bytes w s hs
  refine wpList_plain hgd fun K hK => ?_
  unfold Oper.wp execOp
  simp only [ho, hx, Sem.run_bind, hr, Result.andThen_ok, Sem.run_pure]
  exact hK _ _ (h c w' h1 h2)
theorem Blk.chg {w w' : World} {g : Nat} {t : TypeId} {cs : Array Value} {p : Nat} {A : Option Addr} (h : Blk w g t cs) (k : Chg w w' p A) (h1 : g ≠ p) (h2 : blk A ≠ some g) : Blk w' g t cs := (k.block g h.lt h1 h2).trans h
theorem right_small {m : Man} (h : rightM m = true) : m.name.length ≤ 20 ∧ m.fw.length = 32 ∧ m.notes.length ≤ 64 := by
  simp only [rightM, nameOK, Bool.and_eq_true, decide_eq_true_eq] at h
  omega
set_option maxHeartbeats 2000000 in
theorem menc_no (m : Man) (F N : Option Addr) (nf cf nn cn : Nat) (w : World) (hs : m.name.length ≤ 9223372036854775807) (hf : m.fw.length = nf) (hn : m.notes.length = nn) (hno : rightM m = false) :
    Calls Try.prog 22 #[manV m F nf cf N nn cn] w fun e w' => e = .returned (.tuple #[.slice none 0 0, .int .i64 12]) ∧ Ext w w' := by
  unfold manV
  go_enter Try.func22, Try.ntmps22
  go_wp2_with fail
  refine (right_any m F N nf cf nn cn _ hs hf hn).mono ?_
  rintro e w1 ⟨rfl, hE⟩
  rw [hno]
  go_wp2_with fail
  go_ret2
  exact ⟨rfl, (Ext.new w _).trans hE⟩
set_option maxHeartbeats 2000000 in
theorem menc_yes (m : Man) (F N : Option Addr) (nf cf nn cn : Nat) (w : World) (hF : RB w F nf cf m.fw) (hN : RB w N nn cn m.notes) (hyes : rightM m = true) :
    Calls Try.prog 22 #[manV m F nf cf N nn cn] w fun e w' => ∃ B k d, e = .returned (.tuple #[.slice B k d, .int .i64 0]) ∧ OB w' w.heap.size B k d (encM m) ∧ Ext w w' := by
  obtain ⟨hs, hf32, hn64⟩ := right_small hyes
  have hnf := hF.len
  have hnn := hN.len
  have Hnf := Lib.hid hnf
  have Hnn := Lib.hid hnn
  have Hf32 := Lib.hid hf32
  have hnn64 : nn ≤ 64 := by omega
  have hnf32 : nf ≤ 32 := by omega
  clear hnf hnn hf32
  unfold manV
  go_enter Try.func22, Try.ntmps22
  go_wp2_with fail
  refine (right_any m F N nf cf nn cn _ (by omega) Hnf.out Hnn.out).mono ?_
  rintro e w1 ⟨rfl, hE1⟩
  rw [hyes]
  have hB : Blk w1 w.heap.size 27 #[.string (str m.name), .int .u32 (u32i m.ver), .slice F nf cf, .slice N nn cn] := (Blk.new w _ _).ext hE1
  have hE := (Ext.new w (.cells #[.string (str m.name), .int .u32 (u32i m.ver), .slice F nf cf, .slice N nn cn] 27)).trans hE1
  clear hE1
  go_wp2_with fail
  refine (wnew_any w1).mono ?_
  rintro e w2 ⟨p, rfl, hW2, hE2⟩
  have hB2 := hB.ext hE2
  have hgp : w.heap.size < w1.heap.size := hB.lt
  have hE02 := hE.trans hE2
  go_wp2_with fail
  refine (wbyte_any w1 w2 p 0 0 none [] 77 hE2 hW2 (by omega)).mono ?_
  rintro e w3 ⟨rfl, A3, c3, hW3, hC3, hL3⟩
  have hE3 := hW2.chg_ext hE2 hC3
  have y0 := (hB.ext hE3).cell (i := 0) rfl
  go_wp2_with (refine cb_law rfl rfl rfl (by omega) ?_; intro c4 w4 rb4 hE4)
  refine (wbytes_any w1 w4 p _ _ _ _ _ _ _ m.name (hE3.trans hE4) ⟨hW3.blk.ext hE4, hW3.own.ext hE4, hW3.ne, hW3.base⟩ rb4 ?_ (by omega) (by omega)).mono ?_
  · intro _ k hk
    obtain rfl : w3.heap.size = k := by simpa [blk] using hk
    refine ⟨?_, ?_⟩
    · have := hW3.blk.lt; omega
    · intro e; have := (hW3.own.lt e).2; omega
  rintro e w5 ⟨rfl, A5, c5, hW5, hC5, hL5⟩
  have hW4 : Wtr w4 w1.heap.size p A3 (0 + 1) c3 ([] ++ [77]) := ⟨hW3.blk.ext hE4, hW3.own.ext hE4, hW3.ne, hW3.base⟩
  have hE5 := hW4.chg_ext (hE3.trans hE4) hC5
  have y1 := (hB.ext hE5).cell (i := 1) rfl
  clear y0 rb4
  go_wp2_with fail
  refine (wnum_any w1 w5 p _ _ _ _ m.ver hE5 hW5 (by omega)).mono ?_
  rintro e w6 ⟨rfl, A6, c6, hW6, hC6, hL6⟩
  have hE6 := hW5.chg_ext hE5 hC6
  have y2 := (hB.ext hE6).cell (i := 2) rfl
  clear y1
  go_wp2_with fail
  refine (wraw_any w1 w6 p _ _ _ _ _ _ _ m.fw hE6 hW6 (hF.ext (hE.trans hE6)) (by omega)).mono ?_
  rintro e w7 ⟨rfl, A7, c7, hW7, hC7, hL7⟩
  have hE7 := hW6.chg_ext hE6 hC7
  have y3 := (hB.ext hE7).cell (i := 3) rfl
  clear y2
  go_wp2_with fail
  refine (wbytes_any w1 w7 p _ _ _ _ _ _ _ m.notes hE7 hW7 (hN.ext (hE.trans hE7)) (hW7.away (hN.ext hE)) (by omega) (by omega)).mono ?_
  rintro e w8 ⟨rfl, A8, c8, hW8, hC8, hL8⟩
  have hE8 := hW7.chg_ext hE7 hC8
  clear y3
  go_wp2_with fail
  refine (wdone_any w8 w1.heap.size p _ _ _ _ hW8 (by omega)).mono ?_
  rintro e w9 ⟨B, d, rfl, own9, hE9⟩
  go_wp2_with fail
  go_ret2
  refine ⟨_, _, _, rfl, ?_, (hE.trans hE8).trans hE9⟩
  have h1 := own9.base (hE.trans hE8).size
  rw [← Hnn.out] at h1
  simpa [encM, List.append_assoc, Hnn.out] using h1
end Go.Proofs.Ytmgnigofilkfmab
namespace Go.Proofs.Ytmgnigofilkfmab
set_option maxRecDepth 100000
open Go Go.RowKit
def MP.man (q : Nat) (m : Man) : MP Ext := ⟨fun u w => ∃ F nf cf N nn cn, u = manV m F nf cf N nn cn ∧ RB w F nf cf m.fw ∧ RB w N nn cn m.notes ∧ (0 < nf → blk F ≠ some q) ∧ (0 < nn → blk N ≠ some q),
  fun _ _ _ e ⟨F, nf, cf, N, nn, cn, h1, h2, h3, h4, h5⟩ => ⟨F, nf, cf, N, nn, cn, h1, h2.ext e, h3.ext e, h4, h5⟩⟩
theorem staysq_man (q : Nat) (m : Man) : StaysQ q (MP.man q m) := by
  rintro u w w' g ⟨F, nf, cf, N, nn, cn, h1, h2, h3, h4, h5⟩
  exact ⟨F, nf, cf, N, nn, cn, h1, h2.grown g h4, h3.grown g h5, h4, h5⟩
theorem RB.apart {w : World} {A : Option Addr} {n c : Nat} {L : List UInt8} (h : RB w A n c L) {g : Nat} {t : TypeId} {cs : Array Value} (hb : Blk w g t cs) (hno : ∀ (i : Nat) (x : Int), cs[i]? ≠ some (.int .u8 x)) : 0 < n → blk A ≠ some g := by
  intro hn e
  obtain ⟨ad, rfl, hc⟩ := h.cells hn
  have h1 := hc 0 hn
  have h2 : ad.block = g := by simpa [blk] using e
  unfold World.cell? at h1
  have h3 : (ad.add 0).block = ad.block := rfl
  rw [h3, h2, show w.heap[g]? = _ from hb] at h1
  by_cases hs : (ad.add 0).spot.isSome = true
  · simp [hs] at h1
  · simp only [hs] at h1
    exact hno _ _ h1
theorem man_no (s : ByteArray) (x : Int) (F : Option Addr) (nf cf : Nat) (N : Option Addr) (nn cn : Nat) (i : Nat) (y : Int) : (#[.string s, .int .u32 x, .slice F nf cf, .slice N nn cn] : Array Value)[i]? ≠ some (.int .u8 y) := by
  rcases i with _ | _ | _ | _ | i <;> simp
theorem set4 {w : World} {g : Nat} {t : TypeId} {a0 a1 a2 a3 : Value} (h : Blk w g t #[a0, a1, a2, a3]) (b0 b1 b2 b3 : Value) :
    Blk ((((w.setCell ⟨g, 0, none⟩ b0).setCell ⟨g, 1, none⟩ b1).setCell ⟨g, 2, none⟩ b2).setCell ⟨g, 3, none⟩ b3) g t #[b0, b1, b2, b3] ∧ w.grownBy ((((w.setCell ⟨g, 0, none⟩ b0).setCell ⟨g, 1, none⟩ b1).setCell ⟨g, 2, none⟩ b2).setCell ⟨g, 3, none⟩ b3) (some g) :=
  ⟨(((h.set 0 b0).set 1 b1).set 2 b2).set 3 b3, (((grownBy_setCell w ⟨g, 0, none⟩ _).trans (grownBy_setCell _ ⟨g, 1, none⟩ _)).trans (grownBy_setCell _ ⟨g, 2, none⟩ _)).trans (grownBy_setCell _ ⟨g, 3, none⟩ _)⟩
theorem results_ct {P : Program} {fn : Func} {p u : Tmp} {ty : TypeId} (h : fn.results = #[.cell p ty, .tmp u]) (tmps : Array Value) (w : World) (g : Nat) (t : TypeId) (cs : Array Value) (d : TypeDesc)
    (hp : tmps.getD p undef = .pointer (some ⟨g, 0, none⟩)) (hg : Blk w g t cs) (hu : P.underlying ty = some d) (hd : (match d with | .struct _ | .array _ _ => true | _ => false) = true) (hi : (P.info? ty).map (·.size) = some cs.size) :
    (results fn tmps).run P w = .ok (.tuple #[.agg cs, tmps.getD u undef]) w := by
  have hp' : tmps[p]?.getD undef = .pointer (some ⟨g, 0, none⟩) := by simpa using hp
  simp [results, h, hp', asAddr, run_loadVar_row w g t ty cs (0, 0) d hg hu hd hi]
def decT (t1 t2 t3 t4 t5 : List UInt8 × Bool) : Nat → List UInt8 × Bool
  | 0 => t1
  | 1 => t2
  | 2 => t3
  | 3 => t4
  | _ => t5
def decS (b q : Nat) (T : Nat → List UInt8 × Bool) (k : Nat) (w : World) : Prop := RdrS w b q (T k).1 (T k).2
set_option maxHeartbeats 4000000 in
theorem mdec_any (A : Option Addr) (n c : Nat) (b : List UInt8) (w : World) (hr : RB w A n c b) (hn : n ≤ 140737488355328) :
    Calls Try.prog 17 #[.slice A n c] w fun e w' =>
      (decOK b = true → ∃ F nf cf N nn cn, e = .returned (.tuple #[manV (readM b).man F nf cf N nn cn, .int .i64 0]) ∧ RB w' F nf cf (readM b).man.fw ∧ RB w' N nn cn (readM b).man.notes) ∧
      (decOK b = false → e = .returned (.tuple #[.agg #[.string ⟨#[]⟩, .int .u32 0, .slice none 0 0, .slice none 0 0], .int .i64 12])) ∧ Ext w w' := by
  go_enter Try.func17, Try.ntmps17
  go_wp2_with fail
  obtain ⟨wI, hwI⟩ : ∃ wI, wI = w.alloc (.cells #[.string ⟨#[]⟩, .int .u32 0, .slice none 0 0, .slice none 0 0] 27) := ⟨_, rfl⟩
  have hB0 : Blk wI w.heap.size 27 #[.string ⟨#[]⟩, .int .u32 0, .slice none 0 0, .slice none 0 0] := by rw [hwI]; exact Blk.new w _ _
  have hEw : Ext w wI := by rw [hwI]; exact Ext.new w _
  rw [← hwI]
  clear hwI
  refine (rread_any A n c b wI (hr.ext hEw) hn).mono ?_
  rintro e w1 ⟨q, rfl, hR1, hE1⟩
  have hqI : wI.heap.size ≤ q := by obtain ⟨_, _, _, _, h⟩ := hR1; exact h.base
  go_wp2_with fail
  obtain ⟨t1, ht1⟩ : ∃ t1, t1 = rtake b false 1 := ⟨_, rfl⟩
  obtain ⟨t2, ht2⟩ : ∃ t2, t2 = rbytes t1.2.1 t1.2.2 20 := ⟨_, rfl⟩
  obtain ⟨t3, ht3⟩ : ∃ t3, t3 = rtake t2.2.1 t2.2.2 4 := ⟨_, rfl⟩
  obtain ⟨t4, ht4⟩ : ∃ t4, t4 = rtake t3.2.1 t3.2.2 32 := ⟨_, rfl⟩
  obtain ⟨t5, ht5⟩ : ∃ t5, t5 = rbytes t4.2.1 t4.2.2 64 := ⟨_, rfl⟩
  have hread : readM b = { first := (beNum t1.1).toUInt8, man := ⟨t2.1, beNum t3.1, t4.1, t5.1⟩, left := t5.2.1, bad := t5.2.2 } := by rw [ht5, ht4, ht3, ht2, ht1]; rfl
  have Hread := Lib.hid hread
  clear hread
  refine (rbyte_any w1 wI.heap.size q b false hR1).mono ?_
  rintro e w0 ⟨rfl, hR0, hG0⟩
  rw [← ht1] at hR0 ⊢
  have hEI : Ext wI w0 := hE1.then_grown hG0 (by intro k hk; cases hk; exact hqI)
  have hq0 : q < w0.heap.size := by obtain ⟨_, _, _, _, h⟩ := hR0; exact h.blk.lt
  have Ht2 := Lib.hid ht2
  have Ht3 := Lib.hid ht3
  have Ht4 := Lib.hid ht4
  have Ht5 := Lib.hid ht5
  clear ht1 ht2 ht3 ht4 ht5 hR1 hG0
  go_upto_region 3 with (fail)
  have hS0 : decS wI.heap.size q (decT t1.2 t2.2 t3.2 t4.2 t5.2) 0 w0.drew := RdrS.later hR0 (Ext.refl w0).drew
  have hSx : ∀ k w w', Ext w w' → decS wI.heap.size q (decT t1.2 t2.2 t3.2 t4.2 t5.2) k w → decS wI.heap.size q (decT t1.2 t2.2 t3.2 t4.2 t5.2) k w' := fun k w w' e h => RdrS.later h e
  have hStay : StaysQL q [.is (.pointer (some ⟨q, 0, none⟩)), .rbn (q) (t2.1), .is (.string (str (t2.1))), .is (.pointer (some ⟨q, 0, none⟩)), .is (.int .u32 (u32i (beNum t3.1))), .is (.pointer (some ⟨q, 0, none⟩)), .rbn (q) (t4.1), .is (.pointer (some ⟨q, 0, none⟩)), .rbn (q) (t5.1), .man q ⟨t2.1, beNum t3.1, t4.1, t5.1⟩, .blkn q 27 #[.string ⟨#[]⟩, .int .u32 0, .slice none 0 0, .slice none 0 0] w0.heap.size] := ⟨staysq_is _ _, staysq_rbn _ _, staysq_is _ _, staysq_is _ _, staysq_is _ _, staysq_is _ _, staysq_rbn _ _, staysq_is _ _, staysq_rbn _ _, staysq_man _ _, staysq_blkn _ _ _ _, trivial⟩
  refine par_chain (n := 11) (q := q) [1, 4, 6, 8] (decS wI.heap.size q (decT t1.2 t2.2 t3.2 t4.2 t5.2)) hEI hS0 (by kernel_rfl) [.is (.pointer (some ⟨q, 0, none⟩)), .rbn (q) (t2.1), .is (.string (str (t2.1))), .is (.pointer (some ⟨q, 0, none⟩)), .is (.int .u32 (u32i (beNum t3.1))), .is (.pointer (some ⟨q, 0, none⟩)), .rbn (q) (t4.1), .is (.pointer (some ⟨q, 0, none⟩)), .rbn (q) (t5.1), .man q ⟨t2.1, beNum t3.1, t4.1, t5.1⟩, .blkn q 27 #[.string ⟨#[]⟩, .int .u32 0, .slice none 0 0, .slice none 0 0] w0.heap.size] rfl rfl ⟨?_, ?_, ?_, ?_, ?_, ?_, ?_, ?_, ?_, ?_, ?_, trivial⟩ ?_
  · refine stepEC rfl rfl hSx fun sdn sa sw sG sE sd sk => ?_
    have h4 : sa.eval (.tmp 4) = .pointer (some ⟨q, 0, none⟩) := sk.old 4 rfl
    exact Runs.move rfl h4 ⟨Ext.refl _, rfl⟩
  · refine stepCC (j := 0) rfl rfl (by decide) (.inl rfl) hStay hqI fun sdn sa sw sG sE sS sd sk => ?_
    have h11 : sa.eval (.tmp 11) = .pointer (some ⟨q, 0, none⟩) := sk.fact 0 11 rfl (sd 0 rfl)
    have hcon := rbytes_any sw wI.heap.size q t1.2.1 t1.2.2 20 sS (by omega) (by omega)
    rw [← Ht2.out] at hcon
    refine Runs.call (f := 49) (vs := [.pointer (some ⟨q, 0, none⟩), .int .i64 (20 : Int)]) rfl rfl rfl (by simp only [List.map_toArray, List.map_cons, List.map_nil, h11] <;> rfl) (ent49 _ _) (hcon.mono ?_); rintro e w' ⟨⟨B, m, d, rfl, own⟩, h3, h4⟩; exact ⟨_, rfl, h4, h3, B, m, d, rfl, own.rb, fun hm e => by have := (own.lt e).1; have := sG.size; omega⟩
  · refine stepEC rfl rfl hSx fun sdn sa sw sG sE sd sk => ?_
    obtain ⟨A12, n12, c12, h12, r12, q12⟩ := sk.fact 1 12 rfl (sd 1 rfl)
    exact Runs.conv rfl h12 (run_str r12) ⟨Ext.refl _, rfl⟩
  · refine stepEC rfl rfl hSx fun sdn sa sw sG sE sd sk => ?_
    have h4 : sa.eval (.tmp 4) = .pointer (some ⟨q, 0, none⟩) := sk.old 4 rfl
    exact Runs.move rfl h4 ⟨Ext.refl _, rfl⟩
  · refine stepCC (j := 1) rfl rfl (by decide) (.inr ⟨1, rfl, rfl⟩) hStay hqI fun sdn sa sw sG sE sS sd sk => ?_
    have h14 : sa.eval (.tmp 14) = .pointer (some ⟨q, 0, none⟩) := sk.fact 3 14 rfl (sd 3 rfl)
    have hcon := rnum_any sw wI.heap.size q t2.2.1 t2.2.2 sS
    rw [← Ht3.out] at hcon
    refine Runs.call (f := 50) (vs := [.pointer (some ⟨q, 0, none⟩)]) rfl rfl rfl (by simp only [List.map_toArray, List.map_cons, List.map_nil, h14] <;> rfl) (ent50 _ _) (hcon.mono ?_); rintro e w' ⟨rfl, h3, h4⟩; exact ⟨_, rfl, h4, h3, rfl⟩
  · refine stepEC rfl rfl hSx fun sdn sa sw sG sE sd sk => ?_
    have h4 : sa.eval (.tmp 4) = .pointer (some ⟨q, 0, none⟩) := sk.old 4 rfl
    exact Runs.move rfl h4 ⟨Ext.refl _, rfl⟩
  · refine stepCC (j := 2) rfl rfl (by decide) (.inr ⟨4, rfl, rfl⟩) hStay hqI fun sdn sa sw sG sE sS sd sk => ?_
    have h16 : sa.eval (.tmp 16) = .pointer (some ⟨q, 0, none⟩) := sk.fact 5 16 rfl (sd 5 rfl)
    have hcon := rraw_any sw wI.heap.size q t3.2.1 t3.2.2 32 sS (by omega) (by omega)
    rw [← Ht4.out] at hcon
    refine Runs.call (f := 51) (vs := [.pointer (some ⟨q, 0, none⟩), .int .i64 (32 : Int)]) rfl rfl rfl (by simp only [List.map_toArray, List.map_cons, List.map_nil, h16] <;> rfl) (ent51 _ _) (hcon.mono ?_); rintro e w' ⟨⟨B, m, d, rfl, own⟩, h3, h4⟩; exact ⟨_, rfl, h4, h3, B, m, d, rfl, own.rb, fun hm e => by have := (own.lt e).1; have := sG.size; omega⟩
  · refine stepEC rfl rfl hSx fun sdn sa sw sG sE sd sk => ?_
    have h4 : sa.eval (.tmp 4) = .pointer (some ⟨q, 0, none⟩) := sk.old 4 rfl
    exact Runs.move rfl h4 ⟨Ext.refl _, rfl⟩
  · refine stepCC (j := 3) rfl rfl (by decide) (.inr ⟨6, rfl, rfl⟩) hStay hqI fun sdn sa sw sG sE sS sd sk => ?_
    have h18 : sa.eval (.tmp 18) = .pointer (some ⟨q, 0, none⟩) := sk.fact 7 18 rfl (sd 7 rfl)
    have hcon := rbytes_any sw wI.heap.size q t4.2.1 t4.2.2 64 sS (by omega) (by omega)
    rw [← Ht5.out] at hcon
    refine Runs.call (f := 49) (vs := [.pointer (some ⟨q, 0, none⟩), .int .i64 (64 : Int)]) rfl rfl rfl (by simp only [List.map_toArray, List.map_cons, List.map_nil, h18] <;> rfl) (ent49 _ _) (hcon.mono ?_); rintro e w' ⟨⟨B, m, d, rfl, own⟩, h3, h4⟩; exact ⟨_, rfl, h4, h3, B, m, d, rfl, own.rb, fun hm e => by have := (own.lt e).1; have := sG.size; omega⟩
  · refine stepEC rfl rfl hSx fun sdn sa sw sG sE sd sk => ?_
    have h13 : sa.eval (.tmp 13) = .string (str (t2.1)) := sk.fact 2 13 rfl (sd 2 rfl)
    have h15 : sa.eval (.tmp 15) = .int .u32 (u32i (beNum t3.1)) := sk.fact 4 15 rfl (sd 4 rfl)
    obtain ⟨A17, n17, c17, h17, r17, q17⟩ := sk.fact 6 17 rfl (sd 6 rfl)
    obtain ⟨A19, n19, c19, h19, r19, q19⟩ := sk.fact 8 19 rfl (sd 8 rfl)
    refine Runs.of_run (r := manV ⟨t2.1, beNum t3.1, t4.1, t5.1⟩ A17 n17 c17 A19 n19 c19) (w' := sw) ?_ ⟨Ext.refl _, _, _, _, _, _, _, rfl, r17, r19, q17, q19⟩
    unfold execOp manV
    simp only [List.map_toArray, List.map_cons, List.map_nil, h13, h15, h17, h19]
    go_simp
  · refine stepEC rfl rfl hSx fun sdn sa sw sG sE sd sk => ?_
    refine Runs.of_run (r := .pointer (some ⟨sw.heap.size, 0, none⟩)) (w' := sw.alloc (.cells #[.string ⟨#[]⟩, .int .u32 0, .slice none 0 0, .slice none 0 0] 27)) ?_ ⟨Ext.new _ _, _, rfl, Blk.new _ _ _, (by have := sG.size; omega), (by have := sG.size; omega)⟩
    unfold execOp
    go_simp
  intro vals W1 hG hE hS hv
  have e0 : vals 0 = .pointer (some ⟨q, 0, none⟩) := hv 0 (by omega) 11 rfl
  obtain ⟨A12, n12, c12, e1, r12, q12⟩ := hv 1 (by omega) 12 rfl
  have e2 : vals 2 = .string (str (t2.1)) := hv 2 (by omega) 13 rfl
  have e3 : vals 3 = .pointer (some ⟨q, 0, none⟩) := hv 3 (by omega) 14 rfl
  have e4 : vals 4 = .int .u32 (u32i (beNum t3.1)) := hv 4 (by omega) 15 rfl
  have e5 : vals 5 = .pointer (some ⟨q, 0, none⟩) := hv 5 (by omega) 16 rfl
  obtain ⟨A17, n17, c17, e6, r17, q17⟩ := hv 6 (by omega) 17 rfl
  have e7 : vals 7 = .pointer (some ⟨q, 0, none⟩) := hv 7 (by omega) 18 rfl
  obtain ⟨A19, n19, c19, e8, r19, q19⟩ := hv 8 (by omega) 19 rfl
  obtain ⟨F20, f20, g20, N20, n20, k20, e9, r20, u20, x20, y20⟩ := hv 9 (by omega) 20 rfl
  obtain ⟨b6, e10, r6, q6, x6⟩ := hv 10 (by omega) 6 rfl
  simp only [putAll, Act.put, List.take_succ_cons, List.take_zero, List.drop_succ_cons, List.drop_zero, List.drop_nil, List.take_nil, Nat.reduceAdd, List.setIfInBounds_toArray, List.set_cons_succ, List.set_cons_zero, e0, e1, e2, e3, e4, e5, e6, e7, e8, e9, e10]
  clear hv e0 e1 e2 e3 e4 e5 e6 e7 e8 e9 e10
  have hS' : RdrS W1 wI.heap.size q t5.2.1 t5.2.2 := hS
  have hEw1 : Ext w W1 := hEw.trans hE
  have hb2 := hB0.ext hE
  have z0 := r6.frozen 0
  have z1 := r6.frozen 1
  have z2 := r6.frozen 2
  have z3 := r6.frozen 3
  have y0 := r6.cell (i := 0) rfl
  have y1 := r6.cell (i := 1) rfl
  have y2 := r6.cell (i := 2) rfl
  have y3 := r6.cell (i := 3) rfl
  have y4 := hb2.cell (i := 0) rfl
  have y5 := hb2.cell (i := 1) rfl
  have y6 := hb2.cell (i := 2) rfl
  have y7 := hb2.cell (i := 3) rfl
  have z4 := hb2.frozen 0
  have z5 := hb2.frozen 1
  have z6 := hb2.frozen 2
  have z7 := hb2.frozen 3
  have hwI : w.heap.size < wI.heap.size := hB0.lt
  have hne : b6 ≠ w.heap.size := by have := hEI.size; omega
  clear hS hStay hS0 hSx hR0
  by_cases hf : (beNum t1.1).toUInt8 = 77
  · have d1 : (u8i ((beNum t1.1).toUInt8) != 77) = false := by rw [hf]; rfl
    have Hf := Lib.hid hf
    clear hf
    unfold manV
    go_wp2_with fail
    obtain ⟨s1, s2⟩ := set4 r6 (.string (str t2.1)) (.int .u32 (u32i (beNum t3.1))) (.slice F20 f20 g20) (.slice N20 n20 k20)
    generalize World.setCell _ _ _ = W2 at s1 s2 ⊢
    obtain ⟨A9, n9, c9, hn9, hR9⟩ := hS'
    have hbq := hR9.blk.grown s2 (by intro e; cases e; exact q6 rfl)
    have hl9 := hR9.rb.len
    have hF2 := r20.grown s2 (r20.apart r6 (man_no _ _ _ _ _ _ _ _))
    have hN2 := u20.grown s2 (u20.apart r6 (man_no _ _ _ _ _ _ _ _))
    have hnm : t2.1.length ≤ 9223372036854775807 := by have h1 := r12.len; have h2 := r12.room; have h3 := r12.cap; unfold maxLen at h3; omega
    have hEw2 : Ext w W2 := hEw1.then_grown s2 (by intro k hk; cases hk; omega)
    have hb3 := hb2.grown s2 (by intro e; cases e; exact hne rfl)
    clear hR9 hb2 r12 r17 r19 q17 q19 q12 x20 y20 y0 y1 y2 y3 y4 y5 y6 y7 z0 z1 z2 z3 z4 z5 z6 z7 s2 r6 x6 hG hE hEI hq0 hE1 hEw hB0 hEw1
    have y0 := s1.cell (i := 0) rfl
    have y1 := s1.cell (i := 1) rfl
    have y2 := s1.cell (i := 2) rfl
    have y3 := s1.cell (i := 3) rfl
    refine (rend_blk W2 q A9 n9 c9 _ _ hbq hl9 hn9).mono ?_
    rintro e w' ⟨rfl, rfl⟩
    cases hx : (!t5.2.2 && t5.2.1.isEmpty) with
    | false =>
      have y4 := hb3.cell (i := 0) rfl
      have y5 := hb3.cell (i := 1) rfl
      have y6 := hb3.cell (i := 2) rfl
      have y7 := hb3.cell (i := 3) rfl
      have z4 := hb3.frozen 0
      have z5 := hb3.frozen 1
      have z6 := hb3.frozen 2
      have z7 := hb3.frozen 3
      go_wp2_with fail
      have hno : decOK b = false := by unfold decOK; rw [Hread.out]; simp only [hx]; simp
      obtain ⟨s3, s4⟩ := set4 hb3 (.string ⟨#[]⟩) (.int .u32 0) (.slice none 0 0) (.slice none 0 0)
      refine bodyPost_ret (results_ct rfl _ _ w.heap.size _ _ _ rfl s3 Try.underlying27 rfl rfl) rfl ?_
      exact ⟨fun h => by rw [hno] at h; exact absurd h (by simp), fun _ => rfl, hEw2.then_grown s4 (by intro k hk; cases hk; exact Nat.le_refl _)⟩
    | true =>
      go_wp2_with fail
      refine (right_any ⟨t2.1, beNum t3.1, t4.1, t5.1⟩ F20 N20 f20 g20 n20 k20 W2 hnm hF2.len hN2.len).mono ?_
      rintro e w3 ⟨rfl, hE3⟩
      have hb4 := hb3.ext hE3
      have s5 := s1.ext hE3
      have y0 := s5.cell (i := 0) rfl
      have y1 := s5.cell (i := 1) rfl
      have y2 := s5.cell (i := 2) rfl
      have y3 := s5.cell (i := 3) rfl
      have y4 := hb4.cell (i := 0) rfl
      have y5 := hb4.cell (i := 1) rfl
      have y6 := hb4.cell (i := 2) rfl
      have y7 := hb4.cell (i := 3) rfl
      have z4 := hb4.frozen 0
      have z5 := hb4.frozen 1
      have z6 := hb4.frozen 2
      have z7 := hb4.frozen 3
      cases hr : rightM ⟨t2.1, beNum t3.1, t4.1, t5.1⟩ with
      | false =>
        go_wp2_with fail
        have hno : decOK b = false := by unfold decOK; rw [Hread.out]; simp only [hr]; simp
        obtain ⟨s3, s4⟩ := set4 hb4 (.string ⟨#[]⟩) (.int .u32 0) (.slice none 0 0) (.slice none 0 0)
        refine bodyPost_ret (results_ct rfl _ _ w.heap.size _ _ _ rfl s3 Try.underlying27 rfl rfl) rfl ?_
        exact ⟨fun h => by rw [hno] at h; exact absurd h (by simp), fun _ => rfl, (hEw2.trans hE3).then_grown s4 (by intro k hk; cases hk; exact Nat.le_refl _)⟩
      | true =>
        go_wp2_with fail
        have hok : decOK b = true := by unfold decOK; rw [Hread.out]; simp only [hr, hx, Hf.out]; rfl
        obtain ⟨s3, s4⟩ := set4 hb4 (.string (str t2.1)) (.int .u32 (u32i (beNum t3.1))) (.slice F20 f20 g20) (.slice N20 n20 k20)
        have hF4 := (hF2.ext hE3).grown s4 ((hF2.ext hE3).apart hb4 (man_no _ _ _ _ _ _ _ _))
        have hN4 := (hN2.ext hE3).grown s4 ((hN2.ext hE3).apart hb4 (man_no _ _ _ _ _ _ _ _))
        refine bodyPost_ret (results_ct rfl _ _ w.heap.size _ _ _ rfl s3 Try.underlying27 rfl rfl) rfl ?_
        refine ⟨fun _ => ⟨F20, f20, g20, N20, n20, k20, ?_, ?_, ?_⟩, fun h => by rw [hok] at h; exact absurd h (by simp), (hEw2.trans hE3).then_grown s4 (by intro k hk; cases hk; exact Nat.le_refl _)⟩
        · rw [Hread.out]; rfl
        · rw [Hread.out]; exact hF4
        · rw [Hread.out]; exact hN4
  · have d1 : (u8i ((beNum t1.1).toUInt8) != 77) = true := by rw [bne_iff_ne]; intro h; exact hf (u8i_inj h)
    have Hf := Lib.hid hf
    clear hf
    unfold manV
    go_wp2_with fail
    have hno : decOK b = false := by unfold decOK; rw [Hread.out]; simp [Hf.out]
    obtain ⟨s1, s2⟩ := set4 r6 (.string (str t2.1)) (.int .u32 (u32i (beNum t3.1))) (.slice F20 f20 g20) (.slice N20 n20 k20)
    obtain ⟨s3, s4⟩ := set4 (hb2.grown s2 (by intro e; cases e; exact hne rfl)) (.string ⟨#[]⟩) (.int .u32 0) (.slice none 0 0) (.slice none 0 0)
    refine bodyPost_ret (results_ct rfl _ _ w.heap.size _ _ _ rfl s3 Try.underlying27 rfl rfl) rfl ?_
    exact ⟨fun h => by rw [hno] at h; exact absurd h (by simp), fun _ => rfl, (hEw1.then_grown s2 (by intro k hk; cases hk; omega)).then_grown s4 (by intro k hk; cases hk; exact Nat.le_refl _)⟩
end Go.Proofs.Ytmgnigofilkfmab
namespace Go.Proofs.Ytmgnigofilkfmab
set_option maxRecDepth 100000
open Go Go.RowKit
/-- a full byte slice that reads as L -/
def MP.full (L : List UInt8) : MP Ext := ⟨fun u w => ∃ A, u = .slice (some A) 1 1 ∧ RB w (some A) 1 1 L, fun _ _ _ e ⟨A, h1, h2⟩ => ⟨A, h1, h2.ext e⟩⟩
theorem Runs.conv1 {P : Program} {o : Oper} {ρ : Operand → Value} {w w' : World} {G : Value → World → Prop} {s t : TypeId} {x : Operand} {u r : Value} (ho : o.op = .convert s t x) (hx : ρ x = u) (hr : (convert s t u).run P w = .ok r w') (h : G r w') : Runs P o ρ w G := by
  refine Runs.of_run (r := r) (w' := w') ?_ h
  unfold execOp
  simp only [ho, hx, Sem.run_bind, hr, Result.andThen_ok, Sem.run_pure]
set_option maxHeartbeats 2000000 in
theorem renc_any (m : Man) (F N : Option Addr) (nf cf nn cn : Nat) (w : World) (hF : RB w F nf cf m.fw) (hN : RB w N nn cn m.notes) (hs : m.name.length ≤ 60000) (hnf : nf ≤ 60000) (hnn : nn ≤ 60000) :
    Calls Try.prog 46 #[manV m F nf cf N nn cn] w fun e w' => ∃ A' k c', e = .returned (.slice A' k c') ∧ OB w' w.heap.size A' k c' (encM m) ∧ Ext w w' := by
  unfold manV
  go_enter Try.func46, Try.ntmps46
  go_upto_region 1 with (fail)
  obtain ⟨w0, hw0⟩ : ∃ w0, w0 = w.alloc (.cells #[.string (str m.name), .int .u32 (u32i m.ver), .slice F nf cf, .slice N nn cn] 27) := ⟨_, rfl⟩
  have hB : Blk w0 w.heap.size 27 #[.string (str m.name), .int .u32 (u32i m.ver), .slice F nf cf, .slice N nn cn] := by rw [hw0]; exact Blk.new w _ _
  have hE0 : Ext w w0 := by rw [hw0]; exact Ext.new w _
  rw [← hw0]
  clear hw0
  have hlt0 : w.heap.size < w0.heap.size := hB.lt
  refine par_ext (n := 7) (by kernel_rfl) [.full ([77]), .is (.pointer (some ⟨w.heap.size, 0, none⟩)), .is (.string (str (m.name))), .rb (m.name), .ob (w0.heap.size) ([77] ++ (be2 m.name.length ++ m.name)), .is (.pointer (some ⟨w.heap.size, 1, none⟩)), .is (.int .u32 (u32i (m.ver)))] rfl ⟨?_, ?_, ?_, ?_, ?_, ?_, ?_, trivial⟩ ?_
  · refine stepE rfl fun sdn sa sw sE sd sk => ?_
    exact Runs.lit1 rfl rfl (fun w1 e1 o1 => ⟨e1, _, rfl, o1.rb⟩)
  · refine stepE rfl fun sdn sa sw sE sd sk => ?_
    have h1 : sa.eval (.tmp 1) = .pointer (some ⟨w.heap.size, 0, none⟩) := sk.old 1 rfl
    refine Runs.of_run (r := .pointer (some ⟨w.heap.size, 0, none⟩)) (w' := sw) ?_ ⟨Ext.refl _, rfl⟩
    unfold execOp
    simp only [h1]
    go_simp
  · refine stepE rfl fun sdn sa sw sE sd sk => ?_
    have h5 : sa.eval (.tmp 5) = .pointer (some ⟨w.heap.size, 0, none⟩) := sk.fact 1 5 rfl (sd 1 rfl)
    exact Runs.load rfl h5 (run_load1 Try.underlying9 rfl ((hB.ext sE).cell (i := 0) rfl)) ⟨Ext.refl _, rfl⟩
  · refine stepE rfl fun sdn sa sw sE sd sk => ?_
    have h6 : sa.eval (.tmp 6) = .string (str (m.name)) := sk.fact 2 6 rfl (sd 2 rfl)
    obtain ⟨c9, w9, hr9, h91, h92, _⟩ := run_conv_bytes sw m.name (by omega); exact Runs.conv1 rfl h6 hr9 ⟨h92, _, _, _, rfl, h91⟩
  · refine stepE rfl fun sdn sa sw sE sd sk => ?_
    obtain ⟨A4, h4, r4⟩ := sk.fact 0 4 rfl (sd 0 rfl)
    obtain ⟨A7, n7, c7, h7, r7⟩ := sk.fact 3 7 rfl (sd 3 rfl)
    have hl7 := r7.len; refine Runs.call (f := 86) (vs := [.slice (some A4) 1 1, .slice A7 n7 c7]) rfl rfl rfl (by simp only [List.map_toArray, List.map_cons, List.map_nil, h4, h7] <;> rfl) (ent86 _ _) ((r1bytes_full sw A4 1 _ A7 n7 c7 m.name r4 r7 (by omega) (by omega)).mono ?_); rintro e w' ⟨A', c', rfl, o1, e1⟩; exact ⟨_, rfl, e1, _, _, _, rfl, by have := o1.base sE.size; rw [hl7]; exact this⟩
  · refine stepE rfl fun sdn sa sw sE sd sk => ?_
    have h1 : sa.eval (.tmp 1) = .pointer (some ⟨w.heap.size, 0, none⟩) := sk.old 1 rfl
    refine Runs.of_run (r := .pointer (some ⟨w.heap.size, 1, none⟩)) (w' := sw) ?_ ⟨Ext.refl _, rfl⟩
    unfold execOp
    simp only [h1]
    go_simp
  · refine stepE rfl fun sdn sa sw sE sd sk => ?_
    have h9 : sa.eval (.tmp 9) = .pointer (some ⟨w.heap.size, 1, none⟩) := sk.fact 5 9 rfl (sd 5 rfl)
    exact Runs.load rfl h9 (run_load1 Try.underlying25 rfl ((hB.ext sE).cell (i := 1) rfl)) ⟨Ext.refl _, rfl⟩
  intro vals W1 hE hv
  obtain ⟨A4, e0, r4⟩ := hv 0 (by omega) 4 rfl
  have e1 : vals 1 = .pointer (some ⟨w.heap.size, 0, none⟩) := hv 1 (by omega) 5 rfl
  have e2 : vals 2 = .string (str (m.name)) := hv 2 (by omega) 6 rfl
  obtain ⟨A7, n7, c7, e3, r7⟩ := hv 3 (by omega) 7 rfl
  obtain ⟨A8, n8, c8, e4, r8⟩ := hv 4 (by omega) 8 rfl
  have e5 : vals 5 = .pointer (some ⟨w.heap.size, 1, none⟩) := hv 5 (by omega) 9 rfl
  have e6 : vals 6 = .int .u32 (u32i (m.ver)) := hv 6 (by omega) 10 rfl
  simp only [putAll, Act.put, List.take_succ_cons, List.take_zero, List.drop_succ_cons, List.drop_zero, List.drop_nil, List.take_nil, Nat.reduceAdd, List.setIfInBounds_toArray, List.set_cons_succ, List.set_cons_zero, e0, e1, e2, e3, e4, e5, e6]
  clear hv e0 e1 e2 e3 e4 e5 e6
  have hl8 : n8 = 3 + m.name.length := by have := r8.len; simp [be2_length] at this; omega
  have Hl8 := Lib.hid hl8
  clear hl8
  go_wp2_with fail
  have hl8 := Hl8.out
  obtain ⟨n, hn⟩ : ∃ n, n8 + 4 = n := ⟨_, rfl⟩
  obtain ⟨X8, hX8, r8'⟩ : ∃ X8, X8 = [77] ++ (be2 m.name.length ++ m.name) ∧ OB W1 w0.heap.size A8 n8 c8 X8 := ⟨_, rfl, r8⟩
  obtain ⟨X, hX⟩ : ∃ X, X8 ++ beBytes m.ver 4 = X := ⟨_, rfl⟩
  have HX8 := Lib.hid hX8
  clear hX8
  refine (r1num_to w0 W1 A8 n8 c8 X8 m.ver hE r8' (by omega) hn hX).mono ?_
  rintro e W2 ⟨A, c, rfl, own2, hE2⟩
  have hne : some w.heap.size ≠ blk A := by intro e; have := (own2.lt e.symm).1; omega
  have hBW := hB.ext hE2
  have Hn := Lib.hid hn
  have hn9 : n ≤ 70000 := by omega
  have HX := Lib.hid hX
  clear r4 r7 r8 r8' hE hl8 hn hX Hl8
  go_upto_region 2 with (fail)
  refine par_app (n := 6) 3 hE2 own2 (by kernel_rfl) [.is (.slice (A) (n) (c)), .is (.pointer (some ⟨w.heap.size, 2, none⟩)), .is (.slice (F) (nf) (cf)), .app (w0.heap.size) (W2.heap.size) (A) (n + nf) (X ++ m.fw), .is (.pointer (some ⟨w.heap.size, 3, none⟩)), .is (.slice (N) (nn) (cn))] rfl ⟨?_, ?_, ?_, ?_, ?_, ?_, trivial⟩ ?_
  · refine stepEA rfl (by decide) fun sdn sa sw sG sE sd sk => ?_
    have h3 : sa.eval (.tmp 3) = .slice (A) (n) (c) := sk.old 3 rfl
    exact Runs.move rfl h3 ⟨Ext.refl _, rfl⟩
  · refine stepEA rfl (by decide) fun sdn sa sw sG sE sd sk => ?_
    have h1 : sa.eval (.tmp 1) = .pointer (some ⟨w.heap.size, 0, none⟩) := sk.old 1 rfl
    refine Runs.of_run (r := .pointer (some ⟨w.heap.size, 2, none⟩)) (w' := sw) ?_ ⟨Ext.refl _, rfl⟩
    unfold execOp
    simp only [h1]
    go_simp
  · refine stepEA rfl (by decide) fun sdn sa sw sG sE sd sk => ?_
    have h13 : sa.eval (.tmp 13) = .pointer (some ⟨w.heap.size, 2, none⟩) := sk.fact 1 13 rfl (sd 1 rfl)
    exact Runs.load rfl h13 (run_load1 Try.underlying22 rfl ((hBW.grown sG hne).cell (i := 2) rfl)) ⟨Ext.refl _, rfl⟩
  · refine stepApp (N := n + nf) (q := W2.heap.size) rfl rfl (by omega) rfl rfl (Nat.le_refl _) ⟨.inr (stays_is _ _), .inr (stays_is _ _), .inr (stays_is _ _), .inl rfl, .inr (stays_is _ _), .inr (stays_is _ _), trivial⟩ fun sdn sa sw sG sE sd sk => ?_
    have h12 : sa.eval (.tmp 12) = .slice (A) (n) (c) := sk.fact 0 12 rfl (sd 0 rfl)
    have h14 : sa.eval (.tmp 14) = .slice (F) (nf) (cf) := sk.fact 2 14 rfl (sd 2 rfl)
    exact ⟨h12, F, nf, cf, h14, hF.ext (hE0.trans sE), rfl⟩
  · refine stepEA rfl (by decide) fun sdn sa sw sG sE sd sk => ?_
    have h1 : sa.eval (.tmp 1) = .pointer (some ⟨w.heap.size, 0, none⟩) := sk.old 1 rfl
    refine Runs.of_run (r := .pointer (some ⟨w.heap.size, 3, none⟩)) (w' := sw) ?_ ⟨Ext.refl _, rfl⟩
    unfold execOp
    simp only [h1]
    go_simp
  · refine stepEA rfl (by decide) fun sdn sa sw sG sE sd sk => ?_
    have h16 : sa.eval (.tmp 16) = .pointer (some ⟨w.heap.size, 3, none⟩) := sk.fact 4 16 rfl (sd 4 rfl)
    exact Runs.load rfl h16 (run_load1 Try.underlying22 rfl ((hBW.grown sG hne).cell (i := 3) rfl)) ⟨Ext.refl _, rfl⟩
  intro vals W3 hG hE hv
  have e0 : vals 0 = .slice (A) (n) (c) := hv 0 (by omega) 12 rfl
  have e1 : vals 1 = .pointer (some ⟨w.heap.size, 2, none⟩) := hv 1 (by omega) 13 rfl
  have e2 : vals 2 = .slice (F) (nf) (cf) := hv 2 (by omega) 14 rfl
  obtain ⟨A15, c15, e3, o15, b15⟩ := hv 3 (by omega) 15 rfl
  have e4 : vals 4 = .pointer (some ⟨w.heap.size, 3, none⟩) := hv 4 (by omega) 16 rfl
  have e5 : vals 5 = .slice (N) (nn) (cn) := hv 5 (by omega) 17 rfl
  simp only [putAll, Act.put, List.take_succ_cons, List.take_zero, List.drop_succ_cons, List.drop_zero, List.drop_nil, List.take_nil, Nat.reduceAdd, List.setIfInBounds_toArray, List.set_cons_succ, List.set_cons_zero, e0, e1, e2, e3, e4, e5]
  clear hv e0 e1 e2 e3 e4 e5
  go_wp2_with fail
  have hNW := hN.ext (hE0.trans hE)
  have hdis : 0 < nn → blk N ≠ blk A15 := by
    intro h0 e
    obtain ⟨ad, hA, _⟩ := hN.cells h0
    have h1 : blk N = some ad.block := by rw [hA]; rfl
    have h2 := hN.blk_lt h0 _ h1
    have h3 := (o15.lt (e.symm.trans h1)).1
    omega
  have hNl := hN.len
  obtain ⟨N5, hN5⟩ : ∃ N5, n + nf + (2 + nn) = N5 := ⟨_, rfl⟩
  obtain ⟨X5, hX5⟩ : ∃ X5, (X ++ m.fw) ++ (be2 nn ++ m.notes) = X5 := ⟨_, rfl⟩
  refine (r1bytes_to w0 W3 A15 (n + nf) c15 _ N nn cn m.notes hE o15 hNW hdis (by omega) (by omega) hN5 hX5).mono ?_
  rintro e W4 ⟨A4, c4, rfl, own4, hE4⟩
  have HX5 := Lib.hid hX5
  have HNl := Lib.hid hNl
  clear hX5 hNl hN5
  go_wp2_with fail
  go_ret
  refine ⟨A4, N5, c4, rfl, ?_, hE0.trans hE4⟩
  have e5 : X5 = encM m := by
    have e3 := HNl.out
    subst e3
    rw [← HX5.out, ← HX.out, HX8.out]
    simp only [encM, List.append_assoc]
  rw [← e5]
  exact own4.base hE0.size
end Go.Proofs.Ytmgnigofilkfmab
namespace Go.Proofs.Ytmgnigofilkfmab
set_option maxRecDepth 100000
open Go Go.RowKit
/-- The reference's Reader at block q: what is left of it reads as L. -/
def RR (w : World) (base q : Nat) (L : List UInt8) (bad : Bool) : Prop :=
  ∃ (A : Option Addr) (n c At : Nat) (B : List UInt8), Blk w q 100 #[.slice A n c, .int .i64 (At : Int), .bool bad] ∧ RB w A n c B ∧ At ≤ n ∧ n ≤ 140737488355328 ∧ base ≤ q ∧ (bad = false → L = B.drop At) ∧ (bad = true → L = []) ∧ (0 < n → ∀ k, blk A = some k → k < base)
theorem rd_no (A : Option Addr) (n c : Nat) (x : Int) (b : Bool) (i : Nat) (y : Int) : (#[.slice A n c, .int .i64 x, .bool b] : Array Value)[i]? ≠ some (.int .u8 y) := by
  rcases i with _ | _ | _ | i <;> simp
theorem RR.later {w w' : World} {base q : Nat} {L : List UInt8} {bad : Bool} (h : RR w base q L bad) (e : Ext w w') : RR w' base q L bad := by
  obtain ⟨A, n, c, At, B, h1, h2, h3⟩ := h
  exact ⟨A, n, c, At, B, h1.ext e, h2.ext e, h3⟩
theorem RR.ge {w : World} {base q : Nat} {L : List UInt8} {bad : Bool} (h : RR w base q L bad) : base ≤ q := by
  obtain ⟨A, n, c, At, B, h1, h2, h3, h4, h5, h6⟩ := h
  exact h5
theorem RR.lt {w : World} {base q : Nat} {L : List UInt8} {bad : Bool} (h : RR w base q L bad) : q < w.heap.size := by
  obtain ⟨A, n, c, At, B, h1, h2⟩ := h
  exact h1.lt
set_option maxHeartbeats 2000000 in
theorem r1raw_no (w : World) (base q : Nat) (L : List UInt8) (bad : Bool) (z : Int) (hR : RR w base q L bad) (hno : bad = true ∨ z < 0 ∨ (L.length : Int) < z) :
    Calls Try.prog 84 #[.pointer (some ⟨q, 0, none⟩), .int .i64 z] w fun e w' => e = .returned (.slice none 0 0) ∧ RR w' base q [] true ∧ w.grownBy w' (some q) := by
  obtain ⟨A, n, c, At, B, hB, hr, hAt, hn, hbq, hL, hL2, hbl⟩ := hR
  have hl := hr.len
  have fin : ∀ W1 w', Ext w W1 → w' = W1.setCell ⟨q, 2, none⟩ (.bool true) → RR w' base q [] true ∧ w.grownBy w' (some q) := by
    rintro W1 w' hE rfl
    have g := grownBy_setCell W1 ⟨q, 2, none⟩ (.bool true)
    have hB1 := hB.ext hE
    exact ⟨⟨A, n, c, At, B, hB1.set 2 (.bool true), (hr.ext hE).grown g ((hr.ext hE).apart hB1 (rd_no _ _ _ _ _)), hAt, hn, hbq, (fun h => by cases h), fun _ => rfl, hbl⟩, (hE.grownBy _).trans g⟩
  have Fin := Lib.hid fin
  clear fin
  have HL := Lib.hid hL
  clear hL hL2
  by_cases hb : bad = true
  · subst hb
    go_enter Try.func84, Try.ntmps84
    go_upto_region 1 with (fail)
    refine par_ext (n := 22) (by kernel_rfl) [.is (.pointer (some ⟨q, 0, none⟩)), .is (.pointer (some ⟨q, 0, none⟩)), .is (.pointer (some ⟨q, 2, none⟩)), .is (.bool (true)), .is (.bool (true)), .is undef, .is undef, .is (.bool (true)), .is (.bool (true)), .is undef, .is undef, .is undef, .is undef, .is undef, .is undef, .is undef, .is undef, .is undef, .is undef, .is undef, .is undef, .is (.bool (true))] rfl ⟨?_, ?_, ?_, ?_, ?_, ?_, ?_, ?_, ?_, ?_, ?_, ?_, ?_, ?_, ?_, ?_, ?_, ?_, ?_, ?_, ?_, ?_, trivial⟩ ?_
    · refine stepE rfl fun sdn sa sw sE sd sk => ?_
      have h0 : sa.eval (.tmp 0) = .pointer (some ⟨q, 0, none⟩) := sk.old 0 rfl
      exact Runs.move rfl h0 ⟨Ext.refl _, rfl⟩
    · refine stepE rfl fun sdn sa sw sE sd sk => ?_
      have h5 : sa.eval (.tmp 5) = .pointer (some ⟨q, 0, none⟩) := sk.fact 0 5 rfl (sd 0 rfl)
      exact Runs.nil_ rfl h5 ⟨Ext.refl _, rfl⟩
    · refine stepE rfl fun sdn sa sw sE sd sk => ?_
      have h6 : sa.eval (.tmp 6) = .pointer (some ⟨q, 0, none⟩) := sk.fact 1 6 rfl (sd 1 rfl)
      refine Runs.of_run (r := .pointer (some ⟨q, 2, none⟩)) (w' := sw) ?_ ⟨Ext.refl _, rfl⟩
      unfold execOp
      simp only [h6]
      go_simp
    · refine stepE rfl fun sdn sa sw sE sd sk => ?_
      have h7 : sa.eval (.tmp 7) = .pointer (some ⟨q, 2, none⟩) := sk.fact 2 7 rfl (sd 2 rfl)
      exact Runs.load rfl h7 (run_load1 Try.underlying4 rfl ((hB.ext sE).cell (i := 2) rfl)) ⟨Ext.refl _, rfl⟩
    · refine stepE rfl fun sdn sa sw sE sd sk => ?_
      have h8 : sa.eval (.tmp 8) = .bool (true) := sk.fact 3 8 rfl (sd 3 rfl)
      exact Runs.move rfl h8 ⟨Ext.refl _, rfl⟩
    · exact stepN (j := 4) (d := 9) (b := true) rfl rfl rfl (fun v w h => h) fun w => rfl
    · exact stepN (j := 4) (d := 9) (b := true) rfl rfl rfl (fun v w h => h) fun w => rfl
    · refine stepE rfl fun sdn sa sw sE sd sk => ?_
      have h9 : sa.eval (.tmp 9) = .bool (true) := sk.fact 4 9 rfl (sd 4 rfl)
      exact Runs.pick rfl h9 ⟨Ext.refl _, rfl⟩
    · refine stepE rfl fun sdn sa sw sE sd sk => ?_
      have h12 : sa.eval (.tmp 12) = .bool (true) := sk.fact 7 12 rfl (sd 7 rfl)
      exact Runs.move rfl h12 ⟨Ext.refl _, rfl⟩
    · exact stepN (j := 8) (d := 13) (b := true) rfl rfl rfl (fun v w h => h) fun w => rfl
    · exact stepN (j := 8) (d := 13) (b := true) rfl rfl rfl (fun v w h => h) fun w => rfl
    · exact stepN (j := 8) (d := 13) (b := true) rfl rfl rfl (fun v w h => h) fun w => rfl
    · exact stepN (j := 8) (d := 13) (b := true) rfl rfl rfl (fun v w h => h) fun w => rfl
    · exact stepN (j := 8) (d := 13) (b := true) rfl rfl rfl (fun v w h => h) fun w => rfl
    · exact stepN (j := 8) (d := 13) (b := true) rfl rfl rfl (fun v w h => h) fun w => rfl
    · exact stepN (j := 8) (d := 13) (b := true) rfl rfl rfl (fun v w h => h) fun w => rfl
    · exact stepN (j := 8) (d := 13) (b := true) rfl rfl rfl (fun v w h => h) fun w => rfl
    · exact stepN (j := 8) (d := 13) (b := true) rfl rfl rfl (fun v w h => h) fun w => rfl
    · exact stepN (j := 8) (d := 13) (b := true) rfl rfl rfl (fun v w h => h) fun w => rfl
    · exact stepN (j := 8) (d := 13) (b := true) rfl rfl rfl (fun v w h => h) fun w => rfl
    · exact stepN (j := 8) (d := 13) (b := true) rfl rfl rfl (fun v w h => h) fun w => rfl
    · refine stepE rfl fun sdn sa sw sE sd sk => ?_
      have h13 : sa.eval (.tmp 13) = .bool (true) := sk.fact 8 13 rfl (sd 8 rfl)
      exact Runs.pick rfl h13 ⟨Ext.refl _, rfl⟩
    intro vals W1 hE hv
    have e0 : vals 0 = .pointer (some ⟨q, 0, none⟩) := hv 0 (by omega) 5 rfl
    have e1 : vals 1 = .pointer (some ⟨q, 0, none⟩) := hv 1 (by omega) 6 rfl
    have e2 : vals 2 = .pointer (some ⟨q, 2, none⟩) := hv 2 (by omega) 7 rfl
    have e3 : vals 3 = .bool (true) := hv 3 (by omega) 8 rfl
    have e4 : vals 4 = .bool (true) := hv 4 (by omega) 9 rfl
    have e7 : vals 7 = .bool (true) := hv 7 (by omega) 12 rfl
    have e8 : vals 8 = .bool (true) := hv 8 (by omega) 13 rfl
    have e21 : vals 21 = .bool (true) := hv 21 (by omega) 26 rfl
    simp only [putAll, Act.put, List.take_succ_cons, List.take_zero, List.drop_succ_cons, List.drop_zero, List.drop_nil, List.take_nil, Nat.reduceAdd, List.setIfInBounds_toArray, List.set_cons_succ, List.set_cons_zero, e0, e1, e2, e3, e4, e7, e8, e21]
    clear hv e0 e1 e2 e3 e4 e7 e8 e21
    have y2 := (hB.ext hE).cell (i := 2) rfl
    have z2 := (hB.ext hE).frozen 2
    go_wp2_with fail
    go_ret
    exact ⟨rfl, Fin.out W1 _ hE rfl⟩
  · obtain rfl : bad = false := by simpa using hb
    by_cases hz : z < 0
    · go_enter Try.func84, Try.ntmps84
      go_upto_region 1 with (fail)
      refine par_ext (n := 22) (by kernel_rfl) [.is (.pointer (some ⟨q, 0, none⟩)), .is (.pointer (some ⟨q, 0, none⟩)), .is (.pointer (some ⟨q, 2, none⟩)), .is (.bool (false)), .is (.bool (false)), .is (.int .i64 (z)), .is (.bool (true)), .is (.bool (true)), .is (.bool (true)), .is undef, .is undef, .is undef, .is undef, .is undef, .is undef, .is undef, .is undef, .is undef, .is undef, .is undef, .is undef, .is (.bool (true))] rfl ⟨?_, ?_, ?_, ?_, ?_, ?_, ?_, ?_, ?_, ?_, ?_, ?_, ?_, ?_, ?_, ?_, ?_, ?_, ?_, ?_, ?_, ?_, trivial⟩ ?_
      · refine stepE rfl fun sdn sa sw sE sd sk => ?_
        have h0 : sa.eval (.tmp 0) = .pointer (some ⟨q, 0, none⟩) := sk.old 0 rfl
        exact Runs.move rfl h0 ⟨Ext.refl _, rfl⟩
      · refine stepE rfl fun sdn sa sw sE sd sk => ?_
        have h5 : sa.eval (.tmp 5) = .pointer (some ⟨q, 0, none⟩) := sk.fact 0 5 rfl (sd 0 rfl)
        exact Runs.nil_ rfl h5 ⟨Ext.refl _, rfl⟩
      · refine stepE rfl fun sdn sa sw sE sd sk => ?_
        have h6 : sa.eval (.tmp 6) = .pointer (some ⟨q, 0, none⟩) := sk.fact 1 6 rfl (sd 1 rfl)
        refine Runs.of_run (r := .pointer (some ⟨q, 2, none⟩)) (w' := sw) ?_ ⟨Ext.refl _, rfl⟩
        unfold execOp
        simp only [h6]
        go_simp
      · refine stepE rfl fun sdn sa sw sE sd sk => ?_
        have h7 : sa.eval (.tmp 7) = .pointer (some ⟨q, 2, none⟩) := sk.fact 2 7 rfl (sd 2 rfl)
        exact Runs.load rfl h7 (run_load1 Try.underlying4 rfl ((hB.ext sE).cell (i := 2) rfl)) ⟨Ext.refl _, rfl⟩
      · refine stepE rfl fun sdn sa sw sE sd sk => ?_
        have h8 : sa.eval (.tmp 8) = .bool (false) := sk.fact 3 8 rfl (sd 3 rfl)
        exact Runs.move rfl h8 ⟨Ext.refl _, rfl⟩
      · refine stepY (j := 4) (d := 9) (b := false) rfl rfl rfl (fun v w h => h) fun sdn sa sw sE sd sk => ?_
        have h1 : sa.eval (.tmp 1) = .int .i64 (z) := sk.old 1 rfl
        exact Runs.move rfl h1 ⟨Ext.refl _, rfl⟩
      · refine stepY (j := 4) (d := 9) (b := false) rfl rfl rfl (fun v w h => h) fun sdn sa sw sE sd sk => ?_
        have h10 : sa.eval (.tmp 10) = .int .i64 (z) := sk.fact 5 10 rfl (sd 5 rfl)
        exact Runs.bin rfl h10 rfl (by rfl) (bin_lss _ _ _ _) ⟨Ext.refl _, congrArg Value.bool (decide_eq_true hz)⟩
      · refine stepE rfl fun sdn sa sw sE sd sk => ?_
        have h9 : sa.eval (.tmp 9) = .bool (false) := sk.fact 4 9 rfl (sd 4 rfl)
        have h11 : sa.eval (.tmp 11) = .bool (true) := sk.fact 6 11 rfl (sd 6 rfl)
        exact Runs.pick rfl h9 ⟨Ext.refl _, by first | exact h11 | simpa using h11⟩
      · refine stepE rfl fun sdn sa sw sE sd sk => ?_
        have h12 : sa.eval (.tmp 12) = .bool (true) := sk.fact 7 12 rfl (sd 7 rfl)
        exact Runs.move rfl h12 ⟨Ext.refl _, rfl⟩
      · exact stepN (j := 8) (d := 13) (b := true) rfl rfl rfl (fun v w h => h) fun w => rfl
      · exact stepN (j := 8) (d := 13) (b := true) rfl rfl rfl (fun v w h => h) fun w => rfl
      · exact stepN (j := 8) (d := 13) (b := true) rfl rfl rfl (fun v w h => h) fun w => rfl
      · exact stepN (j := 8) (d := 13) (b := true) rfl rfl rfl (fun v w h => h) fun w => rfl
      · exact stepN (j := 8) (d := 13) (b := true) rfl rfl rfl (fun v w h => h) fun w => rfl
      · exact stepN (j := 8) (d := 13) (b := true) rfl rfl rfl (fun v w h => h) fun w => rfl
      · exact stepN (j := 8) (d := 13) (b := true) rfl rfl rfl (fun v w h => h) fun w => rfl
      · exact stepN (j := 8) (d := 13) (b := true) rfl rfl rfl (fun v w h => h) fun w => rfl
      · exact stepN (j := 8) (d := 13) (b := true) rfl rfl rfl (fun v w h => h) fun w => rfl
      · exact stepN (j := 8) (d := 13) (b := true) rfl rfl rfl (fun v w h => h) fun w => rfl
      · exact stepN (j := 8) (d := 13) (b := true) rfl rfl rfl (fun v w h => h) fun w => rfl
      · exact stepN (j := 8) (d := 13) (b := true) rfl rfl rfl (fun v w h => h) fun w => rfl
      · refine stepE rfl fun sdn sa sw sE sd sk => ?_
        have h13 : sa.eval (.tmp 13) = .bool (true) := sk.fact 8 13 rfl (sd 8 rfl)
        exact Runs.pick rfl h13 ⟨Ext.refl _, rfl⟩
      intro vals W1 hE hv
      have e0 : vals 0 = .pointer (some ⟨q, 0, none⟩) := hv 0 (by omega) 5 rfl
      have e1 : vals 1 = .pointer (some ⟨q, 0, none⟩) := hv 1 (by omega) 6 rfl
      have e2 : vals 2 = .pointer (some ⟨q, 2, none⟩) := hv 2 (by omega) 7 rfl
      have e3 : vals 3 = .bool (false) := hv 3 (by omega) 8 rfl
      have e4 : vals 4 = .bool (false) := hv 4 (by omega) 9 rfl
      have e5 : vals 5 = .int .i64 (z) := hv 5 (by omega) 10 rfl
      have e6 : vals 6 = .bool (true) := hv 6 (by omega) 11 rfl
      have e7 : vals 7 = .bool (true) := hv 7 (by omega) 12 rfl
      have e8 : vals 8 = .bool (true) := hv 8 (by omega) 13 rfl
      have e21 : vals 21 = .bool (true) := hv 21 (by omega) 26 rfl
      simp only [putAll, Act.put, List.take_succ_cons, List.take_zero, List.drop_succ_cons, List.drop_zero, List.drop_nil, List.take_nil, Nat.reduceAdd, List.setIfInBounds_toArray, List.set_cons_succ, List.set_cons_zero, e0, e1, e2, e3, e4, e5, e6, e7, e8, e21]
      clear hv e0 e1 e2 e3 e4 e5 e6 e7 e8 e21
      have y2 := (hB.ext hE).cell (i := 2) rfl
      have z2 := (hB.ext hE).frozen 2
      go_wp2_with fail
      go_ret
      exact ⟨rfl, Fin.out W1 _ hE rfl⟩
    · obtain ⟨k, rfl⟩ : ∃ k : Nat, z = k := ⟨z.toNat, (Int.toNat_of_nonneg (by omega)).symm⟩
      have hlk : (n : Int) - (At : Int) < (k : Int) := by
        have h1 := HL.out rfl
        rw [h1, List.length_drop, hl] at hno
        rcases hno with h | h | h
        · exact absurd h (by simp)
        · omega
        · omega
      clear hno hb
      · go_enter Try.func84, Try.ntmps84
        go_upto_region 1 with (fail)
        refine par_ext (n := 22) (by kernel_rfl) [.is (.pointer (some ⟨q, 0, none⟩)), .is (.pointer (some ⟨q, 0, none⟩)), .is (.pointer (some ⟨q, 2, none⟩)), .is (.bool (false)), .is (.bool (false)), .is (.int .i64 (((k : Nat) : Int))), .is (.bool (false)), .is (.bool (false)), .is (.bool (false)), .is (.pointer (some ⟨q, 0, none⟩)), .is (.pointer (some ⟨q, 0, none⟩)), .is (.pointer (some ⟨q, 0, none⟩)), .is (.slice (A) (n) (c)), .is (.int .i64 ((n : Nat))), .is (.pointer (some ⟨q, 0, none⟩)), .is (.pointer (some ⟨q, 0, none⟩)), .is (.pointer (some ⟨q, 1, none⟩)), .is (.int .i64 (((At : Nat) : Int))), .is (.int .i64 ((n : Nat) - ((At : Nat) : Int))), .is (.int .i64 (((k : Nat) : Int))), .is (.bool (true)), .is (.bool (true))] rfl ⟨?_, ?_, ?_, ?_, ?_, ?_, ?_, ?_, ?_, ?_, ?_, ?_, ?_, ?_, ?_, ?_, ?_, ?_, ?_, ?_, ?_, ?_, trivial⟩ ?_
        · refine stepE rfl fun sdn sa sw sE sd sk => ?_
          have h0 : sa.eval (.tmp 0) = .pointer (some ⟨q, 0, none⟩) := sk.old 0 rfl
          exact Runs.move rfl h0 ⟨Ext.refl _, rfl⟩
        · refine stepE rfl fun sdn sa sw sE sd sk => ?_
          have h5 : sa.eval (.tmp 5) = .pointer (some ⟨q, 0, none⟩) := sk.fact 0 5 rfl (sd 0 rfl)
          exact Runs.nil_ rfl h5 ⟨Ext.refl _, rfl⟩
        · refine stepE rfl fun sdn sa sw sE sd sk => ?_
          have h6 : sa.eval (.tmp 6) = .pointer (some ⟨q, 0, none⟩) := sk.fact 1 6 rfl (sd 1 rfl)
          refine Runs.of_run (r := .pointer (some ⟨q, 2, none⟩)) (w' := sw) ?_ ⟨Ext.refl _, rfl⟩
          unfold execOp
          simp only [h6]
          go_simp
        · refine stepE rfl fun sdn sa sw sE sd sk => ?_
          have h7 : sa.eval (.tmp 7) = .pointer (some ⟨q, 2, none⟩) := sk.fact 2 7 rfl (sd 2 rfl)
          exact Runs.load rfl h7 (run_load1 Try.underlying4 rfl ((hB.ext sE).cell (i := 2) rfl)) ⟨Ext.refl _, rfl⟩
        · refine stepE rfl fun sdn sa sw sE sd sk => ?_
          have h8 : sa.eval (.tmp 8) = .bool (false) := sk.fact 3 8 rfl (sd 3 rfl)
          exact Runs.move rfl h8 ⟨Ext.refl _, rfl⟩
        · refine stepY (j := 4) (d := 9) (b := false) rfl rfl rfl (fun v w h => h) fun sdn sa sw sE sd sk => ?_
          have h1 : sa.eval (.tmp 1) = .int .i64 (((k : Nat) : Int)) := sk.old 1 rfl
          exact Runs.move rfl h1 ⟨Ext.refl _, rfl⟩
        · refine stepY (j := 4) (d := 9) (b := false) rfl rfl rfl (fun v w h => h) fun sdn sa sw sE sd sk => ?_
          have h10 : sa.eval (.tmp 10) = .int .i64 (((k : Nat) : Int)) := sk.fact 5 10 rfl (sd 5 rfl)
          exact Runs.bin rfl h10 rfl (by rfl) (bin_lss _ _ _ _) ⟨Ext.refl _, congrArg Value.bool (decide_eq_false (by omega))⟩
        · refine stepE rfl fun sdn sa sw sE sd sk => ?_
          have h9 : sa.eval (.tmp 9) = .bool (false) := sk.fact 4 9 rfl (sd 4 rfl)
          have h11 : sa.eval (.tmp 11) = .bool (false) := sk.fact 6 11 rfl (sd 6 rfl)
          exact Runs.pick rfl h9 ⟨Ext.refl _, by first | exact h11 | simpa using h11⟩
        · refine stepE rfl fun sdn sa sw sE sd sk => ?_
          have h12 : sa.eval (.tmp 12) = .bool (false) := sk.fact 7 12 rfl (sd 7 rfl)
          exact Runs.move rfl h12 ⟨Ext.refl _, rfl⟩
        · refine stepY (j := 8) (d := 13) (b := false) rfl rfl rfl (fun v w h => h) fun sdn sa sw sE sd sk => ?_
          have h0 : sa.eval (.tmp 0) = .pointer (some ⟨q, 0, none⟩) := sk.old 0 rfl
          exact Runs.move rfl h0 ⟨Ext.refl _, rfl⟩
        · refine stepY (j := 8) (d := 13) (b := false) rfl rfl rfl (fun v w h => h) fun sdn sa sw sE sd sk => ?_
          have h14 : sa.eval (.tmp 14) = .pointer (some ⟨q, 0, none⟩) := sk.fact 9 14 rfl (sd 9 rfl)
          exact Runs.nil_ rfl h14 ⟨Ext.refl _, rfl⟩
        · refine stepY (j := 8) (d := 13) (b := false) rfl rfl rfl (fun v w h => h) fun sdn sa sw sE sd sk => ?_
          have h15 : sa.eval (.tmp 15) = .pointer (some ⟨q, 0, none⟩) := sk.fact 10 15 rfl (sd 10 rfl)
          refine Runs.of_run (r := .pointer (some ⟨q, 0, none⟩)) (w' := sw) ?_ ⟨Ext.refl _, rfl⟩
          unfold execOp
          simp only [h15]
          go_simp
        · refine stepY (j := 8) (d := 13) (b := false) rfl rfl rfl (fun v w h => h) fun sdn sa sw sE sd sk => ?_
          have h16 : sa.eval (.tmp 16) = .pointer (some ⟨q, 0, none⟩) := sk.fact 11 16 rfl (sd 11 rfl)
          exact Runs.load rfl h16 (run_load1 Try.underlying22 rfl ((hB.ext sE).cell (i := 0) rfl)) ⟨Ext.refl _, rfl⟩
        · refine stepY (j := 8) (d := 13) (b := false) rfl rfl rfl (fun v w h => h) fun sdn sa sw sE sd sk => ?_
          have h17 : sa.eval (.tmp 17) = .slice (A) (n) (c) := sk.fact 12 17 rfl (sd 12 rfl)
          exact Runs.len Try.underlying22 rfl h17 ⟨Ext.refl _, rfl⟩
        · refine stepY (j := 8) (d := 13) (b := false) rfl rfl rfl (fun v w h => h) fun sdn sa sw sE sd sk => ?_
          have h0 : sa.eval (.tmp 0) = .pointer (some ⟨q, 0, none⟩) := sk.old 0 rfl
          exact Runs.move rfl h0 ⟨Ext.refl _, rfl⟩
        · refine stepY (j := 8) (d := 13) (b := false) rfl rfl rfl (fun v w h => h) fun sdn sa sw sE sd sk => ?_
          have h19 : sa.eval (.tmp 19) = .pointer (some ⟨q, 0, none⟩) := sk.fact 14 19 rfl (sd 14 rfl)
          exact Runs.nil_ rfl h19 ⟨Ext.refl _, rfl⟩
        · refine stepY (j := 8) (d := 13) (b := false) rfl rfl rfl (fun v w h => h) fun sdn sa sw sE sd sk => ?_
          have h20 : sa.eval (.tmp 20) = .pointer (some ⟨q, 0, none⟩) := sk.fact 15 20 rfl (sd 15 rfl)
          refine Runs.of_run (r := .pointer (some ⟨q, 1, none⟩)) (w' := sw) ?_ ⟨Ext.refl _, rfl⟩
          unfold execOp
          simp only [h20]
          go_simp
        · refine stepY (j := 8) (d := 13) (b := false) rfl rfl rfl (fun v w h => h) fun sdn sa sw sE sd sk => ?_
          have h21 : sa.eval (.tmp 21) = .pointer (some ⟨q, 1, none⟩) := sk.fact 16 21 rfl (sd 16 rfl)
          exact Runs.load rfl h21 (run_load1 Try.underlying3 rfl ((hB.ext sE).cell (i := 1) rfl)) ⟨Ext.refl _, rfl⟩
        · refine stepY (j := 8) (d := 13) (b := false) rfl rfl rfl (fun v w h => h) fun sdn sa sw sE sd sk => ?_
          have h18 : sa.eval (.tmp 18) = .int .i64 ((n : Nat)) := sk.fact 13 18 rfl (sd 13 rfl)
          have h22 : sa.eval (.tmp 22) = .int .i64 (((At : Nat) : Int)) := sk.fact 17 22 rfl (sd 17 rfl)
          exact Runs.bin rfl h18 h22 (eqGuard_bin rfl) (bin_sub64 _ _ _ (by omega) (by omega)) ⟨Ext.refl _, rfl⟩
        · refine stepY (j := 8) (d := 13) (b := false) rfl rfl rfl (fun v w h => h) fun sdn sa sw sE sd sk => ?_
          have h1 : sa.eval (.tmp 1) = .int .i64 (((k : Nat) : Int)) := sk.old 1 rfl
          exact Runs.move rfl h1 ⟨Ext.refl _, rfl⟩
        · refine stepY (j := 8) (d := 13) (b := false) rfl rfl rfl (fun v w h => h) fun sdn sa sw sE sd sk => ?_
          have h23 : sa.eval (.tmp 23) = .int .i64 ((n : Nat) - ((At : Nat) : Int)) := sk.fact 18 23 rfl (sd 18 rfl)
          have h24 : sa.eval (.tmp 24) = .int .i64 (((k : Nat) : Int)) := sk.fact 19 24 rfl (sd 19 rfl)
          exact Runs.bin rfl h23 h24 (by rfl) (bin_lss _ _ _ _) ⟨Ext.refl _, congrArg Value.bool (decide_eq_true (by omega))⟩
        · refine stepE rfl fun sdn sa sw sE sd sk => ?_
          have h13 : sa.eval (.tmp 13) = .bool (false) := sk.fact 8 13 rfl (sd 8 rfl)
          have h25 : sa.eval (.tmp 25) = .bool (true) := sk.fact 20 25 rfl (sd 20 rfl)
          exact Runs.pick rfl h13 ⟨Ext.refl _, by first | exact h25 | simpa using h25⟩
        intro vals W1 hE hv
        have e0 : vals 0 = .pointer (some ⟨q, 0, none⟩) := hv 0 (by omega) 5 rfl
        have e1 : vals 1 = .pointer (some ⟨q, 0, none⟩) := hv 1 (by omega) 6 rfl
        have e2 : vals 2 = .pointer (some ⟨q, 2, none⟩) := hv 2 (by omega) 7 rfl
        have e3 : vals 3 = .bool (false) := hv 3 (by omega) 8 rfl
        have e4 : vals 4 = .bool (false) := hv 4 (by omega) 9 rfl
        have e5 : vals 5 = .int .i64 (((k : Nat) : Int)) := hv 5 (by omega) 10 rfl
        have e6 : vals 6 = .bool (false) := hv 6 (by omega) 11 rfl
        have e7 : vals 7 = .bool (false) := hv 7 (by omega) 12 rfl
        have e8 : vals 8 = .bool (false) := hv 8 (by omega) 13 rfl
        have e9 : vals 9 = .pointer (some ⟨q, 0, none⟩) := hv 9 (by omega) 14 rfl
        have e10 : vals 10 = .pointer (some ⟨q, 0, none⟩) := hv 10 (by omega) 15 rfl
        have e11 : vals 11 = .pointer (some ⟨q, 0, none⟩) := hv 11 (by omega) 16 rfl
        have e12 : vals 12 = .slice (A) (n) (c) := hv 12 (by omega) 17 rfl
        have e13 : vals 13 = .int .i64 ((n : Nat)) := hv 13 (by omega) 18 rfl
        have e14 : vals 14 = .pointer (some ⟨q, 0, none⟩) := hv 14 (by omega) 19 rfl
        have e15 : vals 15 = .pointer (some ⟨q, 0, none⟩) := hv 15 (by omega) 20 rfl
        have e16 : vals 16 = .pointer (some ⟨q, 1, none⟩) := hv 16 (by omega) 21 rfl
        have e17 : vals 17 = .int .i64 (((At : Nat) : Int)) := hv 17 (by omega) 22 rfl
        have e18 : vals 18 = .int .i64 ((n : Nat) - ((At : Nat) : Int)) := hv 18 (by omega) 23 rfl
        have e19 : vals 19 = .int .i64 (((k : Nat) : Int)) := hv 19 (by omega) 24 rfl
        have e20 : vals 20 = .bool (true) := hv 20 (by omega) 25 rfl
        have e21 : vals 21 = .bool (true) := hv 21 (by omega) 26 rfl
        simp only [putAll, Act.put, List.take_succ_cons, List.take_zero, List.drop_succ_cons, List.drop_zero, List.drop_nil, List.take_nil, Nat.reduceAdd, List.setIfInBounds_toArray, List.set_cons_succ, List.set_cons_zero, e0, e1, e2, e3, e4, e5, e6, e7, e8, e9, e10, e11, e12, e13, e14, e15, e16, e17, e18, e19, e20, e21]
        clear hv e0 e1 e2 e3 e4 e5 e6 e7 e8 e9 e10 e11 e12 e13 e14 e15 e16 e17 e18 e19 e20 e21
        have y2 := (hB.ext hE).cell (i := 2) rfl
        have z2 := (hB.ext hE).frozen 2
        go_wp2_with fail
        go_ret
        exact ⟨rfl, Fin.out W1 _ hE rfl⟩
set_option maxHeartbeats 2000000 in
theorem r1raw_yes (w : World) (base q : Nat) (L : List UInt8) (k : Nat) (hR : RR w base q L false) (hk : k ≤ L.length) :
    Calls Try.prog 84 #[.pointer (some ⟨q, 0, none⟩), .int .i64 (k : Int)] w fun e w' => (∃ B m d, e = .returned (.slice B m d) ∧ OB w' w.heap.size B m d (L.take k)) ∧ RR w' base q (L.drop k) false ∧ w.grownBy w' (some q) := by
  obtain ⟨A, n, c, At, B, hB, hr, hAt, hn, hbq, hL, _, hbl⟩ := hR
  have hl := hr.len
  have hL' := hL rfl
  subst hL'
  clear hL
  rw [List.length_drop, hl] at hk
  have Hl := Lib.hid hl
  clear hl
  go_enter Try.func84, Try.ntmps84
  go_upto_region 1 with (fail)
  · skip
    · skip
      · skip
        refine par_ext (n := 22) (by kernel_rfl) [.is (.pointer (some ⟨q, 0, none⟩)), .is (.pointer (some ⟨q, 0, none⟩)), .is (.pointer (some ⟨q, 2, none⟩)), .is (.bool (false)), .is (.bool (false)), .is (.int .i64 (((k : Nat) : Int))), .is (.bool (false)), .is (.bool (false)), .is (.bool (false)), .is (.pointer (some ⟨q, 0, none⟩)), .is (.pointer (some ⟨q, 0, none⟩)), .is (.pointer (some ⟨q, 0, none⟩)), .is (.slice (A) (n) (c)), .is (.int .i64 ((n : Nat))), .is (.pointer (some ⟨q, 0, none⟩)), .is (.pointer (some ⟨q, 0, none⟩)), .is (.pointer (some ⟨q, 1, none⟩)), .is (.int .i64 (((At : Nat) : Int))), .is (.int .i64 ((n : Nat) - ((At : Nat) : Int))), .is (.int .i64 (((k : Nat) : Int))), .is (.bool (false)), .is (.bool (false))] rfl ⟨?_, ?_, ?_, ?_, ?_, ?_, ?_, ?_, ?_, ?_, ?_, ?_, ?_, ?_, ?_, ?_, ?_, ?_, ?_, ?_, ?_, ?_, trivial⟩ ?_
        · refine stepE rfl fun sdn sa sw sE sd sk => ?_
          have h0 : sa.eval (.tmp 0) = .pointer (some ⟨q, 0, none⟩) := sk.old 0 rfl
          exact Runs.move rfl h0 ⟨Ext.refl _, rfl⟩
        · refine stepE rfl fun sdn sa sw sE sd sk => ?_
          have h5 : sa.eval (.tmp 5) = .pointer (some ⟨q, 0, none⟩) := sk.fact 0 5 rfl (sd 0 rfl)
          exact Runs.nil_ rfl h5 ⟨Ext.refl _, rfl⟩
        · refine stepE rfl fun sdn sa sw sE sd sk => ?_
          have h6 : sa.eval (.tmp 6) = .pointer (some ⟨q, 0, none⟩) := sk.fact 1 6 rfl (sd 1 rfl)
          refine Runs.of_run (r := .pointer (some ⟨q, 2, none⟩)) (w' := sw) ?_ ⟨Ext.refl _, rfl⟩
          unfold execOp
          simp only [h6]
          go_simp
        · refine stepE rfl fun sdn sa sw sE sd sk => ?_
          have h7 : sa.eval (.tmp 7) = .pointer (some ⟨q, 2, none⟩) := sk.fact 2 7 rfl (sd 2 rfl)
          exact Runs.load rfl h7 (run_load1 Try.underlying4 rfl ((hB.ext sE).cell (i := 2) rfl)) ⟨Ext.refl _, rfl⟩
        · refine stepE rfl fun sdn sa sw sE sd sk => ?_
          have h8 : sa.eval (.tmp 8) = .bool (false) := sk.fact 3 8 rfl (sd 3 rfl)
          exact Runs.move rfl h8 ⟨Ext.refl _, rfl⟩
        · refine stepY (j := 4) (d := 9) (b := false) rfl rfl rfl (fun v w h => h) fun sdn sa sw sE sd sk => ?_
          have h1 : sa.eval (.tmp 1) = .int .i64 (((k : Nat) : Int)) := sk.old 1 rfl
          exact Runs.move rfl h1 ⟨Ext.refl _, rfl⟩
        · refine stepY (j := 4) (d := 9) (b := false) rfl rfl rfl (fun v w h => h) fun sdn sa sw sE sd sk => ?_
          have h10 : sa.eval (.tmp 10) = .int .i64 (((k : Nat) : Int)) := sk.fact 5 10 rfl (sd 5 rfl)
          exact Runs.bin rfl h10 rfl (by rfl) (bin_lss _ _ _ _) ⟨Ext.refl _, congrArg Value.bool (decide_eq_false (by omega))⟩
        · refine stepE rfl fun sdn sa sw sE sd sk => ?_
          have h9 : sa.eval (.tmp 9) = .bool (false) := sk.fact 4 9 rfl (sd 4 rfl)
          have h11 : sa.eval (.tmp 11) = .bool (false) := sk.fact 6 11 rfl (sd 6 rfl)
          exact Runs.pick rfl h9 ⟨Ext.refl _, by first | exact h11 | simpa using h11⟩
        · refine stepE rfl fun sdn sa sw sE sd sk => ?_
          have h12 : sa.eval (.tmp 12) = .bool (false) := sk.fact 7 12 rfl (sd 7 rfl)
          exact Runs.move rfl h12 ⟨Ext.refl _, rfl⟩
        · refine stepY (j := 8) (d := 13) (b := false) rfl rfl rfl (fun v w h => h) fun sdn sa sw sE sd sk => ?_
          have h0 : sa.eval (.tmp 0) = .pointer (some ⟨q, 0, none⟩) := sk.old 0 rfl
          exact Runs.move rfl h0 ⟨Ext.refl _, rfl⟩
        · refine stepY (j := 8) (d := 13) (b := false) rfl rfl rfl (fun v w h => h) fun sdn sa sw sE sd sk => ?_
          have h14 : sa.eval (.tmp 14) = .pointer (some ⟨q, 0, none⟩) := sk.fact 9 14 rfl (sd 9 rfl)
          exact Runs.nil_ rfl h14 ⟨Ext.refl _, rfl⟩
        · refine stepY (j := 8) (d := 13) (b := false) rfl rfl rfl (fun v w h => h) fun sdn sa sw sE sd sk => ?_
          have h15 : sa.eval (.tmp 15) = .pointer (some ⟨q, 0, none⟩) := sk.fact 10 15 rfl (sd 10 rfl)
          refine Runs.of_run (r := .pointer (some ⟨q, 0, none⟩)) (w' := sw) ?_ ⟨Ext.refl _, rfl⟩
          unfold execOp
          simp only [h15]
          go_simp
        · refine stepY (j := 8) (d := 13) (b := false) rfl rfl rfl (fun v w h => h) fun sdn sa sw sE sd sk => ?_
          have h16 : sa.eval (.tmp 16) = .pointer (some ⟨q, 0, none⟩) := sk.fact 11 16 rfl (sd 11 rfl)
          exact Runs.load rfl h16 (run_load1 Try.underlying22 rfl ((hB.ext sE).cell (i := 0) rfl)) ⟨Ext.refl _, rfl⟩
        · refine stepY (j := 8) (d := 13) (b := false) rfl rfl rfl (fun v w h => h) fun sdn sa sw sE sd sk => ?_
          have h17 : sa.eval (.tmp 17) = .slice (A) (n) (c) := sk.fact 12 17 rfl (sd 12 rfl)
          exact Runs.len Try.underlying22 rfl h17 ⟨Ext.refl _, rfl⟩
        · refine stepY (j := 8) (d := 13) (b := false) rfl rfl rfl (fun v w h => h) fun sdn sa sw sE sd sk => ?_
          have h0 : sa.eval (.tmp 0) = .pointer (some ⟨q, 0, none⟩) := sk.old 0 rfl
          exact Runs.move rfl h0 ⟨Ext.refl _, rfl⟩
        · refine stepY (j := 8) (d := 13) (b := false) rfl rfl rfl (fun v w h => h) fun sdn sa sw sE sd sk => ?_
          have h19 : sa.eval (.tmp 19) = .pointer (some ⟨q, 0, none⟩) := sk.fact 14 19 rfl (sd 14 rfl)
          exact Runs.nil_ rfl h19 ⟨Ext.refl _, rfl⟩
        · refine stepY (j := 8) (d := 13) (b := false) rfl rfl rfl (fun v w h => h) fun sdn sa sw sE sd sk => ?_
          have h20 : sa.eval (.tmp 20) = .pointer (some ⟨q, 0, none⟩) := sk.fact 15 20 rfl (sd 15 rfl)
          refine Runs.of_run (r := .pointer (some ⟨q, 1, none⟩)) (w' := sw) ?_ ⟨Ext.refl _, rfl⟩
          unfold execOp
          simp only [h20]
          go_simp
        · refine stepY (j := 8) (d := 13) (b := false) rfl rfl rfl (fun v w h => h) fun sdn sa sw sE sd sk => ?_
          have h21 : sa.eval (.tmp 21) = .pointer (some ⟨q, 1, none⟩) := sk.fact 16 21 rfl (sd 16 rfl)
          exact Runs.load rfl h21 (run_load1 Try.underlying3 rfl ((hB.ext sE).cell (i := 1) rfl)) ⟨Ext.refl _, rfl⟩
        · refine stepY (j := 8) (d := 13) (b := false) rfl rfl rfl (fun v w h => h) fun sdn sa sw sE sd sk => ?_
          have h18 : sa.eval (.tmp 18) = .int .i64 ((n : Nat)) := sk.fact 13 18 rfl (sd 13 rfl)
          have h22 : sa.eval (.tmp 22) = .int .i64 (((At : Nat) : Int)) := sk.fact 17 22 rfl (sd 17 rfl)
          exact Runs.bin rfl h18 h22 (eqGuard_bin rfl) (bin_sub64 _ _ _ (by omega) (by omega)) ⟨Ext.refl _, rfl⟩
        · refine stepY (j := 8) (d := 13) (b := false) rfl rfl rfl (fun v w h => h) fun sdn sa sw sE sd sk => ?_
          have h1 : sa.eval (.tmp 1) = .int .i64 (((k : Nat) : Int)) := sk.old 1 rfl
          exact Runs.move rfl h1 ⟨Ext.refl _, rfl⟩
        · refine stepY (j := 8) (d := 13) (b := false) rfl rfl rfl (fun v w h => h) fun sdn sa sw sE sd sk => ?_
          have h23 : sa.eval (.tmp 23) = .int .i64 ((n : Nat) - ((At : Nat) : Int)) := sk.fact 18 23 rfl (sd 18 rfl)
          have h24 : sa.eval (.tmp 24) = .int .i64 (((k : Nat) : Int)) := sk.fact 19 24 rfl (sd 19 rfl)
          exact Runs.bin rfl h23 h24 (by rfl) (bin_lss _ _ _ _) ⟨Ext.refl _, congrArg Value.bool (decide_eq_false (by omega))⟩
        · refine stepE rfl fun sdn sa sw sE sd sk => ?_
          have h13 : sa.eval (.tmp 13) = .bool (false) := sk.fact 8 13 rfl (sd 8 rfl)
          have h25 : sa.eval (.tmp 25) = .bool (false) := sk.fact 20 25 rfl (sd 20 rfl)
          exact Runs.pick rfl h13 ⟨Ext.refl _, by first | exact h25 | simpa using h25⟩
        intro vals W1 hE hv
        have e0 : vals 0 = .pointer (some ⟨q, 0, none⟩) := hv 0 (by omega) 5 rfl
        have e1 : vals 1 = .pointer (some ⟨q, 0, none⟩) := hv 1 (by omega) 6 rfl
        have e2 : vals 2 = .pointer (some ⟨q, 2, none⟩) := hv 2 (by omega) 7 rfl
        have e3 : vals 3 = .bool (false) := hv 3 (by omega) 8 rfl
        have e4 : vals 4 = .bool (false) := hv 4 (by omega) 9 rfl
        have e5 : vals 5 = .int .i64 (((k : Nat) : Int)) := hv 5 (by omega) 10 rfl
        have e6 : vals 6 = .bool (false) := hv 6 (by omega) 11 rfl
        have e7 : vals 7 = .bool (false) := hv 7 (by omega) 12 rfl
        have e8 : vals 8 = .bool (false) := hv 8 (by omega) 13 rfl
        have e9 : vals 9 = .pointer (some ⟨q, 0, none⟩) := hv 9 (by omega) 14 rfl
        have e10 : vals 10 = .pointer (some ⟨q, 0, none⟩) := hv 10 (by omega) 15 rfl
        have e11 : vals 11 = .pointer (some ⟨q, 0, none⟩) := hv 11 (by omega) 16 rfl
        have e12 : vals 12 = .slice (A) (n) (c) := hv 12 (by omega) 17 rfl
        have e13 : vals 13 = .int .i64 ((n : Nat)) := hv 13 (by omega) 18 rfl
        have e14 : vals 14 = .pointer (some ⟨q, 0, none⟩) := hv 14 (by omega) 19 rfl
        have e15 : vals 15 = .pointer (some ⟨q, 0, none⟩) := hv 15 (by omega) 20 rfl
        have e16 : vals 16 = .pointer (some ⟨q, 1, none⟩) := hv 16 (by omega) 21 rfl
        have e17 : vals 17 = .int .i64 (((At : Nat) : Int)) := hv 17 (by omega) 22 rfl
        have e18 : vals 18 = .int .i64 ((n : Nat) - ((At : Nat) : Int)) := hv 18 (by omega) 23 rfl
        have e19 : vals 19 = .int .i64 (((k : Nat) : Int)) := hv 19 (by omega) 24 rfl
        have e20 : vals 20 = .bool (false) := hv 20 (by omega) 25 rfl
        have e21 : vals 21 = .bool (false) := hv 21 (by omega) 26 rfl
        simp only [putAll, Act.put, List.take_succ_cons, List.take_zero, List.drop_succ_cons, List.drop_zero, List.drop_nil, List.take_nil, Nat.reduceAdd, List.setIfInBounds_toArray, List.set_cons_succ, List.set_cons_zero, e0, e1, e2, e3, e4, e5, e6, e7, e8, e9, e10, e11, e12, e13, e14, e15, e16, e17, e18, e19, e20, e21]
        clear hv e0 e1 e2 e3 e4 e5 e6 e7 e8 e9 e10 e11 e12 e13 e14 e15 e16 e17 e18 e19 e20 e21
        have hB1 := hB.ext hE
        have y1 := hB1.cell (i := 1) rfl
        have z1 := hB1.frozen 1
        go_upto_region 5 with (fail)
        obtain ⟨w2, hw2⟩ : ∃ w2, w2 = W1.setCell ⟨q, 1, none⟩ (.int .i64 ((At + k : Nat) : Int)) := ⟨_, rfl⟩
        have g2 : W1.grownBy w2 (some q) := by rw [hw2]; exact grownBy_setCell W1 ⟨q, 1, none⟩ _
        have hB2 : Blk w2 q 100 #[.slice A n c, .int .i64 ((At + k : Nat) : Int), .bool false] := by rw [hw2]; exact hB1.set 1 _
        have hr2 : RB w2 A n c B := (hr.ext hE).grown g2 ((hr.ext hE).apart hB1 (rd_no _ _ _ _ _))
        have ek : ((At : Int) + (k : Int)) = ((At + k : Nat) : Int) := by omega
        rw [ek, ← hw2]
        have g02 : w.grownBy w2 (some q) := (hE.grownBy _).trans g2
        have hroom := hr2.room
        clear hw2 ek hB1 y1 z1 g2 hr hB
        refine par_ext (n := 16) (by kernel_rfl) [.ob (w2.heap.size) ([]), .is (.pointer (some ⟨q, 0, none⟩)), .is (.pointer (some ⟨q, 0, none⟩)), .is (.pointer (some ⟨q, 0, none⟩)), .is (.slice (A) (n) (c)), .is (.pointer (some ⟨q, 0, none⟩)), .is (.pointer (some ⟨q, 0, none⟩)), .is (.pointer (some ⟨q, 1, none⟩)), .is (.int .i64 ((((At + k) : Nat) : Int))), .is (.int .i64 (((k : Nat) : Int))), .is (.int .i64 ((((At + k) : Nat) : Int) - ((k : Nat) : Int))), .is (.pointer (some ⟨q, 0, none⟩)), .is (.pointer (some ⟨q, 0, none⟩)), .is (.pointer (some ⟨q, 1, none⟩)), .is (.int .i64 ((((At + k) : Nat) : Int))), .is (.slice (if c = ((At + k) - k) then A else (A).map (·.add (((At + k) - k) * 1))) ((At + k) - ((At + k) - k)) (c - ((At + k) - k)))] rfl ⟨?_, ?_, ?_, ?_, ?_, ?_, ?_, ?_, ?_, ?_, ?_, ?_, ?_, ?_, ?_, ?_, trivial⟩ ?_
        · refine stepE rfl fun sdn sa sw sE sd sk => ?_
          exact Runs.lit0 rfl (fun w1 e1 o1 => ⟨e1, _, _, _, rfl, o1.base sE.size⟩)
        · refine stepE rfl fun sdn sa sw sE sd sk => ?_
          have h0 : sa.eval (.tmp 0) = .pointer (some ⟨q, 0, none⟩) := sk.old 0 rfl
          exact Runs.move rfl h0 ⟨Ext.refl _, rfl⟩
        · refine stepE rfl fun sdn sa sw sE sd sk => ?_
          have h40 : sa.eval (.tmp 40) = .pointer (some ⟨q, 0, none⟩) := sk.fact 1 40 rfl (sd 1 rfl)
          exact Runs.nil_ rfl h40 ⟨Ext.refl _, rfl⟩
        · refine stepE rfl fun sdn sa sw sE sd sk => ?_
          have h41 : sa.eval (.tmp 41) = .pointer (some ⟨q, 0, none⟩) := sk.fact 2 41 rfl (sd 2 rfl)
          refine Runs.of_run (r := .pointer (some ⟨q, 0, none⟩)) (w' := sw) ?_ ⟨Ext.refl _, rfl⟩
          unfold execOp
          simp only [h41]
          go_simp
        · refine stepE rfl fun sdn sa sw sE sd sk => ?_
          have h42 : sa.eval (.tmp 42) = .pointer (some ⟨q, 0, none⟩) := sk.fact 3 42 rfl (sd 3 rfl)
          exact Runs.load rfl h42 (run_load1 Try.underlying22 rfl ((hB2.ext sE).cell (i := 0) rfl)) ⟨Ext.refl _, rfl⟩
        · refine stepE rfl fun sdn sa sw sE sd sk => ?_
          have h0 : sa.eval (.tmp 0) = .pointer (some ⟨q, 0, none⟩) := sk.old 0 rfl
          exact Runs.move rfl h0 ⟨Ext.refl _, rfl⟩
        · refine stepE rfl fun sdn sa sw sE sd sk => ?_
          have h44 : sa.eval (.tmp 44) = .pointer (some ⟨q, 0, none⟩) := sk.fact 5 44 rfl (sd 5 rfl)
          exact Runs.nil_ rfl h44 ⟨Ext.refl _, rfl⟩
        · refine stepE rfl fun sdn sa sw sE sd sk => ?_
          have h45 : sa.eval (.tmp 45) = .pointer (some ⟨q, 0, none⟩) := sk.fact 6 45 rfl (sd 6 rfl)
          refine Runs.of_run (r := .pointer (some ⟨q, 1, none⟩)) (w' := sw) ?_ ⟨Ext.refl _, rfl⟩
          unfold execOp
          simp only [h45]
          go_simp
        · refine stepE rfl fun sdn sa sw sE sd sk => ?_
          have h46 : sa.eval (.tmp 46) = .pointer (some ⟨q, 1, none⟩) := sk.fact 7 46 rfl (sd 7 rfl)
          exact Runs.load rfl h46 (run_load1 Try.underlying3 rfl ((hB2.ext sE).cell (i := 1) rfl)) ⟨Ext.refl _, rfl⟩
        · refine stepE rfl fun sdn sa sw sE sd sk => ?_
          have h1 : sa.eval (.tmp 1) = .int .i64 (((k : Nat) : Int)) := sk.old 1 rfl
          exact Runs.move rfl h1 ⟨Ext.refl _, rfl⟩
        · refine stepE rfl fun sdn sa sw sE sd sk => ?_
          have h47 : sa.eval (.tmp 47) = .int .i64 ((((At + k) : Nat) : Int)) := sk.fact 8 47 rfl (sd 8 rfl)
          have h48 : sa.eval (.tmp 48) = .int .i64 (((k : Nat) : Int)) := sk.fact 9 48 rfl (sd 9 rfl)
          exact Runs.bin rfl h47 h48 (eqGuard_bin rfl) (bin_sub64 _ _ _ (by omega) (by omega)) ⟨Ext.refl _, rfl⟩
        · refine stepE rfl fun sdn sa sw sE sd sk => ?_
          have h0 : sa.eval (.tmp 0) = .pointer (some ⟨q, 0, none⟩) := sk.old 0 rfl
          exact Runs.move rfl h0 ⟨Ext.refl _, rfl⟩
        · refine stepE rfl fun sdn sa sw sE sd sk => ?_
          have h50 : sa.eval (.tmp 50) = .pointer (some ⟨q, 0, none⟩) := sk.fact 11 50 rfl (sd 11 rfl)
          exact Runs.nil_ rfl h50 ⟨Ext.refl _, rfl⟩
        · refine stepE rfl fun sdn sa sw sE sd sk => ?_
          have h51 : sa.eval (.tmp 51) = .pointer (some ⟨q, 0, none⟩) := sk.fact 12 51 rfl (sd 12 rfl)
          refine Runs.of_run (r := .pointer (some ⟨q, 1, none⟩)) (w' := sw) ?_ ⟨Ext.refl _, rfl⟩
          unfold execOp
          simp only [h51]
          go_simp
        · refine stepE rfl fun sdn sa sw sE sd sk => ?_
          have h52 : sa.eval (.tmp 52) = .pointer (some ⟨q, 1, none⟩) := sk.fact 13 52 rfl (sd 13 rfl)
          exact Runs.load rfl h52 (run_load1 Try.underlying3 rfl ((hB2.ext sE).cell (i := 1) rfl)) ⟨Ext.refl _, rfl⟩
        · refine stepE rfl fun sdn sa sw sE sd sk => ?_
          have h43 : sa.eval (.tmp 43) = .slice (A) (n) (c) := sk.fact 4 43 rfl (sd 4 rfl)
          have h49 : sa.eval (.tmp 49) = .int .i64 ((((At + k) : Nat) : Int) - ((k : Nat) : Int)) := sk.fact 10 49 rfl (sd 10 rfl)
          have h53 : sa.eval (.tmp 53) = .int .i64 ((((At + k) : Nat) : Int)) := sk.fact 14 53 rfl (sd 14 rfl)
          exact Runs.slice rfl h43 (by simp only [Option.map_some, Option.map_none, h49, h53]; exact run_cut_lh Try.underlying22 inf22_eq inf22_size (((At + k) - k)) ((At + k)) (by first | rfl | omega) (by first | rfl | omega) (by omega) (by omega)) ⟨Ext.refl _, rfl⟩
        intro vals W3 hE1 hv1
        obtain ⟨A39, n39, c39, e0, r39⟩ := hv1 0 (by omega) 39 rfl
        have e1 : vals 1 = .pointer (some ⟨q, 0, none⟩) := hv1 1 (by omega) 40 rfl
        have e2 : vals 2 = .pointer (some ⟨q, 0, none⟩) := hv1 2 (by omega) 41 rfl
        have e3 : vals 3 = .pointer (some ⟨q, 0, none⟩) := hv1 3 (by omega) 42 rfl
        have e4 : vals 4 = .slice (A) (n) (c) := hv1 4 (by omega) 43 rfl
        have e5 : vals 5 = .pointer (some ⟨q, 0, none⟩) := hv1 5 (by omega) 44 rfl
        have e6 : vals 6 = .pointer (some ⟨q, 0, none⟩) := hv1 6 (by omega) 45 rfl
        have e7 : vals 7 = .pointer (some ⟨q, 1, none⟩) := hv1 7 (by omega) 46 rfl
        have e8 : vals 8 = .int .i64 ((((At + k) : Nat) : Int)) := hv1 8 (by omega) 47 rfl
        have e9 : vals 9 = .int .i64 (((k : Nat) : Int)) := hv1 9 (by omega) 48 rfl
        have e10 : vals 10 = .int .i64 ((((At + k) : Nat) : Int) - ((k : Nat) : Int)) := hv1 10 (by omega) 49 rfl
        have e11 : vals 11 = .pointer (some ⟨q, 0, none⟩) := hv1 11 (by omega) 50 rfl
        have e12 : vals 12 = .pointer (some ⟨q, 0, none⟩) := hv1 12 (by omega) 51 rfl
        have e13 : vals 13 = .pointer (some ⟨q, 1, none⟩) := hv1 13 (by omega) 52 rfl
        have e14 : vals 14 = .int .i64 ((((At + k) : Nat) : Int)) := hv1 14 (by omega) 53 rfl
        have e15 : vals 15 = .slice (if c = ((At + k) - k) then A else (A).map (·.add (((At + k) - k) * 1))) ((At + k) - ((At + k) - k)) (c - ((At + k) - k)) := hv1 15 (by omega) 54 rfl
        simp only [putAll, Act.put, List.take_succ_cons, List.take_zero, List.drop_succ_cons, List.drop_zero, List.drop_nil, List.take_nil, Nat.reduceAdd, List.setIfInBounds_toArray, List.set_cons_succ, List.set_cons_zero, e0, e1, e2, e3, e4, e5, e6, e7, e8, e9, e10, e11, e12, e13, e14, e15]
        clear hv1 e0 e1 e2 e3 e4 e5 e6 e7 e8 e9 e10 e11 e12 e13 e14 e15
        rw [show At + k - k = At by omega]
        have hc := (hr2.cut (i := At) (j := At + k) (c' := c - At) (A' := if c = At then A else A.map (·.add (At * 1))) (by omega) (by omega) rfl (fun h => by rw [if_neg (by omega), Nat.mul_one])).ext hE1
        rw [show At + k - At = k by omega] at hc ⊢
        have e5 : (B.take (At + k)).drop At = (B.drop At).take k := by rw [List.drop_take, Nat.add_sub_cancel_left]
        rw [e5] at hc
        obtain rfl : n39 = 0 := by have h1 := r39.len; simpa using h1.symm
        go_wp2_with (refine app_own (w0 := w2) (N := k) (LM := (B.drop At).take k) rfl rfl rfl rfl hE1 r39 hc (by omega) rfl (by omega) ?_; intro A3 c3 w4 own4 hE4)
        all_goals go_ret
        all_goals refine ⟨⟨A3, k, c3, rfl, own4.base g02.size⟩, ⟨A, n, c, At + k, B, hB2.ext hE4, hr2.ext hE4, by omega, hn, hbq, (fun _ => by simp), (fun h => by cases h), hbl⟩, g02.trans (hE4.grownBy _)⟩
theorem r1raw_any (w : World) (base q : Nat) (L : List UInt8) (bad : Bool) (z : Int) (hR : RR w base q L bad) :
    Calls Try.prog 84 #[.pointer (some ⟨q, 0, none⟩), .int .i64 z] w fun e w' => (∃ B m d, e = .returned (.slice B m d) ∧ OB w' w.heap.size B m d (rtake L bad z).1) ∧ RR w' base q (rtake L bad z).2.1 (rtake L bad z).2.2 ∧ w.grownBy w' (some q) := by
  unfold rtake
  by_cases h : bad = true ∨ z < 0 ∨ (L.length : Int) < z
  · rw [if_pos h]
    refine (r1raw_no w base q L bad z hR h).mono ?_
    rintro e w' ⟨rfl, h1, h2⟩
    exact ⟨⟨none, 0, 0, rfl, OB.none_ _ _⟩, h1, h2⟩
  · rw [if_neg h]
    have hb : bad = false := by
      cases bad
      · rfl
      · exact absurd (.inl rfl) h
    obtain ⟨k, rfl⟩ : ∃ k : Nat, z = k := ⟨z.toNat, (Int.toNat_of_nonneg (by omega)).symm⟩
    subst hb
    exact r1raw_yes w base q L k hR (by omega)
set_option maxHeartbeats 1000000 in
theorem r1number_any (w : World) (base q : Nat) (L : List UInt8) (bad : Bool) (z : Int) (hR : RR w base q L bad) :
    Calls Try.prog 83 #[.pointer (some ⟨q, 0, none⟩), .int .i64 z] w fun e w' => e = .returned (.int .u32 (u32i (beNum (rtake L bad z).1))) ∧ RR w' base q (rtake L bad z).2.1 (rtake L bad z).2.2 ∧ w.grownBy w' (some q) := by
  go_enter Try.func83, Try.ntmps83
  go_wp2_with fail
  refine (r1raw_any w base q L bad z hR).mono ?_
  rintro e w1 ⟨⟨B, m, d, rfl, own⟩, h4, h5⟩
  have h1 := own.rb
  obtain ⟨M, hM⟩ : ∃ M, M = (rtake L bad z).1 := ⟨_, rfl⟩
  rw [← hM] at h1
  have HM := Lib.hid hM
  clear hM own
  go_wp2_with fail
  go_loop [5, 12] (fun v i => ∃ k : Nat, k ≤ m ∧ i = .int .i64 k ∧ v = .int .u32 (u32i (beNum (M.take k)))) (fun _ i => m - (intOf i).toNat)
  case atStart => exact ⟨0, Nat.zero_le _, rfl, rfl⟩
  case round =>
    obtain ⟨k, hk, rfl, rfl⟩ := hrel
    have hroom := h1.room
    have hcap := h1.cap
    unfold maxLen at hcap
    by_cases hlt : k < m
    · obtain ⟨ad, rfl, hc⟩ := h1.cells (by omega)
      have y1 := hc k hlt
      clear hc
      have e2 := fun w' : World => conv_u8_u32' (P := Try.prog) (w := w') Try.underlying5 Try.underlying25 (ub M k)
      go_wp2_with fail
      go_round
      case rel => exact ⟨k + 1, by omega, by go_num, by rw [u32_shl8, bits_or32, take_snoc_ub M k (by rw [h1.len]; exact hlt), beNum_snoc]⟩
      case measure => simp [intOf]; omega
    · obtain rfl : k = m := by omega
      rw [List.take_of_length_le (by rw [h1.len]; exact Nat.le_refl _)]
      go_wp2_with fail
      go_ret
      refine ⟨?_, h4, h5⟩
      rw [← HM.out]
      rfl
set_option maxHeartbeats 1000000 in
theorem r1end_any (w : World) (base q : Nat) (L : List UInt8) (bad : Bool) (hR : RR w base q L bad) :
    Calls Try.prog 94 #[.pointer (some ⟨q, 0, none⟩)] w fun e w' => e = .returned (.bool (!bad && L.isEmpty)) ∧ Ext w w' := by
  obtain ⟨A, n, c, At, B, hB, hr, hAt, hn, hbq, hL, hL2, hbl⟩ := hR
  have hl := hr.len
  cases bad
  · have h1 := hL rfl
    subst h1
    clear hL hL2
    by_cases he : At = n
    · have e1 : (B.drop At).isEmpty = true := by rw [List.isEmpty_iff, List.drop_eq_nil_iff]; omega
      rw [e1]
      clear e1 hl
      go_enter Try.func94, Try.ntmps94
      go_upto_region 1 with (fail)
      refine par_ext (n := 18) (by kernel_rfl) [.is (.pointer (some ⟨q, 0, none⟩)), .is (.pointer (some ⟨q, 0, none⟩)), .is (.pointer (some ⟨q, 2, none⟩)), .is (.bool (false)), .is (.bool (true)), .is (.bool (true)), .is (.pointer (some ⟨q, 0, none⟩)), .is (.pointer (some ⟨q, 0, none⟩)), .is (.pointer (some ⟨q, 1, none⟩)), .is (.int .i64 (((At : Nat) : Int))), .is (.pointer (some ⟨q, 0, none⟩)), .is (.pointer (some ⟨q, 0, none⟩)), .is (.pointer (some ⟨q, 0, none⟩)), .is (.slice (A) (n) (c)), .is (.int .i64 ((n : Nat))), .is (.bool (true)), .is (.bool (true)), .is (.bool (true))] rfl ⟨?_, ?_, ?_, ?_, ?_, ?_, ?_, ?_, ?_, ?_, ?_, ?_, ?_, ?_, ?_, ?_, ?_, ?_, trivial⟩ ?_
      · refine stepE rfl fun sdn sa sw sE sd sk => ?_
        have h0 : sa.eval (.tmp 0) = .pointer (some ⟨q, 0, none⟩) := sk.old 0 rfl
        exact Runs.move rfl h0 ⟨Ext.refl _, rfl⟩
      · refine stepE rfl fun sdn sa sw sE sd sk => ?_
        have h3 : sa.eval (.tmp 3) = .pointer (some ⟨q, 0, none⟩) := sk.fact 0 3 rfl (sd 0 rfl)
        exact Runs.nil_ rfl h3 ⟨Ext.refl _, rfl⟩
      · refine stepE rfl fun sdn sa sw sE sd sk => ?_
        have h4 : sa.eval (.tmp 4) = .pointer (some ⟨q, 0, none⟩) := sk.fact 1 4 rfl (sd 1 rfl)
        refine Runs.of_run (r := .pointer (some ⟨q, 2, none⟩)) (w' := sw) ?_ ⟨Ext.refl _, rfl⟩
        unfold execOp
        simp only [h4]
        go_simp
      · refine stepE rfl fun sdn sa sw sE sd sk => ?_
        have h5 : sa.eval (.tmp 5) = .pointer (some ⟨q, 2, none⟩) := sk.fact 2 5 rfl (sd 2 rfl)
        exact Runs.load rfl h5 (run_load1 Try.underlying4 rfl ((hB.ext sE).cell (i := 2) rfl)) ⟨Ext.refl _, rfl⟩
      · refine stepE rfl fun sdn sa sw sE sd sk => ?_
        have h6 : sa.eval (.tmp 6) = .bool (false) := sk.fact 3 6 rfl (sd 3 rfl)
        exact Runs.un rfl h6 (by rfl) ⟨Ext.refl _, rfl⟩
      · refine stepE rfl fun sdn sa sw sE sd sk => ?_
        have h7 : sa.eval (.tmp 7) = .bool (true) := sk.fact 4 7 rfl (sd 4 rfl)
        exact Runs.move rfl h7 ⟨Ext.refl _, rfl⟩
      · refine stepY (j := 5) (d := 8) (b := true) rfl rfl rfl (fun v w h => h) fun sdn sa sw sE sd sk => ?_
        have h0 : sa.eval (.tmp 0) = .pointer (some ⟨q, 0, none⟩) := sk.old 0 rfl
        exact Runs.move rfl h0 ⟨Ext.refl _, rfl⟩
      · refine stepY (j := 5) (d := 8) (b := true) rfl rfl rfl (fun v w h => h) fun sdn sa sw sE sd sk => ?_
        have h9 : sa.eval (.tmp 9) = .pointer (some ⟨q, 0, none⟩) := sk.fact 6 9 rfl (sd 6 rfl)
        exact Runs.nil_ rfl h9 ⟨Ext.refl _, rfl⟩
      · refine stepY (j := 5) (d := 8) (b := true) rfl rfl rfl (fun v w h => h) fun sdn sa sw sE sd sk => ?_
        have h10 : sa.eval (.tmp 10) = .pointer (some ⟨q, 0, none⟩) := sk.fact 7 10 rfl (sd 7 rfl)
        refine Runs.of_run (r := .pointer (some ⟨q, 1, none⟩)) (w' := sw) ?_ ⟨Ext.refl _, rfl⟩
        unfold execOp
        simp only [h10]
        go_simp
      · refine stepY (j := 5) (d := 8) (b := true) rfl rfl rfl (fun v w h => h) fun sdn sa sw sE sd sk => ?_
        have h11 : sa.eval (.tmp 11) = .pointer (some ⟨q, 1, none⟩) := sk.fact 8 11 rfl (sd 8 rfl)
        exact Runs.load rfl h11 (run_load1 Try.underlying3 rfl ((hB.ext sE).cell (i := 1) rfl)) ⟨Ext.refl _, rfl⟩
      · refine stepY (j := 5) (d := 8) (b := true) rfl rfl rfl (fun v w h => h) fun sdn sa sw sE sd sk => ?_
        have h0 : sa.eval (.tmp 0) = .pointer (some ⟨q, 0, none⟩) := sk.old 0 rfl
        exact Runs.move rfl h0 ⟨Ext.refl _, rfl⟩
      · refine stepY (j := 5) (d := 8) (b := true) rfl rfl rfl (fun v w h => h) fun sdn sa sw sE sd sk => ?_
        have h13 : sa.eval (.tmp 13) = .pointer (some ⟨q, 0, none⟩) := sk.fact 10 13 rfl (sd 10 rfl)
        exact Runs.nil_ rfl h13 ⟨Ext.refl _, rfl⟩
      · refine stepY (j := 5) (d := 8) (b := true) rfl rfl rfl (fun v w h => h) fun sdn sa sw sE sd sk => ?_
        have h14 : sa.eval (.tmp 14) = .pointer (some ⟨q, 0, none⟩) := sk.fact 11 14 rfl (sd 11 rfl)
        refine Runs.of_run (r := .pointer (some ⟨q, 0, none⟩)) (w' := sw) ?_ ⟨Ext.refl _, rfl⟩
        unfold execOp
        simp only [h14]
        go_simp
      · refine stepY (j := 5) (d := 8) (b := true) rfl rfl rfl (fun v w h => h) fun sdn sa sw sE sd sk => ?_
        have h15 : sa.eval (.tmp 15) = .pointer (some ⟨q, 0, none⟩) := sk.fact 12 15 rfl (sd 12 rfl)
        exact Runs.load rfl h15 (run_load1 Try.underlying22 rfl ((hB.ext sE).cell (i := 0) rfl)) ⟨Ext.refl _, rfl⟩
      · refine stepY (j := 5) (d := 8) (b := true) rfl rfl rfl (fun v w h => h) fun sdn sa sw sE sd sk => ?_
        have h16 : sa.eval (.tmp 16) = .slice (A) (n) (c) := sk.fact 13 16 rfl (sd 13 rfl)
        exact Runs.len Try.underlying22 rfl h16 ⟨Ext.refl _, rfl⟩
      · refine stepY (j := 5) (d := 8) (b := true) rfl rfl rfl (fun v w h => h) fun sdn sa sw sE sd sk => ?_
        have h12 : sa.eval (.tmp 12) = .int .i64 (((At : Nat) : Int)) := sk.fact 9 12 rfl (sd 9 rfl)
        have h17 : sa.eval (.tmp 17) = .int .i64 ((n : Nat)) := sk.fact 14 17 rfl (sd 14 rfl)
        exact Runs.bin rfl h12 h17 (by rfl) (bin_eql _ _ _ _) ⟨Ext.refl _, congrArg Value.bool (decide_eq_true (by omega))⟩
      · refine stepE rfl fun sdn sa sw sE sd sk => ?_
        have h8 : sa.eval (.tmp 8) = .bool (true) := sk.fact 5 8 rfl (sd 5 rfl)
        have h18 : sa.eval (.tmp 18) = .bool (true) := sk.fact 15 18 rfl (sd 15 rfl)
        exact Runs.pick rfl h8 ⟨Ext.refl _, by first | exact h18 | simpa using h18⟩
      · refine stepE rfl fun sdn sa sw sE sd sk => ?_
        have h19 : sa.eval (.tmp 19) = .bool (true) := sk.fact 16 19 rfl (sd 16 rfl)
        exact Runs.assign rfl h19 ⟨Ext.refl _, rfl⟩
      intro vals W1 hE hv
      have e0 : vals 0 = .pointer (some ⟨q, 0, none⟩) := hv 0 (by omega) 3 rfl
      have e1 : vals 1 = .pointer (some ⟨q, 0, none⟩) := hv 1 (by omega) 4 rfl
      have e2 : vals 2 = .pointer (some ⟨q, 2, none⟩) := hv 2 (by omega) 5 rfl
      have e3 : vals 3 = .bool (false) := hv 3 (by omega) 6 rfl
      have e4 : vals 4 = .bool (true) := hv 4 (by omega) 7 rfl
      have e5 : vals 5 = .bool (true) := hv 5 (by omega) 8 rfl
      have e6 : vals 6 = .pointer (some ⟨q, 0, none⟩) := hv 6 (by omega) 9 rfl
      have e7 : vals 7 = .pointer (some ⟨q, 0, none⟩) := hv 7 (by omega) 10 rfl
      have e8 : vals 8 = .pointer (some ⟨q, 1, none⟩) := hv 8 (by omega) 11 rfl
      have e9 : vals 9 = .int .i64 (((At : Nat) : Int)) := hv 9 (by omega) 12 rfl
      have e10 : vals 10 = .pointer (some ⟨q, 0, none⟩) := hv 10 (by omega) 13 rfl
      have e11 : vals 11 = .pointer (some ⟨q, 0, none⟩) := hv 11 (by omega) 14 rfl
      have e12 : vals 12 = .pointer (some ⟨q, 0, none⟩) := hv 12 (by omega) 15 rfl
      have e13 : vals 13 = .slice (A) (n) (c) := hv 13 (by omega) 16 rfl
      have e14 : vals 14 = .int .i64 ((n : Nat)) := hv 14 (by omega) 17 rfl
      have e15 : vals 15 = .bool (true) := hv 15 (by omega) 18 rfl
      have e16 : vals 16 = .bool (true) := hv 16 (by omega) 19 rfl
      have e17 : vals 17 = .bool (true) := hv 17 (by omega) 2 rfl
      simp only [putAll, Act.put, List.take_succ_cons, List.take_zero, List.drop_succ_cons, List.drop_zero, List.drop_nil, List.take_nil, Nat.reduceAdd, List.setIfInBounds_toArray, List.set_cons_succ, List.set_cons_zero, e0, e1, e2, e3, e4, e5, e6, e7, e8, e9, e10, e11, e12, e13, e14, e15, e16, e17]
      clear hv e0 e1 e2 e3 e4 e5 e6 e7 e8 e9 e10 e11 e12 e13 e14 e15 e16 e17
      go_wp2_with fail
      go_ret
      exact ⟨rfl, hE⟩
    · have e1 : (B.drop At).isEmpty = false := by
        rw [Bool.eq_false_iff]
        intro h
        rw [List.isEmpty_iff, List.drop_eq_nil_iff] at h
        omega
      rw [e1]
      clear e1 hl
      go_enter Try.func94, Try.ntmps94
      go_upto_region 1 with (fail)
      refine par_ext (n := 18) (by kernel_rfl) [.is (.pointer (some ⟨q, 0, none⟩)), .is (.pointer (some ⟨q, 0, none⟩)), .is (.pointer (some ⟨q, 2, none⟩)), .is (.bool (false)), .is (.bool (true)), .is (.bool (true)), .is (.pointer (some ⟨q, 0, none⟩)), .is (.pointer (some ⟨q, 0, none⟩)), .is (.pointer (some ⟨q, 1, none⟩)), .is (.int .i64 (((At : Nat) : Int))), .is (.pointer (some ⟨q, 0, none⟩)), .is (.pointer (some ⟨q, 0, none⟩)), .is (.pointer (some ⟨q, 0, none⟩)), .is (.slice (A) (n) (c)), .is (.int .i64 ((n : Nat))), .is (.bool (false)), .is (.bool (false)), .is (.bool (false))] rfl ⟨?_, ?_, ?_, ?_, ?_, ?_, ?_, ?_, ?_, ?_, ?_, ?_, ?_, ?_, ?_, ?_, ?_, ?_, trivial⟩ ?_
      · refine stepE rfl fun sdn sa sw sE sd sk => ?_
        have h0 : sa.eval (.tmp 0) = .pointer (some ⟨q, 0, none⟩) := sk.old 0 rfl
        exact Runs.move rfl h0 ⟨Ext.refl _, rfl⟩
      · refine stepE rfl fun sdn sa sw sE sd sk => ?_
        have h3 : sa.eval (.tmp 3) = .pointer (some ⟨q, 0, none⟩) := sk.fact 0 3 rfl (sd 0 rfl)
        exact Runs.nil_ rfl h3 ⟨Ext.refl _, rfl⟩
      · refine stepE rfl fun sdn sa sw sE sd sk => ?_
        have h4 : sa.eval (.tmp 4) = .pointer (some ⟨q, 0, none⟩) := sk.fact 1 4 rfl (sd 1 rfl)
        refine Runs.of_run (r := .pointer (some ⟨q, 2, none⟩)) (w' := sw) ?_ ⟨Ext.refl _, rfl⟩
        unfold execOp
        simp only [h4]
        go_simp
      · refine stepE rfl fun sdn sa sw sE sd sk => ?_
        have h5 : sa.eval (.tmp 5) = .pointer (some ⟨q, 2, none⟩) := sk.fact 2 5 rfl (sd 2 rfl)
        exact Runs.load rfl h5 (run_load1 Try.underlying4 rfl ((hB.ext sE).cell (i := 2) rfl)) ⟨Ext.refl _, rfl⟩
      · refine stepE rfl fun sdn sa sw sE sd sk => ?_
        have h6 : sa.eval (.tmp 6) = .bool (false) := sk.fact 3 6 rfl (sd 3 rfl)
        exact Runs.un rfl h6 (by rfl) ⟨Ext.refl _, rfl⟩
      · refine stepE rfl fun sdn sa sw sE sd sk => ?_
        have h7 : sa.eval (.tmp 7) = .bool (true) := sk.fact 4 7 rfl (sd 4 rfl)
        exact Runs.move rfl h7 ⟨Ext.refl _, rfl⟩
      · refine stepY (j := 5) (d := 8) (b := true) rfl rfl rfl (fun v w h => h) fun sdn sa sw sE sd sk => ?_
        have h0 : sa.eval (.tmp 0) = .pointer (some ⟨q, 0, none⟩) := sk.old 0 rfl
        exact Runs.move rfl h0 ⟨Ext.refl _, rfl⟩
      · refine stepY (j := 5) (d := 8) (b := true) rfl rfl rfl (fun v w h => h) fun sdn sa sw sE sd sk => ?_
        have h9 : sa.eval (.tmp 9) = .pointer (some ⟨q, 0, none⟩) := sk.fact 6 9 rfl (sd 6 rfl)
        exact Runs.nil_ rfl h9 ⟨Ext.refl _, rfl⟩
      · refine stepY (j := 5) (d := 8) (b := true) rfl rfl rfl (fun v w h => h) fun sdn sa sw sE sd sk => ?_
        have h10 : sa.eval (.tmp 10) = .pointer (some ⟨q, 0, none⟩) := sk.fact 7 10 rfl (sd 7 rfl)
        refine Runs.of_run (r := .pointer (some ⟨q, 1, none⟩)) (w' := sw) ?_ ⟨Ext.refl _, rfl⟩
        unfold execOp
        simp only [h10]
        go_simp
      · refine stepY (j := 5) (d := 8) (b := true) rfl rfl rfl (fun v w h => h) fun sdn sa sw sE sd sk => ?_
        have h11 : sa.eval (.tmp 11) = .pointer (some ⟨q, 1, none⟩) := sk.fact 8 11 rfl (sd 8 rfl)
        exact Runs.load rfl h11 (run_load1 Try.underlying3 rfl ((hB.ext sE).cell (i := 1) rfl)) ⟨Ext.refl _, rfl⟩
      · refine stepY (j := 5) (d := 8) (b := true) rfl rfl rfl (fun v w h => h) fun sdn sa sw sE sd sk => ?_
        have h0 : sa.eval (.tmp 0) = .pointer (some ⟨q, 0, none⟩) := sk.old 0 rfl
        exact Runs.move rfl h0 ⟨Ext.refl _, rfl⟩
      · refine stepY (j := 5) (d := 8) (b := true) rfl rfl rfl (fun v w h => h) fun sdn sa sw sE sd sk => ?_
        have h13 : sa.eval (.tmp 13) = .pointer (some ⟨q, 0, none⟩) := sk.fact 10 13 rfl (sd 10 rfl)
        exact Runs.nil_ rfl h13 ⟨Ext.refl _, rfl⟩
      · refine stepY (j := 5) (d := 8) (b := true) rfl rfl rfl (fun v w h => h) fun sdn sa sw sE sd sk => ?_
        have h14 : sa.eval (.tmp 14) = .pointer (some ⟨q, 0, none⟩) := sk.fact 11 14 rfl (sd 11 rfl)
        refine Runs.of_run (r := .pointer (some ⟨q, 0, none⟩)) (w' := sw) ?_ ⟨Ext.refl _, rfl⟩
        unfold execOp
        simp only [h14]
        go_simp
      · refine stepY (j := 5) (d := 8) (b := true) rfl rfl rfl (fun v w h => h) fun sdn sa sw sE sd sk => ?_
        have h15 : sa.eval (.tmp 15) = .pointer (some ⟨q, 0, none⟩) := sk.fact 12 15 rfl (sd 12 rfl)
        exact Runs.load rfl h15 (run_load1 Try.underlying22 rfl ((hB.ext sE).cell (i := 0) rfl)) ⟨Ext.refl _, rfl⟩
      · refine stepY (j := 5) (d := 8) (b := true) rfl rfl rfl (fun v w h => h) fun sdn sa sw sE sd sk => ?_
        have h16 : sa.eval (.tmp 16) = .slice (A) (n) (c) := sk.fact 13 16 rfl (sd 13 rfl)
        exact Runs.len Try.underlying22 rfl h16 ⟨Ext.refl _, rfl⟩
      · refine stepY (j := 5) (d := 8) (b := true) rfl rfl rfl (fun v w h => h) fun sdn sa sw sE sd sk => ?_
        have h12 : sa.eval (.tmp 12) = .int .i64 (((At : Nat) : Int)) := sk.fact 9 12 rfl (sd 9 rfl)
        have h17 : sa.eval (.tmp 17) = .int .i64 ((n : Nat)) := sk.fact 14 17 rfl (sd 14 rfl)
        exact Runs.bin rfl h12 h17 (by rfl) (bin_eql _ _ _ _) ⟨Ext.refl _, congrArg Value.bool (decide_eq_false (by omega))⟩
      · refine stepE rfl fun sdn sa sw sE sd sk => ?_
        have h8 : sa.eval (.tmp 8) = .bool (true) := sk.fact 5 8 rfl (sd 5 rfl)
        have h18 : sa.eval (.tmp 18) = .bool (false) := sk.fact 15 18 rfl (sd 15 rfl)
        exact Runs.pick rfl h8 ⟨Ext.refl _, by first | exact h18 | simpa using h18⟩
      · refine stepE rfl fun sdn sa sw sE sd sk => ?_
        have h19 : sa.eval (.tmp 19) = .bool (false) := sk.fact 16 19 rfl (sd 16 rfl)
        exact Runs.assign rfl h19 ⟨Ext.refl _, rfl⟩
      intro vals W1 hE hv
      have e0 : vals 0 = .pointer (some ⟨q, 0, none⟩) := hv 0 (by omega) 3 rfl
      have e1 : vals 1 = .pointer (some ⟨q, 0, none⟩) := hv 1 (by omega) 4 rfl
      have e2 : vals 2 = .pointer (some ⟨q, 2, none⟩) := hv 2 (by omega) 5 rfl
      have e3 : vals 3 = .bool (false) := hv 3 (by omega) 6 rfl
      have e4 : vals 4 = .bool (true) := hv 4 (by omega) 7 rfl
      have e5 : vals 5 = .bool (true) := hv 5 (by omega) 8 rfl
      have e6 : vals 6 = .pointer (some ⟨q, 0, none⟩) := hv 6 (by omega) 9 rfl
      have e7 : vals 7 = .pointer (some ⟨q, 0, none⟩) := hv 7 (by omega) 10 rfl
      have e8 : vals 8 = .pointer (some ⟨q, 1, none⟩) := hv 8 (by omega) 11 rfl
      have e9 : vals 9 = .int .i64 (((At : Nat) : Int)) := hv 9 (by omega) 12 rfl
      have e10 : vals 10 = .pointer (some ⟨q, 0, none⟩) := hv 10 (by omega) 13 rfl
      have e11 : vals 11 = .pointer (some ⟨q, 0, none⟩) := hv 11 (by omega) 14 rfl
      have e12 : vals 12 = .pointer (some ⟨q, 0, none⟩) := hv 12 (by omega) 15 rfl
      have e13 : vals 13 = .slice (A) (n) (c) := hv 13 (by omega) 16 rfl
      have e14 : vals 14 = .int .i64 ((n : Nat)) := hv 14 (by omega) 17 rfl
      have e15 : vals 15 = .bool (false) := hv 15 (by omega) 18 rfl
      have e16 : vals 16 = .bool (false) := hv 16 (by omega) 19 rfl
      have e17 : vals 17 = .bool (false) := hv 17 (by omega) 2 rfl
      simp only [putAll, Act.put, List.take_succ_cons, List.take_zero, List.drop_succ_cons, List.drop_zero, List.drop_nil, List.take_nil, Nat.reduceAdd, List.setIfInBounds_toArray, List.set_cons_succ, List.set_cons_zero, e0, e1, e2, e3, e4, e5, e6, e7, e8, e9, e10, e11, e12, e13, e14, e15, e16, e17]
      clear hv e0 e1 e2 e3 e4 e5 e6 e7 e8 e9 e10 e11 e12 e13 e14 e15 e16 e17
      go_wp2_with fail
      go_ret
      exact ⟨rfl, hE⟩
  · clear hL hL2 hl
    go_enter Try.func94, Try.ntmps94
    go_upto_region 1 with (fail)
    refine par_ext (n := 18) (by kernel_rfl) [.is (.pointer (some ⟨q, 0, none⟩)), .is (.pointer (some ⟨q, 0, none⟩)), .is (.pointer (some ⟨q, 2, none⟩)), .is (.bool (true)), .is (.bool (false)), .is (.bool (false)), .is undef, .is undef, .is undef, .is undef, .is undef, .is undef, .is undef, .is undef, .is undef, .is undef, .is (.bool (false)), .is (.bool (false))] rfl ⟨?_, ?_, ?_, ?_, ?_, ?_, ?_, ?_, ?_, ?_, ?_, ?_, ?_, ?_, ?_, ?_, ?_, ?_, trivial⟩ ?_
    · refine stepE rfl fun sdn sa sw sE sd sk => ?_
      have h0 : sa.eval (.tmp 0) = .pointer (some ⟨q, 0, none⟩) := sk.old 0 rfl
      exact Runs.move rfl h0 ⟨Ext.refl _, rfl⟩
    · refine stepE rfl fun sdn sa sw sE sd sk => ?_
      have h3 : sa.eval (.tmp 3) = .pointer (some ⟨q, 0, none⟩) := sk.fact 0 3 rfl (sd 0 rfl)
      exact Runs.nil_ rfl h3 ⟨Ext.refl _, rfl⟩
    · refine stepE rfl fun sdn sa sw sE sd sk => ?_
      have h4 : sa.eval (.tmp 4) = .pointer (some ⟨q, 0, none⟩) := sk.fact 1 4 rfl (sd 1 rfl)
      refine Runs.of_run (r := .pointer (some ⟨q, 2, none⟩)) (w' := sw) ?_ ⟨Ext.refl _, rfl⟩
      unfold execOp
      simp only [h4]
      go_simp
    · refine stepE rfl fun sdn sa sw sE sd sk => ?_
      have h5 : sa.eval (.tmp 5) = .pointer (some ⟨q, 2, none⟩) := sk.fact 2 5 rfl (sd 2 rfl)
      exact Runs.load rfl h5 (run_load1 Try.underlying4 rfl ((hB.ext sE).cell (i := 2) rfl)) ⟨Ext.refl _, rfl⟩
    · refine stepE rfl fun sdn sa sw sE sd sk => ?_
      have h6 : sa.eval (.tmp 6) = .bool (true) := sk.fact 3 6 rfl (sd 3 rfl)
      exact Runs.un rfl h6 (by rfl) ⟨Ext.refl _, rfl⟩
    · refine stepE rfl fun sdn sa sw sE sd sk => ?_
      have h7 : sa.eval (.tmp 7) = .bool (false) := sk.fact 4 7 rfl (sd 4 rfl)
      exact Runs.move rfl h7 ⟨Ext.refl _, rfl⟩
    · exact stepN (j := 5) (d := 8) (b := false) rfl rfl rfl (fun v w h => h) fun w => rfl
    · exact stepN (j := 5) (d := 8) (b := false) rfl rfl rfl (fun v w h => h) fun w => rfl
    · exact stepN (j := 5) (d := 8) (b := false) rfl rfl rfl (fun v w h => h) fun w => rfl
    · exact stepN (j := 5) (d := 8) (b := false) rfl rfl rfl (fun v w h => h) fun w => rfl
    · exact stepN (j := 5) (d := 8) (b := false) rfl rfl rfl (fun v w h => h) fun w => rfl
    · exact stepN (j := 5) (d := 8) (b := false) rfl rfl rfl (fun v w h => h) fun w => rfl
    · exact stepN (j := 5) (d := 8) (b := false) rfl rfl rfl (fun v w h => h) fun w => rfl
    · exact stepN (j := 5) (d := 8) (b := false) rfl rfl rfl (fun v w h => h) fun w => rfl
    · exact stepN (j := 5) (d := 8) (b := false) rfl rfl rfl (fun v w h => h) fun w => rfl
    · exact stepN (j := 5) (d := 8) (b := false) rfl rfl rfl (fun v w h => h) fun w => rfl
    · refine stepE rfl fun sdn sa sw sE sd sk => ?_
      have h8 : sa.eval (.tmp 8) = .bool (false) := sk.fact 5 8 rfl (sd 5 rfl)
      exact Runs.pick rfl h8 ⟨Ext.refl _, rfl⟩
    · refine stepE rfl fun sdn sa sw sE sd sk => ?_
      have h19 : sa.eval (.tmp 19) = .bool (false) := sk.fact 16 19 rfl (sd 16 rfl)
      exact Runs.assign rfl h19 ⟨Ext.refl _, rfl⟩
    intro vals W1 hE hv
    have e0 : vals 0 = .pointer (some ⟨q, 0, none⟩) := hv 0 (by omega) 3 rfl
    have e1 : vals 1 = .pointer (some ⟨q, 0, none⟩) := hv 1 (by omega) 4 rfl
    have e2 : vals 2 = .pointer (some ⟨q, 2, none⟩) := hv 2 (by omega) 5 rfl
    have e3 : vals 3 = .bool (true) := hv 3 (by omega) 6 rfl
    have e4 : vals 4 = .bool (false) := hv 4 (by omega) 7 rfl
    have e5 : vals 5 = .bool (false) := hv 5 (by omega) 8 rfl
    have e16 : vals 16 = .bool (false) := hv 16 (by omega) 19 rfl
    have e17 : vals 17 = .bool (false) := hv 17 (by omega) 2 rfl
    simp only [putAll, Act.put, List.take_succ_cons, List.take_zero, List.drop_succ_cons, List.drop_zero, List.drop_nil, List.take_nil, Nat.reduceAdd, List.setIfInBounds_toArray, List.set_cons_succ, List.set_cons_zero, e0, e1, e2, e3, e4, e5, e16, e17]
    clear hv e0 e1 e2 e3 e4 e5 e16 e17
    go_wp2_with fail
    go_ret
    exact ⟨rfl, hE⟩
set_option maxHeartbeats 1000000 in
theorem r1rbytes_any (w : World) (base q : Nat) (L : List UInt8) (bad : Bool) (most : Int) (hR : RR w base q L bad) (hm : 0 ≤ most) (hm2 : most ≤ 1000000) :
    Calls Try.prog 93 #[.pointer (some ⟨q, 0, none⟩), .int .i64 most] w fun e w' => (∃ B m d, e = .returned (.slice B m d) ∧ OB w' w.heap.size B m d (rbytes L bad most).1) ∧ RR w' base q (rbytes L bad most).2.1 (rbytes L bad most).2.2 ∧ w.grownBy w' (some q) := by
  have hc := fun w' : World => conv_u32_i64 (P := Try.prog) (w := w') Try.underlying25 Try.underlying3 (beNum (rtake L bad 2).1)
  obtain ⟨x, hx⟩ : ∃ x, x = beNum (rtake L bad 2).1 := ⟨_, rfl⟩
  have hx0 := u32i_lo x
  have hx1 := u32i_hi x
  rw [← hx] at hc
  have Hx := Lib.hid hx
  clear hx
  by_cases ho : most < u32i x
  · have hrb : rbytes L bad most = ([], [], true) := by
      have h1 : max most 0 < u32i x := by omega
      unfold rbytes
      rw [← Hx.out, if_pos h1]
      unfold rtake
      rw [if_pos (.inr (.inl (by decide)))]
    rw [hrb]
    have hpos : 0 < u32i x := by omega
    clear hrb
    go_enter Try.func93, Try.ntmps93
    go_wp2_with fail
    refine (r1number_any w base q L bad 2 hR).mono ?_
    rintro e w1 ⟨rfl, hR1, g1⟩
    rw [← Hx.out]
    obtain ⟨A, n, c, At, B, hB, hr, hAt, hn, hbq, hL, hL2, hbl⟩ := hR1
    have y2 := hB.cell (i := 2) rfl
    have z2 := hB.frozen 2
    have g2 := grownBy_setCell w1 ⟨q, 2, none⟩ (.bool true)
    have hR2 : RR (w1.setCell ⟨q, 2, none⟩ (.bool true)) base q [] true := ⟨A, n, c, At, B, hB.set 2 (.bool true), hr.grown g2 (hr.apart hB (rd_no _ _ _ _ _)), hAt, hn, hbq, (fun h => by cases h), fun _ => rfl, hbl⟩
    clear hB hr hL hL2
    go_wp2_with fail
    refine (r1raw_no _ base q [] true _ hR2 (.inl rfl)).mono ?_
    rintro e w2 ⟨rfl, hR3, g3⟩
    go_wp2_with fail
    go_ret
    exact ⟨⟨none, 0, 0, rfl, OB.none_ _ _⟩, hR3, (g1.trans g2).trans g3⟩
  · obtain ⟨T, hT⟩ : ∃ T, T = rtake L bad 2 := ⟨_, rfl⟩
    obtain ⟨V, hV⟩ : ∃ V, V = rtake T.2.1 T.2.2 (u32i x) := ⟨_, rfl⟩
    have hrb : rbytes L bad most = V := by
      have h1 : ¬ max most 0 < u32i x := by omega
      unfold rbytes
      rw [← Hx.out, if_neg h1, ← hT, hV]
    rw [hrb]
    have HT := Lib.hid hT
    have HV := Lib.hid hV
    clear hrb hT hV
    go_enter Try.func93, Try.ntmps93
    go_wp2_with fail
    refine (r1number_any w base q L bad 2 hR).mono ?_
    rintro e w1 ⟨rfl, hR1, g1⟩
    rw [← Hx.out]
    rw [← HT.out] at hR1
    have d1 : decide (most < u32i x) = false := by rw [decide_eq_false_iff_not]; omega
    clear ho hm hm2 hx0 hx1
    go_wp2_with fail
    refine (r1raw_any w1 base q _ _ (u32i x) hR1).mono ?_
    rintro e w2 ⟨⟨B, m, d, rfl, own⟩, hR3, g3⟩
    rw [← HV.out] at own hR3
    go_wp2_with fail
    go_ret
    exact ⟨⟨B, m, d, rfl, own.base g1.size⟩, hR3, g1.trans g3⟩
end Go.Proofs.Ytmgnigofilkfmab
