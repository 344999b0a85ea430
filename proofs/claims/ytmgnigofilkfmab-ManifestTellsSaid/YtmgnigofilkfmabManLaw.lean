/-
  Manifests in plain Lean: what is written is read again; what is read is written so; cut or longer it is none.
-/
import Derived.Test.YtmgnigofilkfmabManPure
namespace Go.Proofs.Ytmgnigofilkfmab
set_option maxRecDepth 100000
theorem or8_toNat (x : UInt32) (c : UInt8) : (shl x 8 ||| c.toUInt32).toNat = x.toNat * 256 % 4294967296 + c.toNat := by
  rw [UInt32.toNat_or, shl_toNat, UInt8.toNat_toUInt32]
  have hc := c.toNat_lt
  have e : x.toNat * 2 ^ 8 % 4294967296 = 2 ^ 8 * (x.toNat % 16777216) := by omega
  have e2 := Nat.two_pow_add_eq_or_of_lt (i := 8) (b := c.toNat) (by omega) (x.toNat % 16777216)
  have e3 : x.toNat * 256 % 4294967296 = 2 ^ 8 * (x.toNat % 16777216) := by omega
  rw [e3, e2]
theorem beNum2 (a b : UInt8) : (beNum [a, b]).toNat = a.toNat * 256 + b.toNat := by
  have h1 := or8_toNat (shl 0 8 ||| a.toUInt32) b
  have h2 := or8_toNat 0 a
  have h3 := a.toNat_lt
  have e : beNum [a, b] = (shl (shl 0 8 ||| a.toUInt32) 8 ||| b.toUInt32) := rfl
  have h0 : (0 : UInt32).toNat = 0 := rfl
  rw [e, h1, h2, h0]
  omega
theorem beNum4 (a b c d : UInt8) : (beNum [a, b, c, d]).toNat = ((a.toNat * 256 + b.toNat) * 256 + c.toNat) * 256 + d.toNat := by
  have h1 := or8_toNat (beNum [a, b, c]) d
  have h2 := or8_toNat (beNum [a, b]) c
  have h3 := beNum2 a b
  have ha := a.toNat_lt
  have hb := b.toNat_lt
  have hc := c.toNat_lt
  have e : beNum [a, b, c, d] = (shl (beNum [a, b, c]) 8 ||| d.toUInt32) := rfl
  have e2 : beNum [a, b, c] = (shl (beNum [a, b]) 8 ||| c.toUInt32) := rfl
  rw [e, h1, e2, h2, h3]
  omega
theorem beBytes4 (x : UInt32) : beBytes x 4 = [(shr x 24).toUInt8, (shr x 16).toUInt8, (shr x 8).toUInt8, (shr x 0).toUInt8] := rfl
theorem beBytes2 (x : UInt32) : beBytes x 2 = [(shr x 8).toUInt8, (shr x 0).toUInt8] := rfl
theorem byteAt (x : UInt32) (k : Nat) : (shr x k).toUInt8.toNat = x.toNat / 2 ^ k % 256 := by
  rw [UInt32.toNat_toUInt8, shr_toNat]
theorem beNum_beBytes4 (x : UInt32) : beNum (beBytes x 4) = x := by
  rw [← UInt32.toNat_inj, beBytes4, beNum4, byteAt _ _, byteAt _ _, byteAt _ _, byteAt _ _]
  have := x.toNat_lt
  omega
theorem beNum_be2 (n : Nat) (hn : n < 65536) : (beNum (be2 n)).toNat = n := by
  unfold be2
  have e : (UInt32.ofNat n).toNat = n := by rw [UInt32.toNat_ofNat']; exact Nat.mod_eq_of_lt (by omega)
  rw [beBytes2, beNum2, byteAt _ _, byteAt _ _, e]
  omega
theorem be2_length (n : Nat) : (be2 n).length = 2 := beBytes_length _ _
theorem len2 {l : List UInt8} (h : l.length = 2) : ∃ a b, l = [a, b] := by
  match l, h with
  | [a, b], _ => exact ⟨a, b, rfl⟩
theorem len4 {l : List UInt8} (h : l.length = 4) : ∃ a b c d, l = [a, b, c, d] := by
  match l, h with
  | [a, b, c, d], _ => exact ⟨a, b, c, d, rfl⟩
theorem len1 {l : List UInt8} (h : l.length = 1) : ∃ a, l = [a] := by
  match l, h with
  | [a], _ => exact ⟨a, rfl⟩
theorem beBytes_beNum4 {l : List UInt8} (h : l.length = 4) : beBytes (beNum l) 4 = l := by
  obtain ⟨a, b, c, d, rfl⟩ := len4 h
  have ha := a.toNat_lt
  have hb := b.toNat_lt
  have hc := c.toNat_lt
  have hd := d.toNat_lt
  have e := beNum4 a b c d
  rw [beBytes4]
  congr 1
  · rw [← UInt8.toNat_inj, byteAt _ _, e]; omega
  congr 1
  · rw [← UInt8.toNat_inj, byteAt _ _, e]; omega
  congr 1
  · rw [← UInt8.toNat_inj, byteAt _ _, e]; omega
  congr 1
  · rw [← UInt8.toNat_inj, byteAt _ _, e]; omega
theorem be2_beNum {l : List UInt8} (h : l.length = 2) : be2 (beNum l).toNat = l := by
  obtain ⟨a, b, rfl⟩ := len2 h
  have ha := a.toNat_lt
  have hb := b.toNat_lt
  have e := beNum2 a b
  have e2 : (UInt32.ofNat (beNum [a, b]).toNat).toNat = a.toNat * 256 + b.toNat := by rw [UInt32.toNat_ofNat', e]; omega
  unfold be2
  rw [beBytes2]
  congr 1
  · rw [← UInt8.toNat_inj, byteAt _ _, e2]; omega
  congr 1
  · rw [← UInt8.toNat_inj, byteAt _ _, e2]; omega
/-- what is there is taken -/
theorem rtake_app (X Y : List UInt8) (z : Int) (hz : z = X.length) : rtake (X ++ Y) false z = (X, Y, false) := by
  subst hz
  unfold rtake
  rw [if_neg (by simp; omega)]
  simp
theorem rbytes_app (X Y : List UInt8) (most : Int) (hm : (X.length : Int) ≤ most) (hl : X.length < 65536) : rbytes (be2 X.length ++ X ++ Y) false most = (X, Y, false) := by
  unfold rbytes
  rw [List.append_assoc, rtake_app (be2 X.length) (X ++ Y) 2 (by rw [be2_length]; rfl)]
  have e : u32i (beNum (be2 X.length)) = X.length := by unfold u32i; rw [beNum_be2 _ hl]
  simp only [e]
  rw [if_neg (by omega)]
  exact rtake_app X Y _ rfl
theorem rtake_bad (L : List UInt8) (z : Int) : rtake L true z = ([], [], true) := by unfold rtake; simp
theorem rtake_back {L : List UInt8} {bad : Bool} {z : Int} (h : (rtake L bad z).2.2 = false) : bad = false ∧ L = (rtake L bad z).1 ++ (rtake L bad z).2.1 ∧ ((rtake L bad z).1.length : Int) = z := by
  unfold rtake at h ⊢
  by_cases hc : bad = true ∨ z < 0 ∨ (L.length : Int) < z
  · rw [if_pos hc] at h; cases h
  · rw [if_neg hc]
    refine ⟨?_, ?_, ?_⟩
    · cases bad with
      | false => rfl
      | true => exact absurd (.inl rfl) hc
    · simp
    · have : ¬ (L.length : Int) < z := fun h => hc (.inr (.inr h))
      have : ¬ z < 0 := fun h => hc (.inr (.inl h))
      simp
      omega
theorem rbytes_back {L : List UInt8} {bad : Bool} {most : Int} (h : (rbytes L bad most).2.2 = false) : bad = false ∧ L = be2 (rbytes L bad most).1.length ++ (rbytes L bad most).1 ++ (rbytes L bad most).2.1 := by
  unfold rbytes at h ⊢
  obtain ⟨h1, h2, h3⟩ := rtake_back h
  obtain ⟨h4, h5, h6⟩ := rtake_back h1
  refine ⟨h4, ?_⟩
  generalize rtake L bad 2 = t at *
  have hz : ¬ max most 0 < u32i (beNum t.1) := by
    intro hc
    rw [if_pos hc] at h3
    omega
  rw [if_neg hz] at h3 h2 ⊢
  generalize rtake t.2.1 t.2.2 (u32i (beNum t.1)) = s at *
  have e : s.1.length = (beNum t.1).toNat := by unfold u32i at h3; omega
  rw [e, be2_beNum (by omega), List.append_assoc, ← h2]
  exact h5
theorem right_is {m : Man} (h : rightM m = true) : (1 ≤ m.name.length ∧ m.name.length ≤ 20 ∧ m.name.all letter = true) ∧ 0 < u32i m.ver ∧ m.fw.length = 32 ∧ m.notes.length ≤ 64 := by
  unfold rightM nameOK at h
  simp only [Bool.and_eq_true, decide_eq_true_eq] at h
  exact ⟨⟨h.1.1.1.1.1, h.1.1.1.1.2, h.1.1.1.2⟩, h.1.1.2, h.1.2, h.2⟩
theorem read_enc {m : Man} (h : rightM m = true) (r : List UInt8) : readM (encM m ++ r) = ⟨77, m, r, false⟩ := by
  obtain ⟨⟨h1, h2, h3⟩, h4, h5, h6⟩ := right_is h
  have e : encM m ++ r = [77] ++ (be2 m.name.length ++ m.name ++ (beBytes m.ver 4 ++ (m.fw ++ (be2 m.notes.length ++ m.notes ++ r)))) := by simp [encM, List.append_assoc]
  rw [e]
  unfold readM
  rw [rtake_app [77] _ 1 rfl]
  dsimp only
  rw [rbytes_app m.name _ 20 (by omega) (by omega)]
  dsimp only
  rw [rtake_app (beBytes m.ver 4) _ 4 (by rw [beBytes_length]; rfl)]
  dsimp only
  rw [rtake_app m.fw _ 32 (by rw [h5]; rfl)]
  dsimp only
  rw [rbytes_app m.notes _ 64 (by omega) (by omega), beNum_beBytes4]
  rfl
theorem dec_app {m : Man} (h : rightM m = true) (r : List UInt8) : decOK (encM m ++ r) = r.isEmpty := by
  unfold decOK
  rw [read_enc h]
  simp [h]
theorem dec_enc {m : Man} (h : rightM m = true) : decOK (encM m) = true := by
  have := dec_app h []
  simpa using this
theorem dec_man {m : Man} (h : rightM m = true) : (readM (encM m)).man = m := by
  have := read_enc h []
  rw [List.append_nil] at this
  rw [this]
theorem dec_back {b : List UInt8} (h : decOK b = true) : rightM (readM b).man = true ∧ encM (readM b).man = b := by
  unfold decOK at h
  simp only [Bool.and_eq_true, decide_eq_true_eq, Bool.not_eq_true', List.isEmpty_iff] at h
  obtain ⟨⟨h1, h2, h3⟩, h4⟩ := h
  refine ⟨h4, ?_⟩
  unfold readM at h1 h2 h3 ⊢
  dsimp only at h1 h2 h3 ⊢
  obtain ⟨a4, a5⟩ := rbytes_back h2
  obtain ⟨b4, b5, b6⟩ := rtake_back a4
  obtain ⟨c4, c5, c6⟩ := rtake_back b4
  obtain ⟨d4, d5⟩ := rbytes_back c4
  obtain ⟨_, e5, e6⟩ := rtake_back d4
  generalize rtake b false 1 = t1 at *
  generalize rbytes t1.2.1 t1.2.2 20 = t2 at *
  generalize rtake t2.2.1 t2.2.2 4 = t3 at *
  generalize rtake t3.2.1 t3.2.2 32 = t4 at *
  generalize rbytes t4.2.1 t4.2.2 64 = t5 at *
  have f1 : t1.1 = [77] := by
    obtain ⟨x, hx⟩ := len1 (by omega : t1.1.length = 1)
    rw [hx] at h1 ⊢
    have e : (beNum [x]).toUInt8 = x := by
      rw [← UInt8.toNat_inj, UInt32.toNat_toUInt8, show beNum [x] = (shl 0 8 ||| x.toUInt32) from rfl, or8_toNat]
      have := x.toNat_lt
      have h0 : (0 : UInt32).toNat = 0 := rfl
      rw [h0]
      omega
    rw [e] at h1
    rw [h1]
  have f3 : beBytes (beNum t3.1) 4 = t3.1 := beBytes_beNum4 (by omega)
  unfold encM
  dsimp only
  rw [f3]
  rw [h3, List.append_nil] at a5
  rw [← a5]
  rw [e5, f1, d5, c5, b5]
  simp only [List.append_assoc]
theorem dec_cut {m : Man} (h : rightM m = true) {k : Nat} (hk : k < (encM m).length) : decOK ((encM m).take k) = false := by
  cases hd : decOK ((encM m).take k) with
  | false => rfl
  | true =>
    obtain ⟨h1, h2⟩ := dec_back hd
    have h3 := read_enc h1 ((encM m).drop k)
    rw [h2, List.take_append_drop] at h3
    have h4 := read_enc h []
    rw [List.append_nil, h3] at h4
    have h5 : (encM m).drop k = [] := congrArg Dec.left h4
    have := congrArg List.length h5
    simp at this
    omega
theorem enc_length (m : Man) : (encM m).length = 9 + m.name.length + m.fw.length + m.notes.length := by
  unfold encM
  simp only [List.length_append, beBytes_length, be2_length, List.length_cons, List.length_nil]
  omega
end Go.Proofs.Ytmgnigofilkfmab
