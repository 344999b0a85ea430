/-
  SHA-256 over Nat is sha: words and bytes as numbers, a block, the blocks. SHA-256 over Nat is sha: any text; the tagged sums.
-/
import Derived.Test.YthggfbpdhkpkjaaLawNumbers11Q33
namespace Go.Proofs.Ythggfbpdhkpkjaa
set_option maxRecDepth 100000
/-! numbers of digits -/
def vb (b : Nat) (L : List Nat) : Nat := L.foldl (fun a d => a * b + d) 0
theorem vb_go (b : Nat) : ∀ (L : List Nat) (a : Nat), L.foldl (fun a d => a * b + d) a = a * b ^ L.length + vb b L
  | [], a => by simp [vb]
  | d :: L, a => by
    have h1 := vb_go b L (a * b + d)
    have h2 := vb_go b L (0 * b + d)
    show L.foldl _ (a * b + d) = a * b ^ (L.length + 1) + L.foldl _ (0 * b + d)
    rw [h1, h2, Nat.pow_succ, Nat.zero_mul, Nat.zero_add, Nat.add_mul, Nat.mul_assoc, Nat.mul_comm b]
    omega
theorem vb_append (b : Nat) (A B : List Nat) : vb b (A ++ B) = vb b A * b ^ B.length + vb b B := by
  unfold vb
  rw [List.foldl_append, vb_go]
  rfl
theorem vb_lt (b : Nat) (hb : 0 < b) : ∀ (L : List Nat), (∀ d ∈ L, d < b) → vb b L < b ^ L.length
  | [], _ => by simp [vb]
  | d :: L, h => by
    have h1 := vb_lt b hb L (fun x hx => h x (List.mem_cons_of_mem _ hx))
    have hd := h d (List.mem_cons_self ..)
    have h2 : vb b (d :: L) = d * b ^ L.length + vb b L := by
      show L.foldl _ (0 * b + d) = _
      rw [vb_go, Nat.zero_mul, Nat.zero_add]
    rw [h2, List.length_cons, Nat.pow_succ, Nat.mul_comm _ b]
    calc d * b ^ L.length + vb b L < d * b ^ L.length + b ^ L.length := by omega
      _ = (d + 1) * b ^ L.length := by rw [Nat.add_mul, Nat.one_mul]
      _ ≤ b * b ^ L.length := Nat.mul_le_mul_right _ hd
theorem vb_mid (b : Nat) (hb : 0 < b) (A B C : List Nat) (hB : ∀ d ∈ B, d < b) (hC : ∀ d ∈ C, d < b) : vb b (A ++ (B ++ C)) / b ^ C.length % b ^ B.length = vb b B := by
  have h1 := vb_lt b hb C hC
  have h2 := vb_lt b hb B hB
  rw [vb_append, vb_append, List.length_append, Nat.pow_add, ← Nat.mul_assoc, ← Nat.add_assoc, ← Nat.add_mul, Nat.add_comm, Nat.add_mul_div_right _ _ (Nat.pow_pos hb),
    Nat.div_eq_of_lt h1, Nat.zero_add, Nat.mul_add_mod', Nat.mod_eq_of_lt h2]
def vl (L : List UInt8) : Nat := vb 256 (L.map UInt8.toNat)
def vw (l : List UInt32) : Nat := vb 4294967296 (l.map UInt32.toNat)
theorem u8_dig (L : List UInt8) : ∀ d ∈ L.map UInt8.toNat, d < 256 := by
  intro d hd
  obtain ⟨x, _, rfl⟩ := List.mem_map.1 hd
  exact x.toNat_lt
theorem u32_dig (L : List UInt32) : ∀ d ∈ L.map UInt32.toNat, d < 4294967296 := by
  intro d hd
  obtain ⟨x, _, rfl⟩ := List.mem_map.1 hd
  exact x.toNat_lt
theorem vl_append (A B : List UInt8) : vl (A ++ B) = vl A * 256 ^ B.length + vl B := by
  unfold vl
  rw [List.map_append, vb_append, List.length_map]
theorem vl_lt (L : List UInt8) : vl L < 256 ^ L.length := by
  have := vb_lt 256 (by omega) _ (u8_dig L)
  rwa [List.length_map] at this
theorem or_add (x n y : Nat) (hy : y < 2 ^ n) : Nat.lor (x * 2 ^ n) y = x * 2 ^ n + y := by
  have := Nat.two_pow_add_eq_or_of_lt hy x
  rw [Nat.mul_comm] at this
  exact this.symm
theorem be4_toNat (a b c d : UInt8) : (be4 a b c d).toNat = ((a.toNat * 256 + b.toNat) * 256 + c.toNat) * 256 + d.toNat := by
  have ha := a.toNat_lt
  have hb := b.toNat_lt
  have hc := c.toNat_lt
  have hd := d.toNat_lt
  unfold be4
  rw [UInt32.toNat_or, UInt32.toNat_or, UInt32.toNat_or, shl_toNat, shl_toNat, shl_toNat]
  simp only [UInt8.toNat_toUInt32]
  rw [Nat.mod_eq_of_lt (by omega), Nat.mod_eq_of_lt (by omega), Nat.mod_eq_of_lt (by omega)]
  show Nat.lor (Nat.lor (Nat.lor (a.toNat * 2 ^ 24) (b.toNat * 2 ^ 16)) (c.toNat * 2 ^ 8)) d.toNat = _
  rw [or_add a.toNat 24 _ (by omega)]
  rw [show a.toNat * 2 ^ 24 + b.toNat * 2 ^ 16 = (a.toNat * 256 + b.toNat) * 2 ^ 16 by omega, or_add _ 16 _ (by omega)]
  rw [show (a.toNat * 256 + b.toNat) * 2 ^ 16 + c.toNat * 2 ^ 8 = ((a.toNat * 256 + b.toNat) * 256 + c.toNat) * 2 ^ 8 by omega, or_add _ 8 _ (by omega)]
theorem word_st (h : List UInt32) (hh : h.length = 8) (i : Nat) (hi : i < 8) (p : Nat) (hp : p = 4294967296 ^ (7 - i)) : Nat.mod (Nat.div (vw h) p) (nat_lit 4294967296) = (uw h i).toNat := by
  have e : h = h.take i ++ ([uw h i] ++ h.drop (i + 1)) := by
    rw [List.singleton_append]
    have : uw h i = h[i] := by simp [uw, hh, hi]
    rw [this, List.getElem_cons_drop, List.take_append_drop]
  have := vb_mid 4294967296 (by omega) ((h.take i).map UInt32.toNat) ([uw h i].map UInt32.toNat) ((h.drop (i + 1)).map UInt32.toNat) (u32_dig _) (u32_dig _)
  rw [← List.map_append, ← List.map_append, ← e] at this
  have hlen : ((h.drop (i + 1)).map UInt32.toNat).length = 7 - i := by rw [List.length_map, List.length_drop, hh]; omega
  rw [hlen, ← hp] at this
  have h2 : vb 4294967296 ([uw h i].map UInt32.toNat) = (uw h i).toNat := by simp [vb]
  rw [h2] at this
  simp only [List.map_cons, List.map_nil, List.length_singleton, Nat.pow_one] at this
  exact this
theorem fillW_succ (L : List UInt8) (k : Nat) : fillW L (k + 1) = if k < 16 then (fillW L k).set k (beAt L k) else (fillW L k).set k (nextW (fillW L k) k) := rfl
theorem fill_at (B : List UInt8) (j : Nat) (hj : j < 64) : ∀ n, j + 1 + n ≤ 64 → uw (fillW B (j + 1 + n)) j = uw (fillW B (j + 1)) j
  | 0, _ => rfl
  | n + 1, h => by
    have ih := fill_at B j hj n (by omega)
    rw [← ih]
    show uw (fillW B ((j + 1 + n) + 1)) j = _
    rw [fillW_succ]
    split
    · exact uw_set_ne (i := j + 1 + n) (j := j) (by omega)
    · exact uw_set_ne (i := j + 1 + n) (j := j) (by omega)
theorem fill_64 (B : List UInt8) (j k : Nat) (hj : j < k) (hk : k ≤ 64) : uw (fillW B k) j = uw (fillW B 64) j := by
  have h1 := fill_at B j (by omega) (k - (j + 1)) (by omega)
  have h2 := fill_at B j (by omega) (64 - (j + 1)) (by omega)
  rw [show j + 1 + (k - (j + 1)) = k by omega] at h1
  rw [show j + 1 + (64 - (j + 1)) = 64 by omega] at h2
  rw [h1, h2]
theorem fill_lo (B : List UInt8) (j : Nat) (hj : j < 16) : uw (fillW B 64) j = beAt B j := by
  rw [← fill_64 B j (j + 1) (by omega) (by omega)]
  have hl := fillW_length B j
  rw [fillW]
  rw [if_pos hj]
  exact uw_set_eq (by omega)
theorem fill_hi (B : List UInt8) (i : Nat) (hi : i + 16 < 64) : uw (fillW B 64) (i + 16) = ((uw (fillW B 64) i + sig0 (uw (fillW B 64) (i + 1))) + uw (fillW B 64) (i + 9)) + sig1 (uw (fillW B 64) (i + 14)) := by
  rw [← fill_64 B (i + 16) (i + 16 + 1) (by omega) (by omega)]
  have hl := fillW_length B (i + 16)
  rw [fillW]
  rw [if_neg (by omega), uw_set_eq (by omega)]
  unfold nextW
  rw [show i + 16 - 16 = i by omega, show i + 16 - 15 = i + 1 by omega, show i + 16 - 7 = i + 9 by omega, show i + 16 - 2 = i + 14 by omega,
    fill_64 B i (i + 16) (by omega) (by omega), fill_64 B (i + 1) (i + 16) (by omega) (by omega), fill_64 B (i + 9) (i + 16) (by omega) (by omega), fill_64 B (i + 14) (i + 16) (by omega) (by omega)]
theorem four_at (B : List UInt8) (j : Nat) (hj : j + 4 ≤ B.length) : (B.drop j).take 4 = [ub B j, ub B (j + 1), ub B (j + 2), ub B (j + 3)] := by
  have e : ∀ i, i < B.length → ub B i = B.getD i 0 := fun i _ => rfl
  apply List.ext_getElem
  · simp; omega
  · intro n h1 h2
    have hn : n < 4 := by simpa using h2
    have : n = 0 ∨ n = 1 ∨ n = 2 ∨ n = 3 := by omega
    rcases this with rfl | rfl | rfl | rfl
    · simp [ub, show j < B.length by omega]
    · simp [ub, show j + 1 < B.length by omega]
    · simp [ub, show j + 2 < B.length by omega]
    · simp [ub, show j + 3 < B.length by omega]
theorem word_bl (B : List UInt8) (hB : B.length = 64) (i : Nat) (hi : i < 16) (p : Nat) (hp : p = 256 ^ (60 - 4 * i)) : Nat.mod (Nat.div (vl B) p) (nat_lit 4294967296) = (uw (fillW B 64) i).toNat := by
  rw [fill_lo B i hi]
  have e : B = B.take (4 * i) ++ ((B.drop (4 * i)).take 4 ++ B.drop (4 * i + 4)) := by
    have h3 : B.drop (4 * i + 4) = (B.drop (4 * i)).drop 4 := by rw [List.drop_drop]
    rw [h3, List.take_append_drop, List.take_append_drop]
  have h4 := four_at B (4 * i) (by omega)
  have := vb_mid 256 (by omega) ((B.take (4 * i)).map UInt8.toNat) (((B.drop (4 * i)).take 4).map UInt8.toNat) ((B.drop (4 * i + 4)).map UInt8.toNat) (u8_dig _) (u8_dig _)
  rw [← List.map_append, ← List.map_append, ← e] at this
  have hlen : ((B.drop (4 * i + 4)).map UInt8.toNat).length = 60 - 4 * i := by rw [List.length_map, List.length_drop, hB]; omega
  rw [hlen, ← hp, h4] at this
  have h2 : vb 256 ([ub B (4 * i), ub B (4 * i + 1), ub B (4 * i + 2), ub B (4 * i + 3)].map UInt8.toNat) = (beAt B i).toNat := by
    unfold beAt
    rw [be4_toNat]
    simp [vb]
  have e4 : 256 ^ ([ub B (4 * i), ub B (4 * i + 1), ub B (4 * i + 2), ub B (4 * i + 3)].map UInt8.toNat).length = 4294967296 := by simp
  rw [h2, e4] at this
  exact this
theorem foldW_nil (s : S8) (W : Nat → UInt32) (j : Nat) : foldW s W [] j = s := rfl
theorem foldW_cons (s : S8) (W : Nat → UInt32) (k : UInt32) (ks : List UInt32) (j : Nat) : foldW s W (k :: ks) j = foldW (roundS s k (W j)) W ks (j + 1) := rfl
theorem roundsS_succ (s : S8) (ws : List UInt32) (k : Nat) : roundsS s ws (k + 1) = roundS (roundsS s ws k) (uw shaK k) (uw ws k) := rfl
theorem fold_rounds (_s : S8) (ws KK : List UInt32) (F : Nat → S8) (hF : ∀ j, F (j + 1) = roundS (F j) (uw KK j) (uw ws j)) (ks : List UInt32) : ∀ (j : Nat), (∀ i, i < ks.length → ks.getD i 0 = uw KK (j + i)) → foldW (F j) (uw ws) ks j = F (j + ks.length) := by
  induction ks with
  | nil =>
    intro j _
    rw [foldW_nil, List.length_nil, Nat.add_zero]
  | cons k ks ih =>
    intro j h
    have h0 := h 0 (by simp)
    have ih := ih (j + 1) (fun i hi => by
      have := h (i + 1) (by simp; omega)
      rw [show j + 1 + i = j + (i + 1) by omega, ← this]
      simp)
    have hk : k = uw KK j := by simpa using h0
    rw [List.length_cons, show j + (ks.length + 1) = j + 1 + ks.length by omega, ← ih, hF, hk, foldW_cons]
theorem run64 (fin : NK) (s : S8) (B : List UInt8) : apK (nr1 (nr2 fin ((shaK.drop 48).map UInt32.toNat)) ((shaK.take 48).map UInt32.toNat) (uw (fillW B 64) 0).toNat (uw (fillW B 64) 1).toNat (uw (fillW B 64) 2).toNat (uw (fillW B 64) 3).toNat (uw (fillW B 64) 4).toNat (uw (fillW B 64) 5).toNat (uw (fillW B 64) 6).toNat (uw (fillW B 64) 7).toNat (uw (fillW B 64) 8).toNat (uw (fillW B 64) 9).toNat (uw (fillW B 64) 10).toNat (uw (fillW B 64) 11).toNat (uw (fillW B 64) 12).toNat (uw (fillW B 64) 13).toNat (uw (fillW B 64) 14).toNat (uw (fillW B 64) 15).toNat) s = apK fin (roundsS s (fillW B 64) 64) := by
  obtain ⟨K1, hK1⟩ : ∃ K, K = shaK.take 48 := ⟨_, rfl⟩
  obtain ⟨K2, hK2⟩ : ∃ K, K = shaK.drop 48 := ⟨_, rfl⟩
  have l1 : K1.length = 48 := by rw [hK1]; decide +kernel
  have l2 : K2.length = 16 := by rw [hK2]; decide +kernel
  have g1 : ∀ i, i < K1.length → K1.getD i 0 = uw shaK (0 + i) := by rw [hK1]; decide +kernel
  have g2 : ∀ i, i < K2.length → K2.getD i 0 = uw shaK (48 + i) := by rw [hK2]; decide +kernel
  rw [← hK1, ← hK2]
  have f1 := fold_rounds s (fillW B 64) shaK (roundsS s (fillW B 64)) (roundsS_succ s (fillW B 64)) K1 0 g1
  have f2 := fold_rounds s (fillW B 64) shaK (roundsS s (fillW B 64)) (roundsS_succ s (fillW B 64)) K2 48 g2
  rw [l1] at f1
  rw [l2] at f2
  clear g1 g2 hK1 hK2
  have hw : ∀ i, i + 16 < 64 → uw (fillW B 64) (i + 16) = ((uw (fillW B 64) i + sig0 (uw (fillW B 64) (i + 1))) + uw (fillW B 64) (i + 9)) + sig1 (uw (fillW B 64) (i + 14)) := fill_hi B
  simp only [Nat.reduceAdd] at f1 f2
  have f0 : roundsS s (fillW B 64) 0 = s := rfl
  rw [f0] at f1
  generalize roundsS s (fillW B 64) 64 = R64 at *
  generalize roundsS s (fillW B 64) 48 = R48 at *
  generalize uw (fillW B 64) = W at *
  have r1 := nr1_eq (nr2 fin (K2.map UInt32.toNat)) W K1 0 s (fun i hi => by
    rw [l1] at hi
    simpa using hw i (by omega))
  rw [f1, l1] at r1
  simp only [Nat.zero_add, Nat.reduceAdd] at r1
  refine r1.trans ?_
  have r2 := nr2_eq fin W K2 48 R48 ((List.range 16).map fun i => (W (48 + i)).toNat) (fun i hi => by
    rw [l2] at hi
    simp [hi])
  rw [f2] at r2
  exact r2
theorem fin8 (h0 h1 h2 h3 h4 h5 h6 h7 x0 x1 x2 x3 x4 x5 x6 x7 : UInt32) : (nj (nj (nj (nj (nj (nj (nj (nm h0.toNat x0.toNat) (nm h1.toNat x1.toNat)) (nm h2.toNat x2.toNat)) (nm h3.toNat x3.toNat)) (nm h4.toNat x4.toNat)) (nm h5.toNat x5.toNat)) (nm h6.toNat x6.toNat)) (nm h7.toNat x7.toNat)) = vw [h0 + x0, h1 + x1, h2 + x2, h3 + x3, h4 + x4, h5 + x5, h6 + x6, h7 + x7] := by
  simp only [vw, vb, List.map_cons, List.map_nil, List.foldl_cons, List.foldl_nil, UInt32.toNat_add, Nat.zero_mul, Nat.zero_add, nj_eq, nm_eq, Nat.reducePow]
theorem addTo_8 (h0 h1 h2 h3 h4 h5 h6 h7 x0 x1 x2 x3 x4 x5 x6 x7 : UInt32) : addTo [h0, h1, h2, h3, h4, h5, h6, h7] [x0, x1, x2, x3, x4, x5, x6, x7] 8 = [h0 + x0, h1 + x1, h2 + x2, h3 + x3, h4 + x4, h5 + x5, h6 + x6, h7 + x7] := by
  simp [addTo, uw]
theorem fin_eq (h : List UInt32) (hh : h.length = 8) (R : S8) : apK (fun a b c d e f g h_ => (nj (nj (nj (nj (nj (nj (nj (nm (uw h 0).toNat a) (nm (uw h 1).toNat b)) (nm (uw h 2).toNat c)) (nm (uw h 3).toNat d)) (nm (uw h 4).toNat e)) (nm (uw h 5).toNat f)) (nm (uw h 6).toNat g)) (nm (uw h 7).toNat h_))) R = vw (addTo h R.list 8) := by
  match h, hh with
  | [h0, h1, h2, h3, h4, h5, h6, h7], _ =>
    unfold S8.list apK
    rw [addTo_8, ← fin8]
    simp only [uw, List.getD_cons_zero, List.getD_cons_succ]
theorem nblock_eq (h : List UInt32) (B : List UInt8) (hh : h.length = 8) (hB : B.length = 64) : nblock (vw h) (vl B) = vw (compress h B) := by
  have s0 : (Nat.mod (Nat.div (vw h) (nat_lit 26959946667150639794667015087019630673637144422540572481103610249216)) (nat_lit 4294967296)) = (uw h 0).toNat := word_st h hh 0 (by omega) _ (by rfl)
  have s1 : (Nat.mod (Nat.div (vw h) (nat_lit 6277101735386680763835789423207666416102355444464034512896)) (nat_lit 4294967296)) = (uw h 1).toNat := word_st h hh 1 (by omega) _ (by rfl)
  have s2 : (Nat.mod (Nat.div (vw h) (nat_lit 1461501637330902918203684832716283019655932542976)) (nat_lit 4294967296)) = (uw h 2).toNat := word_st h hh 2 (by omega) _ (by rfl)
  have s3 : (Nat.mod (Nat.div (vw h) (nat_lit 340282366920938463463374607431768211456)) (nat_lit 4294967296)) = (uw h 3).toNat := word_st h hh 3 (by omega) _ (by rfl)
  have s4 : (Nat.mod (Nat.div (vw h) (nat_lit 79228162514264337593543950336)) (nat_lit 4294967296)) = (uw h 4).toNat := word_st h hh 4 (by omega) _ (by rfl)
  have s5 : (Nat.mod (Nat.div (vw h) (nat_lit 18446744073709551616)) (nat_lit 4294967296)) = (uw h 5).toNat := word_st h hh 5 (by omega) _ (by rfl)
  have s6 : (Nat.mod (Nat.div (vw h) (nat_lit 4294967296)) (nat_lit 4294967296)) = (uw h 6).toNat := word_st h hh 6 (by omega) _ (by rfl)
  have s7 : (Nat.mod (Nat.div (vw h) (nat_lit 1)) (nat_lit 4294967296)) = (uw h 7).toNat := word_st h hh 7 (by omega) _ (by rfl)
  have m0 : (Nat.mod (Nat.div (vl B) (nat_lit 3121748550315992231381597229793166305748598142664971150859156959625371738819765620120306103063491971159826931121406622895447975679288285306290176)) (nat_lit 4294967296)) = (uw (fillW B 64) 0).toNat := word_bl B hB 0 (by omega) _ (by rfl)
  have m1 : (Nat.mod (Nat.div (vl B) (nat_lit 726838724295606890549323807888004534353641360687318060281490199180639288113397923326191050713763565560762521606266177933534601628614656)) (nat_lit 4294967296)) = (uw (fillW B 64) 1).toNat := word_bl B hB 1 (by omega) _ (by rfl)
  have m2 : (Nat.mod (Nat.div (vl B) (nat_lit 169230328010303641331690318856389386196071598838855992136870091590247882556495704531248437872567112920983350278405979725889536)) (nat_lit 4294967296)) = (uw (fillW B 64) 2).toNat := word_bl B hB 2 (by omega) _ (by rfl)
  have m3 : (Nat.mod (Nat.div (vl B) (nat_lit 39402006196394479212279040100143613805079739270465446667948293404245721771497210611414266254884915640806627990306816)) (nat_lit 4294967296)) = (uw (fillW B 64) 3).toNat := word_bl B hB 3 (by omega) _ (by rfl)
  have m4 : (Nat.mod (Nat.div (vl B) (nat_lit 9173994463960286046443283581208347763186259956673124494950355357547691504353939232280074212440502746218496)) (nat_lit 4294967296)) = (uw (fillW B 64) 4).toNat := word_bl B hB 4 (by omega) _ (by rfl)
  have m5 : (Nat.mod (Nat.div (vl B) (nat_lit 2135987035920910082395021706169552114602704522356652769947041607822219725780640550022962086936576)) (nat_lit 4294967296)) = (uw (fillW B 64) 5).toNat := word_bl B hB 5 (by omega) _ (by rfl)
  have m6 : (Nat.mod (Nat.div (vl B) (nat_lit 497323236409786642155382248146820840100456150797347717440463976893159497012533375533056)) (nat_lit 4294967296)) = (uw (fillW B 64) 6).toNat := word_bl B hB 6 (by omega) _ (by rfl)
  have m7 : (Nat.mod (Nat.div (vl B) (nat_lit 115792089237316195423570985008687907853269984665640564039457584007913129639936)) (nat_lit 4294967296)) = (uw (fillW B 64) 7).toNat := word_bl B hB 7 (by omega) _ (by rfl)
  have m8 : (Nat.mod (Nat.div (vl B) (nat_lit 26959946667150639794667015087019630673637144422540572481103610249216)) (nat_lit 4294967296)) = (uw (fillW B 64) 8).toNat := word_bl B hB 8 (by omega) _ (by rfl)
  have m9 : (Nat.mod (Nat.div (vl B) (nat_lit 6277101735386680763835789423207666416102355444464034512896)) (nat_lit 4294967296)) = (uw (fillW B 64) 9).toNat := word_bl B hB 9 (by omega) _ (by rfl)
  have m10 : (Nat.mod (Nat.div (vl B) (nat_lit 1461501637330902918203684832716283019655932542976)) (nat_lit 4294967296)) = (uw (fillW B 64) 10).toNat := word_bl B hB 10 (by omega) _ (by rfl)
  have m11 : (Nat.mod (Nat.div (vl B) (nat_lit 340282366920938463463374607431768211456)) (nat_lit 4294967296)) = (uw (fillW B 64) 11).toNat := word_bl B hB 11 (by omega) _ (by rfl)
  have m12 : (Nat.mod (Nat.div (vl B) (nat_lit 79228162514264337593543950336)) (nat_lit 4294967296)) = (uw (fillW B 64) 12).toNat := word_bl B hB 12 (by omega) _ (by rfl)
  have m13 : (Nat.mod (Nat.div (vl B) (nat_lit 18446744073709551616)) (nat_lit 4294967296)) = (uw (fillW B 64) 13).toNat := word_bl B hB 13 (by omega) _ (by rfl)
  have m14 : (Nat.mod (Nat.div (vl B) (nat_lit 4294967296)) (nat_lit 4294967296)) = (uw (fillW B 64) 14).toNat := word_bl B hB 14 (by omega) _ (by rfl)
  have m15 : (Nat.mod (Nat.div (vl B) (nat_lit 1)) (nat_lit 4294967296)) = (uw (fillW B 64) 15).toNat := word_bl B hB 15 (by omega) _ (by rfl)
  have k1 : nK1 = (shaK.take 48).map UInt32.toNat := by decide +kernel
  have k2 : nK2 = (shaK.drop 48).map UInt32.toNat := by decide +kernel
  unfold nblock
  simp only [force_eq]
  rw [s0, s1, s2, s3, s4, s5, s6, s7, m0, m1, m2, m3, m4, m5, m6, m7, m8, m9, m10, m11, m12, m13, m14, m15, k1, k2]
  clear s0 s1 s2 s3 s4 s5 s6 s7 m0 m1 m2 m3 m4 m5 m6 m7 m8 m9 m10 m11 m12 m13 m14 m15 k1 k2
  have r := run64 (fun a b c d e f g h_ => (nj (nj (nj (nj (nj (nj (nj (nm (uw h 0).toNat a) (nm (uw h 1).toNat b)) (nm (uw h 2).toNat c)) (nm (uw h 3).toNat d)) (nm (uw h 4).toNat e)) (nm (uw h 5).toNat f)) (nm (uw h 6).toNat g)) (nm (uw h 7).toNat h_))) (S8.of h) B
  refine Eq.trans r ?_
  unfold compress
  clear r
  generalize roundsS (S8.of h) (fillW B 64) 64 = R
  exact fin_eq h hh R
end Go.Proofs.Ythggfbpdhkpkjaa
namespace Go.Proofs.Ythggfbpdhkpkjaa
set_option maxRecDepth 100000
theorem pow_256 (n : Nat) : 256 ^ (64 * n) = 2 ^ (512 * n) := by
  rw [show 256 = 2 ^ 8 from rfl, ← Nat.pow_mul]
  congr 1
  omega
theorem nblocks_zero (st m : Nat) : nblocks 0 st m = st := rfl
theorem nblocks_succ (n st m : Nat) : nblocks (n + 1) st m = force (nblock st (Nat.mod (Nat.div m (Nat.pow (nat_lit 2) (Nat.mul (nat_lit 512) n))) (nat_lit 13407807929942597099574024998205846127479365820592393377723561443721764030073546976801874298166903427690031858186486050853753882811946569946433649006084096))) fun st' => nblocks n st' m := rfl
theorem part_eq (a Q P m t d : Nat) (hm : m = (a * Q + t) * P + d) (hd : d < P) (ht : t < Q) : Nat.mod (Nat.div m P) Q = t := by
  have h1 : m / P = a * Q + t := by
    rw [hm, Nat.add_comm, Nat.add_mul_div_right _ _ (by omega), Nat.div_eq_of_lt hd, Nat.zero_add]
  show m / P % Q = t
  rw [h1, Nat.mul_add_mod', Nat.mod_eq_of_lt ht]
theorem q512 : 256 ^ 64 = (nat_lit 13407807929942597099574024998205846127479365820592393377723561443721764030073546976801874298166903427690031858186486050853753882811946569946433649006084096) := by decide +kernel
theorem join_eq (a Q P t d R V m : Nat) (hm : m = a * R + V) (hp : R = Q * P) (hv : V = t * P + d) : m = (a * Q + t) * P + d := by
  rw [hm, hp, hv, Nat.add_mul, Nat.mul_assoc]
  omega
theorem nblocks_eq : ∀ (n : Nat) (h : List UInt32) (L : List UInt8) (m a : Nat), h.length = 8 → L.length = 64 * n → m = a * 2 ^ (512 * n) + vl L → nblocks n (vw h) m = vw (blocks h L n)
  | 0, h, L, m, a, _, _, _ => by rw [nblocks_zero]; rfl
  | n + 1, h, L, m, a, hh, hL, hm => by
    have e : L = L.take 64 ++ L.drop 64 := (List.take_append_drop 64 L).symm
    have l1 : (L.take 64).length = 64 := by rw [List.length_take]; omega
    have l2 : (L.drop 64).length = 64 * n := by rw [List.length_drop]; omega
    have hv : vl L = vl (L.take 64) * 2 ^ (512 * n) + vl (L.drop 64) := by
      conv => lhs; rw [e]
      rw [vl_append, l2, pow_256]
    have b1 : vl (L.take 64) < (nat_lit 13407807929942597099574024998205846127479365820592393377723561443721764030073546976801874298166903427690031858186486050853753882811946569946433649006084096) := by
      have := vl_lt (L.take 64)
      rw [l1, q512] at this
      exact this
    have b2 : vl (L.drop 64) < 2 ^ (512 * n) := by
      have := vl_lt (L.drop 64)
      rwa [l2, pow_256] at this
    have hp : 2 ^ (512 * (n + 1)) = (nat_lit 13407807929942597099574024998205846127479365820592393377723561443721764030073546976801874298166903427690031858186486050853753882811946569946433649006084096) * 2 ^ (512 * n) := by
      rw [← pow_256, ← pow_256, show 64 * (n + 1) = 64 + 64 * n by omega, Nat.pow_add, q512]
    have hm2 := join_eq a _ _ _ _ _ _ _ hm hp hv
    have hc : (compress h (L.take 64)).length = 8 := by rw [compress_length, hh]
    have ih := nblocks_eq n (compress h (L.take 64)) (L.drop 64) m _ hc l2 hm2
    have hq : Nat.mod (Nat.div m (Nat.pow (nat_lit 2) (Nat.mul (nat_lit 512) n))) (nat_lit 13407807929942597099574024998205846127479365820592393377723561443721764030073546976801874298166903427690031858186486050853753882811946569946433649006084096) = vl (L.take 64) := part_eq a _ _ m _ _ hm2 b2 b1
    rw [nblocks_succ, hq, force_eq, nblock_eq h _ hh l1, ih]
    rfl
theorem vl_one (b : UInt8) : vl [b] = b.toNat := by simp [vl, vb]
theorem vl_zeros : ∀ (n : Nat), vl (List.replicate n 0) = 0
  | 0 => rfl
  | n + 1 => by
    rw [List.replicate_succ', vl_append, vl_zeros n, vl_one]
    rfl
theorem vl_be8 (n : Nat) (hn : n < 18446744073709551616) : vl (be8 n) = n := by
  have e : be8 n = [UInt8.ofNat (n / 2 ^ 56), UInt8.ofNat (n / 2 ^ 48), UInt8.ofNat (n / 2 ^ 40), UInt8.ofNat (n / 2 ^ 32), UInt8.ofNat (n / 2 ^ 24), UInt8.ofNat (n / 2 ^ 16), UInt8.ofNat (n / 2 ^ 8), UInt8.ofNat (n / 2 ^ 0)] := rfl
  rw [e]
  simp only [vl, vb, List.map_cons, List.map_nil, List.foldl_cons, List.foldl_nil, UInt8.toNat_ofNat', Nat.reducePow, Nat.zero_mul, Nat.zero_add, Nat.div_one]
  omega
theorem vl_bytesOf (x : UInt32) : vl (bytesOf x) = x.toNat := by
  have := x.toNat_lt
  unfold bytesOf
  simp only [vl, vb, List.map_cons, List.map_nil, List.foldl_cons, List.foldl_nil, UInt32.toNat_toUInt8, shr_toNat, Nat.reducePow, Nat.zero_mul, Nat.zero_add]
  omega
theorem vw_cons (x : UInt32) (l : List UInt32) : vw (x :: l) = x.toNat * 4294967296 ^ l.length + vw l := by
  have := vb_append 4294967296 [x.toNat] (l.map UInt32.toNat)
  rw [List.length_map] at this
  refine Eq.trans this ?_
  congr 2
  simp [vb]
theorem vl_words : ∀ (l : List UInt32), vl (l.flatMap bytesOf) = vw l
  | [] => rfl
  | x :: l => by
    rw [List.flatMap_cons, vl_append, vl_words l, vw_cons, vl_bytesOf, flatMap_bytesOf_length, Nat.pow_mul]
theorem nZ_eq (n : Nat) : nZ n = padZeros n := rfl
theorem vl_padded (L : List UInt8) (hn : L.length < 4294967296) : vl (padded L) = (vl L * 256 + 128) * 256 ^ (nZ L.length + 8) + L.length * 8 := by
  unfold padded
  rw [show (0x80 :: (List.replicate (padZeros L.length) 0 ++ be8 (L.length * 8)) : List UInt8) = [0x80] ++ (List.replicate (padZeros L.length) 0 ++ be8 (L.length * 8)) from rfl,
    vl_append, vl_append, vl_append, vl_zeros, vl_be8 _ (by omega), vl_one, List.length_append, List.length_append, be8_length, List.length_replicate, List.length_singleton, nZ_eq, Nat.zero_mul, Nat.zero_add,
    Nat.pow_add, Nat.pow_one, ← Nat.mul_assoc, ← Nat.add_assoc, ← Nat.add_mul]
  rfl
theorem nH0_eq : nH0 = vw shaH := by decide +kernel
theorem nsha_def (n m : Nat) : nsha n m = nblocks ((n + (nZ n + 9)) / 64) nH0 ((m * 256 + 128) * 256 ^ (nZ n + 8) + n * 8) := by
  unfold nsha
  rw [force_eq]
  rfl
theorem nsha_eq (L : List UInt8) (hn : L.length < 4294967296) : vl (sha L) = nsha L.length (vl L) := by
  have hl := padded_length L
  have hmod := padded_mod L
  rw [nsha_def, ← vl_padded L hn, nZ_eq]
  unfold sha
  rw [vl_words, nH0_eq]
  have hc : (L.length + (padZeros L.length + 9)) / 64 = (padded L).length / 64 := by rw [hl]; congr 1; omega
  rw [hc]
  refine (nblocks_eq _ shaH (padded L) _ 0 rfl (by omega) (by rw [Nat.zero_mul, Nat.zero_add])).symm
theorem vl_tagged (t : UInt8) (X : List UInt8) (n : Nat) (hX : X.length = n) (hn : n < 4294967295) : vl (tagged t X) = nsha (n + 1) (t.toNat * 256 ^ n + vl X) := by
  unfold tagged
  rw [nsha_eq _ (by rw [List.length_cons]; omega), List.length_cons, hX, show t :: X = [t] ++ X from rfl, vl_append, vl_one, hX]
end Go.Proofs.Ythggfbpdhkpkjaa
