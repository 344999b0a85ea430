/-
  SHA-256 in plain Lean, over UInt32 and lists: no program in sight.
-/
namespace Go.Proofs.Ytmgnigofilkfmaa
set_option maxRecDepth 100000

def shr (x : UInt32) (n : Nat) : UInt32 := UInt32.ofNat (x.toNat / 2 ^ n)
def shl (x : UInt32) (n : Nat) : UInt32 := UInt32.ofNat (x.toNat * 2 ^ n)
def rotr (x : UInt32) (n : Nat) : UInt32 := shr x n ||| shl x (32 - n)
def shaK : List UInt32 := [
  0x428a2f98, 0x71374491, 0xb5c0fbcf, 0xe9b5dba5, 0x3956c25b, 0x59f111f1, 0x923f82a4, 0xab1c5ed5,
  0xd807aa98, 0x12835b01, 0x243185be, 0x550c7dc3, 0x72be5d74, 0x80deb1fe, 0x9bdc06a7, 0xc19bf174,
  0xe49b69c1, 0xefbe4786, 0x0fc19dc6, 0x240ca1cc, 0x2de92c6f, 0x4a7484aa, 0x5cb0a9dc, 0x76f988da,
  0x983e5152, 0xa831c66d, 0xb00327c8, 0xbf597fc7, 0xc6e00bf3, 0xd5a79147, 0x06ca6351, 0x14292967,
  0x27b70a85, 0x2e1b2138, 0x4d2c6dfc, 0x53380d13, 0x650a7354, 0x766a0abb, 0x81c2c92e, 0x92722c85,
  0xa2bfe8a1, 0xa81a664b, 0xc24b8b70, 0xc76c51a3, 0xd192e819, 0xd6990624, 0xf40e3585, 0x106aa070,
  0x19a4c116, 0x1e376c08, 0x2748774c, 0x34b0bcb5, 0x391c0cb3, 0x4ed8aa4a, 0x5b9cca4f, 0x682e6ff3,
  0x748f82ee, 0x78a5636f, 0x84c87814, 0x8cc70208, 0x90befffa, 0xa4506ceb, 0xbef9a3f7, 0xc67178f2]
def shaH : List UInt32 := [0x6a09e667, 0xbb67ae85, 0x3c6ef372, 0xa54ff53a, 0x510e527f, 0x9b05688c, 0x1f83d9ab, 0x5be0cd19]
/-- word j of a list -/
def uw (l : List UInt32) (j : Nat) : UInt32 := l.getD j 0
def ub (L : List UInt8) (j : Nat) : UInt8 := L.getD j 0
/-- as the machine's numbers: closed words that no simp looks into -/
def u8i (b : UInt8) : Int := (b.toNat : Int)
def u32i (x : UInt32) : Int := (x.toNat : Int)
theorem u8i_lo (b : UInt8) : 0 ≤ u8i b := by unfold u8i; omega
theorem u8i_hi (b : UInt8) : u8i b < 256 := by unfold u8i; have := b.toNat_lt; omega
theorem u32i_lo (x : UInt32) : 0 ≤ u32i x := by unfold u32i; omega
theorem u32i_hi (x : UInt32) : u32i x < 4294967296 := by unfold u32i; have := x.toNat_lt; omega
theorem u8i_inj {a b : UInt8} (h : u8i a = u8i b) : a = b := by unfold u8i at h; exact UInt8.toNat_inj.1 (by omega)
theorem u32i_inj {a b : UInt32} (h : u32i a = u32i b) : a = b := by unfold u32i at h; exact UInt32.toNat_inj.1 (by omega)
/-- four bytes, the highest first, as a word -/
def be4 (a b c d : UInt8) : UInt32 := ((shl a.toUInt32 24 ||| shl b.toUInt32 16) ||| shl c.toUInt32 8) ||| d.toUInt32
def beAt (L : List UInt8) (i : Nat) : UInt32 := be4 (ub L (4 * i)) (ub L (4 * i + 1)) (ub L (4 * i + 2)) (ub L (4 * i + 3))
def sig0 (x : UInt32) : UInt32 := (rotr x 7 ^^^ rotr x 18) ^^^ shr x 3
def sig1 (y : UInt32) : UInt32 := (rotr y 17 ^^^ rotr y 19) ^^^ shr y 10
def nextW (l : List UInt32) (i : Nat) : UInt32 := ((uw l (i - 16) + sig0 (uw l (i - 15))) + uw l (i - 7)) + sig1 (uw l (i - 2))
/-- the words of the rounds, those from k on still 0 -/
def fillW (L : List UInt8) : Nat → List UInt32
  | 0 => List.replicate 64 0
  | k + 1 => let l := fillW L k; if k < 16 then l.set k (beAt L k) else l.set k (nextW l k)
structure S8 where
  a : UInt32
  b : UInt32
  c : UInt32
  d : UInt32
  e : UInt32
  f : UInt32
  g : UInt32
  h : UInt32
def S8.list (s : S8) : List UInt32 := [s.a, s.b, s.c, s.d, s.e, s.f, s.g, s.h]
def S8.of (l : List UInt32) : S8 := ⟨uw l 0, uw l 1, uw l 2, uw l 3, uw l 4, uw l 5, uw l 6, uw l 7⟩
def bigS1 (e : UInt32) : UInt32 := (rotr e 6 ^^^ rotr e 11) ^^^ rotr e 25
def bigS0 (a : UInt32) : UInt32 := (rotr a 2 ^^^ rotr a 13) ^^^ rotr a 22
def chF (e f g : UInt32) : UInt32 := (e &&& f) ^^^ (~~~e &&& g)
def majF (a b c : UInt32) : UInt32 := ((a &&& b) ^^^ (a &&& c)) ^^^ (b &&& c)
def roundT (s : S8) (k w : UInt32) : UInt32 := (((s.h + bigS1 s.e) + chF s.e s.f s.g) + k) + w
def roundU (s : S8) : UInt32 := bigS0 s.a + majF s.a s.b s.c
def roundS (s : S8) (k w : UInt32) : S8 := ⟨roundT s k w + roundU s, s.a, s.b, s.c, s.d + roundT s k w, s.e, s.f, s.g⟩
def roundsS (s : S8) (ws : List UInt32) : Nat → S8
  | 0 => s
  | k + 1 => let t := roundsS s ws k; roundS t (uw shaK k) (uw ws k)
def addTo (h s : List UInt32) : Nat → List UInt32
  | 0 => h
  | k + 1 => let l := addTo h s k; l.set k (uw l k + uw s k)
def compress (h : List UInt32) (L : List UInt8) : List UInt32 := addTo h (roundsS (S8.of h) (fillW L 64) 64).list 8
def blocks (h : List UInt32) (L : List UInt8) : Nat → List UInt32
  | 0 => h
  | k + 1 => blocks (compress h (L.take 64)) (L.drop 64) k
def be8 (n : Nat) : List UInt8 := (List.range 8).map fun i => UInt8.ofNat (n / 2 ^ (8 * (7 - i)))
def padZeros (n : Nat) : Nat := (119 - n % 64) % 64
def padded (L : List UInt8) : List UInt8 := L ++ 0x80 :: (List.replicate (padZeros L.length) 0 ++ be8 (L.length * 8))
def bytesOf (x : UInt32) : List UInt8 := [(shr x 24).toUInt8, (shr x 16).toUInt8, (shr x 8).toUInt8, x.toUInt8]
def sha (L : List UInt8) : List UInt8 := ((blocks shaH (padded L) ((padded L).length / 64)).flatMap bytesOf)
def tagged (t : UInt8) (L : List UInt8) : List UInt8 := sha (t :: L)

theorem uw_set_eq {l : List UInt32} {i : Nat} {x : UInt32} (h : i < l.length) : uw (l.set i x) i = x := by simp [uw, h]
theorem uw_set_ne {l : List UInt32} {i j : Nat} {x : UInt32} (h : i ≠ j) : uw (l.set i x) j = uw l j := by simp [uw, List.getElem?_set_ne h]
theorem fillW_length (L : List UInt8) : ∀ k, (fillW L k).length = 64
  | 0 => by simp [fillW]
  | k + 1 => by
    simp only [fillW]
    split <;> rw [List.length_set, fillW_length L k]
theorem addTo_length (h s : List UInt32) : ∀ k, (addTo h s k).length = h.length
  | 0 => rfl
  | k + 1 => by simp only [addTo]; rw [List.length_set, addTo_length h s k]
theorem compress_length (h : List UInt32) (L : List UInt8) : (compress h L).length = h.length := addTo_length _ _ _
theorem blocks_length : ∀ (k : Nat) (h : List UInt32) (L : List UInt8), (blocks h L k).length = h.length
  | 0, _, _ => rfl
  | k + 1, h, L => by rw [blocks, blocks_length k, compress_length]
theorem S8.list_length (s : S8) : s.list.length = 8 := rfl
theorem S8.of_list (l : List UInt32) (h : l.length = 8) : (S8.of l).list = l := by
  match l, h with
  | [a, b, c, d, e, f, g, i], _ => rfl
theorem blocks_add (h : List UInt32) (L : List UInt8) (j k : Nat) : blocks h L (j + k) = blocks (blocks h L j) (L.drop (64 * j)) k := by
  induction j generalizing h L with
  | zero => simp [blocks]
  | succ j ih =>
    rw [show j + 1 + k = (j + k) + 1 by omega]
    simp only [blocks]
    rw [ih, List.drop_drop]
    congr 2
    omega
theorem blocks_succ (h : List UInt32) (L : List UInt8) (j : Nat) : blocks h L (j + 1) = compress (blocks h L j) ((L.drop (64 * j)).take 64) := by
  rw [blocks_add]; rfl
theorem blocks_append (h : List UInt32) (L M : List UInt8) (k : Nat) (hk : 64 * k ≤ L.length) : blocks h (L ++ M) k = blocks h L k := by
  induction k generalizing h L with
  | zero => rfl
  | succ k ih =>
    simp only [blocks]
    rw [List.take_append_of_le_length (by omega), List.drop_append_of_le_length (by omega), ih _ _ (by simp; omega)]
theorem bytesOf_length (x : UInt32) : (bytesOf x).length = 4 := rfl
theorem flatMap_bytesOf_length (l : List UInt32) : (l.flatMap bytesOf).length = 4 * l.length := by
  induction l with
  | nil => rfl
  | cons x l ih => rw [List.flatMap_cons, List.length_append, ih, bytesOf_length, List.length_cons]; omega
theorem sha_length (L : List UInt8) : (sha L).length = 32 := by
  unfold sha
  rw [flatMap_bytesOf_length, blocks_length]
  rfl
theorem tagged_length (t : UInt8) (L : List UInt8) : (tagged t L).length = 32 := sha_length _
theorem be8_length (n : Nat) : (be8 n).length = 8 := by simp [be8]
theorem padded_length (L : List UInt8) : (padded L).length = L.length + 9 + padZeros L.length := by
  simp [padded, be8_length]; omega
theorem padded_mod (L : List UInt8) : (padded L).length % 64 = 0 := by
  rw [padded_length]; unfold padZeros; omega

/-! the numbers that the machine computes with -/
theorem ofNat_nat (n : Nat) (h : n < 4294967296) : (UInt32.ofNat n).toNat = n := by
  rw [UInt32.toNat_ofNat']; exact Nat.mod_eq_of_lt h
theorem shr_toNat (x : UInt32) (n : Nat) : (shr x n).toNat = x.toNat / 2 ^ n := by
  unfold shr
  refine ofNat_nat _ (Nat.lt_of_le_of_lt (Nat.div_le_self _ _) x.toNat_lt)
theorem shl_toNat (x : UInt32) (n : Nat) : (shl x n).toNat = x.toNat * 2 ^ n % 4294967296 := by
  unfold shl
  rw [UInt32.toNat_ofNat']
theorem rotr_or (x : UInt32) (n : Nat) : shl x (32 - n) ||| shr x n = rotr x n := by unfold rotr; rw [UInt32.or_comm]
/-- the tail that is put behind a text of n bytes -/
def shaTail (n : Nat) : List UInt8 := 0x80 :: (List.replicate (padZeros n) 0 ++ be8 (n * 8))
theorem padded_eq (L : List UInt8) : padded L = L ++ shaTail L.length := rfl
/-- the sum, block by block: those of the text itself, then those of what is left with the tail -/
theorem sha_parts (L : List UInt8) (j m : Nat) (hj : 64 * j ≤ L.length) (hm : ((L.drop (64 * j)) ++ shaTail L.length).length = 64 * m) :
    sha L = (blocks (blocks shaH L j) ((L.drop (64 * j)) ++ shaTail L.length) m).flatMap bytesOf := by
  unfold sha
  have h1 : (padded L).drop (64 * j) = (L.drop (64 * j)) ++ shaTail L.length := by
    rw [padded_eq, List.drop_append_of_le_length hj]
  have h2 : (padded L).length / 64 = j + m := by
    have h3 : (padded L).length = 64 * j + ((padded L).drop (64 * j)).length := by
      rw [List.length_drop]
      have : 64 * j ≤ (padded L).length := by rw [padded_eq, List.length_append]; omega
      omega
    rw [h3, h1, hm]
    omega
  rw [h2, blocks_add, h1]
  congr 2
  rw [padded_eq, blocks_append _ _ _ _ hj]
end Go.Proofs.Ytmgnigofilkfmaa
