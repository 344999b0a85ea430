/-
  SHA-256 in plain Lean, over UInt32 and lists: no program in sight. Words for memory: byte slices that are read (RB), byte slices that the call owns (OB), worlds that grew (Ext), and the laws of the operations on them. Plain theorems over this seat's program; nothing is assumed. One operation at a time: what each kind of operation yields, for the region law. Plain theorems.
-/
import Derived.Test.YtkndgpjamijbbaaGreatProg
import Derived.WalkKit
import Derived.WalkSpells
import Derived.WalkLawsBesides
import Derived.Maps.AppendAt
import Derived.Laws.OwnMore
import Derived.Deep.Draws
import Derived.Lib.ConvBytes
import Derived.Test.YtkndgpjamijbbaaGreatLawNumbers22Q0
namespace Go.Proofs.YtkndgpjamijbbaaGreat
set_option maxRecDepth 100000

def shr (x : UInt32) (n : Nat) : UInt32 := UInt32.ofNat (x.toNat / 2 ^ n)
def shl (x : UInt32) (n : Nat) : UInt32 := UInt32.ofNat (x.toNat * 2 ^ n)
def rotr (x : UInt32) (n : Nat) : UInt32 := shr x n ||| shl x (32 - n)
def shaK : List UInt32 := [
  0x428a2f98, 0x71374491, 0xb5c0fbcf, 0xe9b5dba5, 0x3956c25b, 0x59f111f1, 0x923f82a4, 0xab1c5ed5,
  0xd807aa98, 0x12835b01, 0x243185be, 0x550c7dc3, 0x72be5d74, 0x80deb1fe, 0x9bdc06a7, 0xc19bf174,
  0xe49b69c1, 0xefbe4786, 0x0fc19dc6, 0x240ca1cc, 0x2de92c6f, 0x4a7484aa, 0x5cb0a9dc, 0x76f988da,
  0x983e5152, 0xa831c66d, 0xb00327c8, 0xbf597fc7, 0xc6e00bf3, 0xd5a79147, 0x06ca6351, 0x14292967,
  0x27b70a85, 0x2e1b2138, 0x4d2c6dfc, 0x53380d13, 0x650a7354, 0x766a0abb, 0x81c2c92e, 0x92722c85,
  0xa2bfe8a1, 0xa81a664b, 0xc24b8b70, 0xc76c51a3, 0xd192e819, 0xd6990624, 0xf40e3585, 0x106aa070,
  0x19a4c116, 0x1e376c08, 0x2748774c, 0x34b0bcb5, 0x391c0cb3, 0x4ed8aa4a, 0x5b9cca4f, 0x682e6ff3,
  0x748f82ee, 0x78a5636f, 0x84c87814, 0x8cc70208, 0x90befffa, 0xa4506ceb, 0xbef9a3f7, 0xc67178f2]
def shaH : List UInt32 := [0x6a09e667, 0xbb67ae85, 0x3c6ef372, 0xa54ff53a, 0x510e527f, 0x9b05688c, 0x1f83d9ab, 0x5be0cd19]
/-- word j of a list -/
def uw (l : List UInt32) (j : Nat) : UInt32 := l.getD j 0
def ub (L : List UInt8) (j : Nat) : UInt8 := L.getD j 0
/-- as the machine's numbers: closed words that no simp looks into -/
def u8i (b : UInt8) : Int := (b.toNat : Int)
def u32i (x : UInt32) : Int := (x.toNat : Int)
theorem u32i_lo (x : UInt32) : 0 ≤ u32i x := by unfold u32i; omega
theorem u32i_hi (x : UInt32) : u32i x < 4294967296 := by unfold u32i; have := x.toNat_lt; omega
theorem u8i_inj {a b : UInt8} (h : u8i a = u8i b) : a = b := by unfold u8i at h; exact UInt8.toNat_inj.1 (by omega)
/-- four bytes, the highest first, as a word -/
def be4 (a b c d : UInt8) : UInt32 := ((shl a.toUInt32 24 ||| shl b.toUInt32 16) ||| shl c.toUInt32 8) ||| d.toUInt32
def beAt (L : List UInt8) (i : Nat) : UInt32 := be4 (ub L (4 * i)) (ub L (4 * i + 1)) (ub L (4 * i + 2)) (ub L (4 * i + 3))
def sig0 (x : UInt32) : UInt32 := (rotr x 7 ^^^ rotr x 18) ^^^ shr x 3
def sig1 (y : UInt32) : UInt32 := (rotr y 17 ^^^ rotr y 19) ^^^ shr y 10
def nextW (l : List UInt32) (i : Nat) : UInt32 := ((uw l (i - 16) + sig0 (uw l (i - 15))) + uw l (i - 7)) + sig1 (uw l (i - 2))
/-- the words of the rounds, those from k on still 0 -/
def fillW (L : List UInt8) : Nat → List UInt32
  | 0 => List.replicate 64 0
  | k + 1 => let l := fillW L k; if k < 16 then l.set k (beAt L k) else l.set k (nextW l k)
structure S8 where
  a : UInt32
  b : UInt32
  c : UInt32
  d : UInt32
  e : UInt32
  f : UInt32
  g : UInt32
  h : UInt32
def S8.list (s : S8) : List UInt32 := [s.a, s.b, s.c, s.d, s.e, s.f, s.g, s.h]
def S8.of (l : List UInt32) : S8 := ⟨uw l 0, uw l 1, uw l 2, uw l 3, uw l 4, uw l 5, uw l 6, uw l 7⟩
def bigS1 (e : UInt32) : UInt32 := (rotr e 6 ^^^ rotr e 11) ^^^ rotr e 25
def bigS0 (a : UInt32) : UInt32 := (rotr a 2 ^^^ rotr a 13) ^^^ rotr a 22
def chF (e f g : UInt32) : UInt32 := (e &&& f) ^^^ (~~~e &&& g)
def majF (a b c : UInt32) : UInt32 := ((a &&& b) ^^^ (a &&& c)) ^^^ (b &&& c)
def roundT (s : S8) (k w : UInt32) : UInt32 := (((s.h + bigS1 s.e) + chF s.e s.f s.g) + k) + w
def roundU (s : S8) : UInt32 := bigS0 s.a + majF s.a s.b s.c
def roundS (s : S8) (k w : UInt32) : S8 := ⟨roundT s k w + roundU s, s.a, s.b, s.c, s.d + roundT s k w, s.e, s.f, s.g⟩
def roundsS (s : S8) (ws : List UInt32) : Nat → S8
  | 0 => s
  | k + 1 => let t := roundsS s ws k; roundS t (uw shaK k) (uw ws k)
def addTo (h s : List UInt32) : Nat → List UInt32
  | 0 => h
  | k + 1 => let l := addTo h s k; l.set k (uw l k + uw s k)
def compress (h : List UInt32) (L : List UInt8) : List UInt32 := addTo h (roundsS (S8.of h) (fillW L 64) 64).list 8
def blocks (h : List UInt32) (L : List UInt8) : Nat → List UInt32
  | 0 => h
  | k + 1 => blocks (compress h (L.take 64)) (L.drop 64) k
def be8 (n : Nat) : List UInt8 := (List.range 8).map fun i => UInt8.ofNat (n / 2 ^ (8 * (7 - i)))
def padZeros (n : Nat) : Nat := (119 - n % 64) % 64
def padded (L : List UInt8) : List UInt8 := L ++ 0x80 :: (List.replicate (padZeros L.length) 0 ++ be8 (L.length * 8))
def bytesOf (x : UInt32) : List UInt8 := [(shr x 24).toUInt8, (shr x 16).toUInt8, (shr x 8).toUInt8, x.toUInt8]
def sha (L : List UInt8) : List UInt8 := ((blocks shaH (padded L) ((padded L).length / 64)).flatMap bytesOf)
def tagged (t : UInt8) (L : List UInt8) : List UInt8 := sha (t :: L)

theorem uw_set_eq {l : List UInt32} {i : Nat} {x : UInt32} (h : i < l.length) : uw (l.set i x) i = x := by simp [uw, h]
theorem uw_set_ne {l : List UInt32} {i j : Nat} {x : UInt32} (h : i ≠ j) : uw (l.set i x) j = uw l j := by simp [uw, List.getElem?_set_ne h]
theorem fillW_length (L : List UInt8) : ∀ k, (fillW L k).length = 64
  | 0 => by simp [fillW]
  | k + 1 => by
    simp only [fillW]
    split <;> rw [List.length_set, fillW_length L k]
theorem addTo_length (h s : List UInt32) : ∀ k, (addTo h s k).length = h.length
  | 0 => rfl
  | k + 1 => by simp only [addTo]; rw [List.length_set, addTo_length h s k]
theorem compress_length (h : List UInt32) (L : List UInt8) : (compress h L).length = h.length := addTo_length _ _ _
theorem blocks_length : ∀ (k : Nat) (h : List UInt32) (L : List UInt8), (blocks h L k).length = h.length
  | 0, _, _ => rfl
  | k + 1, h, L => by rw [blocks, blocks_length k, compress_length]
theorem S8.list_length (s : S8) : s.list.length = 8 := rfl
theorem S8.of_list (l : List UInt32) (h : l.length = 8) : (S8.of l).list = l := by
  match l, h with
  | [a, b, c, d, e, f, g, i], _ => rfl
theorem blocks_add (h : List UInt32) (L : List UInt8) (j k : Nat) : blocks h L (j + k) = blocks (blocks h L j) (L.drop (64 * j)) k := by
  induction j generalizing h L with
  | zero => simp [blocks]
  | succ j ih =>
    rw [show j + 1 + k = (j + k) + 1 by omega]
    simp only [blocks]
    rw [ih, List.drop_drop]
    congr 2
    omega
theorem blocks_succ (h : List UInt32) (L : List UInt8) (j : Nat) : blocks h L (j + 1) = compress (blocks h L j) ((L.drop (64 * j)).take 64) := by
  rw [blocks_add]; rfl
theorem blocks_append (h : List UInt32) (L M : List UInt8) (k : Nat) (hk : 64 * k ≤ L.length) : blocks h (L ++ M) k = blocks h L k := by
  induction k generalizing h L with
  | zero => rfl
  | succ k ih =>
    simp only [blocks]
    rw [List.take_append_of_le_length (by omega), List.drop_append_of_le_length (by omega), ih _ _ (by simp; omega)]
theorem bytesOf_length (x : UInt32) : (bytesOf x).length = 4 := rfl
theorem flatMap_bytesOf_length (l : List UInt32) : (l.flatMap bytesOf).length = 4 * l.length := by
  induction l with
  | nil => rfl
  | cons x l ih => rw [List.flatMap_cons, List.length_append, ih, bytesOf_length, List.length_cons]; omega
theorem sha_length (L : List UInt8) : (sha L).length = 32 := by
  unfold sha
  rw [flatMap_bytesOf_length, blocks_length]
  rfl
theorem tagged_length (t : UInt8) (L : List UInt8) : (tagged t L).length = 32 := sha_length _
theorem be8_length (n : Nat) : (be8 n).length = 8 := by simp [be8]
/-! the numbers that the machine computes with -/
theorem ofNat_nat (n : Nat) (h : n < 4294967296) : (UInt32.ofNat n).toNat = n := by
  rw [UInt32.toNat_ofNat']; exact Nat.mod_eq_of_lt h
theorem shr_toNat (x : UInt32) (n : Nat) : (shr x n).toNat = x.toNat / 2 ^ n := by
  unfold shr
  refine ofNat_nat _ (Nat.lt_of_le_of_lt (Nat.div_le_self _ _) x.toNat_lt)
theorem shl_toNat (x : UInt32) (n : Nat) : (shl x n).toNat = x.toNat * 2 ^ n % 4294967296 := by
  unfold shl
  rw [UInt32.toNat_ofNat']
theorem rotr_or (x : UInt32) (n : Nat) : shl x (32 - n) ||| shr x n = rotr x n := by unfold rotr; rw [UInt32.or_comm]
/-- the tail that is put behind a text of n bytes -/
def shaTail (n : Nat) : List UInt8 := 0x80 :: (List.replicate (padZeros n) 0 ++ be8 (n * 8))
theorem padded_eq (L : List UInt8) : padded L = L ++ shaTail L.length := rfl
/-- the sum, block by block: those of the text itself, then those of what is left with the tail -/
theorem sha_parts (L : List UInt8) (j m : Nat) (hj : 64 * j ≤ L.length) (hm : ((L.drop (64 * j)) ++ shaTail L.length).length = 64 * m) :
    sha L = (blocks (blocks shaH L j) ((L.drop (64 * j)) ++ shaTail L.length) m).flatMap bytesOf := by
  unfold sha
  have h1 : (padded L).drop (64 * j) = (L.drop (64 * j)) ++ shaTail L.length := by
    rw [padded_eq, List.drop_append_of_le_length hj]
  have h2 : (padded L).length / 64 = j + m := by
    have h3 : (padded L).length = 64 * j + ((padded L).drop (64 * j)).length := by
      rw [List.length_drop]
      have : 64 * j ≤ (padded L).length := by rw [padded_eq, List.length_append]; omega
      omega
    rw [h3, h1, hm]
    omega
  rw [h2, blocks_add, h1]
  congr 2
  rw [padded_eq, blocks_append _ _ _ _ hj]
end Go.Proofs.YtkndgpjamijbbaaGreat
namespace Go.Proofs.YtkndgpjamijbbaaGreat
set_option maxRecDepth 100000
open Go.RowKit

/-! ### bytes as numbers -/
def bv (L : List UInt8) : List Value := L.map fun b => .int .u8 (u8i b)
theorem bv_length (L : List UInt8) : (bv L).length = L.length := by simp [bv]
theorem bv_append (L M : List UInt8) : bv (L ++ M) = bv L ++ bv M := by simp [bv]
theorem bv_get {L : List UInt8} {j : Nat} (h : j < L.length) : (bv L)[j]? = some (.int .u8 (u8i (ub L j))) := by
  simp [bv, ub, List.getElem?_eq_getElem h]
theorem bv_one {L : List UInt8} : ∀ u ∈ bv L, u.oneCell' = true := by
  intro u hu
  simp only [bv, List.mem_map] at hu
  obtain ⟨b, _, rfl⟩ := hu
  rfl
def str (L : List UInt8) : ByteArray := ⟨L.toArray⟩
theorem str_size (L : List UInt8) : (str L).size = L.length := by simp [str, ByteArray.size]

theorem str_toList (L : List UInt8) : (str L).toList = L := ByteArray.toList_mk L
@[go_sem] theorem eql_nil_bytes (w : World) (A : Option Addr) (n c : Nat) : (binOp .eql 26 (.slice A n c) (.slice none 0 0)).run Tryz.prog w = .ok (.bool A.isNone) w :=
  Lib.run_eql_slice_nil w 26 5 A n c 0 0 Tryz.underlying26
theorem block_of_add (a : Addr) (n : Nat) : (a.add n).block = a.block := by unfold Addr.add; split <;> rfl
theorem add_of_add (a : Addr) (i j : Nat) : (a.add i).add j = a.add (i + j) := by
  unfold Addr.add
  by_cases hi : i = 0 <;> by_cases hj : j = 0 <;> simp [hi, hj, Nat.add_assoc]
theorem add_plain (g j : Nat) : (⟨g, 0, none⟩ : Addr).add j = ⟨g, j, none⟩ := by unfold Addr.add; split <;> simp_all

/-! ### worlds that grew: no old block was turned -/
def Ext (w w' : World) : Prop := Below w.heap.size w w'
theorem Ext.refl (w : World) : Ext w w := Below.refl _ _
theorem Ext.size {w w' : World} (h : Ext w w') : w.heap.size ≤ w'.heap.size := Below.size h
theorem Ext.trans {a b c : World} (h : Ext a b) (k : Ext b c) : Ext a c := Below.trans h (Below.mono k h.size)
theorem Ext.block {w w' : World} (h : Ext w w') {i : Nat} (hi : i < w.heap.size) : w'.heap[i]? = w.heap[i]? := Below.block h i hi
theorem Ext.alloc {a w : World} (h : Ext a w) (o : Obj) : Ext a (w.alloc o) := Below.alloc h h.size o
theorem Ext.drew {a w : World} (h : Ext a w) : Ext a w.drew := Below.drew h
theorem Ext.grown {w w' : World} (h : w.grownBy w' none) : Ext w w' := ⟨h.os, h.tape, h.output, h.size, fun k hk => h.block k hk (by simp)⟩
theorem Ext.grownBy {w w' : World} (h : Ext w w') (row : Option Nat) : w.grownBy w' row := ⟨h.os, h.tape, h.output, Below.size h, fun k hk _ => Below.block h k hk⟩
/-- A step that turned one block of the call's own. -/
theorem Ext.then_grown {a w w' : World} (h : Ext a w) {row : Option Nat} (hg : w.grownBy w' row) (hr : ∀ k, row = some k → a.heap.size ≤ k) : Ext a w' :=
  Below.grown h hg h.size hr
theorem Ext.set {a w : World} (h : Ext a w) {p : Addr} (hp : a.heap.size ≤ p.block) (u : Value) : Ext a (w.setCell p u) := Below.setCell h hp u
theorem Ext.cell {w w' : World} (h : Ext w w') {p : Addr} {v : Value} (hc : w.cell? p = some v) : w'.cell? p = some v :=
  (Below.cell h (World.block_lt_of_cell? w p hc)).trans hc

/-! ### a byte slice that is read: nil, empty or not -/
structure RB (w : World) (A : Option Addr) (n c : Nat) (L : List UInt8) : Prop where
  len : L.length = n
  room : n ≤ c
  cap : c ≤ maxLen
  cells : 0 < n → ∃ ad, A = some ad ∧ ∀ j, j < n → w.cell? (ad.add j) = some (.int .u8 (u8i (ub L j)))
theorem RB.ext {w w' : World} {A : Option Addr} {n c : Nat} {L : List UInt8} (h : RB w A n c L) (e : Ext w w') : RB w' A n c L :=
  ⟨h.len, h.room, h.cap, fun hn => by
    obtain ⟨ad, ha, hc⟩ := h.cells hn
    exact ⟨ad, ha, fun j hj => e.cell (hc j hj)⟩⟩
theorem RB.at_ {w : World} {A : Option Addr} {n c : Nat} {L : List UInt8} (h : RB w A n c L) {j : Nat} (hj : j < n) :
    ∃ ad, A = some ad ∧ ∀ i, i < n → w.cell? (ad.add i) = some (.int .u8 (u8i (ub L i))) := h.cells (by omega)
theorem RB.nil_ (w : World) : RB w none 0 0 [] := ⟨rfl, Nat.le_refl _, Nat.zero_le _, fun h => absurd h (Nat.lt_irrefl _)⟩
/-- 's[i:j]' -/
theorem RB.cut {w : World} {A A' : Option Addr} {n c : Nat} {L : List UInt8} (h : RB w A n c L) {i j c' : Nat} (hij : i ≤ j) (hj : j ≤ n) (hc : c' = c - i) (hA : i < j → A' = A.map (·.add i)) : RB w A' (j - i) c' ((L.take j).drop i) := by
  subst hc
  have := h.room
  have := h.cap
  have hl := h.len
  refine ⟨by simp; omega, by omega, by omega, fun hn => ?_⟩
  obtain ⟨ad, rfl, hcell⟩ := h.cells (by omega)
  refine ⟨ad.add i, by rw [hA (by omega)]; rfl, fun k hk => ?_⟩
  rw [add_of_add, hcell (i + k) (by omega)]
  congr 3
  unfold ub
  simp only [List.getD_eq_getElem?_getD, List.getElem?_drop]
  rw [List.getElem?_take_of_lt (by omega)]

/-! ### a byte slice of the call's own -/
def OB (w : World) (base : Nat) (A : Option Addr) (n c : Nat) (L : List UInt8) : Prop := w.ownsRow base 5 1 (.slice A n c) n (bv L)
theorem OB.len {w : World} {base n c : Nat} {A : Option Addr} {L : List UInt8} (h : OB w base A n c L) : L.length = n := by
  have h1 : (bv L).length = n * 1 := h.1
  rw [bv_length] at h1
  omega
theorem OB.rb {w : World} {base n c : Nat} {A : Option Addr} {L : List UInt8} (h : OB w base A n c L) : RB w A n c L := by
  have hl := h.len
  rcases h.2 with ⟨e, h0⟩ | ⟨g, cap, cur, e, _, _, h1, h2, _⟩
  · injection e with e1 e2 e3
    subst e1 e2 e3
    exact ⟨hl, Nat.le_refl _, Nat.zero_le _, fun hn => absurd hn (by omega)⟩
  · injection e with e1 e2 e3
    subst e1 e3
    refine ⟨hl, h1, h2, fun hn => ⟨_, rfl, fun j hj => ?_⟩⟩
    exact World.ownsRow.cells (g := g) h rfl j _ (bv_get (by omega))
theorem OB.none_ (w : World) (base : Nat) : OB w base none 0 0 [] := World.ownsRow_nil w base _ _
theorem OB.ext {w w' : World} {base n c : Nat} {A : Option Addr} {L : List UInt8} (h : OB w base A n c L) (e : Ext w w') : OB w' base A n c L := by
  refine World.ownsRow.kept h (e.grownBy none) ?_
  cases hb : Value.ownBlock (.slice A n c) <;> simp
/-- The block that a slice lies in. -/
def blk (A : Option Addr) : Option Nat := A.map (·.block)
theorem ownBlock_slice (A : Option Addr) (n c : Nat) : Value.ownBlock (.slice A n c) = blk A := by cases A <;> rfl
theorem OB.grown {w w' : World} {base n c : Nat} {A : Option Addr} {L : List UInt8} (h : OB w base A n c L) {row : Option Nat} (e : w.grownBy w' row) (hne : blk A = none ∨ blk A ≠ row) : OB w' base A n c L :=
  World.ownsRow.kept h e (by rw [ownBlock_slice]; exact hne)
theorem OB.lt {w : World} {base n c : Nat} {A : Option Addr} {L : List UInt8} (h : OB w base A n c L) {k : Nat} (hk : blk A = some k) : base ≤ k ∧ k < w.heap.size :=
  World.ownsRow.lt h k (by rw [ownBlock_slice]; exact hk)
theorem OB.base {w : World} {base base' n c : Nat} {A : Option Addr} {L : List UInt8} (h : OB w base A n c L) (hb : base' ≤ base) : OB w base' A n c L := by
  refine ⟨h.1, ?_⟩
  rcases h.2 with h0 | ⟨g, cap, cur, e, hg, h1⟩
  · exact .inl h0
  · exact .inr ⟨g, cap, cur, e, Nat.le_trans hb hg, h1⟩

/-- a literal '[]byte{..}': the new block -/
theorem OB.lit (w : World) (L : List UInt8) {n : Nat} (hn : L.length = n) (hm : n ≤ maxLen) : OB (w.alloc (.cells (bv L).toArray 5)) w.heap.size (some ⟨w.heap.size, 0, none⟩) n n L := by
  refine ⟨by rw [bv_length]; omega, .inr ⟨w.heap.size, n, _, rfl, Nat.le_refl _, heap_alloc_new w _, Nat.le_refl _, hm, by simp [bv_length, hn], ?_⟩⟩
  rw [List.toList_toArray, List.take_of_length_le (by rw [bv_length]; omega)]
theorem Ext.new (w : World) (o : Obj) : Ext w (w.alloc o) := (Ext.refl w).alloc o
theorem size_new (w : World) (o : Obj) : (w.alloc o).heap.size = w.heap.size + 1 := World.size_alloc w o

theorem info_u8 : (Tryz.prog.info? 5).map (fun i => (i.zero, i.size, i.bytes)) = some (some (.int .u8 0), 1, 1) := by kernel_rfl

/-! ### the operations -/
section
variable {ops : Array Oper} {rest : List Oper} {o : Oper} {a : Act} {Q : Exit → Act → World → Prop} {w : World}

/-- append(s, x...), as it runs -/
theorem run_app (ty : TypeId) {A : Option Addr} {n c : Nat} {B : Option Addr} {m d : Nat} {base : Nat} {L M : List UInt8} (hown : OB w base A n c L) (hr : RB w B m d M) (hnm : n + m ≤ 140737488355328) (hbase : base ≤ w.heap.size) :
    ∃ A' c' w', (Builtin.append_ #[26, 26] ty #[.slice A n c, .slice B m d]).run Tryz.prog w = .ok (.slice A' (n + m) c') w' ∧ OB w' base A' (n + m) c' (L ++ M) ∧ w.grownBy w' (blk A) ∧ (blk A' = blk A ∨ blk A' = some w.heap.size) := by
  obtain ⟨i0, hi0, hz0, hz1, hz2⟩ := info_parts info_u8
  have hl := hown.len
  have hm := hr.len
  have own' : ∀ {v : Value} {w' : World}, w'.ownsRow base 5 1 v (n + m) (bv L ++ bv M) → ∃ A' c', v = .slice A' (n + m) c' := by
    intro v w' h1
    rcases h1.2 with ⟨rfl, h0⟩ | ⟨g, cap, cur, rfl, _⟩
    · exact ⟨none, 0, by rw [h0]⟩
    · exact ⟨_, cap, rfl⟩
  rcases B with _ | ad
  · have hm0 : m = 0 := by
      rcases Nat.eq_zero_or_pos m with h0 | h0
      · exact h0
      · obtain ⟨ad, h1, _⟩ := hr.cells h0
        cases h1
    subst hm0
    have hM : M = [] := List.eq_nil_of_length_eq_zero hm
    subst hM
    refine ⟨A, c, w, ?_, by simpa using hown, World.grownBy.refl w _, .inl rfl⟩
    rcases hown.2 with ⟨e, h0⟩ | ⟨g, cap, cur, e, _, _, hnc, _⟩
    · injection e with e1 e2 e3
      subst e1 e2 e3
      simp [Builtin.append_, run_underlying Tryz.underlying26, sizeOf, typeInfo, hi0, Builtin.lenOf, Builtin.firstCells]
    · injection e with e1 e2 e3
      subst e1 e3
      simp [Builtin.append_, run_underlying Tryz.underlying26, sizeOf, typeInfo, hi0, Builtin.lenOf, Builtin.firstCells, hnc, storeCells]
  · have hcells : ∀ j u, (bv M)[j]? = some u → w.cell? (ad.add j) = some u := by
      intro j u hu
      have hj : j < (bv M).length := by
        rcases Nat.lt_or_ge j (bv M).length with h1 | h1
        · exact h1
        · rw [List.getElem?_eq_none h1] at hu; cases hu
      rw [bv_length, hm] at hj
      obtain ⟨ad', h1, h2⟩ := hr.cells (by omega)
      injection h1 with h1
      subst h1
      rw [bv_get (by omega)] at hu
      injection hu with hu
      rw [← hu]
      exact h2 j hj
    obtain ⟨v', w', hrun, h2, h3, _, h5⟩ := run_append_own_at (P := Tryz.prog) w base 26 ty 5 i0 (.int .u8 0) 1 1 Tryz.underlying26 hi0 hz0 hz1 hz2 rfl (by decide) (.slice A n c) n (bv L) hown ad m d (bv M) (by rw [bv_length]; omega) hcells bv_one (by simp only [maxLen]; omega) (by omega) hbase
    obtain ⟨A', c', rfl⟩ := own' h2
    rw [ownBlock_slice, ownBlock_slice] at h5
    rw [ownBlock_slice] at h3
    exact ⟨A', c', w', hrun, by rw [OB, bv_append]; exact h2, h3, h5⟩

/-- append(s, x...) -/
theorem app_law (hgd : o.guard = none) {s x : Operand} (ho : o.op = .call { callee := .builtin .append, args := #[s, x], argTypes := #[26, 26] })
    {A : Option Addr} {n c : Nat} (hs : a.eval s = .slice A n c) {B : Option Addr} {m d : Nat} (hx : a.eval x = .slice B m d)
    {base : Nat} {L M : List UInt8} (hown : OB w base A n c L) (hr : RB w B m d M) (hnm : n + m ≤ 140737488355328) (hbase : base ≤ w.heap.size)
    (h : ∀ A' c' w', OB w' base A' (n + m) c' (L ++ M) → w.grownBy w' (blk A) → (blk A' = blk A ∨ blk A' = some w.heap.size) → w.heap.size ≤ w'.heap.size → wpList Tryz.prog ops Q rest (a.put o.dst (.slice A' (n + m) c')) w') :
    wpList Tryz.prog ops Q (o :: rest) a w := by
  obtain ⟨A', c', w', hrun, h2, h3, h4⟩ := run_app o.type hown hr hnm hbase
  refine wpList_plain hgd fun K hK => ?_
  unfold Oper.wp execOp
  simp only [ho, resolve, invoke, builtin, Sem.run_bind, Sem.run_pure, Result.andThen_ok, List.map_toArray, List.map_cons, List.map_nil, hs, hx, hrun]
  exact hK _ _ (h A' c' w' h2 h3 h4 h3.size)

/-- string(b) -/
theorem run_str {A : Option Addr} {n c : Nat} {L : List UInt8} (hr : RB w A n c L) :
    (convert 26 9 (.slice A n c)).run Tryz.prog w = .ok (.string (str L)) w := by
  have hl := hr.len
  rcases A with _ | ad
  · have hn : n = 0 := by
      rcases Nat.eq_zero_or_pos n with h0 | h0
      · exact h0
      · obtain ⟨ad, h1, _⟩ := hr.cells h0
        cases h1
    subst hn
    obtain rfl : L = [] := List.eq_nil_of_length_eq_zero hl
    exact run_convert_bytes_nil w 26 5 Tryz.underlying26 Tryz.underlying5 0 c 9 Tryz.underlying9
  · have hload : (loadCells ad n).run Tryz.prog w = .ok ((L.map u8i).map (Value.int .u8)).toArray w := by
      have := run_loadCells_list (P := Tryz.prog) w ad ((L.map u8i).map (Value.int .u8)) (fun j v hj => by
        have hjl : j < L.length := by
          rcases Nat.lt_or_ge j L.length with h | h
          · exact h
          · rw [List.getElem?_eq_none (by simpa using h)] at hj; cases hj
        obtain ⟨ad', h1, h2⟩ := hr.cells (by omega)
        injection h1 with h1
        subst h1
        rw [h2 j (by omega), ← hj]
        simp [ub, List.getElem?_eq_getElem hjl])
      simpa [hl] using this
    rw [run_convert_bytes_string w 26 9 5 _ n c Tryz.underlying26 Tryz.underlying5 Tryz.underlying9, run_bytesToString w _ n c _ hload, foldl_push_bytes]
    simp only [Result.ok.injEq, Value.string.injEq, and_true]
    unfold str
    congr 1
    simp only [ByteArray.empty, ByteArray.emptyWithCapacity]
    have e : (L.map u8i).map (fun n => UInt8.ofNat n.toNat) = L := by
      rw [List.map_map]
      conv => rhs; rw [← List.map_id L]
      refine List.map_congr_left fun b _ => ?_
      simp [u8i]
    rw [e]
    exact Array.empty_append
end
end Go.Proofs.YtkndgpjamijbbaaGreat
namespace Go.Proofs.YtkndgpjamijbbaaGreat
set_option maxRecDepth 100000
open Go Go.RowKit

section
variable {P : Program} {o : Oper} {ρ : Operand → Value} {w : World} {G : Value → World → Prop}
theorem Runs.move {x : Operand} {v : Value} (ho : o.op = .move x) (hx : ρ x = v) (h : G v w) : Runs P o ρ w G := by
  unfold Runs execOp
  simp only [ho, Sem.run_pure, hx]
  exact h
theorem Runs.assign {x : Operand} {v : Value} (ho : o.op = .assign x) (hx : ρ x = v) (h : G v w) : Runs P o ρ w G := by
  unfold Runs execOp
  simp only [ho, Sem.run_pure, hx]
  exact h
theorem Runs.pick {c x y : Operand} {b : Bool} (ho : o.op = .pick c x y) (hc : ρ c = .bool b) (h : G (if b then ρ x else ρ y) w) : Runs P o ρ w G := by
  unfold Runs execOp
  simp only [ho, hc, asBool, Sem.run_bind, Sem.run_pure, Result.andThen_ok]
  exact h
theorem Runs.bin {op : BinOp} {t yt : TypeId} {x y : Operand} {u v r : Value} (ho : o.op = .binOp op t x y yt) (hx : ρ x = u) (hy : ρ y = v)
    (hg : (eqGuard op t x y u v).run P w = .ok () w) (hr : (binOp op t u v).run P w = .ok r w) (h : G r w) : Runs P o ρ w G := by
  unfold Runs execOp
  simp only [ho, hx, hy, Sem.run_bind, hg, hr, Result.andThen_ok, Sem.run_pure]
  exact h
theorem Runs.un {op : UnOp} {t : TypeId} {x : Operand} {u r : Value} (ho : o.op = .unOp op t x) (hx : ρ x = u) (hr : (Op.unary op u).run P w = .ok r w) (h : G r w) : Runs P o ρ w G := by
  unfold Runs execOp
  simp only [ho, hx, Sem.run_bind, hr, Result.andThen_ok, Sem.run_pure]
  exact h
theorem Runs.conv {s t : TypeId} {x : Operand} {u r : Value} (ho : o.op = .convert s t x) (hx : ρ x = u) (hr : (convert s t u).run P w = .ok r w) (h : G r w) : Runs P o ρ w G := by
  unfold Runs execOp
  simp only [ho, hx, Sem.run_bind, hr, Result.andThen_ok, Sem.run_pure]
  exact h
/-- any operation whose run is known -/
theorem Runs.of_run {r : Value} {w' : World} (hr : (execOp ρ o).run P w = .ok (.value r) w') (h : G r w') : Runs P o ρ w G := by
  unfold Runs
  simp only [hr]
  exact h
theorem Runs.call {f : FuncId} {vs : List Value} {c : Call} (ho : o.op = .call c) (hc : c.callee = .value (.func f)) (hf : ρ (.func f) = .func (.func f) #[] #[]) (ha : (c.args.map ρ) = vs.toArray)
    (hrun : (callFunc f vs.toArray).run P w = .ok (.enter f vs.toArray) w)
    (h : Calls P f vs.toArray w fun e w' => ∃ v, e = .returned v ∧ G v w') : Runs P o ρ w G := by
  unfold Runs execOp
  simp only [ho, resolve, hc, ha, hf, Deferred.ofValue, Sem.run_bind, Sem.run_pure, Result.andThen_ok, invoke, Array.empty_append, Array.append_empty, hrun]
  exact h
theorem run_enter {P : Program} {f : FuncId} {fn : Func} (hf : P.funcs[f]? = some fn) (hn : (fn.name == "runtime.NumGoroutine") = false) (hb : fn.body.isNone = false) (args : Array Value) (w : World) :
    (callFunc f args).run P w = .ok (.enter f args) w := by
  have hn' : ¬ fn.name = "runtime.NumGoroutine" := by simpa using hn
  have hb' : ¬ fn.body = none := by intro h; rw [h] at hb; cases hb
  simp [callFunc, hf, hn', hb']
end

/-! ### the common case: nothing that was there is turned -/
def MP.is {R : World → World → Prop} (v : Value) : MP R := ⟨fun u _ => u = v, fun _ _ _ _ h => h⟩
def MP.any {R : World → World → Prop} : MP R := ⟨fun _ _ => True, fun _ _ _ _ _ => trivial⟩
/-- a byte slice that reads as L -/
def MP.rb (L : List UInt8) : MP Ext := ⟨fun u w => ∃ A n c, u = .slice A n c ∧ RB w A n c L, fun _ _ _ e ⟨A, n, c, h1, h2⟩ => ⟨A, n, c, h1, h2.ext e⟩⟩
/-- a byte slice of the call's own, at or beyond block b -/
def MP.ob (b : Nat) (L : List UInt8) : MP Ext := ⟨fun u w => ∃ A n c, u = .slice A n c ∧ OB w b A n c L, fun _ _ _ e ⟨A, n, c, h1, h2⟩ => ⟨A, n, c, h1, h2.ext e⟩⟩

def depsOf (o : Oper) : List Nat := (o.after.toList.filter (Region.binds .any)).map (·.on)
theorem deps_done {o : Oper} {done : Nat → Bool} (h : ∀ e ∈ o.after, Region.binds .any e = true → done e.on = true) (j : Nat) (hj : (depsOf o).contains j = true) : done j = true := by
  have := List.contains_iff_mem.1 hj
  simp only [depsOf, List.mem_map, List.mem_filter] at this
  obtain ⟨e, ⟨h1, h2⟩, h3⟩ := this
  rw [← h3]
  exact h e (Array.mem_toList_iff.1 h1) h2

section
variable {P : Program} {ops : Array Oper} {H : List Tmp} {F : List (MP Ext)} {a0 : Act} {w0 : World} {i : Nat} {o : Oper}
theorem stepE (ho : o.guard = none) (h : ∀ (done : Nat → Bool) (a : Act) (w : World), Ext w0 w → (∀ j, (depsOf o).contains j = true → done j = true) → Known ops H F a0 done a w →
    Runs P o a.eval w fun v w' => Ext w w' ∧ factAt F i v w') : StepOK P ops H F (fun _ w' => Ext w0 w') a0 i o := by
  intro done a w hJ _ hd hk
  rw [if_pos (by simp [Region.wanted, ho])]
  exact (h done a w hJ (deps_done hd) hk).mono fun v w' hg => ⟨fun j _ u hu => factAt_keep hg.1 j u hu, hJ.trans hg.1, hg.2⟩
theorem yielded_of {d j : Nat} {a : Act} {b : Bool} (hj : dstAt ops j = some d) (h : a.eval (.tmp d) = .bool b) : yielded ops a.tmps j = some b := by
  unfold yielded
  unfold dstAt at hj
  rw [hj]
  simp only [Option.bind_some]
  have h1 : a.tmps.getD d undef = .bool b := h
  rw [Array.getD_eq_getD_getElem?] at h1
  cases hc : a.tmps[d]? with
  | none => rw [hc] at h1; simp [undef] at h1
  | some v => rw [hc] at h1; simp at h1; rw [h1]
/-- a guarded operation whose guard says yes -/
theorem stepY {j d : Nat} {b : Bool} (ho : o.guard = some (j, b)) (hj : dstAt ops j = some d) (hdep : (depsOf o).contains j = true) (hyes : ∀ v w, factAt F j v w → v = .bool b)
    (h : ∀ (done : Nat → Bool) (a : Act) (w : World), Ext w0 w → (∀ j, (depsOf o).contains j = true → done j = true) → Known ops H F a0 done a w →
    Runs P o a.eval w fun v w' => Ext w w' ∧ factAt F i v w') : StepOK P ops H F (fun _ w' => Ext w0 w') a0 i o := by
  intro done a w hJ _ hd hk
  have hd' := deps_done hd
  have hb := hyes _ _ (hk.fact j d hj (hd' j hdep))
  rw [if_pos (by simp [Region.wanted, ho, yielded_of hj hb])]
  exact (h done a w hJ hd' hk).mono fun v w' hg => ⟨fun j _ u hu => factAt_keep hg.1 j u hu, hJ.trans hg.1, hg.2⟩
/-- a guarded operation whose guard says no -/
theorem stepN {j d : Nat} {b : Bool} (ho : o.guard = some (j, !b)) (hj : dstAt ops j = some d) (hdep : (depsOf o).contains j = true) (hno : ∀ v w, factAt F j v w → v = .bool b)
    (h : ∀ w, factAt F i undef w) : StepOK P ops H F (fun _ w' => Ext w0 w') a0 i o := by
  intro done a w hJ _ hd hk
  have hd' := deps_done hd
  have hb := hno _ _ (hk.fact j d hj (hd' j hdep))
  rw [if_neg (by simp [Region.wanted, ho, yielded_of hj hb])]
  exact ⟨hJ, h w⟩
end

theorem par_ext {ops : Array Oper} {id n : Nat} {a : Act} {w : World} {Q : Exit → Act → World → Prop}
    (hB : parB ops n = true) (F : List (MP Ext))
    (hsz : (dsts ops).all (fun t => decide (t < a.tmps.size)) = true)
    (steps : StepsOK Tryz.prog ops ((ops.toList.take n).filterMap (·.dst)) F (fun _ w' => Ext w w') a 0 (ops.toList.take n))
    (fin : ∀ (vals : Nat → Value) (w' : World), Ext w w' → (∀ j, j < n → ∀ d, dstAt ops j = some d → factAt F j (vals j) w') → wpList Tryz.prog ops Q (ops.toList.drop n) (putAll a 0 (ops.toList.take n) vals) w') :
    (Code.region id ops true).wp Tryz.prog Q a w :=
  par_region (R := Ext) (by kernel_rfl) hB F (fun _ w' => Ext w w') (Ext.refl w).drew (fun t ht => by simpa using List.all_eq_true.1 hsz t ht) steps (fun vals w' h1 h2 => fin vals w' h1 h2) (fun _ _ _ _ h => h)

theorem seq_ext {ops : Array Oper} {id n : Nat} {a : Act} {w : World} {Q : Exit → Act → World → Prop}
    (hB : (decide (n ≤ ops.size) && ((ops.toList.take n).zipIdx.all fun (o, i) => o.after.all fun e => !Region.binds .any e || decide (e.on < i)) && once ops.toList) = true) (F : List (MP Ext))
    (hsz : (dsts ops).all (fun t => decide (t < a.tmps.size)) = true)
    (steps : StepsOK Tryz.prog ops ((ops.toList.take n).filterMap (·.dst)) F (fun _ w' => Ext w w') a 0 (ops.toList.take n))
    (fin : ∀ (vals : Nat → Value) (w' : World), Ext w w' → (∀ j, j < n → ∀ d, dstAt ops j = some d → factAt F j (vals j) w') → wpList Tryz.prog ops Q (ops.toList.drop n) (putAll a 0 (ops.toList.take n) vals) w') :
    (Code.region id ops false).wp Tryz.prog Q a w :=
  seq_region (R := Ext) hB F (fun _ w' => Ext w w') (Ext.refl w) (fun t ht => by simpa using List.all_eq_true.1 hsz t ht) steps (fun vals w' h1 h2 => fin vals w' h1 h2) (fun _ _ _ _ h => h)
end Go.Proofs.YtkndgpjamijbbaaGreat
