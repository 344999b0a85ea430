/-
  The machine's operations on words, bytes and small numbers, in the words of the plain texts. Plain theorems. Rows of words that the call laid (arrays), addresses, loads and stores. Plain theorems over this seat's program. Each named function of the translation is entered when it is called.
-/
import Derived.Test.YtkndgpjamijbbaaGreatLawNumbers22Q1
import Derived.Laws.Rows
import Derived.Laws.Tables
namespace Go.Proofs.YtkndgpjamijbbaaGreat
set_option maxRecDepth 100000
open Go Go.RowKit
section
variable {P : Program} {w : World}
theorem beq_dec {α : Type} [BEq α] [LawfulBEq α] [DecidableEq α] (x y : α) : (x == y) = decide (x = y) := by
  by_cases h : x = y <;> simp [h]
theorem u32_wrap (n : Nat) : IntKind.u32.wrap (n : Int) = ((n % 4294967296 : Nat) : Int) := by
  rw [IntKind.wrap_u32]; omega
theorem u32_wrap_id (x : UInt32) : IntKind.u32.wrap (x.toNat : Int) = (x.toNat : Int) := by
  rw [u32_wrap, Nat.mod_eq_of_lt x.toNat_lt]
theorem eqGuard_bin {op : BinOp} {t : TypeId} {x y : Operand} {u v : Value} (h : (op matches .eql | .neq) = false) : (eqGuard op t x y u v).run P w = .ok () w := by
  cases op <;> simp_all [eqGuard]
theorem bin_add32 (t : TypeId) (x y : UInt32) : (binOp .add t (.int .u32 (u32i x)) (.int .u32 (u32i y))).run P w = .ok (.int .u32 (u32i (x + y))) w := by
  simp only [u32i]
  have e : IntKind.u32.wrap ((x.toNat : Int) + (y.toNat : Int)) = (((x + y).toNat : Nat) : Int) := by
    rw [← Int.natCast_add, u32_wrap, UInt32.toNat_add]
  simp [binOp, Op.intArith, e]
theorem bitvec_u32 (x : UInt32) : BitVec.ofInt (IntKind.u32).bits (x.toNat : Int) = x.toBitVec := by
  apply BitVec.eq_of_toNat_eq
  have := x.toNat_lt
  simp [IntKind.bits]
theorem bin_xor32 (t : TypeId) (x y : UInt32) : (binOp .xor t (.int .u32 (u32i x)) (.int .u32 (u32i y))).run P w = .ok (.int .u32 (u32i (x ^^^ y))) w := by
  simp only [u32i]
  simp only [binOp, Op.intBits, bitvec_u32]
  simp [-UInt32.toNat_xor]
  exact u32_wrap_id (x ^^^ y)
theorem bin_and32 (t : TypeId) (x y : UInt32) : (binOp .and t (.int .u32 (u32i x)) (.int .u32 (u32i y))).run P w = .ok (.int .u32 (u32i (x &&& y))) w := by
  simp only [u32i]
  simp only [binOp, Op.intBits, bitvec_u32]
  simp [-UInt32.toNat_and]
  exact u32_wrap_id (x &&& y)
theorem bin_or32 (t : TypeId) (x y : UInt32) : (binOp .or t (.int .u32 (u32i x)) (.int .u32 (u32i y))).run P w = .ok (.int .u32 (u32i (x ||| y))) w := by
  simp only [u32i]
  simp only [binOp, Op.intBits, bitvec_u32]
  simp [-UInt32.toNat_or]
  exact u32_wrap_id (x ||| y)
theorem bin_shr32 (t : TypeId) {kk : IntKind} (x : UInt32) (k : Nat) (kI : Int) (hk : kI = (k : Int) := by rfl) (h : k ≤ 32 := by omega) : (binOp .shr t (.int .u32 (u32i x)) (.int kk kI)).run P w = .ok (.int .u32 (u32i (shr x k))) w := by
  simp only [u32i]
  subst hk
  have h1 : ¬ ((k : Int) < 0) := by omega
  have h2 : min (k : Int).toNat IntKind.u32.bits = k := by simp [IntKind.bits]; omega
  have e : ((x.toNat : Int)).fdiv (2 ^ k) = (((shr x k).toNat : Nat) : Int) := by
    rw [shr_toNat, Int.fdiv_eq_ediv_of_nonneg _ (Int.pow_nonneg (by decide))]
    simp
  simp only [binOp, Op.shift, if_neg h1, h2, e, Sem.run_pure]
theorem bin_shl32 (t : TypeId) {kk : IntKind} (x : UInt32) (k : Nat) (kI : Int) (hk : kI = (k : Int) := by rfl) (h : k ≤ 32 := by omega) : (binOp .shl t (.int .u32 (u32i x)) (.int kk kI)).run P w = .ok (.int .u32 (u32i (shl x k))) w := by
  simp only [u32i]
  subst hk
  have h1 : ¬ ((k : Int) < 0) := by omega
  have h2 : min (k : Int).toNat IntKind.u32.bits = k := by simp [IntKind.bits]; omega
  have e : IntKind.u32.wrap ((x.toNat : Int) * 2 ^ k) = (((shl x k).toNat : Nat) : Int) := by
    rw [shl_toNat, ← u32_wrap]
    simp
  simp only [binOp, Op.shift, if_neg h1, h2, e, Sem.run_pure]
theorem un_not32 (x : UInt32) : (Op.unary .xor (.int .u32 (u32i x))).run P w = .ok (.int .u32 (u32i (~~~x))) w := by
  simp only [u32i]
  have e : BitVec.ofInt 32 4294967295 ^^^ x.toBitVec = (~~~x).toBitVec := by
    have : BitVec.ofInt 32 4294967295 = BitVec.allOnes 32 := by decide
    rw [this, BitVec.allOnes_xor]
    rfl
  have hs : (IntKind.u32).signed = false := rfl
  simp only [Op.unary, hs, Op.intBits, bitvec_u32]
  simp [-UInt32.toNat_not, -BitVec.allOnes_xor]
  show IntKind.u32.wrap ((BitVec.ofInt 32 4294967295 ^^^ x.toBitVec).toNat : Int) = _
  rw [e]
  exact u32_wrap_id (~~~x)
theorem i64_wrap_id {x : Int} (h1 : -9223372036854775808 ≤ x) (h2 : x ≤ 9223372036854775807) : IntKind.i64.wrap x = x := by rw [IntKind.wrap_i64]; omega
theorem bin_add64 (t : TypeId) (x y : Int) (h1 : -9223372036854775808 ≤ x + y) (h2 : x + y ≤ 9223372036854775807) : (binOp .add t (.int .i64 x) (.int .i64 y)).run P w = .ok (.int .i64 (x + y)) w := by
  simp [binOp, Op.intArith, i64_wrap_id h1 h2]
theorem bin_sub64 (t : TypeId) (x y : Int) (h1 : -9223372036854775808 ≤ x - y) (h2 : x - y ≤ 9223372036854775807) : (binOp .sub t (.int .i64 x) (.int .i64 y)).run P w = .ok (.int .i64 (x - y)) w := by
  simp [binOp, Op.intArith, i64_wrap_id h1 h2]
theorem bin_mul64 (t : TypeId) (x y : Int) (h1 : -9223372036854775808 ≤ x * y) (h2 : x * y ≤ 9223372036854775807) : (binOp .mul t (.int .i64 x) (.int .i64 y)).run P w = .ok (.int .i64 (x * y)) w := by
  simp [binOp, Op.intArith, i64_wrap_id h1 h2]
theorem bin_sub64u (t : TypeId) (k : Nat) (h : k ≤ 32) : (binOp .sub t (.int .u64 (32 : Int)) (.int .u64 (k : Int))).run P w = .ok (.int .u64 (32 - (k : Int))) w := by
  have e : IntKind.u64.wrap (32 - (k : Int)) = 32 - (k : Int) := by rw [IntKind.wrap_u64]; omega
  simp [binOp, Op.intArith, e]
theorem bin_lss (t : TypeId) (k : IntKind) (x y : Int) : (binOp .lss t (.int k x) (.int k y)).run P w = .ok (.bool (decide (x < y))) w := by simp [binOp, Op.intCmp]
theorem bin_leq (t : TypeId) (k : IntKind) (x y : Int) : (binOp .leq t (.int k x) (.int k y)).run P w = .ok (.bool (decide (x ≤ y))) w := by simp [binOp, Op.intCmp]
theorem bin_gtr (t : TypeId) (k : IntKind) (x y : Int) : (binOp .gtr t (.int k x) (.int k y)).run P w = .ok (.bool (decide (y < x))) w := by simp [binOp, Op.intCmp]
theorem bin_eql (t : TypeId) (k : IntKind) (x y : Int) : (binOp .eql t (.int k x) (.int k y)).run P w = .ok (.bool (decide (x = y))) w := by
  simp [binOp, Op.intCmp, beq_dec]
theorem bin_neq (t : TypeId) (k : IntKind) (x y : Int) : (binOp .neq t (.int k x) (.int k y)).run P w = .ok (.bool (decide (x ≠ y))) w := by
  simp [binOp, Op.intCmp, bne, beq_dec]
theorem bin_eqs (t : TypeId) (L M : List UInt8) : (binOp .eql t (.string (str L)) (.string (str M))).run P w = .ok (.bool (decide (L = M))) w := by
  simp only [binOp, Op.stringOp, str_toList]
  simp [beq_dec]
theorem bin_nes (t : TypeId) (L M : List UInt8) : (binOp .neq t (.string (str L)) (.string (str M))).run P w = .ok (.bool (decide (L ≠ M))) w := by
  simp only [binOp, Op.stringOp, str_toList]
  simp [bne, beq_dec]
/-- 'uint32(b)' of a byte -/
theorem conv_u8_u32 {s t : TypeId} (hs : P.underlying s = some (.int .u8)) (ht : P.underlying t = some (.int .u32)) (b : UInt8) : (convert s t (.int .u8 (u8i b))).run P w = .ok (.int .u32 (u32i b.toUInt32)) w := by
  simp only [u32i, u8i]
  have e : IntKind.u32.wrap (b.toNat : Int) = ((b.toUInt32.toNat : Nat) : Int) := by
    rw [u32_wrap, UInt8.toNat_toUInt32, Nat.mod_eq_of_lt]
    have := b.toNat_lt; omega
  simp [convert, run_underlying hs, run_underlying ht, Conv.intToInt, e]
theorem conv_u32_u8 {s t : TypeId} (hs : P.underlying s = some (.int .u32)) (ht : P.underlying t = some (.int .u8)) (x : UInt32) : (convert s t (.int .u32 (u32i x))).run P w = .ok (.int .u8 (u8i x.toUInt8)) w := by
  simp only [u32i, u8i]
  have e : IntKind.u8.wrap (x.toNat : Int) = ((x.toUInt8.toNat : Nat) : Int) := by
    rw [IntKind.wrap_u8, UInt32.toNat_toUInt8]
    omega
  simp [convert, run_underlying hs, run_underlying ht, Conv.intToInt, e]
end
end Go.Proofs.YtkndgpjamijbbaaGreat
namespace Go.Proofs.YtkndgpjamijbbaaGreat
set_option maxRecDepth 100000
open Go Go.RowKit

/-- Block g is just the cells cs of element type t, none frozen. -/
def Blk (w : World) (g : Nat) (t : TypeId) (cs : Array Value) : Prop := w.heap[g]? = some (.cells cs t (0, 0))
section
variable {w w' : World} {g : Nat} {t : TypeId} {cs : Array Value}
theorem Blk.lt (h : Blk w g t cs) : g < w.heap.size := (Array.getElem?_eq_some_iff.1 h).1
theorem Blk.cell (h : Blk w g t cs) {i : Nat} {v : Value} (hi : cs[i]? = some v) : w.cell? ⟨g, i, none⟩ = some v := by rw [cell_of_row w g i cs t (0, 0) h, hi]
theorem Blk.frozen (h : Blk w g t cs) (i : Nat) : w.frozen? ⟨g, i, none⟩ = false := frozen_of_row w g i cs t h
theorem Blk.new (w : World) (t : TypeId) (cs : Array Value) : Blk (w.alloc (.cells cs t)) w.heap.size t cs := heap_alloc_new w _
theorem Blk.ext (h : Blk w g t cs) (e : Ext w w') : Blk w' g t cs := (e.block h.lt).trans h
theorem Blk.grown {row : Option Nat} (h : Blk w g t cs) (e : w.grownBy w' row) (hne : some g ≠ row) : Blk w' g t cs := (e.block g h.lt hne).trans h
theorem Blk.set (h : Blk w g t cs) (i : Nat) (u : Value) : Blk (w.setCell ⟨g, i, none⟩ u) g t (cs.setIfInBounds i u) := by
  unfold Blk at h ⊢
  simp [World.setCell, Array.getElem?_modify, h]
theorem Blk.far (h : Blk w g t cs) {p : Addr} (hp : g ≠ p.block) (u : Value) : Blk (w.setCell p u) g t cs := (Below.heap_setCell w p u g hp).trans h
theorem Blk.ne_ {g' : Nat} {t' : TypeId} {cs' : Array Value} (h : Blk w g t cs) (h' : Blk w g' t' cs') (hne : t ≠ t') : g ≠ g' := by
  rintro rfl
  unfold Blk at h h'
  rw [h] at h'
  injection h' with h'
  injection h' with _ ht
  exact hne ht
end
theorem grownBy_setCell (w : World) (p : Addr) (u : Value) : w.grownBy (w.setCell p u) (some p.block) :=
  ⟨rfl, rfl, rfl, by simp [World.setCell], fun k _ hne => Below.heap_setCell w p u k (fun e => hne (by rw [e]))⟩

def uv (l : List UInt32) : Array Value := (l.map fun x => Value.int .u32 (u32i x)).toArray
theorem uv_size (l : List UInt32) : (uv l).size = l.length := by simp [uv]
theorem uv_get {l : List UInt32} {i : Nat} (h : i < l.length) : (uv l)[i]? = some (.int .u32 (u32i (uw l i))) := by simp [uv, uw, h]
theorem uv_set (l : List UInt32) (i : Nat) (x : UInt32) : (uv l).setIfInBounds i (.int .u32 (u32i x)) = uv (l.set i x) := by
  unfold uv
  rw [List.setIfInBounds_toArray, List.map_set]
theorem uv_one (l : List UInt32) : ∀ v ∈ (uv l).toList, v.oneCell' = true := by
  intro v hv
  simp only [uv, List.mem_map] at hv
  obtain ⟨x, _, rfl⟩ := hv
  rfl
/-- A row of words in block g. -/
def Arr (w : World) (g : Nat) (t : TypeId) (l : List UInt32) : Prop := Blk w g t (uv l)
section
variable {w w' : World} {g : Nat} {t : TypeId} {l : List UInt32}
theorem Arr.ext (h : Arr w g t l) (e : Ext w w') : Arr w' g t l := Blk.ext h e
theorem Arr.cell (h : Arr w g t l) {i : Nat} (hi : i < l.length) : w.cell? ⟨g, i, none⟩ = some (.int .u32 (u32i (uw l i))) := Blk.cell h (uv_get hi)
theorem Arr.frozen (h : Arr w g t l) (i : Nat) : w.frozen? ⟨g, i, none⟩ = false := Blk.frozen h i
theorem Arr.set (h : Arr w g t l) (i : Nat) (x : UInt32) : Arr (w.setCell ⟨g, i, none⟩ (.int .u32 (u32i x))) g t (l.set i x) := by
  have := Blk.set h i (.int .u32 (u32i x))
  rwa [uv_set] at this
theorem Arr.far (h : Arr w g t l) {p : Addr} (hp : g ≠ p.block) (u : Value) : Arr (w.setCell p u) g t l := Blk.far h hp u
theorem Arr.grown {row : Option Nat} (h : Arr w g t l) (e : w.grownBy w' row) (hne : some g ≠ row) : Arr w' g t l := Blk.grown h e hne
theorem Arr.lt (h : Arr w g t l) : g < w.heap.size := Blk.lt h
theorem Arr.new (w : World) (t : TypeId) (l : List UInt32) : Arr (w.alloc (.cells (uv l) t)) w.heap.size t l := Blk.new w t _
end

/-- A world gets a name of its own; what is to be known of it is told. -/
theorem genW {P : Program} {c : Code} {Q : Exit → Act → World → Prop} {a : Act} {w : World} (R : World → Prop) (hR : R w) (h : ∀ W, R W → c.wp P Q a W) : c.wp P Q a w := h w hR
theorem new2 (w : World) (o p : Obj) : ((w.alloc o).alloc p).heap[w.heap.size]? = some o ∧ ((w.alloc o).alloc p).heap[w.heap.size + 1]? = some p ∧ ((w.alloc o).alloc p).heap.size = w.heap.size + 1 + 1 := by
  have h1 := size_new w o
  have h2 := heap_alloc_new (w.alloc o) p
  rw [h1] at h2
  exact ⟨(Below.heap_alloc _ p _ (by omega)).trans (heap_alloc_new w o), h2, by rw [size_new, h1]⟩
theorem new3 (w : World) (o p q : Obj) : (((w.alloc o).alloc p).alloc q).heap[w.heap.size]? = some o ∧ (((w.alloc o).alloc p).alloc q).heap[w.heap.size + 1]? = some p ∧ (((w.alloc o).alloc p).alloc q).heap[w.heap.size + 1 + 1]? = some q ∧ (((w.alloc o).alloc p).alloc q).heap.size = w.heap.size + 1 + 1 + 1 := by
  obtain ⟨h1, h2, h3⟩ := new2 w o p
  have h4 := heap_alloc_new ((w.alloc o).alloc p) q
  rw [h3] at h4
  exact ⟨(Below.heap_alloc _ q _ (by omega)).trans h1, (Below.heap_alloc _ q _ (by omega)).trans h2, h4, by rw [size_new, h3]⟩
section
variable {P : Program} {w : World}
/-- '&xs[i]' of a slice -/
theorem run_idx_sl {t e : TypeId} {i0 : TypeInfo} (ht : P.underlying t = some (.slice e)) (hi : P.info? e = some i0) {sz : Nat} (hs : i0.size = sz) {ad : Addr} {n c : Nat} {k : IntKind} {i : Int} (h0 : 0 ≤ i) (h1 : i < n) :
    (Instr.indexAt t (.slice (some ad) n c) (.int k i)).run P w = .ok (.pointer (some (ad.add (i.toNat * sz)))) w := by
  simp [Instr.indexAt, asIntOf, run_underlying ht, sizeOf, typeInfo, hi, hs, h0, h1]
/-- '&a[i]' of an array -/
theorem run_idx_arr {t e : TypeId} {N : Nat} {i0 : TypeInfo} (ht : P.underlying t = some (.array N e)) (hi : P.info? e = some i0) (hs : i0.size = 1) {g : Nat} {k : IntKind} {i : Int} (h0 : 0 ≤ i) (h1 : i < N) :
    (Instr.indexAt t (.pointer (some ⟨g, 0, none⟩)) (.int k i)).run P w = .ok (.pointer (some ⟨g, i.toNat, none⟩)) w := by
  simp [Instr.indexAt, asIntOf, run_underlying ht, sizeOf, typeInfo, hi, hs, h0, h1, Instr.sureAddr, add_plain]
theorem run_idx_sl1 {t e : TypeId} {i0 : TypeInfo} (ht : P.underlying t = some (.slice e)) (hi : P.info? e = some i0) (hs : i0.size = 1) {ad : Addr} {n c : Nat} {k : IntKind} {i : Int} (j : Nat) (hj : i = (j : Int)) (h1 : j < n) :
    (Instr.indexAt t (.slice (some ad) n c) (.int k i)).run P w = .ok (.pointer (some (ad.add j))) w := by
  subst hj
  have := run_idx_sl (P := P) (w := w) ht hi hs (ad := ad) (n := n) (c := c) (k := k) (i := (j : Int)) (by omega) (by omega)
  simpa using this
theorem run_idx_arr1 {t e : TypeId} {N : Nat} {i0 : TypeInfo} (ht : P.underlying t = some (.array N e)) (hi : P.info? e = some i0) (hs : i0.size = 1) {g : Nat} {k : IntKind} {i : Int} (j : Nat) (hj : i = (j : Int)) (h1 : j < N) :
    (Instr.indexAt t (.pointer (some ⟨g, 0, none⟩)) (.int k i)).run P w = .ok (.pointer (some ⟨g, j, none⟩)) w := by
  subst hj
  have := run_idx_arr (P := P) (w := w) ht hi hs (g := g) (k := k) (i := (j : Int)) (by omega) (by omega)
  simpa using this
/-- 's[:h]' of a slice -/
theorem run_cut_h {t e : TypeId} {i0 : TypeInfo} (ht : P.underlying t = some (.slice e)) (hi : P.info? e = some i0) {A : Option Addr} {n c : Nat} {k : IntKind} {i : Int} (j : Nat) (hj : i = (j : Int)) (h1 : j ≤ c) :
    (Instr.sliceAt t (.slice A n c) none (some (.int k i)) none).run P w = .ok (.slice A j c) w := by
  subst hj
  have ha : ∀ x : Addr, x.add 0 = x := fun x => by simp [Addr.add]
  simp [Instr.sliceAt, run_underlying ht, Instr.slice, Instr.sliceBounds, Instr.sliceBound, asIntOf, sizeOf, typeInfo, hi, h1, ha]
/-- 's[l:]' of a slice -/
theorem run_cut_l {t e : TypeId} {i0 : TypeInfo} (ht : P.underlying t = some (.slice e)) (hi : P.info? e = some i0) {sz : Nat} (hs : i0.size = sz) {A : Option Addr} {n c : Nat} {k : IntKind} {i : Int} (j : Nat) (hj : i = (j : Int)) (h1 : j ≤ n) :
    (Instr.sliceAt t (.slice A n c) (some (.int k i)) none none).run P w = .ok (.slice (if c = j then A else A.map (·.add (j * sz))) (n - j) (c - j)) w := by
  subst hj
  simp [Instr.sliceAt, run_underlying ht, Instr.slice, Instr.sliceBounds, Instr.sliceBound, asIntOf, sizeOf, typeInfo, hi, hs, h1]
/-- 's[l:h]' of a slice -/
theorem run_cut_lh {t e : TypeId} {i0 : TypeInfo} (ht : P.underlying t = some (.slice e)) (hi : P.info? e = some i0) {sz : Nat} (hs : i0.size = sz) {A : Option Addr} {n c : Nat} {k k' : IntKind} {i i' : Int} (j j' : Nat) (hj : i = (j : Int)) (hj' : i' = (j' : Int)) (h1 : j ≤ j') (h3 : j' ≤ c) :
    (Instr.sliceAt t (.slice A n c) (some (.int k i)) (some (.int k' i')) none).run P w = .ok (.slice (if c = j then A else A.map (·.add (j * sz))) (j' - j) (c - j)) w := by
  subst hj hj'
  simp [Instr.sliceAt, run_underlying ht, Instr.slice, Instr.sliceBounds, Instr.sliceBound, asIntOf, sizeOf, typeInfo, hi, hs, h1, h3]
/-- a one-cell load -/
theorem run_load1 {t : TypeId} {d : TypeDesc} (ht : P.underlying t = some d) (hd : (match d with | .struct _ | .array _ _ => true | _ => false) = false) {ad : Addr} {v : Value} (hc : w.cell? ad = some v) :
    (Instr.loadAt t (.pointer (some ad))).run P w = .ok v w := by
  have hagg : (isAgg t).run P w = .ok false w := by
    unfold isAgg
    rw [Sem.run_bind, run_underlying ht w]
    cases d <;> simp_all
  simp [Instr.loadAt, Instr.sureAddr, loadVar, hagg, load, Sem.run, hc]
/-- a whole row is stored -/
theorem run_store_row {t : TypeId} {i0 : TypeInfo} (hi : P.info? t = some i0) {g : Nat} {e : TypeId} {old cs : Array Value} (hg : Blk w g e old) (h1 : cs.size = old.size) (hs : i0.size = cs.size) (hone : ∀ v ∈ cs.toList, v.oneCell' = true) :
    ∃ w', (Instr.storeAt t (.pointer (some ⟨g, 0, none⟩)) (.agg cs)).run P w = .ok () w' ∧ Blk w' g e cs ∧ w.grownBy w' (some g) ∧ w'.heap.size = w.heap.size := by
  have h := run_storeCells_from (P := P) g e cs.toList 0 old w hg (by simp [h1]) hone
  refine ⟨w.setRow g cs, ?_, setRow_heap w g old cs e (0, 0) hg, ⟨rfl, rfl, rfl, by simp, fun k _ hne => setRow_other w g k _ (fun e => hne (by rw [e]))⟩, by simp⟩
  simp only [List.take_zero, List.nil_append, Array.toArray_toList] at h
  simp [Instr.storeAt, Instr.sureAddr, storeVar, sizeOf, typeInfo, hi, Value.cells, hs, h]
end

section
variable {P : Program} {o : Oper} {ρ : Operand → Value} {w : World} {G : Value → World → Prop}
theorem Runs.idx {t : TypeId} {x i : Operand} {u v r : Value} (ho : o.op = .indexAddr t x i) (hx : ρ x = u) (hi : ρ i = v) (hr : (Instr.indexAt t u v).run P w = .ok r w) (h : G r w) : Runs P o ρ w G := by
  refine Runs.of_run (r := r) (w' := w) ?_ h
  unfold execOp
  simp only [ho, hx, hi, Sem.run_bind, hr, Result.andThen_ok, Sem.run_pure]
theorem Runs.load {t : TypeId} {x : Operand} {u r : Value} (ho : o.op = .load t x) (hx : ρ x = u) (hr : (Instr.loadAt t u).run P w = .ok r w) (h : G r w) : Runs P o ρ w G := by
  refine Runs.of_run (r := r) (w' := w) ?_ h
  unfold execOp
  simp only [ho, hx, Sem.run_bind, hr, Result.andThen_ok, Sem.run_pure]
theorem Runs.nil_ {x : Operand} {ad : Addr} (ho : o.op = .nilCheck x) (hx : ρ x = .pointer (some ad)) (h : G (.pointer (some ad)) w) : Runs P o ρ w G := by
  refine Runs.of_run (r := .pointer (some ad)) (w' := w) ?_ h
  unfold execOp
  simp only [ho, hx, Sem.run_bind, Result.andThen_ok, Sem.run_pure]
theorem Runs.slice {t : TypeId} {x : Operand} {lo hi mx : Option Operand} {u r : Value} (ho : o.op = .slice t x lo hi mx) (hx : ρ x = u) (hr : (Instr.sliceAt t u (lo.map ρ) (hi.map ρ) (mx.map ρ)).run P w = .ok r w) (h : G r w) : Runs P o ρ w G := by
  refine Runs.of_run (r := r) (w' := w) ?_ h
  unfold execOp
  simp only [ho, hx, Sem.run_bind, hr, Result.andThen_ok, Sem.run_pure]
theorem Runs.len {t : TypeId} {x : Operand} {A : Option Addr} {n c : Nat} {e : TypeId} (ht : P.underlying t = some (.slice e)) (ho : o.op = .call { callee := .builtin .len, args := #[x], argTypes := #[t] }) (hx : ρ x = .slice A n c) (h : G (.int .i64 n) w) : Runs P o ρ w G := by
  refine Runs.of_run (r := .int .i64 n) (w' := w) ?_ h
  unfold execOp
  simp [ho, hx, resolve, invoke, builtin, Builtin.len_, run_underlying ht, goInt]
end

section
variable {P : Program} {ops : Array Oper} {rest : List Oper} {o : Oper} {a : Act} {Q : Exit → Act → World → Prop} {w : World}
theorem ldrow_law {t : TypeId} {x : Operand} {g : Nat} {e : TypeId} {l : List UInt32} {N : Nat} {el : TypeId} (hgd : o.guard = none) (ho : o.op = .load t x) (hx : a.eval x = .pointer (some ⟨g, 0, none⟩)) (hg : Arr w g e l)
    (hu : P.underlying t = some (.array N el)) (hi : (P.info? t).map (·.size) = some N) (hl : l.length = N) (h : wpList P ops Q rest (a.put o.dst (.agg (uv l))) w) : wpList P ops Q (o :: rest) a w :=
  wpList_load_row hgd t x ho g hx e (uv l) (0, 0) _ hg hu rfl (by rw [hi, uv_size, hl]) h
theorem strow_law {t : TypeId} {x y : Operand} {g : Nat} {e : TypeId} {l l' : List UInt32} {i0 : TypeInfo} (hgd : o.guard = none) (ho : o.op = .store t x y) (hx : a.eval x = .pointer (some ⟨g, 0, none⟩)) (hy : a.eval y = .agg (uv l')) (hg : Arr w g e l)
    (hi : P.info? t = some i0) (hs : i0.size = l'.length) (hl : l'.length = l.length)
    (h : ∀ w', Arr w' g e l' → w.grownBy w' (some g) → w'.heap.size = w.heap.size → wpList P ops Q rest (a.put o.dst undef) w') : wpList P ops Q (o :: rest) a w := by
  obtain ⟨w', hr, h1, h2, h3⟩ := run_store_row (P := P) (w := w) (t := t) hi hg (cs := uv l') (by rw [uv_size, uv_size, hl]) (by rw [uv_size, hs]) (uv_one l')
  refine wpList_plain hgd fun K hK => ?_
  unfold Oper.wp execOp
  simp only [ho, hx, hy, Sem.run_bind, hr, Result.andThen_ok, Sem.run_pure]
  exact hK _ _ (h w' h1 h2 h3)
end

/-- an operation whose run is known -/
theorem run_law {P : Program} {ops : Array Oper} {rest : List Oper} {o : Oper} {a : Act} {Q : Exit → Act → World → Prop} {w w' : World} {v : Value} (hgd : o.guard = none) (hr : (execOp a.eval o).run P w = .ok (.value v) w') (h : wpList P ops Q rest (a.put o.dst v) w') : wpList P ops Q (o :: rest) a w := by
  refine wpList_plain hgd fun K hK => ?_
  unfold Oper.wp
  rw [hr]
  exact hK _ _ h
theorem pure_law {P : Program} {ops : Array Oper} {rest : List Oper} {o : Oper} {a : Act} {Q : Exit → Act → World → Prop} {w : World} {v : Value} (hgd : o.guard = none) (hr : (execOp a.eval o).run P w = .ok (.value v) w) (h : wpList P ops Q rest (a.put o.dst v) w) : wpList P ops Q (o :: rest) a w := run_law hgd hr h
theorem run_ldrow {P : Program} {w : World} {t : TypeId} {g : Nat} {e : TypeId} {l : List UInt32} {N : Nat} {el : TypeId} (hg : Arr w g e l) (hu : P.underlying t = some (.array N el)) (hi : (P.info? t).map (·.size) = some N) (hl : l.length = N) :
    (Instr.loadAt t (.pointer (some ⟨g, 0, none⟩))).run P w = .ok (.agg (uv l)) w := by
  simp [Instr.loadAt, Instr.sureAddr, run_loadVar_row w g e t (uv l) (0, 0) _ hg hu rfl (by rw [hi, uv_size, hl])]
def slLen : Value → Nat
  | .slice _ n _ => n
  | _ => 0
theorem ub_take {L : List UInt8} {k j : Nat} (h : j < k) : ub (L.take k) j = ub L j := by unfold ub; simp [List.getElem?_take_of_lt h]
end Go.Proofs.YtkndgpjamijbbaaGreat
namespace Go.Proofs.YtkndgpjamijbbaaGreat
set_option maxRecDepth 100000
open Go

theorem ent8 (args : Array Value) (w : World) : (callFunc 8 args).run Tryz.prog w = .ok (.enter 8 args) w := run_enter Tryz.func8 (by kernel_rfl) (by kernel_rfl) args w
theorem ent11 (args : Array Value) (w : World) : (callFunc 11 args).run Tryz.prog w = .ok (.enter 11 args) w := run_enter Tryz.func11 (by kernel_rfl) (by kernel_rfl) args w
theorem ent12 (args : Array Value) (w : World) : (callFunc 12 args).run Tryz.prog w = .ok (.enter 12 args) w := run_enter Tryz.func12 (by kernel_rfl) (by kernel_rfl) args w
theorem ent15 (args : Array Value) (w : World) : (callFunc 15 args).run Tryz.prog w = .ok (.enter 15 args) w := run_enter Tryz.func15 (by kernel_rfl) (by kernel_rfl) args w
theorem ent16 (args : Array Value) (w : World) : (callFunc 16 args).run Tryz.prog w = .ok (.enter 16 args) w := run_enter Tryz.func16 (by kernel_rfl) (by kernel_rfl) args w
theorem ent17 (args : Array Value) (w : World) : (callFunc 17 args).run Tryz.prog w = .ok (.enter 17 args) w := run_enter Tryz.func17 (by kernel_rfl) (by kernel_rfl) args w
theorem ent19 (args : Array Value) (w : World) : (callFunc 19 args).run Tryz.prog w = .ok (.enter 19 args) w := run_enter Tryz.func19 (by kernel_rfl) (by kernel_rfl) args w
theorem ent29 (args : Array Value) (w : World) : (callFunc 29 args).run Tryz.prog w = .ok (.enter 29 args) w := run_enter Tryz.func29 (by kernel_rfl) (by kernel_rfl) args w
theorem ent31 (args : Array Value) (w : World) : (callFunc 31 args).run Tryz.prog w = .ok (.enter 31 args) w := run_enter Tryz.func31 (by kernel_rfl) (by kernel_rfl) args w
theorem ent32 (args : Array Value) (w : World) : (callFunc 32 args).run Tryz.prog w = .ok (.enter 32 args) w := run_enter Tryz.func32 (by kernel_rfl) (by kernel_rfl) args w
theorem ent33 (args : Array Value) (w : World) : (callFunc 33 args).run Tryz.prog w = .ok (.enter 33 args) w := run_enter Tryz.func33 (by kernel_rfl) (by kernel_rfl) args w
theorem ent34 (args : Array Value) (w : World) : (callFunc 34 args).run Tryz.prog w = .ok (.enter 34 args) w := run_enter Tryz.func34 (by kernel_rfl) (by kernel_rfl) args w
theorem ent37 (args : Array Value) (w : World) : (callFunc 37 args).run Tryz.prog w = .ok (.enter 37 args) w := run_enter Tryz.func37 (by kernel_rfl) (by kernel_rfl) args w
theorem ent39 (args : Array Value) (w : World) : (callFunc 39 args).run Tryz.prog w = .ok (.enter 39 args) w := run_enter Tryz.func39 (by kernel_rfl) (by kernel_rfl) args w
theorem ent40 (args : Array Value) (w : World) : (callFunc 40 args).run Tryz.prog w = .ok (.enter 40 args) w := run_enter Tryz.func40 (by kernel_rfl) (by kernel_rfl) args w
theorem ent41 (args : Array Value) (w : World) : (callFunc 41 args).run Tryz.prog w = .ok (.enter 41 args) w := run_enter Tryz.func41 (by kernel_rfl) (by kernel_rfl) args w
theorem ent44 (args : Array Value) (w : World) : (callFunc 44 args).run Tryz.prog w = .ok (.enter 44 args) w := run_enter Tryz.func44 (by kernel_rfl) (by kernel_rfl) args w
theorem ent45 (args : Array Value) (w : World) : (callFunc 45 args).run Tryz.prog w = .ok (.enter 45 args) w := run_enter Tryz.func45 (by kernel_rfl) (by kernel_rfl) args w
theorem ent46 (args : Array Value) (w : World) : (callFunc 46 args).run Tryz.prog w = .ok (.enter 46 args) w := run_enter Tryz.func46 (by kernel_rfl) (by kernel_rfl) args w
theorem ent47 (args : Array Value) (w : World) : (callFunc 47 args).run Tryz.prog w = .ok (.enter 47 args) w := run_enter Tryz.func47 (by kernel_rfl) (by kernel_rfl) args w
theorem ent60 (args : Array Value) (w : World) : (callFunc 60 args).run Tryz.prog w = .ok (.enter 60 args) w := run_enter Tryz.func60 (by kernel_rfl) (by kernel_rfl) args w
theorem ent61 (args : Array Value) (w : World) : (callFunc 61 args).run Tryz.prog w = .ok (.enter 61 args) w := run_enter Tryz.func61 (by kernel_rfl) (by kernel_rfl) args w
theorem ent62 (args : Array Value) (w : World) : (callFunc 62 args).run Tryz.prog w = .ok (.enter 62 args) w := run_enter Tryz.func62 (by kernel_rfl) (by kernel_rfl) args w
theorem ent63 (args : Array Value) (w : World) : (callFunc 63 args).run Tryz.prog w = .ok (.enter 63 args) w := run_enter Tryz.func63 (by kernel_rfl) (by kernel_rfl) args w
theorem ent67 (args : Array Value) (w : World) : (callFunc 67 args).run Tryz.prog w = .ok (.enter 67 args) w := run_enter Tryz.func67 (by kernel_rfl) (by kernel_rfl) args w
theorem ent69 (args : Array Value) (w : World) : (callFunc 69 args).run Tryz.prog w = .ok (.enter 69 args) w := run_enter Tryz.func69 (by kernel_rfl) (by kernel_rfl) args w
theorem ent73 (args : Array Value) (w : World) : (callFunc 73 args).run Tryz.prog w = .ok (.enter 73 args) w := run_enter Tryz.func73 (by kernel_rfl) (by kernel_rfl) args w
theorem ent74 (args : Array Value) (w : World) : (callFunc 74 args).run Tryz.prog w = .ok (.enter 74 args) w := run_enter Tryz.func74 (by kernel_rfl) (by kernel_rfl) args w
theorem ent75 (args : Array Value) (w : World) : (callFunc 75 args).run Tryz.prog w = .ok (.enter 75 args) w := run_enter Tryz.func75 (by kernel_rfl) (by kernel_rfl) args w
theorem ent79 (args : Array Value) (w : World) : (callFunc 79 args).run Tryz.prog w = .ok (.enter 79 args) w := run_enter Tryz.func79 (by kernel_rfl) (by kernel_rfl) args w
theorem ent80 (args : Array Value) (w : World) : (callFunc 80 args).run Tryz.prog w = .ok (.enter 80 args) w := run_enter Tryz.func80 (by kernel_rfl) (by kernel_rfl) args w
theorem ent82 (args : Array Value) (w : World) : (callFunc 82 args).run Tryz.prog w = .ok (.enter 82 args) w := run_enter Tryz.func82 (by kernel_rfl) (by kernel_rfl) args w
theorem ent93 (args : Array Value) (w : World) : (callFunc 93 args).run Tryz.prog w = .ok (.enter 93 args) w := run_enter Tryz.func93 (by kernel_rfl) (by kernel_rfl) args w
theorem ent101 (args : Array Value) (w : World) : (callFunc 101 args).run Tryz.prog w = .ok (.enter 101 args) w := run_enter Tryz.func101 (by kernel_rfl) (by kernel_rfl) args w
theorem ent103 (args : Array Value) (w : World) : (callFunc 103 args).run Tryz.prog w = .ok (.enter 103 args) w := run_enter Tryz.func103 (by kernel_rfl) (by kernel_rfl) args w
end Go.Proofs.YtkndgpjamijbbaaGreat
