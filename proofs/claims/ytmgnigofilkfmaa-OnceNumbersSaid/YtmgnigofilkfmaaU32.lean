/-
  The machine's operations on words, bytes and small numbers, in the words of the plain texts. Plain theorems.
-/
import Derived.Test.YtmgnigofilkfmaaRuns
import Derived.Test.YtmgnigofilkfmaaSha
namespace Go.Proofs.Ytmgnigofilkfmaa
set_option maxRecDepth 100000
open Go Go.RowKit
section
variable {P : Program} {w : World}
theorem beq_dec {α : Type} [BEq α] [LawfulBEq α] [DecidableEq α] (x y : α) : (x == y) = decide (x = y) := by
  by_cases h : x = y <;> simp [h]
theorem u32_wrap (n : Nat) : IntKind.u32.wrap (n : Int) = ((n % 4294967296 : Nat) : Int) := by
  rw [IntKind.wrap_u32]; omega
theorem u32_lt (x : UInt32) : (x.toNat : Int) < 4294967296 := by have := x.toNat_lt; omega
theorem u32_wrap_id (x : UInt32) : IntKind.u32.wrap (x.toNat : Int) = (x.toNat : Int) := by
  rw [u32_wrap, Nat.mod_eq_of_lt x.toNat_lt]
theorem eqGuard_bin {op : BinOp} {t : TypeId} {x y : Operand} {u v : Value} (h : (op matches .eql | .neq) = false) : (eqGuard op t x y u v).run P w = .ok () w := by
  cases op <;> simp_all [eqGuard]
theorem bin_add32 (t : TypeId) (x y : UInt32) : (binOp .add t (.int .u32 (u32i x)) (.int .u32 (u32i y))).run P w = .ok (.int .u32 (u32i (x + y))) w := by
  simp only [u32i]
  have e : IntKind.u32.wrap ((x.toNat : Int) + (y.toNat : Int)) = (((x + y).toNat : Nat) : Int) := by
    rw [← Int.natCast_add, u32_wrap, UInt32.toNat_add]
  simp [binOp, Op.intArith, e]
theorem bitvec_u32 (x : UInt32) : BitVec.ofInt (IntKind.u32).bits (x.toNat : Int) = x.toBitVec := by
  apply BitVec.eq_of_toNat_eq
  have := x.toNat_lt
  simp [IntKind.bits]
theorem bin_xor32 (t : TypeId) (x y : UInt32) : (binOp .xor t (.int .u32 (u32i x)) (.int .u32 (u32i y))).run P w = .ok (.int .u32 (u32i (x ^^^ y))) w := by
  simp only [u32i]
  simp only [binOp, Op.intBits, bitvec_u32]
  simp [-UInt32.toNat_xor]
  exact u32_wrap_id (x ^^^ y)
theorem bin_and32 (t : TypeId) (x y : UInt32) : (binOp .and t (.int .u32 (u32i x)) (.int .u32 (u32i y))).run P w = .ok (.int .u32 (u32i (x &&& y))) w := by
  simp only [u32i]
  simp only [binOp, Op.intBits, bitvec_u32]
  simp [-UInt32.toNat_and]
  exact u32_wrap_id (x &&& y)
theorem bin_or32 (t : TypeId) (x y : UInt32) : (binOp .or t (.int .u32 (u32i x)) (.int .u32 (u32i y))).run P w = .ok (.int .u32 (u32i (x ||| y))) w := by
  simp only [u32i]
  simp only [binOp, Op.intBits, bitvec_u32]
  simp [-UInt32.toNat_or]
  exact u32_wrap_id (x ||| y)
theorem bin_shr32 (t : TypeId) {kk : IntKind} (x : UInt32) (k : Nat) (kI : Int) (hk : kI = (k : Int) := by rfl) (h : k ≤ 32 := by omega) : (binOp .shr t (.int .u32 (u32i x)) (.int kk kI)).run P w = .ok (.int .u32 (u32i (shr x k))) w := by
  simp only [u32i]
  subst hk
  have h1 : ¬ ((k : Int) < 0) := by omega
  have h2 : min (k : Int).toNat IntKind.u32.bits = k := by simp [IntKind.bits]; omega
  have e : ((x.toNat : Int)).fdiv (2 ^ k) = (((shr x k).toNat : Nat) : Int) := by
    rw [shr_toNat, Int.fdiv_eq_ediv_of_nonneg _ (Int.pow_nonneg (by decide))]
    simp
  simp only [binOp, Op.shift, if_neg h1, h2, e, Sem.run_pure]
theorem bin_shl32 (t : TypeId) {kk : IntKind} (x : UInt32) (k : Nat) (kI : Int) (hk : kI = (k : Int) := by rfl) (h : k ≤ 32 := by omega) : (binOp .shl t (.int .u32 (u32i x)) (.int kk kI)).run P w = .ok (.int .u32 (u32i (shl x k))) w := by
  simp only [u32i]
  subst hk
  have h1 : ¬ ((k : Int) < 0) := by omega
  have h2 : min (k : Int).toNat IntKind.u32.bits = k := by simp [IntKind.bits]; omega
  have e : IntKind.u32.wrap ((x.toNat : Int) * 2 ^ k) = (((shl x k).toNat : Nat) : Int) := by
    rw [shl_toNat, ← u32_wrap]
    simp
  simp only [binOp, Op.shift, if_neg h1, h2, e, Sem.run_pure]
theorem un_not32 (x : UInt32) : (Op.unary .xor (.int .u32 (u32i x))).run P w = .ok (.int .u32 (u32i (~~~x))) w := by
  simp only [u32i]
  have e : BitVec.ofInt 32 4294967295 ^^^ x.toBitVec = (~~~x).toBitVec := by
    have : BitVec.ofInt 32 4294967295 = BitVec.allOnes 32 := by decide
    rw [this, BitVec.allOnes_xor]
    rfl
  have hs : (IntKind.u32).signed = false := rfl
  simp only [Op.unary, hs, Op.intBits, bitvec_u32]
  simp [-UInt32.toNat_not, -BitVec.allOnes_xor]
  show IntKind.u32.wrap ((BitVec.ofInt 32 4294967295 ^^^ x.toBitVec).toNat : Int) = _
  rw [e]
  exact u32_wrap_id (~~~x)
theorem i64_wrap_id {x : Int} (h1 : -9223372036854775808 ≤ x) (h2 : x ≤ 9223372036854775807) : IntKind.i64.wrap x = x := by rw [IntKind.wrap_i64]; omega
theorem bin_add64 (t : TypeId) (x y : Int) (h1 : -9223372036854775808 ≤ x + y) (h2 : x + y ≤ 9223372036854775807) : (binOp .add t (.int .i64 x) (.int .i64 y)).run P w = .ok (.int .i64 (x + y)) w := by
  simp [binOp, Op.intArith, i64_wrap_id h1 h2]
theorem bin_sub64 (t : TypeId) (x y : Int) (h1 : -9223372036854775808 ≤ x - y) (h2 : x - y ≤ 9223372036854775807) : (binOp .sub t (.int .i64 x) (.int .i64 y)).run P w = .ok (.int .i64 (x - y)) w := by
  simp [binOp, Op.intArith, i64_wrap_id h1 h2]
theorem bin_mul64 (t : TypeId) (x y : Int) (h1 : -9223372036854775808 ≤ x * y) (h2 : x * y ≤ 9223372036854775807) : (binOp .mul t (.int .i64 x) (.int .i64 y)).run P w = .ok (.int .i64 (x * y)) w := by
  simp [binOp, Op.intArith, i64_wrap_id h1 h2]
theorem bin_sub64u (t : TypeId) (k : Nat) (h : k ≤ 32) : (binOp .sub t (.int .u64 (32 : Int)) (.int .u64 (k : Int))).run P w = .ok (.int .u64 (32 - (k : Int))) w := by
  have e : IntKind.u64.wrap (32 - (k : Int)) = 32 - (k : Int) := by rw [IntKind.wrap_u64]; omega
  simp [binOp, Op.intArith, e]
theorem bin_lss (t : TypeId) (k : IntKind) (x y : Int) : (binOp .lss t (.int k x) (.int k y)).run P w = .ok (.bool (decide (x < y))) w := by simp [binOp, Op.intCmp]
theorem bin_leq (t : TypeId) (k : IntKind) (x y : Int) : (binOp .leq t (.int k x) (.int k y)).run P w = .ok (.bool (decide (x ≤ y))) w := by simp [binOp, Op.intCmp]
theorem bin_gtr (t : TypeId) (k : IntKind) (x y : Int) : (binOp .gtr t (.int k x) (.int k y)).run P w = .ok (.bool (decide (y < x))) w := by simp [binOp, Op.intCmp]
theorem bin_geq (t : TypeId) (k : IntKind) (x y : Int) : (binOp .geq t (.int k x) (.int k y)).run P w = .ok (.bool (decide (y ≤ x))) w := by simp [binOp, Op.intCmp]
theorem bin_eql (t : TypeId) (k : IntKind) (x y : Int) : (binOp .eql t (.int k x) (.int k y)).run P w = .ok (.bool (decide (x = y))) w := by
  simp [binOp, Op.intCmp, beq_dec]
theorem bin_neq (t : TypeId) (k : IntKind) (x y : Int) : (binOp .neq t (.int k x) (.int k y)).run P w = .ok (.bool (decide (x ≠ y))) w := by
  simp [binOp, Op.intCmp, bne, beq_dec]
theorem bin_eqs (t : TypeId) (L M : List UInt8) : (binOp .eql t (.string (str L)) (.string (str M))).run P w = .ok (.bool (decide (L = M))) w := by
  simp only [binOp, Op.stringOp, str_toList]
  simp [beq_dec]
theorem bin_nes (t : TypeId) (L M : List UInt8) : (binOp .neq t (.string (str L)) (.string (str M))).run P w = .ok (.bool (decide (L ≠ M))) w := by
  simp only [binOp, Op.stringOp, str_toList]
  simp [bne, beq_dec]
/-- 'uint32(b)' of a byte -/
theorem conv_u8_u32 {s t : TypeId} (hs : P.underlying s = some (.int .u8)) (ht : P.underlying t = some (.int .u32)) (b : UInt8) : (convert s t (.int .u8 (u8i b))).run P w = .ok (.int .u32 (u32i b.toUInt32)) w := by
  simp only [u32i, u8i]
  have e : IntKind.u32.wrap (b.toNat : Int) = ((b.toUInt32.toNat : Nat) : Int) := by
    rw [u32_wrap, UInt8.toNat_toUInt32, Nat.mod_eq_of_lt]
    have := b.toNat_lt; omega
  simp [convert, run_underlying hs, run_underlying ht, Conv.intToInt, e]
theorem conv_u32_u8 {s t : TypeId} (hs : P.underlying s = some (.int .u32)) (ht : P.underlying t = some (.int .u8)) (x : UInt32) : (convert s t (.int .u32 (u32i x))).run P w = .ok (.int .u8 (u8i x.toUInt8)) w := by
  simp only [u32i, u8i]
  have e : IntKind.u8.wrap (x.toNat : Int) = ((x.toUInt8.toNat : Nat) : Int) := by
    rw [IntKind.wrap_u8, UInt32.toNat_toUInt8]
    omega
  simp [convert, run_underlying hs, run_underlying ht, Conv.intToInt, e]
end
end Go.Proofs.Ytmgnigofilkfmaa
