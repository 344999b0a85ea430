/-
  hash.right and bits.RotateLeft32, walked. hash.keys and hash.spread, walked: the words of the rounds. hash.mix, walked: a block is mixed into the state. slices.Chunk, walked: its parts come one behind the other. hash.Sum, walked: for any bytes it answers their SHA-256, in new memory. hash.Tagged and hash.Same, walked.
-/
import Derived.Test.YtmgnigofilkfmabRef2Sum
import Derived.DataElems
import Derived.RangeFuncNested
import Derived.RangeFuncBound
import Derived.RangeFuncCalls
import Derived.RangeFuncLeaves
import Derived.Shelf.Abstract
import Derived.Shelf.RegionOpen
import Derived.WalkKit
import Derived.OwnWalkIn
import Derived.TacticsInMore
import Derived.LoopNIn
import Derived.LoopIn
import Derived.Test.YtmgnigofilkfmabClone
import Derived.Test.YtmgnigofilkfmabParApp
import Derived.Test.YtmgnigofilkfmabLists
namespace Go.Proofs.Ytmgnigofilkfmab
set_option maxRecDepth 100000
open Go Go.RowKit

set_option maxHeartbeats 1000000 in
theorem rot2_any (x : UInt32) (w : World) :
    Calls Try.prog 123 #[.int .u32 (u32i x), .int .i64 (-2)] w fun e w' => e = .returned (.int .u32 (u32i (rotr x 2))) ∧ Ext w w' := by
  go_enter Try.func123, Try.ntmps123
  have h0 : bits BinOp.and IntKind.u64 (IntKind.u64.wrap (-2)) 31 = 30 := by rfl
  have e1 : u32i x * 1073741824 % 4294967296 = u32i (shl x 30) := by unfold u32i; rw [shl_toNat]; omega
  have e2 : u32i x / 4 = u32i (shr x 2) := by unfold u32i; rw [shr_toNat]; omega
  have e3 : bits BinOp.or IntKind.u32 (u32i (shl x 30)) (u32i (shr x 2)) = u32i (shl x 30 ||| shr x 2) := by
    have h3 := bin_or32 (P := Try.prog) (w := w) 25 (shl x 30) (shr x 2)
    simpa [binOp_or, intBits_or] using h3
  have e4 : u32i (shl x 30 ||| shr x 2) = u32i (rotr x 2) := congrArg u32i (rotr_or x 2)
  go_wp2_with fail
  go_ret
  exact ⟨rfl, Ext.refl _⟩
set_option maxHeartbeats 1000000 in
theorem right2_any (x : UInt32) (w : World) :
    Calls Try.prog 122 #[.int .u32 (u32i x), .int .i64 2] w fun e w' => e = .returned (.int .u32 (u32i (rotr x 2))) ∧ Ext w w' := by
  go_enter Try.func122, Try.ntmps122
  go_wp2_with fail
  refine (rot2_any x w).mono ?_
  rintro e w1 ⟨rfl, hE⟩
  go_wp2_with fail
  go_ret
  exact ⟨rfl, hE⟩

set_option maxHeartbeats 1000000 in
theorem rot6_any (x : UInt32) (w : World) :
    Calls Try.prog 123 #[.int .u32 (u32i x), .int .i64 (-6)] w fun e w' => e = .returned (.int .u32 (u32i (rotr x 6))) ∧ Ext w w' := by
  go_enter Try.func123, Try.ntmps123
  have h0 : bits BinOp.and IntKind.u64 (IntKind.u64.wrap (-6)) 31 = 26 := by rfl
  have e1 : u32i x * 67108864 % 4294967296 = u32i (shl x 26) := by unfold u32i; rw [shl_toNat]; omega
  have e2 : u32i x / 64 = u32i (shr x 6) := by unfold u32i; rw [shr_toNat]; omega
  have e3 : bits BinOp.or IntKind.u32 (u32i (shl x 26)) (u32i (shr x 6)) = u32i (shl x 26 ||| shr x 6) := by
    have h3 := bin_or32 (P := Try.prog) (w := w) 25 (shl x 26) (shr x 6)
    simpa [binOp_or, intBits_or] using h3
  have e4 : u32i (shl x 26 ||| shr x 6) = u32i (rotr x 6) := congrArg u32i (rotr_or x 6)
  go_wp2_with fail
  go_ret
  exact ⟨rfl, Ext.refl _⟩
set_option maxHeartbeats 1000000 in
theorem right6_any (x : UInt32) (w : World) :
    Calls Try.prog 122 #[.int .u32 (u32i x), .int .i64 6] w fun e w' => e = .returned (.int .u32 (u32i (rotr x 6))) ∧ Ext w w' := by
  go_enter Try.func122, Try.ntmps122
  go_wp2_with fail
  refine (rot6_any x w).mono ?_
  rintro e w1 ⟨rfl, hE⟩
  go_wp2_with fail
  go_ret
  exact ⟨rfl, hE⟩

set_option maxHeartbeats 1000000 in
theorem rot7_any (x : UInt32) (w : World) :
    Calls Try.prog 123 #[.int .u32 (u32i x), .int .i64 (-7)] w fun e w' => e = .returned (.int .u32 (u32i (rotr x 7))) ∧ Ext w w' := by
  go_enter Try.func123, Try.ntmps123
  have h0 : bits BinOp.and IntKind.u64 (IntKind.u64.wrap (-7)) 31 = 25 := by rfl
  have e1 : u32i x * 33554432 % 4294967296 = u32i (shl x 25) := by unfold u32i; rw [shl_toNat]; omega
  have e2 : u32i x / 128 = u32i (shr x 7) := by unfold u32i; rw [shr_toNat]; omega
  have e3 : bits BinOp.or IntKind.u32 (u32i (shl x 25)) (u32i (shr x 7)) = u32i (shl x 25 ||| shr x 7) := by
    have h3 := bin_or32 (P := Try.prog) (w := w) 25 (shl x 25) (shr x 7)
    simpa [binOp_or, intBits_or] using h3
  have e4 : u32i (shl x 25 ||| shr x 7) = u32i (rotr x 7) := congrArg u32i (rotr_or x 7)
  go_wp2_with fail
  go_ret
  exact ⟨rfl, Ext.refl _⟩
set_option maxHeartbeats 1000000 in
theorem right7_any (x : UInt32) (w : World) :
    Calls Try.prog 122 #[.int .u32 (u32i x), .int .i64 7] w fun e w' => e = .returned (.int .u32 (u32i (rotr x 7))) ∧ Ext w w' := by
  go_enter Try.func122, Try.ntmps122
  go_wp2_with fail
  refine (rot7_any x w).mono ?_
  rintro e w1 ⟨rfl, hE⟩
  go_wp2_with fail
  go_ret
  exact ⟨rfl, hE⟩

set_option maxHeartbeats 1000000 in
theorem rot11_any (x : UInt32) (w : World) :
    Calls Try.prog 123 #[.int .u32 (u32i x), .int .i64 (-11)] w fun e w' => e = .returned (.int .u32 (u32i (rotr x 11))) ∧ Ext w w' := by
  go_enter Try.func123, Try.ntmps123
  have h0 : bits BinOp.and IntKind.u64 (IntKind.u64.wrap (-11)) 31 = 21 := by rfl
  have e1 : u32i x * 2097152 % 4294967296 = u32i (shl x 21) := by unfold u32i; rw [shl_toNat]; omega
  have e2 : u32i x / 2048 = u32i (shr x 11) := by unfold u32i; rw [shr_toNat]; omega
  have e3 : bits BinOp.or IntKind.u32 (u32i (shl x 21)) (u32i (shr x 11)) = u32i (shl x 21 ||| shr x 11) := by
    have h3 := bin_or32 (P := Try.prog) (w := w) 25 (shl x 21) (shr x 11)
    simpa [binOp_or, intBits_or] using h3
  have e4 : u32i (shl x 21 ||| shr x 11) = u32i (rotr x 11) := congrArg u32i (rotr_or x 11)
  go_wp2_with fail
  go_ret
  exact ⟨rfl, Ext.refl _⟩
set_option maxHeartbeats 1000000 in
theorem right11_any (x : UInt32) (w : World) :
    Calls Try.prog 122 #[.int .u32 (u32i x), .int .i64 11] w fun e w' => e = .returned (.int .u32 (u32i (rotr x 11))) ∧ Ext w w' := by
  go_enter Try.func122, Try.ntmps122
  go_wp2_with fail
  refine (rot11_any x w).mono ?_
  rintro e w1 ⟨rfl, hE⟩
  go_wp2_with fail
  go_ret
  exact ⟨rfl, hE⟩

set_option maxHeartbeats 1000000 in
theorem rot13_any (x : UInt32) (w : World) :
    Calls Try.prog 123 #[.int .u32 (u32i x), .int .i64 (-13)] w fun e w' => e = .returned (.int .u32 (u32i (rotr x 13))) ∧ Ext w w' := by
  go_enter Try.func123, Try.ntmps123
  have h0 : bits BinOp.and IntKind.u64 (IntKind.u64.wrap (-13)) 31 = 19 := by rfl
  have e1 : u32i x * 524288 % 4294967296 = u32i (shl x 19) := by unfold u32i; rw [shl_toNat]; omega
  have e2 : u32i x / 8192 = u32i (shr x 13) := by unfold u32i; rw [shr_toNat]; omega
  have e3 : bits BinOp.or IntKind.u32 (u32i (shl x 19)) (u32i (shr x 13)) = u32i (shl x 19 ||| shr x 13) := by
    have h3 := bin_or32 (P := Try.prog) (w := w) 25 (shl x 19) (shr x 13)
    simpa [binOp_or, intBits_or] using h3
  have e4 : u32i (shl x 19 ||| shr x 13) = u32i (rotr x 13) := congrArg u32i (rotr_or x 13)
  go_wp2_with fail
  go_ret
  exact ⟨rfl, Ext.refl _⟩
set_option maxHeartbeats 1000000 in
theorem right13_any (x : UInt32) (w : World) :
    Calls Try.prog 122 #[.int .u32 (u32i x), .int .i64 13] w fun e w' => e = .returned (.int .u32 (u32i (rotr x 13))) ∧ Ext w w' := by
  go_enter Try.func122, Try.ntmps122
  go_wp2_with fail
  refine (rot13_any x w).mono ?_
  rintro e w1 ⟨rfl, hE⟩
  go_wp2_with fail
  go_ret
  exact ⟨rfl, hE⟩

set_option maxHeartbeats 1000000 in
theorem rot17_any (x : UInt32) (w : World) :
    Calls Try.prog 123 #[.int .u32 (u32i x), .int .i64 (-17)] w fun e w' => e = .returned (.int .u32 (u32i (rotr x 17))) ∧ Ext w w' := by
  go_enter Try.func123, Try.ntmps123
  have h0 : bits BinOp.and IntKind.u64 (IntKind.u64.wrap (-17)) 31 = 15 := by rfl
  have e1 : u32i x * 32768 % 4294967296 = u32i (shl x 15) := by unfold u32i; rw [shl_toNat]; omega
  have e2 : u32i x / 131072 = u32i (shr x 17) := by unfold u32i; rw [shr_toNat]; omega
  have e3 : bits BinOp.or IntKind.u32 (u32i (shl x 15)) (u32i (shr x 17)) = u32i (shl x 15 ||| shr x 17) := by
    have h3 := bin_or32 (P := Try.prog) (w := w) 25 (shl x 15) (shr x 17)
    simpa [binOp_or, intBits_or] using h3
  have e4 : u32i (shl x 15 ||| shr x 17) = u32i (rotr x 17) := congrArg u32i (rotr_or x 17)
  go_wp2_with fail
  go_ret
  exact ⟨rfl, Ext.refl _⟩
set_option maxHeartbeats 1000000 in
theorem right17_any (x : UInt32) (w : World) :
    Calls Try.prog 122 #[.int .u32 (u32i x), .int .i64 17] w fun e w' => e = .returned (.int .u32 (u32i (rotr x 17))) ∧ Ext w w' := by
  go_enter Try.func122, Try.ntmps122
  go_wp2_with fail
  refine (rot17_any x w).mono ?_
  rintro e w1 ⟨rfl, hE⟩
  go_wp2_with fail
  go_ret
  exact ⟨rfl, hE⟩

set_option maxHeartbeats 1000000 in
theorem rot18_any (x : UInt32) (w : World) :
    Calls Try.prog 123 #[.int .u32 (u32i x), .int .i64 (-18)] w fun e w' => e = .returned (.int .u32 (u32i (rotr x 18))) ∧ Ext w w' := by
  go_enter Try.func123, Try.ntmps123
  have h0 : bits BinOp.and IntKind.u64 (IntKind.u64.wrap (-18)) 31 = 14 := by rfl
  have e1 : u32i x * 16384 % 4294967296 = u32i (shl x 14) := by unfold u32i; rw [shl_toNat]; omega
  have e2 : u32i x / 262144 = u32i (shr x 18) := by unfold u32i; rw [shr_toNat]; omega
  have e3 : bits BinOp.or IntKind.u32 (u32i (shl x 14)) (u32i (shr x 18)) = u32i (shl x 14 ||| shr x 18) := by
    have h3 := bin_or32 (P := Try.prog) (w := w) 25 (shl x 14) (shr x 18)
    simpa [binOp_or, intBits_or] using h3
  have e4 : u32i (shl x 14 ||| shr x 18) = u32i (rotr x 18) := congrArg u32i (rotr_or x 18)
  go_wp2_with fail
  go_ret
  exact ⟨rfl, Ext.refl _⟩
set_option maxHeartbeats 1000000 in
theorem right18_any (x : UInt32) (w : World) :
    Calls Try.prog 122 #[.int .u32 (u32i x), .int .i64 18] w fun e w' => e = .returned (.int .u32 (u32i (rotr x 18))) ∧ Ext w w' := by
  go_enter Try.func122, Try.ntmps122
  go_wp2_with fail
  refine (rot18_any x w).mono ?_
  rintro e w1 ⟨rfl, hE⟩
  go_wp2_with fail
  go_ret
  exact ⟨rfl, hE⟩

set_option maxHeartbeats 1000000 in
theorem rot19_any (x : UInt32) (w : World) :
    Calls Try.prog 123 #[.int .u32 (u32i x), .int .i64 (-19)] w fun e w' => e = .returned (.int .u32 (u32i (rotr x 19))) ∧ Ext w w' := by
  go_enter Try.func123, Try.ntmps123
  have h0 : bits BinOp.and IntKind.u64 (IntKind.u64.wrap (-19)) 31 = 13 := by rfl
  have e1 : u32i x * 8192 % 4294967296 = u32i (shl x 13) := by unfold u32i; rw [shl_toNat]; omega
  have e2 : u32i x / 524288 = u32i (shr x 19) := by unfold u32i; rw [shr_toNat]; omega
  have e3 : bits BinOp.or IntKind.u32 (u32i (shl x 13)) (u32i (shr x 19)) = u32i (shl x 13 ||| shr x 19) := by
    have h3 := bin_or32 (P := Try.prog) (w := w) 25 (shl x 13) (shr x 19)
    simpa [binOp_or, intBits_or] using h3
  have e4 : u32i (shl x 13 ||| shr x 19) = u32i (rotr x 19) := congrArg u32i (rotr_or x 19)
  go_wp2_with fail
  go_ret
  exact ⟨rfl, Ext.refl _⟩
set_option maxHeartbeats 1000000 in
theorem right19_any (x : UInt32) (w : World) :
    Calls Try.prog 122 #[.int .u32 (u32i x), .int .i64 19] w fun e w' => e = .returned (.int .u32 (u32i (rotr x 19))) ∧ Ext w w' := by
  go_enter Try.func122, Try.ntmps122
  go_wp2_with fail
  refine (rot19_any x w).mono ?_
  rintro e w1 ⟨rfl, hE⟩
  go_wp2_with fail
  go_ret
  exact ⟨rfl, hE⟩

set_option maxHeartbeats 1000000 in
theorem rot22_any (x : UInt32) (w : World) :
    Calls Try.prog 123 #[.int .u32 (u32i x), .int .i64 (-22)] w fun e w' => e = .returned (.int .u32 (u32i (rotr x 22))) ∧ Ext w w' := by
  go_enter Try.func123, Try.ntmps123
  have h0 : bits BinOp.and IntKind.u64 (IntKind.u64.wrap (-22)) 31 = 10 := by rfl
  have e1 : u32i x * 1024 % 4294967296 = u32i (shl x 10) := by unfold u32i; rw [shl_toNat]; omega
  have e2 : u32i x / 4194304 = u32i (shr x 22) := by unfold u32i; rw [shr_toNat]; omega
  have e3 : bits BinOp.or IntKind.u32 (u32i (shl x 10)) (u32i (shr x 22)) = u32i (shl x 10 ||| shr x 22) := by
    have h3 := bin_or32 (P := Try.prog) (w := w) 25 (shl x 10) (shr x 22)
    simpa [binOp_or, intBits_or] using h3
  have e4 : u32i (shl x 10 ||| shr x 22) = u32i (rotr x 22) := congrArg u32i (rotr_or x 22)
  go_wp2_with fail
  go_ret
  exact ⟨rfl, Ext.refl _⟩
set_option maxHeartbeats 1000000 in
theorem right22_any (x : UInt32) (w : World) :
    Calls Try.prog 122 #[.int .u32 (u32i x), .int .i64 22] w fun e w' => e = .returned (.int .u32 (u32i (rotr x 22))) ∧ Ext w w' := by
  go_enter Try.func122, Try.ntmps122
  go_wp2_with fail
  refine (rot22_any x w).mono ?_
  rintro e w1 ⟨rfl, hE⟩
  go_wp2_with fail
  go_ret
  exact ⟨rfl, hE⟩

set_option maxHeartbeats 1000000 in
theorem rot25_any (x : UInt32) (w : World) :
    Calls Try.prog 123 #[.int .u32 (u32i x), .int .i64 (-25)] w fun e w' => e = .returned (.int .u32 (u32i (rotr x 25))) ∧ Ext w w' := by
  go_enter Try.func123, Try.ntmps123
  have h0 : bits BinOp.and IntKind.u64 (IntKind.u64.wrap (-25)) 31 = 7 := by rfl
  have e1 : u32i x * 128 % 4294967296 = u32i (shl x 7) := by unfold u32i; rw [shl_toNat]; omega
  have e2 : u32i x / 33554432 = u32i (shr x 25) := by unfold u32i; rw [shr_toNat]; omega
  have e3 : bits BinOp.or IntKind.u32 (u32i (shl x 7)) (u32i (shr x 25)) = u32i (shl x 7 ||| shr x 25) := by
    have h3 := bin_or32 (P := Try.prog) (w := w) 25 (shl x 7) (shr x 25)
    simpa [binOp_or, intBits_or] using h3
  have e4 : u32i (shl x 7 ||| shr x 25) = u32i (rotr x 25) := congrArg u32i (rotr_or x 25)
  go_wp2_with fail
  go_ret
  exact ⟨rfl, Ext.refl _⟩
set_option maxHeartbeats 1000000 in
theorem right25_any (x : UInt32) (w : World) :
    Calls Try.prog 122 #[.int .u32 (u32i x), .int .i64 25] w fun e w' => e = .returned (.int .u32 (u32i (rotr x 25))) ∧ Ext w w' := by
  go_enter Try.func122, Try.ntmps122
  go_wp2_with fail
  refine (rot25_any x w).mono ?_
  rintro e w1 ⟨rfl, hE⟩
  go_wp2_with fail
  go_ret
  exact ⟨rfl, hE⟩

end Go.Proofs.Ytmgnigofilkfmab
namespace Go.Proofs.Ytmgnigofilkfmab
set_option maxRecDepth 100000
open Go Go.RowKit
/-- the bytes of a word that have come -/
def beP (M : List UInt8) : Nat → UInt32
  | 0 => 0
  | j + 1 => shl (beP M j) 8 ||| (ub M j).toUInt32
theorem shl_bv (x : UInt32) (n : Nat) : (shl x n).toBitVec = x.toBitVec <<< n := by
  apply BitVec.eq_of_toNat_eq
  rw [BitVec.toNat_shiftLeft, Nat.shiftLeft_eq]
  exact shl_toNat x n
theorem shl_or (x y : UInt32) (n : Nat) : shl (x ||| y) n = shl x n ||| shl y n := by
  apply UInt32.toBitVec_inj.1
  rw [UInt32.toBitVec_or, shl_bv, shl_bv, shl_bv, UInt32.toBitVec_or, BitVec.shiftLeft_or_distrib]
theorem shl_shl (x : UInt32) (m n : Nat) : shl (shl x m) n = shl x (m + n) := by
  apply UInt32.toBitVec_inj.1
  rw [shl_bv, shl_bv, shl_bv, BitVec.shiftLeft_add]
theorem shl_0 (x : UInt32) : shl x 0 = x := by
  apply UInt32.toBitVec_inj.1
  rw [shl_bv, BitVec.shiftLeft_zero]
theorem zero_shl (n : Nat) : shl 0 n = 0 := by
  apply UInt32.toBitVec_inj.1
  rw [shl_bv]
  simp
theorem beP4 (L : List UInt8) (k : Nat) : beP (L.drop (4 * k)) 4 = beAt L k := by
  have e : ∀ j, ub (L.drop (4 * k)) j = ub L (4 * k + j) := fun j => by simp [ub]
  simp only [beP, beAt, be4, e, shl_or, shl_shl, zero_shl, Nat.add_zero, Nat.reduceAdd]
  rw [show (0 : UInt32) ||| shl (ub L (4 * k)).toUInt32 24 = shl (ub L (4 * k)).toUInt32 24 from by simp]
theorem fillW_zero (L : List UInt8) : ∀ k, k ≤ 16 → ∀ j, k ≤ j → uw (fillW L k) j = 0
  | 0, _, j, _ => by
    show (List.replicate 64 (0 : UInt32)).getD j 0 = 0
    rw [List.getD_eq_getElem?_getD, List.getElem?_replicate]
    split <;> rfl
  | k + 1, hk, j, hj => by
    have h1 : k < 16 := by omega
    simp only [fillW, h1, if_true]
    rw [uw_set_ne (by omega)]
    exact fillW_zero L k (by omega) j (by omega)
theorem set_uw {l : List UInt32} {k : Nat} (h : k < l.length) : l.set k (uw l k) = l := by
  have e : uw l k = l[k] := by simp [uw, h]
  rw [e, List.set_getElem_self]
theorem cell_drop {w w' : World} {ad : Addr} {L : List UInt8} {i j : Nat} (h : ∀ j, j < 64 → w.cell? (ad.add j) = some (.int .u8 (u8i (ub L j)))) (e : Ext w w') (hj : i + j < 64) : w'.cell? ((ad.add i).add j) = some (.int .u8 (u8i (ub (L.drop i) j))) := by
  rw [Addr.add_add, e.cell (h (i + j) hj)]
  simp [ub]
set_option maxHeartbeats 1000000 in
theorem keys_any (w : World) : Calls Try.prog 115 #[] w fun e w' => e = .returned (.agg (uv shaK)) ∧ Ext w w' := by
  go_enter Try.func115, Try.ntmps115
  go_upto_region 1 with (fail)
  refine wp_region_lit ?_
  refine pure_law (v := .agg (uv shaK)) rfl (by kernel_rfl) ?_
  refine strow_law (l' := shaK) rfl rfl rfl rfl (Arr.new w 119 (List.replicate 64 0)) row64_eq (row64_size.trans shaK_length.symm) (shaK_length.trans List.length_replicate.symm) ?_
  intro w' h1 h2 h3
  go_wp2_with fail
  refine bodyPost_ret (v := .agg (uv shaK)) ?_ rfl ⟨rfl, (Ext.new w _).then_grown h2 (by intro j hj; cases hj; exact Nat.le_refl _)⟩
  exact results_cell_row (fn := Try.f115) (p := 0) (ty := 119) rfl _ w' w.heap.size 119 (uv shaK) (0, 0) _ rfl h1 Try.underlying119 rfl (by rw [row64_eq, uv_size]; exact congrArg some row64_size)
set_option maxHeartbeats 2000000 in
theorem spread_any (c : Nat) (ad : Addr) (L : List UInt8) (w : World) (hcell : ∀ j, j < 64 → w.cell? (ad.add j) = some (.int .u8 (u8i (ub L j)))) (hc : 64 ≤ c) (hc' : c ≤ maxLen) :
    Calls Try.prog 121 #[.slice (some ad) 64 c] w fun e w' => e = .returned (.agg (uv (fillW L 64))) ∧ Ext w w' := by
  unfold maxLen at hc'
  go_enter Try.func121, Try.ntmps121
  go_upto_region 2 with (fail)
  have q2 : Arr ((w.alloc (.cells (uv (List.replicate 64 0)) 119)).alloc (.cells (uv (List.replicate 64 0)) 119)) w.heap.size 119 (List.replicate 64 0) := (Arr.new w 119 (List.replicate 64 0)).ext (Ext.new _ _)
  have q3 : Arr ((w.alloc (.cells (uv (List.replicate 64 0)) 119)).alloc (.cells (uv (List.replicate 64 0)) 119)) (w.heap.size + 1) 119 (fillW L 0) := by
    have h := Arr.new (w.alloc (.cells (uv (List.replicate 64 0)) 119)) 119 (List.replicate 64 0)
    rw [World.size_alloc] at h
    exact h
  refine genW (fun W => Arr W w.heap.size 119 (List.replicate 64 0) ∧ Arr W (w.heap.size + 1) 119 (fillW L 0) ∧ Ext w W) ⟨q2, q3, ((Ext.refl w).alloc _).alloc _⟩ ?_
  rintro W3 ⟨b2, b3, hE3⟩
  clear q2 q3
  go_wp2_with fail
  go_loopw [12] (fun i wr => ∃ k : Nat, k ≤ 16 ∧ i = .int .i64 k ∧ Arr wr w.heap.size 119 (List.replicate 64 0) ∧ Arr wr (w.heap.size + 1) 119 (fillW L k) ∧ Ext w wr) (fun i _ => 16 - (intOf i).toNat)
  case atStart => exact ⟨0, by omega, rfl, b2, b3, hE3⟩
  case round =>
    obtain ⟨k, hk16, rfl, c2, c3, hEr⟩ := hrel
    clear b2 b3 hE3
    by_cases hlt : k < 16
    · go_upto_region 5 with (fail)
      refine seq_ext (n := 9) (by kernel_rfl) [.is (.slice (some ad) (64) (c)), .is (.int .i64 ((k : Int))), .is (.int .i64 ((4 : Int) * (k : Int))), .is (.int .i64 ((k : Int))), .is (.int .i64 ((4 : Int) * (k : Int))), .is (.int .i64 (((4 : Int) * (k : Int)) + (4 : Int))), .is (.slice (if c = (4 * k) then some ad else (some ad).map (·.add ((4 * k) * 1))) (((4 * k) + 4) - (4 * k)) (c - (4 * k))), .is (.int .i64 ((((4 * k) + 4) - (4 * k) : Nat))), .is (.int .i64 ((0 : Int)))] rfl ⟨?_, ?_, ?_, ?_, ?_, ?_, ?_, ?_, ?_, trivial⟩ ?_
      · refine stepE rfl fun sdn sa sw sE sd sk => ?_
        have h0 : sa.eval (.tmp 0) = .slice (some ad) (64) (c) := sk.old 0 rfl
        exact Runs.move rfl h0 ⟨Ext.refl _, rfl⟩
      · refine stepE rfl fun sdn sa sw sE sd sk => ?_
        have h4 : sa.eval (.tmp 4) = .int .i64 ((k : Int)) := sk.old 4 rfl
        exact Runs.move rfl h4 ⟨Ext.refl _, rfl⟩
      · refine stepE rfl fun sdn sa sw sE sd sk => ?_
        have h16 : sa.eval (.tmp 16) = .int .i64 ((k : Int)) := sk.fact 1 16 rfl (sd 1 rfl)
        exact Runs.bin rfl rfl h16 (eqGuard_bin rfl) (bin_mul64 _ _ _ (by omega) (by omega)) ⟨Ext.refl _, rfl⟩
      · refine stepE rfl fun sdn sa sw sE sd sk => ?_
        have h4 : sa.eval (.tmp 4) = .int .i64 ((k : Int)) := sk.old 4 rfl
        exact Runs.move rfl h4 ⟨Ext.refl _, rfl⟩
      · refine stepE rfl fun sdn sa sw sE sd sk => ?_
        have h18 : sa.eval (.tmp 18) = .int .i64 ((k : Int)) := sk.fact 3 18 rfl (sd 3 rfl)
        exact Runs.bin rfl rfl h18 (eqGuard_bin rfl) (bin_mul64 _ _ _ (by omega) (by omega)) ⟨Ext.refl _, rfl⟩
      · refine stepE rfl fun sdn sa sw sE sd sk => ?_
        have h19 : sa.eval (.tmp 19) = .int .i64 ((4 : Int) * (k : Int)) := sk.fact 4 19 rfl (sd 4 rfl)
        exact Runs.bin rfl h19 rfl (eqGuard_bin rfl) (bin_add64 _ _ _ (by omega) (by omega)) ⟨Ext.refl _, rfl⟩
      · refine stepE rfl fun sdn sa sw sE sd sk => ?_
        have h15 : sa.eval (.tmp 15) = .slice (some ad) (64) (c) := sk.fact 0 15 rfl (sd 0 rfl)
        have h17 : sa.eval (.tmp 17) = .int .i64 ((4 : Int) * (k : Int)) := sk.fact 2 17 rfl (sd 2 rfl)
        have h20 : sa.eval (.tmp 20) = .int .i64 (((4 : Int) * (k : Int)) + (4 : Int)) := sk.fact 5 20 rfl (sd 5 rfl)
        exact Runs.slice rfl h15 (by simp only [Option.map_some, Option.map_none, h17, h20]; exact run_cut_lh Try.underlying22 inf22_eq inf22_size ((4 * k)) (((4 * k) + 4)) (by first | rfl | omega) (by first | rfl | omega) (by omega) (by omega)) ⟨Ext.refl _, rfl⟩
      · refine stepE rfl fun sdn sa sw sE sd sk => ?_
        have h21 : sa.eval (.tmp 21) = .slice (if c = (4 * k) then some ad else (some ad).map (·.add ((4 * k) * 1))) (((4 * k) + 4) - (4 * k)) (c - (4 * k)) := sk.fact 6 21 rfl (sd 6 rfl)
        exact Runs.len Try.underlying22 rfl h21 ⟨Ext.refl _, rfl⟩
      · refine stepE rfl fun sdn sa sw sE sd sk => ?_
        exact Runs.move rfl rfl ⟨Ext.refl _, rfl⟩
      ·
        intro vals W1 hE hv
        have e0 : vals 0 = .slice (some ad) (64) (c) := hv 0 (by omega) 15 rfl
        have e1 : vals 1 = .int .i64 ((k : Int)) := hv 1 (by omega) 16 rfl
        have e2 : vals 2 = .int .i64 ((4 : Int) * (k : Int)) := hv 2 (by omega) 17 rfl
        have e3 : vals 3 = .int .i64 ((k : Int)) := hv 3 (by omega) 18 rfl
        have e4 : vals 4 = .int .i64 ((4 : Int) * (k : Int)) := hv 4 (by omega) 19 rfl
        have e5 : vals 5 = .int .i64 (((4 : Int) * (k : Int)) + (4 : Int)) := hv 5 (by omega) 20 rfl
        have e6 : vals 6 = .slice (if c = (4 * k) then some ad else (some ad).map (·.add ((4 * k) * 1))) (((4 * k) + 4) - (4 * k)) (c - (4 * k)) := hv 6 (by omega) 21 rfl
        have e7 : vals 7 = .int .i64 ((((4 * k) + 4) - (4 * k) : Nat)) := hv 7 (by omega) 22 rfl
        have e8 : vals 8 = .int .i64 ((0 : Int)) := hv 8 (by omega) 23 rfl
        simp only [putAll, Act.put, List.take_succ_cons, List.take_zero, List.drop_succ_cons, List.drop_zero, List.drop_nil, List.take_nil, Nat.reduceAdd, List.setIfInBounds_toArray, List.set_cons_succ, List.set_cons_zero, e0, e1, e2, e3, e4, e5, e6, e7, e8]
        clear hv e0 e1 e2 e3 e4 e5 e6 e7 e8
        rw [if_neg (show ¬ c = 4 * k by omega), show 4 * k + 4 - 4 * k = 4 by omega, Option.map_some, Nat.mul_one]
        have d0 := c3.ext hE
        rw [← set_uw (l := fillW L k) (k := k) (by rw [fillW_length]; omega), fillW_zero L k hk16 k (Nat.le_refl _)] at d0
        have d2' := c2.ext hE
        have hE2' := hEr.trans hE
        clear c2 c3 hEr hE
        go_wp2_with fail
        go_loopw [23] (fun i wr => ∃ j : Nat, j ≤ 4 ∧ i = .int .i64 j ∧ Arr wr w.heap.size 119 (List.replicate 64 0) ∧ Arr wr (w.heap.size + 1) 119 ((fillW L k).set k (beP (L.drop (4 * k)) j)) ∧ Ext w wr) (fun i _ => 4 - (intOf i).toNat)
        case atStart => exact ⟨0, by omega, rfl, d2', d0, hE2'⟩
        case round =>
          clear d0 d2' hE2'
          obtain ⟨j, hj4, rfl, d2, d3, hEr2⟩ := hrel
          by_cases hlj : j < 4
          · go_upto_region 7 with (fail)
            refine seq_ext (n := 3) (by kernel_rfl) [.is (.pointer (some ((ad.add (4 * k)).add (j)))), .is (.int .u8 (u8i (ub (L.drop (4 * k)) (j)))), .is (.int .u8 (u8i (ub (L.drop (4 * k)) (j))))] rfl ⟨?_, ?_, ?_, trivial⟩ ?_
            · refine stepE rfl fun sdn sa sw sE sd sk => ?_
              have h21 : sa.eval (.tmp 21) = .slice (some (ad.add (4 * k))) (4) (c - 4 * k) := sk.old 21 rfl
              have h23 : sa.eval (.tmp 23) = .int .i64 ((j : Int)) := sk.old 23 rfl
              exact Runs.idx rfl h21 h23 (run_idx_sl1 Try.underlying22 inf22_eq inf22_size (j) (by omega) (by omega)) ⟨Ext.refl _, rfl⟩
            · refine stepE rfl fun sdn sa sw sE sd sk => ?_
              have h25 : sa.eval (.tmp 25) = .pointer (some ((ad.add (4 * k)).add (j))) := sk.fact 0 25 rfl (sd 0 rfl)
              exact Runs.load rfl h25 (run_load1 Try.underlying5 rfl (cell_drop hcell (hEr2.trans sE) (by omega))) ⟨Ext.refl _, rfl⟩
            · refine stepE rfl fun sdn sa sw sE sd sk => ?_
              have h26 : sa.eval (.tmp 26) = .int .u8 (u8i (ub (L.drop (4 * k)) (j))) := sk.fact 1 26 rfl (sd 1 rfl)
              exact Runs.assign rfl h26 ⟨Ext.refl _, rfl⟩
            ·
              intro vals W1 hE1 hv1
              have e0 : vals 0 = .pointer (some ((ad.add (4 * k)).add (j))) := hv1 0 (by omega) 25 rfl
              have e1 : vals 1 = .int .u8 (u8i (ub (L.drop (4 * k)) (j))) := hv1 1 (by omega) 26 rfl
              have e2 : vals 2 = .int .u8 (u8i (ub (L.drop (4 * k)) (j))) := hv1 2 (by omega) 6 rfl
              simp only [putAll, Act.put, List.take_succ_cons, List.take_zero, List.drop_succ_cons, List.drop_zero, List.drop_nil, List.take_nil, Nat.reduceAdd, List.setIfInBounds_toArray, List.set_cons_succ, List.set_cons_zero, e0, e1, e2]
              clear hv1 e0 e1 e2
              go_upto_region 8 with (fail)
              refine seq_ext (n := 9) (by kernel_rfl) [.is (.int .i64 ((k : Int))), .is (.int .i64 ((k : Int))), .is (.pointer (some ⟨w.heap.size + 1, k, none⟩)), .is (.int .u32 (u32i (uw ((fillW L k).set k (beP (L.drop (4 * k)) j)) k))), .is (.int .u32 (u32i (shl (uw ((fillW L k).set k (beP (L.drop (4 * k)) j)) k) 8))), .is (.int .u8 (u8i (ub (L.drop (4 * k)) j))), .is (.int .u32 (u32i (ub (L.drop (4 * k)) j).toUInt32)), .is (.int .u32 (u32i ((shl (uw ((fillW L k).set k (beP (L.drop (4 * k)) j)) k) 8) ||| (ub (L.drop (4 * k)) j).toUInt32))), .is (.pointer (some ⟨w.heap.size + 1, k, none⟩))] rfl ⟨?_, ?_, ?_, ?_, ?_, ?_, ?_, ?_, ?_, trivial⟩ ?_
              · refine stepE rfl fun sdn sa sw sE sd sk => ?_
                have h4 : sa.eval (.tmp 4) = .int .i64 ((k : Int)) := sk.old 4 rfl
                exact Runs.move rfl h4 ⟨Ext.refl _, rfl⟩
              · refine stepE rfl fun sdn sa sw sE sd sk => ?_
                have h4 : sa.eval (.tmp 4) = .int .i64 ((k : Int)) := sk.old 4 rfl
                exact Runs.move rfl h4 ⟨Ext.refl _, rfl⟩
              · refine stepE rfl fun sdn sa sw sE sd sk => ?_
                have h3 : sa.eval (.tmp 3) = .pointer (some ⟨w.heap.size + 1, 0, none⟩) := sk.old 3 rfl
                have h28 : sa.eval (.tmp 28) = .int .i64 ((k : Int)) := sk.fact 1 28 rfl (sd 1 rfl)
                exact Runs.idx rfl h3 h28 (run_idx_arr1 Try.underlying119 inf119_eq inf119_size (k) (by omega) (by omega)) ⟨Ext.refl _, rfl⟩
              · refine stepE rfl fun sdn sa sw sE sd sk => ?_
                have h29 : sa.eval (.tmp 29) = .pointer (some ⟨w.heap.size + 1, k, none⟩) := sk.fact 2 29 rfl (sd 2 rfl)
                exact Runs.load rfl h29 (run_load1 Try.underlying25 rfl (((d3.ext hE1).ext sE).cell (by rw [List.length_set, fillW_length]; omega))) ⟨Ext.refl _, rfl⟩
              · refine stepE rfl fun sdn sa sw sE sd sk => ?_
                have h30 : sa.eval (.tmp 30) = .int .u32 (u32i (uw ((fillW L k).set k (beP (L.drop (4 * k)) j)) k)) := sk.fact 3 30 rfl (sd 3 rfl)
                exact Runs.bin rfl h30 rfl (eqGuard_bin rfl) (bin_shl32 _ _ 8 _) ⟨Ext.refl _, rfl⟩
              · refine stepE rfl fun sdn sa sw sE sd sk => ?_
                have h6 : sa.eval (.tmp 6) = .int .u8 (u8i (ub (L.drop (4 * k)) j)) := sk.old 6 rfl
                exact Runs.move rfl h6 ⟨Ext.refl _, rfl⟩
              · refine stepE rfl fun sdn sa sw sE sd sk => ?_
                have h32 : sa.eval (.tmp 32) = .int .u8 (u8i (ub (L.drop (4 * k)) j)) := sk.fact 5 32 rfl (sd 5 rfl)
                exact Runs.conv rfl h32 (conv_u8_u32 Try.underlying5 Try.underlying25 _) ⟨Ext.refl _, rfl⟩
              · refine stepE rfl fun sdn sa sw sE sd sk => ?_
                have h31 : sa.eval (.tmp 31) = .int .u32 (u32i (shl (uw ((fillW L k).set k (beP (L.drop (4 * k)) j)) k) 8)) := sk.fact 4 31 rfl (sd 4 rfl)
                have h33 : sa.eval (.tmp 33) = .int .u32 (u32i (ub (L.drop (4 * k)) j).toUInt32) := sk.fact 6 33 rfl (sd 6 rfl)
                exact Runs.bin rfl h31 h33 (eqGuard_bin rfl) (bin_or32 _ _ _) ⟨Ext.refl _, rfl⟩
              · refine stepE rfl fun sdn sa sw sE sd sk => ?_
                have h3 : sa.eval (.tmp 3) = .pointer (some ⟨w.heap.size + 1, 0, none⟩) := sk.old 3 rfl
                have h27 : sa.eval (.tmp 27) = .int .i64 ((k : Int)) := sk.fact 0 27 rfl (sd 0 rfl)
                exact Runs.idx rfl h3 h27 (run_idx_arr1 Try.underlying119 inf119_eq inf119_size (k) (by omega) (by omega)) ⟨Ext.refl _, rfl⟩
              ·
                intro vals W2 hE2 hv2
                have e0 : vals 0 = .int .i64 ((k : Int)) := hv2 0 (by omega) 27 rfl
                have e1 : vals 1 = .int .i64 ((k : Int)) := hv2 1 (by omega) 28 rfl
                have e2 : vals 2 = .pointer (some ⟨w.heap.size + 1, k, none⟩) := hv2 2 (by omega) 29 rfl
                have e3 : vals 3 = .int .u32 (u32i (uw ((fillW L k).set k (beP (L.drop (4 * k)) j)) k)) := hv2 3 (by omega) 30 rfl
                have e4 : vals 4 = .int .u32 (u32i (shl (uw ((fillW L k).set k (beP (L.drop (4 * k)) j)) k) 8)) := hv2 4 (by omega) 31 rfl
                have e5 : vals 5 = .int .u8 (u8i (ub (L.drop (4 * k)) j)) := hv2 5 (by omega) 32 rfl
                have e6 : vals 6 = .int .u32 (u32i (ub (L.drop (4 * k)) j).toUInt32) := hv2 6 (by omega) 33 rfl
                have e7 : vals 7 = .int .u32 (u32i ((shl (uw ((fillW L k).set k (beP (L.drop (4 * k)) j)) k) 8) ||| (ub (L.drop (4 * k)) j).toUInt32)) := hv2 7 (by omega) 34 rfl
                have e8 : vals 8 = .pointer (some ⟨w.heap.size + 1, k, none⟩) := hv2 8 (by omega) 35 rfl
                simp only [putAll, Act.put, List.take_succ_cons, List.take_zero, List.drop_succ_cons, List.drop_zero, List.drop_nil, List.take_nil, Nat.reduceAdd, List.setIfInBounds_toArray, List.set_cons_succ, List.set_cons_zero, e0, e1, e2, e3, e4, e5, e6, e7, e8]
                clear hv2 e0 e1 e2 e3 e4 e5 e6 e7 e8
                have hEE := hE1.trans hE2
                have y1 := (d3.ext hEE).cell (i := k) (by rw [List.length_set, fillW_length]; omega)
                have y2 := (d3.ext hEE).frozen k
                go_wp2_with fail
                go_roundw
                case rel =>
                  refine ⟨j + 1, by omega, by go_num, (d2.ext hEE).far (by dsimp only; omega) _, ?_, (hEr2.trans hEE).set (by dsimp only; omega) _⟩
                  have y3 := (d3.ext hEE).set k (beP (L.drop (4 * k)) (j + 1))
                  rw [List.set_set] at y3
                  rw [uw_set_eq (by rw [fillW_length]; omega)]
                  exact y3
                case measure => simp [intOf]; omega
          · obtain rfl : j = 4 := by omega
            rw [beP4] at d3
            go_wp2_with fail
            go_roundw
            case rel =>
              refine ⟨k + 1, by omega, by go_num, d2, ?_, hEr2⟩
              simp only [fillW, hlt, if_true]
              exact d3
            case measure => simp [intOf]; omega
    · obtain rfl : k = 16 := by omega
      clear hlt hk16
      go_wp2_with fail
      go_loopw [7] (fun i wr => ∃ k : Nat, 16 ≤ k ∧ k ≤ 64 ∧ i = .int .i64 k ∧ Arr wr w.heap.size 119 (List.replicate 64 0) ∧ Arr wr (w.heap.size + 1) 119 (fillW L k) ∧ Ext w wr) (fun i _ => 64 - (intOf i).toNat)
      case atStart => exact ⟨16, by omega, by omega, rfl, c2, c3, hEr⟩
      case round =>
        clear c2 c3 hEr
        obtain ⟨k, hk16, hk64, rfl, c2, c3, hEr⟩ := hrel
        by_cases hlt : k < 64
        · go_upto_region 14 with (fail)
          refine par_ext (n := 10) (by kernel_rfl) [.is (.int .i64 ((k : Int))), .is (.int .i64 ((k : Int) - (15 : Int))), .is (.pointer (some ⟨w.heap.size + 1, (k - 15), none⟩)), .is (.int .u32 (u32i (uw (fillW L k) (k - 15)))), .is (.int .i64 ((k : Int))), .is (.int .i64 ((k : Int) - (2 : Int))), .is (.pointer (some ⟨w.heap.size + 1, (k - 2), none⟩)), .is (.int .u32 (u32i (uw (fillW L k) (k - 2)))), .is (.int .u32 (u32i (uw (fillW L k) (k - 15)))), .is (.int .u32 (u32i (uw (fillW L k) (k - 2))))] rfl ⟨?_, ?_, ?_, ?_, ?_, ?_, ?_, ?_, ?_, ?_, trivial⟩ ?_
          · refine stepE rfl fun sdn sa sw sE sd sk => ?_
            have h7 : sa.eval (.tmp 7) = .int .i64 ((k : Int)) := sk.old 7 rfl
            exact Runs.move rfl h7 ⟨Ext.refl _, rfl⟩
          · refine stepE rfl fun sdn sa sw sE sd sk => ?_
            have h42 : sa.eval (.tmp 42) = .int .i64 ((k : Int)) := sk.fact 0 42 rfl (sd 0 rfl)
            exact Runs.bin rfl h42 rfl (eqGuard_bin rfl) (bin_sub64 _ _ _ (by omega) (by omega)) ⟨Ext.refl _, rfl⟩
          · refine stepE rfl fun sdn sa sw sE sd sk => ?_
            have h3 : sa.eval (.tmp 3) = .pointer (some ⟨w.heap.size + 1, 0, none⟩) := sk.old 3 rfl
            have h43 : sa.eval (.tmp 43) = .int .i64 ((k : Int) - (15 : Int)) := sk.fact 1 43 rfl (sd 1 rfl)
            exact Runs.idx rfl h3 h43 (run_idx_arr1 Try.underlying119 inf119_eq inf119_size ((k - 15)) (by omega) (by omega)) ⟨Ext.refl _, rfl⟩
          · refine stepE rfl fun sdn sa sw sE sd sk => ?_
            have h44 : sa.eval (.tmp 44) = .pointer (some ⟨w.heap.size + 1, (k - 15), none⟩) := sk.fact 2 44 rfl (sd 2 rfl)
            exact Runs.load rfl h44 (run_load1 Try.underlying25 rfl ((c3.ext sE).cell (by rw [fillW_length]; omega))) ⟨Ext.refl _, rfl⟩
          · refine stepE rfl fun sdn sa sw sE sd sk => ?_
            have h7 : sa.eval (.tmp 7) = .int .i64 ((k : Int)) := sk.old 7 rfl
            exact Runs.move rfl h7 ⟨Ext.refl _, rfl⟩
          · refine stepE rfl fun sdn sa sw sE sd sk => ?_
            have h46 : sa.eval (.tmp 46) = .int .i64 ((k : Int)) := sk.fact 4 46 rfl (sd 4 rfl)
            exact Runs.bin rfl h46 rfl (eqGuard_bin rfl) (bin_sub64 _ _ _ (by omega) (by omega)) ⟨Ext.refl _, rfl⟩
          · refine stepE rfl fun sdn sa sw sE sd sk => ?_
            have h3 : sa.eval (.tmp 3) = .pointer (some ⟨w.heap.size + 1, 0, none⟩) := sk.old 3 rfl
            have h47 : sa.eval (.tmp 47) = .int .i64 ((k : Int) - (2 : Int)) := sk.fact 5 47 rfl (sd 5 rfl)
            exact Runs.idx rfl h3 h47 (run_idx_arr1 Try.underlying119 inf119_eq inf119_size ((k - 2)) (by omega) (by omega)) ⟨Ext.refl _, rfl⟩
          · refine stepE rfl fun sdn sa sw sE sd sk => ?_
            have h48 : sa.eval (.tmp 48) = .pointer (some ⟨w.heap.size + 1, (k - 2), none⟩) := sk.fact 6 48 rfl (sd 6 rfl)
            exact Runs.load rfl h48 (run_load1 Try.underlying25 rfl ((c3.ext sE).cell (by rw [fillW_length]; omega))) ⟨Ext.refl _, rfl⟩
          · refine stepE rfl fun sdn sa sw sE sd sk => ?_
            have h45 : sa.eval (.tmp 45) = .int .u32 (u32i (uw (fillW L k) (k - 15))) := sk.fact 3 45 rfl (sd 3 rfl)
            exact Runs.assign rfl h45 ⟨Ext.refl _, rfl⟩
          · refine stepE rfl fun sdn sa sw sE sd sk => ?_
            have h49 : sa.eval (.tmp 49) = .int .u32 (u32i (uw (fillW L k) (k - 2))) := sk.fact 7 49 rfl (sd 7 rfl)
            exact Runs.assign rfl h49 ⟨Ext.refl _, rfl⟩
          ·
            intro vals W1 hE1 hv1
            have e0 : vals 0 = .int .i64 ((k : Int)) := hv1 0 (by omega) 42 rfl
            have e1 : vals 1 = .int .i64 ((k : Int) - (15 : Int)) := hv1 1 (by omega) 43 rfl
            have e2 : vals 2 = .pointer (some ⟨w.heap.size + 1, (k - 15), none⟩) := hv1 2 (by omega) 44 rfl
            have e3 : vals 3 = .int .u32 (u32i (uw (fillW L k) (k - 15))) := hv1 3 (by omega) 45 rfl
            have e4 : vals 4 = .int .i64 ((k : Int)) := hv1 4 (by omega) 46 rfl
            have e5 : vals 5 = .int .i64 ((k : Int) - (2 : Int)) := hv1 5 (by omega) 47 rfl
            have e6 : vals 6 = .pointer (some ⟨w.heap.size + 1, (k - 2), none⟩) := hv1 6 (by omega) 48 rfl
            have e7 : vals 7 = .int .u32 (u32i (uw (fillW L k) (k - 2))) := hv1 7 (by omega) 49 rfl
            have e8 : vals 8 = .int .u32 (u32i (uw (fillW L k) (k - 15))) := hv1 8 (by omega) 8 rfl
            have e9 : vals 9 = .int .u32 (u32i (uw (fillW L k) (k - 2))) := hv1 9 (by omega) 9 rfl
            simp only [putAll, Act.put, List.take_succ_cons, List.take_zero, List.drop_succ_cons, List.drop_zero, List.drop_nil, List.take_nil, Nat.reduceAdd, List.setIfInBounds_toArray, List.set_cons_succ, List.set_cons_zero, e0, e1, e2, e3, e4, e5, e6, e7, e8, e9]
            clear hv1 e0 e1 e2 e3 e4 e5 e6 e7 e8 e9
            go_upto_region 15 with (fail)
            refine seq_ext (n := 9) (by kernel_rfl) [.is (.int .u32 (u32i (uw (fillW L k) (k - 15)))), .is (.int .u32 (u32i (rotr (uw (fillW L k) (k - 15)) 7))), .is (.int .u32 (u32i (uw (fillW L k) (k - 15)))), .is (.int .u32 (u32i (rotr (uw (fillW L k) (k - 15)) 18))), .is (.int .u32 (u32i ((rotr (uw (fillW L k) (k - 15)) 7) ^^^ (rotr (uw (fillW L k) (k - 15)) 18)))), .is (.int .u32 (u32i (uw (fillW L k) (k - 15)))), .is (.int .u32 (u32i (shr (uw (fillW L k) (k - 15)) 3))), .is (.int .u32 (u32i (((rotr (uw (fillW L k) (k - 15)) 7) ^^^ (rotr (uw (fillW L k) (k - 15)) 18)) ^^^ (shr (uw (fillW L k) (k - 15)) 3)))), .is (.int .u32 (u32i (((rotr (uw (fillW L k) (k - 15)) 7) ^^^ (rotr (uw (fillW L k) (k - 15)) 18)) ^^^ (shr (uw (fillW L k) (k - 15)) 3))))] rfl ⟨?_, ?_, ?_, ?_, ?_, ?_, ?_, ?_, ?_, trivial⟩ ?_
            · refine stepE rfl fun sdn sa sw sE sd sk => ?_
              have h8 : sa.eval (.tmp 8) = .int .u32 (u32i (uw (fillW L k) (k - 15))) := sk.old 8 rfl
              exact Runs.move rfl h8 ⟨Ext.refl _, rfl⟩
            · refine stepE rfl fun sdn sa sw sE sd sk => ?_
              have h50 : sa.eval (.tmp 50) = .int .u32 (u32i (uw (fillW L k) (k - 15))) := sk.fact 0 50 rfl (sd 0 rfl)
              refine Runs.call (f := 122) (vs := [.int .u32 (u32i (uw (fillW L k) (k - 15))), .int .i64 ((7 : Int))]) rfl rfl rfl (by simp only [List.map_toArray, List.map_cons, List.map_nil, h50] <;> rfl) (ent122 _ _) ((right7_any (uw (fillW L k) (k - 15)) sw).mono ?_); rintro e w' ⟨rfl, hx⟩; exact ⟨_, rfl, hx, rfl⟩
            · refine stepE rfl fun sdn sa sw sE sd sk => ?_
              have h8 : sa.eval (.tmp 8) = .int .u32 (u32i (uw (fillW L k) (k - 15))) := sk.old 8 rfl
              exact Runs.move rfl h8 ⟨Ext.refl _, rfl⟩
            · refine stepE rfl fun sdn sa sw sE sd sk => ?_
              have h52 : sa.eval (.tmp 52) = .int .u32 (u32i (uw (fillW L k) (k - 15))) := sk.fact 2 52 rfl (sd 2 rfl)
              refine Runs.call (f := 122) (vs := [.int .u32 (u32i (uw (fillW L k) (k - 15))), .int .i64 ((18 : Int))]) rfl rfl rfl (by simp only [List.map_toArray, List.map_cons, List.map_nil, h52] <;> rfl) (ent122 _ _) ((right18_any (uw (fillW L k) (k - 15)) sw).mono ?_); rintro e w' ⟨rfl, hx⟩; exact ⟨_, rfl, hx, rfl⟩
            · refine stepE rfl fun sdn sa sw sE sd sk => ?_
              have h51 : sa.eval (.tmp 51) = .int .u32 (u32i (rotr (uw (fillW L k) (k - 15)) 7)) := sk.fact 1 51 rfl (sd 1 rfl)
              have h53 : sa.eval (.tmp 53) = .int .u32 (u32i (rotr (uw (fillW L k) (k - 15)) 18)) := sk.fact 3 53 rfl (sd 3 rfl)
              exact Runs.bin rfl h51 h53 (eqGuard_bin rfl) (bin_xor32 _ _ _) ⟨Ext.refl _, rfl⟩
            · refine stepE rfl fun sdn sa sw sE sd sk => ?_
              have h8 : sa.eval (.tmp 8) = .int .u32 (u32i (uw (fillW L k) (k - 15))) := sk.old 8 rfl
              exact Runs.move rfl h8 ⟨Ext.refl _, rfl⟩
            · refine stepE rfl fun sdn sa sw sE sd sk => ?_
              have h55 : sa.eval (.tmp 55) = .int .u32 (u32i (uw (fillW L k) (k - 15))) := sk.fact 5 55 rfl (sd 5 rfl)
              exact Runs.bin rfl h55 rfl (eqGuard_bin rfl) (bin_shr32 _ _ 3 _) ⟨Ext.refl _, rfl⟩
            · refine stepE rfl fun sdn sa sw sE sd sk => ?_
              have h54 : sa.eval (.tmp 54) = .int .u32 (u32i ((rotr (uw (fillW L k) (k - 15)) 7) ^^^ (rotr (uw (fillW L k) (k - 15)) 18))) := sk.fact 4 54 rfl (sd 4 rfl)
              have h56 : sa.eval (.tmp 56) = .int .u32 (u32i (shr (uw (fillW L k) (k - 15)) 3)) := sk.fact 6 56 rfl (sd 6 rfl)
              exact Runs.bin rfl h54 h56 (eqGuard_bin rfl) (bin_xor32 _ _ _) ⟨Ext.refl _, rfl⟩
            · refine stepE rfl fun sdn sa sw sE sd sk => ?_
              have h57 : sa.eval (.tmp 57) = .int .u32 (u32i (((rotr (uw (fillW L k) (k - 15)) 7) ^^^ (rotr (uw (fillW L k) (k - 15)) 18)) ^^^ (shr (uw (fillW L k) (k - 15)) 3))) := sk.fact 7 57 rfl (sd 7 rfl)
              exact Runs.assign rfl h57 ⟨Ext.refl _, rfl⟩
            ·
              intro vals W2 hE2 hv2
              have e0 : vals 0 = .int .u32 (u32i (uw (fillW L k) (k - 15))) := hv2 0 (by omega) 50 rfl
              have e1 : vals 1 = .int .u32 (u32i (rotr (uw (fillW L k) (k - 15)) 7)) := hv2 1 (by omega) 51 rfl
              have e2 : vals 2 = .int .u32 (u32i (uw (fillW L k) (k - 15))) := hv2 2 (by omega) 52 rfl
              have e3 : vals 3 = .int .u32 (u32i (rotr (uw (fillW L k) (k - 15)) 18)) := hv2 3 (by omega) 53 rfl
              have e4 : vals 4 = .int .u32 (u32i ((rotr (uw (fillW L k) (k - 15)) 7) ^^^ (rotr (uw (fillW L k) (k - 15)) 18))) := hv2 4 (by omega) 54 rfl
              have e5 : vals 5 = .int .u32 (u32i (uw (fillW L k) (k - 15))) := hv2 5 (by omega) 55 rfl
              have e6 : vals 6 = .int .u32 (u32i (shr (uw (fillW L k) (k - 15)) 3)) := hv2 6 (by omega) 56 rfl
              have e7 : vals 7 = .int .u32 (u32i (((rotr (uw (fillW L k) (k - 15)) 7) ^^^ (rotr (uw (fillW L k) (k - 15)) 18)) ^^^ (shr (uw (fillW L k) (k - 15)) 3))) := hv2 7 (by omega) 57 rfl
              have e8 : vals 8 = .int .u32 (u32i (((rotr (uw (fillW L k) (k - 15)) 7) ^^^ (rotr (uw (fillW L k) (k - 15)) 18)) ^^^ (shr (uw (fillW L k) (k - 15)) 3))) := hv2 8 (by omega) 10 rfl
              simp only [putAll, Act.put, List.take_succ_cons, List.take_zero, List.drop_succ_cons, List.drop_zero, List.drop_nil, List.take_nil, Nat.reduceAdd, List.setIfInBounds_toArray, List.set_cons_succ, List.set_cons_zero, e0, e1, e2, e3, e4, e5, e6, e7, e8]
              clear hv2 e0 e1 e2 e3 e4 e5 e6 e7 e8
              go_upto_region 16 with (fail)
              refine seq_ext (n := 9) (by kernel_rfl) [.is (.int .u32 (u32i (uw (fillW L k) (k - 2)))), .is (.int .u32 (u32i (rotr (uw (fillW L k) (k - 2)) 17))), .is (.int .u32 (u32i (uw (fillW L k) (k - 2)))), .is (.int .u32 (u32i (rotr (uw (fillW L k) (k - 2)) 19))), .is (.int .u32 (u32i ((rotr (uw (fillW L k) (k - 2)) 17) ^^^ (rotr (uw (fillW L k) (k - 2)) 19)))), .is (.int .u32 (u32i (uw (fillW L k) (k - 2)))), .is (.int .u32 (u32i (shr (uw (fillW L k) (k - 2)) 10))), .is (.int .u32 (u32i (((rotr (uw (fillW L k) (k - 2)) 17) ^^^ (rotr (uw (fillW L k) (k - 2)) 19)) ^^^ (shr (uw (fillW L k) (k - 2)) 10)))), .is (.int .u32 (u32i (((rotr (uw (fillW L k) (k - 2)) 17) ^^^ (rotr (uw (fillW L k) (k - 2)) 19)) ^^^ (shr (uw (fillW L k) (k - 2)) 10))))] rfl ⟨?_, ?_, ?_, ?_, ?_, ?_, ?_, ?_, ?_, trivial⟩ ?_
              · refine stepE rfl fun sdn sa sw sE sd sk => ?_
                have h9 : sa.eval (.tmp 9) = .int .u32 (u32i (uw (fillW L k) (k - 2))) := sk.old 9 rfl
                exact Runs.move rfl h9 ⟨Ext.refl _, rfl⟩
              · refine stepE rfl fun sdn sa sw sE sd sk => ?_
                have h58 : sa.eval (.tmp 58) = .int .u32 (u32i (uw (fillW L k) (k - 2))) := sk.fact 0 58 rfl (sd 0 rfl)
                refine Runs.call (f := 122) (vs := [.int .u32 (u32i (uw (fillW L k) (k - 2))), .int .i64 ((17 : Int))]) rfl rfl rfl (by simp only [List.map_toArray, List.map_cons, List.map_nil, h58] <;> rfl) (ent122 _ _) ((right17_any (uw (fillW L k) (k - 2)) sw).mono ?_); rintro e w' ⟨rfl, hx⟩; exact ⟨_, rfl, hx, rfl⟩
              · refine stepE rfl fun sdn sa sw sE sd sk => ?_
                have h9 : sa.eval (.tmp 9) = .int .u32 (u32i (uw (fillW L k) (k - 2))) := sk.old 9 rfl
                exact Runs.move rfl h9 ⟨Ext.refl _, rfl⟩
              · refine stepE rfl fun sdn sa sw sE sd sk => ?_
                have h60 : sa.eval (.tmp 60) = .int .u32 (u32i (uw (fillW L k) (k - 2))) := sk.fact 2 60 rfl (sd 2 rfl)
                refine Runs.call (f := 122) (vs := [.int .u32 (u32i (uw (fillW L k) (k - 2))), .int .i64 ((19 : Int))]) rfl rfl rfl (by simp only [List.map_toArray, List.map_cons, List.map_nil, h60] <;> rfl) (ent122 _ _) ((right19_any (uw (fillW L k) (k - 2)) sw).mono ?_); rintro e w' ⟨rfl, hx⟩; exact ⟨_, rfl, hx, rfl⟩
              · refine stepE rfl fun sdn sa sw sE sd sk => ?_
                have h59 : sa.eval (.tmp 59) = .int .u32 (u32i (rotr (uw (fillW L k) (k - 2)) 17)) := sk.fact 1 59 rfl (sd 1 rfl)
                have h61 : sa.eval (.tmp 61) = .int .u32 (u32i (rotr (uw (fillW L k) (k - 2)) 19)) := sk.fact 3 61 rfl (sd 3 rfl)
                exact Runs.bin rfl h59 h61 (eqGuard_bin rfl) (bin_xor32 _ _ _) ⟨Ext.refl _, rfl⟩
              · refine stepE rfl fun sdn sa sw sE sd sk => ?_
                have h9 : sa.eval (.tmp 9) = .int .u32 (u32i (uw (fillW L k) (k - 2))) := sk.old 9 rfl
                exact Runs.move rfl h9 ⟨Ext.refl _, rfl⟩
              · refine stepE rfl fun sdn sa sw sE sd sk => ?_
                have h63 : sa.eval (.tmp 63) = .int .u32 (u32i (uw (fillW L k) (k - 2))) := sk.fact 5 63 rfl (sd 5 rfl)
                exact Runs.bin rfl h63 rfl (eqGuard_bin rfl) (bin_shr32 _ _ 10 _) ⟨Ext.refl _, rfl⟩
              · refine stepE rfl fun sdn sa sw sE sd sk => ?_
                have h62 : sa.eval (.tmp 62) = .int .u32 (u32i ((rotr (uw (fillW L k) (k - 2)) 17) ^^^ (rotr (uw (fillW L k) (k - 2)) 19))) := sk.fact 4 62 rfl (sd 4 rfl)
                have h64 : sa.eval (.tmp 64) = .int .u32 (u32i (shr (uw (fillW L k) (k - 2)) 10)) := sk.fact 6 64 rfl (sd 6 rfl)
                exact Runs.bin rfl h62 h64 (eqGuard_bin rfl) (bin_xor32 _ _ _) ⟨Ext.refl _, rfl⟩
              · refine stepE rfl fun sdn sa sw sE sd sk => ?_
                have h65 : sa.eval (.tmp 65) = .int .u32 (u32i (((rotr (uw (fillW L k) (k - 2)) 17) ^^^ (rotr (uw (fillW L k) (k - 2)) 19)) ^^^ (shr (uw (fillW L k) (k - 2)) 10))) := sk.fact 7 65 rfl (sd 7 rfl)
                exact Runs.assign rfl h65 ⟨Ext.refl _, rfl⟩
              ·
                intro vals W5 hE3 hv3
                have e0 : vals 0 = .int .u32 (u32i (uw (fillW L k) (k - 2))) := hv3 0 (by omega) 58 rfl
                have e1 : vals 1 = .int .u32 (u32i (rotr (uw (fillW L k) (k - 2)) 17)) := hv3 1 (by omega) 59 rfl
                have e2 : vals 2 = .int .u32 (u32i (uw (fillW L k) (k - 2))) := hv3 2 (by omega) 60 rfl
                have e3 : vals 3 = .int .u32 (u32i (rotr (uw (fillW L k) (k - 2)) 19)) := hv3 3 (by omega) 61 rfl
                have e4 : vals 4 = .int .u32 (u32i ((rotr (uw (fillW L k) (k - 2)) 17) ^^^ (rotr (uw (fillW L k) (k - 2)) 19))) := hv3 4 (by omega) 62 rfl
                have e5 : vals 5 = .int .u32 (u32i (uw (fillW L k) (k - 2))) := hv3 5 (by omega) 63 rfl
                have e6 : vals 6 = .int .u32 (u32i (shr (uw (fillW L k) (k - 2)) 10)) := hv3 6 (by omega) 64 rfl
                have e7 : vals 7 = .int .u32 (u32i (((rotr (uw (fillW L k) (k - 2)) 17) ^^^ (rotr (uw (fillW L k) (k - 2)) 19)) ^^^ (shr (uw (fillW L k) (k - 2)) 10))) := hv3 7 (by omega) 65 rfl
                have e8 : vals 8 = .int .u32 (u32i (((rotr (uw (fillW L k) (k - 2)) 17) ^^^ (rotr (uw (fillW L k) (k - 2)) 19)) ^^^ (shr (uw (fillW L k) (k - 2)) 10))) := hv3 8 (by omega) 11 rfl
                simp only [putAll, Act.put, List.take_succ_cons, List.take_zero, List.drop_succ_cons, List.drop_zero, List.drop_nil, List.take_nil, Nat.reduceAdd, List.setIfInBounds_toArray, List.set_cons_succ, List.set_cons_zero, e0, e1, e2, e3, e4, e5, e6, e7, e8]
                clear hv3 e0 e1 e2 e3 e4 e5 e6 e7 e8
                go_upto_region 17 with (fail)
                refine par_ext (n := 15) (by kernel_rfl) [.is (.int .i64 ((k : Int))), .is (.int .i64 ((k : Int))), .is (.int .i64 ((k : Int) - (16 : Int))), .is (.pointer (some ⟨w.heap.size + 1, (k - 16), none⟩)), .is (.int .u32 (u32i (uw (fillW L k) (k - 16)))), .is (.int .u32 (u32i ((rotr (uw (fillW L k) (k - 15)) 7 ^^^ rotr (uw (fillW L k) (k - 15)) 18) ^^^ shr (uw (fillW L k) (k - 15)) 3))), .is (.int .u32 (u32i ((uw (fillW L k) (k - 16)) + ((rotr (uw (fillW L k) (k - 15)) 7 ^^^ rotr (uw (fillW L k) (k - 15)) 18) ^^^ shr (uw (fillW L k) (k - 15)) 3)))), .is (.int .i64 ((k : Int))), .is (.int .i64 ((k : Int) - (7 : Int))), .is (.pointer (some ⟨w.heap.size + 1, (k - 7), none⟩)), .is (.int .u32 (u32i (uw (fillW L k) (k - 7)))), .is (.int .u32 (u32i (((uw (fillW L k) (k - 16)) + ((rotr (uw (fillW L k) (k - 15)) 7 ^^^ rotr (uw (fillW L k) (k - 15)) 18) ^^^ shr (uw (fillW L k) (k - 15)) 3)) + (uw (fillW L k) (k - 7))))), .is (.int .u32 (u32i ((rotr (uw (fillW L k) (k - 2)) 17 ^^^ rotr (uw (fillW L k) (k - 2)) 19) ^^^ shr (uw (fillW L k) (k - 2)) 10))), .is (.int .u32 (u32i ((((uw (fillW L k) (k - 16)) + ((rotr (uw (fillW L k) (k - 15)) 7 ^^^ rotr (uw (fillW L k) (k - 15)) 18) ^^^ shr (uw (fillW L k) (k - 15)) 3)) + (uw (fillW L k) (k - 7))) + ((rotr (uw (fillW L k) (k - 2)) 17 ^^^ rotr (uw (fillW L k) (k - 2)) 19) ^^^ shr (uw (fillW L k) (k - 2)) 10)))), .is (.pointer (some ⟨w.heap.size + 1, k, none⟩))] rfl ⟨?_, ?_, ?_, ?_, ?_, ?_, ?_, ?_, ?_, ?_, ?_, ?_, ?_, ?_, ?_, trivial⟩ ?_
                · refine stepE rfl fun sdn sa sw sE sd sk => ?_
                  have h7 : sa.eval (.tmp 7) = .int .i64 ((k : Int)) := sk.old 7 rfl
                  exact Runs.move rfl h7 ⟨Ext.refl _, rfl⟩
                · refine stepE rfl fun sdn sa sw sE sd sk => ?_
                  have h7 : sa.eval (.tmp 7) = .int .i64 ((k : Int)) := sk.old 7 rfl
                  exact Runs.move rfl h7 ⟨Ext.refl _, rfl⟩
                · refine stepE rfl fun sdn sa sw sE sd sk => ?_
                  have h67 : sa.eval (.tmp 67) = .int .i64 ((k : Int)) := sk.fact 1 67 rfl (sd 1 rfl)
                  exact Runs.bin rfl h67 rfl (eqGuard_bin rfl) (bin_sub64 _ _ _ (by omega) (by omega)) ⟨Ext.refl _, rfl⟩
                · refine stepE rfl fun sdn sa sw sE sd sk => ?_
                  have h3 : sa.eval (.tmp 3) = .pointer (some ⟨w.heap.size + 1, 0, none⟩) := sk.old 3 rfl
                  have h68 : sa.eval (.tmp 68) = .int .i64 ((k : Int) - (16 : Int)) := sk.fact 2 68 rfl (sd 2 rfl)
                  exact Runs.idx rfl h3 h68 (run_idx_arr1 Try.underlying119 inf119_eq inf119_size ((k - 16)) (by omega) (by omega)) ⟨Ext.refl _, rfl⟩
                · refine stepE rfl fun sdn sa sw sE sd sk => ?_
                  have h69 : sa.eval (.tmp 69) = .pointer (some ⟨w.heap.size + 1, (k - 16), none⟩) := sk.fact 3 69 rfl (sd 3 rfl)
                  exact Runs.load rfl h69 (run_load1 Try.underlying25 rfl (((((c3.ext hE1).ext hE2).ext hE3).ext sE).cell (by rw [fillW_length]; omega))) ⟨Ext.refl _, rfl⟩
                · refine stepE rfl fun sdn sa sw sE sd sk => ?_
                  have h10 : sa.eval (.tmp 10) = .int .u32 (u32i ((rotr (uw (fillW L k) (k - 15)) 7 ^^^ rotr (uw (fillW L k) (k - 15)) 18) ^^^ shr (uw (fillW L k) (k - 15)) 3)) := sk.old 10 rfl
                  exact Runs.move rfl h10 ⟨Ext.refl _, rfl⟩
                · refine stepE rfl fun sdn sa sw sE sd sk => ?_
                  have h70 : sa.eval (.tmp 70) = .int .u32 (u32i (uw (fillW L k) (k - 16))) := sk.fact 4 70 rfl (sd 4 rfl)
                  have h71 : sa.eval (.tmp 71) = .int .u32 (u32i ((rotr (uw (fillW L k) (k - 15)) 7 ^^^ rotr (uw (fillW L k) (k - 15)) 18) ^^^ shr (uw (fillW L k) (k - 15)) 3)) := sk.fact 5 71 rfl (sd 5 rfl)
                  exact Runs.bin rfl h70 h71 (eqGuard_bin rfl) (bin_add32 _ _ _) ⟨Ext.refl _, rfl⟩
                · refine stepE rfl fun sdn sa sw sE sd sk => ?_
                  have h7 : sa.eval (.tmp 7) = .int .i64 ((k : Int)) := sk.old 7 rfl
                  exact Runs.move rfl h7 ⟨Ext.refl _, rfl⟩
                · refine stepE rfl fun sdn sa sw sE sd sk => ?_
                  have h73 : sa.eval (.tmp 73) = .int .i64 ((k : Int)) := sk.fact 7 73 rfl (sd 7 rfl)
                  exact Runs.bin rfl h73 rfl (eqGuard_bin rfl) (bin_sub64 _ _ _ (by omega) (by omega)) ⟨Ext.refl _, rfl⟩
                · refine stepE rfl fun sdn sa sw sE sd sk => ?_
                  have h3 : sa.eval (.tmp 3) = .pointer (some ⟨w.heap.size + 1, 0, none⟩) := sk.old 3 rfl
                  have h74 : sa.eval (.tmp 74) = .int .i64 ((k : Int) - (7 : Int)) := sk.fact 8 74 rfl (sd 8 rfl)
                  exact Runs.idx rfl h3 h74 (run_idx_arr1 Try.underlying119 inf119_eq inf119_size ((k - 7)) (by omega) (by omega)) ⟨Ext.refl _, rfl⟩
                · refine stepE rfl fun sdn sa sw sE sd sk => ?_
                  have h75 : sa.eval (.tmp 75) = .pointer (some ⟨w.heap.size + 1, (k - 7), none⟩) := sk.fact 9 75 rfl (sd 9 rfl)
                  exact Runs.load rfl h75 (run_load1 Try.underlying25 rfl (((((c3.ext hE1).ext hE2).ext hE3).ext sE).cell (by rw [fillW_length]; omega))) ⟨Ext.refl _, rfl⟩
                · refine stepE rfl fun sdn sa sw sE sd sk => ?_
                  have h72 : sa.eval (.tmp 72) = .int .u32 (u32i ((uw (fillW L k) (k - 16)) + ((rotr (uw (fillW L k) (k - 15)) 7 ^^^ rotr (uw (fillW L k) (k - 15)) 18) ^^^ shr (uw (fillW L k) (k - 15)) 3))) := sk.fact 6 72 rfl (sd 6 rfl)
                  have h76 : sa.eval (.tmp 76) = .int .u32 (u32i (uw (fillW L k) (k - 7))) := sk.fact 10 76 rfl (sd 10 rfl)
                  exact Runs.bin rfl h72 h76 (eqGuard_bin rfl) (bin_add32 _ _ _) ⟨Ext.refl _, rfl⟩
                · refine stepE rfl fun sdn sa sw sE sd sk => ?_
                  have h11 : sa.eval (.tmp 11) = .int .u32 (u32i ((rotr (uw (fillW L k) (k - 2)) 17 ^^^ rotr (uw (fillW L k) (k - 2)) 19) ^^^ shr (uw (fillW L k) (k - 2)) 10)) := sk.old 11 rfl
                  exact Runs.move rfl h11 ⟨Ext.refl _, rfl⟩
                · refine stepE rfl fun sdn sa sw sE sd sk => ?_
                  have h77 : sa.eval (.tmp 77) = .int .u32 (u32i (((uw (fillW L k) (k - 16)) + ((rotr (uw (fillW L k) (k - 15)) 7 ^^^ rotr (uw (fillW L k) (k - 15)) 18) ^^^ shr (uw (fillW L k) (k - 15)) 3)) + (uw (fillW L k) (k - 7)))) := sk.fact 11 77 rfl (sd 11 rfl)
                  have h78 : sa.eval (.tmp 78) = .int .u32 (u32i ((rotr (uw (fillW L k) (k - 2)) 17 ^^^ rotr (uw (fillW L k) (k - 2)) 19) ^^^ shr (uw (fillW L k) (k - 2)) 10)) := sk.fact 12 78 rfl (sd 12 rfl)
                  exact Runs.bin rfl h77 h78 (eqGuard_bin rfl) (bin_add32 _ _ _) ⟨Ext.refl _, rfl⟩
                · refine stepE rfl fun sdn sa sw sE sd sk => ?_
                  have h3 : sa.eval (.tmp 3) = .pointer (some ⟨w.heap.size + 1, 0, none⟩) := sk.old 3 rfl
                  have h66 : sa.eval (.tmp 66) = .int .i64 ((k : Int)) := sk.fact 0 66 rfl (sd 0 rfl)
                  exact Runs.idx rfl h3 h66 (run_idx_arr1 Try.underlying119 inf119_eq inf119_size (k) (by omega) (by omega)) ⟨Ext.refl _, rfl⟩
                ·
                  intro vals W6 hE4 hv4
                  have e0 : vals 0 = .int .i64 ((k : Int)) := hv4 0 (by omega) 66 rfl
                  have e1 : vals 1 = .int .i64 ((k : Int)) := hv4 1 (by omega) 67 rfl
                  have e2 : vals 2 = .int .i64 ((k : Int) - (16 : Int)) := hv4 2 (by omega) 68 rfl
                  have e3 : vals 3 = .pointer (some ⟨w.heap.size + 1, (k - 16), none⟩) := hv4 3 (by omega) 69 rfl
                  have e4 : vals 4 = .int .u32 (u32i (uw (fillW L k) (k - 16))) := hv4 4 (by omega) 70 rfl
                  have e5 : vals 5 = .int .u32 (u32i ((rotr (uw (fillW L k) (k - 15)) 7 ^^^ rotr (uw (fillW L k) (k - 15)) 18) ^^^ shr (uw (fillW L k) (k - 15)) 3)) := hv4 5 (by omega) 71 rfl
                  have e6 : vals 6 = .int .u32 (u32i ((uw (fillW L k) (k - 16)) + ((rotr (uw (fillW L k) (k - 15)) 7 ^^^ rotr (uw (fillW L k) (k - 15)) 18) ^^^ shr (uw (fillW L k) (k - 15)) 3))) := hv4 6 (by omega) 72 rfl
                  have e7 : vals 7 = .int .i64 ((k : Int)) := hv4 7 (by omega) 73 rfl
                  have e8 : vals 8 = .int .i64 ((k : Int) - (7 : Int)) := hv4 8 (by omega) 74 rfl
                  have e9 : vals 9 = .pointer (some ⟨w.heap.size + 1, (k - 7), none⟩) := hv4 9 (by omega) 75 rfl
                  have e10 : vals 10 = .int .u32 (u32i (uw (fillW L k) (k - 7))) := hv4 10 (by omega) 76 rfl
                  have e11 : vals 11 = .int .u32 (u32i (((uw (fillW L k) (k - 16)) + ((rotr (uw (fillW L k) (k - 15)) 7 ^^^ rotr (uw (fillW L k) (k - 15)) 18) ^^^ shr (uw (fillW L k) (k - 15)) 3)) + (uw (fillW L k) (k - 7)))) := hv4 11 (by omega) 77 rfl
                  have e12 : vals 12 = .int .u32 (u32i ((rotr (uw (fillW L k) (k - 2)) 17 ^^^ rotr (uw (fillW L k) (k - 2)) 19) ^^^ shr (uw (fillW L k) (k - 2)) 10)) := hv4 12 (by omega) 78 rfl
                  have e13 : vals 13 = .int .u32 (u32i ((((uw (fillW L k) (k - 16)) + ((rotr (uw (fillW L k) (k - 15)) 7 ^^^ rotr (uw (fillW L k) (k - 15)) 18) ^^^ shr (uw (fillW L k) (k - 15)) 3)) + (uw (fillW L k) (k - 7))) + ((rotr (uw (fillW L k) (k - 2)) 17 ^^^ rotr (uw (fillW L k) (k - 2)) 19) ^^^ shr (uw (fillW L k) (k - 2)) 10))) := hv4 13 (by omega) 79 rfl
                  have e14 : vals 14 = .pointer (some ⟨w.heap.size + 1, k, none⟩) := hv4 14 (by omega) 80 rfl
                  simp only [putAll, Act.put, List.take_succ_cons, List.take_zero, List.drop_succ_cons, List.drop_zero, List.drop_nil, List.take_nil, Nat.reduceAdd, List.setIfInBounds_toArray, List.set_cons_succ, List.set_cons_zero, e0, e1, e2, e3, e4, e5, e6, e7, e8, e9, e10, e11, e12, e13, e14]
                  clear hv4 e0 e1 e2 e3 e4 e5 e6 e7 e8 e9 e10 e11 e12 e13 e14
                  have hEE := ((hE1.trans hE2).trans hE3).trans hE4
                  have y1 := (c3.ext hEE).cell (i := k) (by rw [fillW_length]; omega)
                  have y2 := (c3.ext hEE).frozen k
                  go_wp2_with fail
                  go_roundw
                  case rel =>
                    refine ⟨k + 1, by omega, by omega, by go_num, (c2.ext hEE).far (by dsimp only; omega) _, ?_, (hEr.trans hEE).set (by dsimp only; omega) _⟩
                    have y3 := (c3.ext hEE).set k (nextW (fillW L k) k)
                    simp only [fillW, if_neg (show ¬ k < 16 by omega)]
                    exact y3
                  case measure => simp [intOf]; omega
        · obtain rfl : k = 64 := by omega
          clear hlt hk16 hk64
          go_upto_region 18 with (fail)
          refine wp_region_lit ?_
          refine ldrow_law rfl rfl rfl c3 Try.underlying119 (by rw [row64_eq]; exact congrArg some row64_size) (fillW_length _ _) ?_
          go_wp2_with (refine strow_law (l' := fillW L 64) rfl rfl rfl rfl c2 row64_eq (row64_size.trans (fillW_length _ _).symm) ((fillW_length _ _).trans List.length_replicate.symm) ?_; intro W8 s8 g8 z8)
          refine bodyPost_ret (v := .agg (uv (fillW L 64))) ?_ rfl ⟨rfl, hEr.then_grown g8 (by intro j hj; cases hj; exact Nat.le_refl _)⟩
          exact results_cell_row (fn := Try.f121) (p := 2) (ty := 119) rfl _ W8 w.heap.size 119 (uv (fillW L 64)) (0, 0) _ rfl s8 Try.underlying119 rfl (by rw [row64_eq, uv_size, fillW_length]; exact congrArg some row64_size)
end Go.Proofs.Ytmgnigofilkfmab
namespace Go.Proofs.Ytmgnigofilkfmab
set_option maxRecDepth 100000
open Go Go.RowKit
theorem run_index_uv {P : Program} {w : World} {t e : TypeId} {N : Nat} {i0 : TypeInfo} {d : TypeDesc} (ht : P.underlying t = some (.array N e)) (hi : P.info? e = some i0) (hs : i0.size = 1) (he : P.underlying e = some (.int .u32)) (l : List UInt32) (j : Nat) (hN : l.length = N) (h : j < l.length) :
    (Instr.index t (.agg (uv l)) (.int .i64 (j : Int))).run P w = .ok (.int .u32 (u32i (uw l j))) w := by
  have h2 : (uv l)[j]? = some (.int .u32 (u32i (uw l j))) := by simp [uv, uw, h]
  have h3 : ((0 : Int) ≤ (j : Int) ∧ (j : Int) < (N : Int)) := by omega
  have hagg : (isAgg e).run P w = .ok false w := by
    unfold isAgg
    rw [Sem.run_bind, run_underlying he w]
    rfl
  simp [Instr.index, asIntOf, run_underlying ht, sizeOf, typeInfo, hi, hs, h3, part, hagg, h2]
  intro h5
  omega
theorem roundS_at (s : S8) (k w : UInt32) : (roundS s k w).list = [(roundT s k w + bigS0 s.a) + majF s.a s.b s.c, s.a, s.b, s.c, s.d + roundT s k w, s.e, s.f, s.g] := by
  simp only [S8.list, roundS, roundU, UInt32.add_assoc]
set_option maxHeartbeats 4000000 in
theorem mix_any (g4 c : Nat) (ad : Addr) (h : List UInt32) (L : List UInt8) (w : World) (hh : h.length = 8) (hk : Arr w g4 119 shaK) (hcell : ∀ j, j < 64 → w.cell? (ad.add j) = some (.int .u8 (u8i (ub L j)))) (hc : 64 ≤ c) (hc' : c ≤ maxLen) :
    Calls Try.prog 117 #[.agg (uv h), .slice (some ad) 64 c, .pointer (some ⟨g4, 0, none⟩)] w fun e w' => e = .returned (.agg (uv (compress h L))) ∧ Ext w w' := by
  have Hh := Lib.hid hh; clear hh
  go_enter Try.func117, Try.ntmps117
  go_upto_region 1 with (fail)
  have q2 : Arr ((w.alloc (.cells (uv h) 118)).alloc (.cells (uv (List.replicate 8 0)) 118)) w.heap.size 118 h := (Arr.new w 118 h).ext (Ext.new _ _)
  have q3 : Arr ((w.alloc (.cells (uv h) 118)).alloc (.cells (uv (List.replicate 8 0)) 118)) (w.heap.size + 1) 118 (List.replicate 8 0) := by
    have h := Arr.new (w.alloc (.cells (uv h) 118)) 118 (List.replicate 8 0)
    rw [World.size_alloc] at h
    exact h
  have q4 : ((w.alloc (.cells (uv h) 118)).alloc (.cells (uv (List.replicate 8 0)) 118)).heap.size = w.heap.size + 1 + 1 := by rw [World.size_alloc, World.size_alloc]
  refine genW (fun W => Arr W w.heap.size 118 h ∧ Arr W (w.heap.size + 1) 118 (List.replicate 8 0) ∧ Ext w W ∧ W.heap.size = w.heap.size + 1 + 1) ⟨q2, q3, ((Ext.refl w).alloc _).alloc _, q4⟩ ?_
  rintro W3 ⟨b3, b6, hE3, hsz⟩
  have Hsz := Lib.hid hsz
  clear hsz
  clear q2 q3 q4
  refine wp_region_lit ?_
  refine ldrow_law rfl rfl rfl b3 Try.underlying118 row8_map Hh.out ?_
  go_wp2_with (refine strow_law (l' := h) rfl rfl rfl rfl (Arr.new W3 118 (List.replicate 8 0)) row8_eq (row8_size.trans Hh.out.symm) (Hh.out.trans rfl) ?_; intro W4 s12 g12 z12)
  have hE4 : Ext W3 W4 := (Ext.new W3 _).then_grown g12 (by intro k hk; cases hk; exact Nat.le_refl _)
  rw [Hsz.out] at s12 ⊢
  have b3' := b3.ext hE4
  have b6' := b6.ext hE4
  have hE04 := hE3.trans hE4
  clear g12 z12 b3 b6 hE3 hE4
  refine (spread_any c ad L W4 (fun j hj => hE04.cell (hcell j hj)) hc hc').mono ?_
  rintro e W5 ⟨rfl, hE5⟩
  have b3 := b3'.ext hE5
  have b6 := b6'.ext hE5
  have b12 := s12.ext hE5
  have hE05 := hE04.trans hE5
  clear b3' b6' s12 hE04 hE5 hcell
  go_wp2_with fail
  go_loopw [19] (fun i wr => ∃ k : Nat, k ≤ 64 ∧ i = .int .i64 k ∧ Arr wr w.heap.size 118 h ∧ Arr wr (w.heap.size + 1) 118 (List.replicate 8 0) ∧ Arr wr (w.heap.size + 1 + 1) 118 (roundsS (S8.of h) (fillW L 64) k).list ∧ Ext w wr) (fun i _ => 64 - (intOf i).toNat)
  case atStart => exact ⟨0, by omega, rfl, b3, b6, by rw [show (roundsS (S8.of h) (fillW L 64) 0).list = h from S8.of_list h Hh.out]; exact b12, hE05⟩
  case round =>
    clear b3 b6 b12 hE05
    obtain ⟨k, hk64, rfl, c3, c6, c12, hEr⟩ := hrel
    by_cases hlt : k < 64
    · obtain ⟨s, hs⟩ : ∃ s, s = roundsS (S8.of h) (fillW L 64) k := ⟨_, rfl⟩
      rw [← hs] at c12
      have Hs := Lib.hid hs
      clear hs
      have e1 := fun w' : World => run_index_uv (P := Try.prog) (w := w') (d := .int .u32) Try.underlying119 inf119_eq inf119_size Try.underlying25 (fillW L 64) k (fillW_length _ _) (by rw [fillW_length]; omega)
      go_upto_region 5 with (fail)
      clear e1
      refine par_ext (n := 12) (by kernel_rfl) [.is (.pointer (some ⟨w.heap.size + 1 + 1, 4, none⟩)), .is (.int .u32 (u32i (s).e)), .is (.int .u32 (u32i (rotr (s).e 6))), .is (.pointer (some ⟨w.heap.size + 1 + 1, 4, none⟩)), .is (.int .u32 (u32i (s).e)), .is (.int .u32 (u32i (rotr (s).e 11))), .is (.int .u32 (u32i ((rotr (s).e 6) ^^^ (rotr (s).e 11)))), .is (.pointer (some ⟨w.heap.size + 1 + 1, 4, none⟩)), .is (.int .u32 (u32i (s).e)), .is (.int .u32 (u32i (rotr (s).e 25))), .is (.int .u32 (u32i (((rotr (s).e 6) ^^^ (rotr (s).e 11)) ^^^ (rotr (s).e 25)))), .is (.int .u32 (u32i (((rotr (s).e 6) ^^^ (rotr (s).e 11)) ^^^ (rotr (s).e 25))))] rfl ⟨?_, ?_, ?_, ?_, ?_, ?_, ?_, ?_, ?_, ?_, ?_, ?_, trivial⟩ ?_
      · refine stepE rfl fun sdn sa sw sE sd sk => ?_
        have h7 : sa.eval (.tmp 7) = .pointer (some ⟨w.heap.size + 1 + 1, 0, none⟩) := sk.old 7 rfl
        exact Runs.idx rfl h7 rfl (run_idx_arr1 Try.underlying118 inf118_eq inf118_size (4) (by omega) (by omega)) ⟨Ext.refl _, rfl⟩
      · refine stepE rfl fun sdn sa sw sE sd sk => ?_
        have h23 : sa.eval (.tmp 23) = .pointer (some ⟨w.heap.size + 1 + 1, 4, none⟩) := sk.fact 0 23 rfl (sd 0 rfl)
        exact Runs.load rfl h23 (run_load1 Try.underlying25 rfl ((c12.ext sE).cell (by rw [S8.list_length]; omega))) ⟨Ext.refl _, rfl⟩
      · refine stepE rfl fun sdn sa sw sE sd sk => ?_
        have h24 : sa.eval (.tmp 24) = .int .u32 (u32i (s).e) := sk.fact 1 24 rfl (sd 1 rfl)
        refine Runs.call (f := 122) (vs := [.int .u32 (u32i (s).e), .int .i64 ((6 : Int))]) rfl rfl rfl (by simp only [List.map_toArray, List.map_cons, List.map_nil, h24] <;> rfl) (ent122 _ _) ((right6_any (s).e sw).mono ?_); rintro e w' ⟨rfl, hx⟩; exact ⟨_, rfl, hx, rfl⟩
      · refine stepE rfl fun sdn sa sw sE sd sk => ?_
        have h7 : sa.eval (.tmp 7) = .pointer (some ⟨w.heap.size + 1 + 1, 0, none⟩) := sk.old 7 rfl
        exact Runs.idx rfl h7 rfl (run_idx_arr1 Try.underlying118 inf118_eq inf118_size (4) (by omega) (by omega)) ⟨Ext.refl _, rfl⟩
      · refine stepE rfl fun sdn sa sw sE sd sk => ?_
        have h26 : sa.eval (.tmp 26) = .pointer (some ⟨w.heap.size + 1 + 1, 4, none⟩) := sk.fact 3 26 rfl (sd 3 rfl)
        exact Runs.load rfl h26 (run_load1 Try.underlying25 rfl ((c12.ext sE).cell (by rw [S8.list_length]; omega))) ⟨Ext.refl _, rfl⟩
      · refine stepE rfl fun sdn sa sw sE sd sk => ?_
        have h27 : sa.eval (.tmp 27) = .int .u32 (u32i (s).e) := sk.fact 4 27 rfl (sd 4 rfl)
        refine Runs.call (f := 122) (vs := [.int .u32 (u32i (s).e), .int .i64 ((11 : Int))]) rfl rfl rfl (by simp only [List.map_toArray, List.map_cons, List.map_nil, h27] <;> rfl) (ent122 _ _) ((right11_any (s).e sw).mono ?_); rintro e w' ⟨rfl, hx⟩; exact ⟨_, rfl, hx, rfl⟩
      · refine stepE rfl fun sdn sa sw sE sd sk => ?_
        have h25 : sa.eval (.tmp 25) = .int .u32 (u32i (rotr (s).e 6)) := sk.fact 2 25 rfl (sd 2 rfl)
        have h28 : sa.eval (.tmp 28) = .int .u32 (u32i (rotr (s).e 11)) := sk.fact 5 28 rfl (sd 5 rfl)
        exact Runs.bin rfl h25 h28 (eqGuard_bin rfl) (bin_xor32 _ _ _) ⟨Ext.refl _, rfl⟩
      · refine stepE rfl fun sdn sa sw sE sd sk => ?_
        have h7 : sa.eval (.tmp 7) = .pointer (some ⟨w.heap.size + 1 + 1, 0, none⟩) := sk.old 7 rfl
        exact Runs.idx rfl h7 rfl (run_idx_arr1 Try.underlying118 inf118_eq inf118_size (4) (by omega) (by omega)) ⟨Ext.refl _, rfl⟩
      · refine stepE rfl fun sdn sa sw sE sd sk => ?_
        have h30 : sa.eval (.tmp 30) = .pointer (some ⟨w.heap.size + 1 + 1, 4, none⟩) := sk.fact 7 30 rfl (sd 7 rfl)
        exact Runs.load rfl h30 (run_load1 Try.underlying25 rfl ((c12.ext sE).cell (by rw [S8.list_length]; omega))) ⟨Ext.refl _, rfl⟩
      · refine stepE rfl fun sdn sa sw sE sd sk => ?_
        have h31 : sa.eval (.tmp 31) = .int .u32 (u32i (s).e) := sk.fact 8 31 rfl (sd 8 rfl)
        refine Runs.call (f := 122) (vs := [.int .u32 (u32i (s).e), .int .i64 ((25 : Int))]) rfl rfl rfl (by simp only [List.map_toArray, List.map_cons, List.map_nil, h31] <;> rfl) (ent122 _ _) ((right25_any (s).e sw).mono ?_); rintro e w' ⟨rfl, hx⟩; exact ⟨_, rfl, hx, rfl⟩
      · refine stepE rfl fun sdn sa sw sE sd sk => ?_
        have h29 : sa.eval (.tmp 29) = .int .u32 (u32i ((rotr (s).e 6) ^^^ (rotr (s).e 11))) := sk.fact 6 29 rfl (sd 6 rfl)
        have h32 : sa.eval (.tmp 32) = .int .u32 (u32i (rotr (s).e 25)) := sk.fact 9 32 rfl (sd 9 rfl)
        exact Runs.bin rfl h29 h32 (eqGuard_bin rfl) (bin_xor32 _ _ _) ⟨Ext.refl _, rfl⟩
      · refine stepE rfl fun sdn sa sw sE sd sk => ?_
        have h33 : sa.eval (.tmp 33) = .int .u32 (u32i (((rotr (s).e 6) ^^^ (rotr (s).e 11)) ^^^ (rotr (s).e 25))) := sk.fact 10 33 rfl (sd 10 rfl)
        exact Runs.assign rfl h33 ⟨Ext.refl _, rfl⟩
      ·
        intro vals W1 hE1 hv1
        have e0 : vals 0 = .pointer (some ⟨w.heap.size + 1 + 1, 4, none⟩) := hv1 0 (by omega) 23 rfl
        have e1 : vals 1 = .int .u32 (u32i (s).e) := hv1 1 (by omega) 24 rfl
        have e2 : vals 2 = .int .u32 (u32i (rotr (s).e 6)) := hv1 2 (by omega) 25 rfl
        have e3 : vals 3 = .pointer (some ⟨w.heap.size + 1 + 1, 4, none⟩) := hv1 3 (by omega) 26 rfl
        have e4 : vals 4 = .int .u32 (u32i (s).e) := hv1 4 (by omega) 27 rfl
        have e5 : vals 5 = .int .u32 (u32i (rotr (s).e 11)) := hv1 5 (by omega) 28 rfl
        have e6 : vals 6 = .int .u32 (u32i ((rotr (s).e 6) ^^^ (rotr (s).e 11))) := hv1 6 (by omega) 29 rfl
        have e7 : vals 7 = .pointer (some ⟨w.heap.size + 1 + 1, 4, none⟩) := hv1 7 (by omega) 30 rfl
        have e8 : vals 8 = .int .u32 (u32i (s).e) := hv1 8 (by omega) 31 rfl
        have e9 : vals 9 = .int .u32 (u32i (rotr (s).e 25)) := hv1 9 (by omega) 32 rfl
        have e10 : vals 10 = .int .u32 (u32i (((rotr (s).e 6) ^^^ (rotr (s).e 11)) ^^^ (rotr (s).e 25))) := hv1 10 (by omega) 33 rfl
        have e11 : vals 11 = .int .u32 (u32i (((rotr (s).e 6) ^^^ (rotr (s).e 11)) ^^^ (rotr (s).e 25))) := hv1 11 (by omega) 10 rfl
        simp only [putAll, Act.put, List.take_succ_cons, List.take_zero, List.drop_succ_cons, List.drop_zero, List.drop_nil, List.take_nil, Nat.reduceAdd, List.setIfInBounds_toArray, List.set_cons_succ, List.set_cons_zero, e0, e1, e2, e3, e4, e5, e6, e7, e8, e9, e10, e11]
        clear hv1 e0 e1 e2 e3 e4 e5 e6 e7 e8 e9 e10 e11
        go_upto_region 6 with (fail)
        refine seq_ext (n := 13) (by kernel_rfl) [.is (.pointer (some ⟨w.heap.size + 1 + 1, 4, none⟩)), .is (.int .u32 (u32i (s).e)), .is (.pointer (some ⟨w.heap.size + 1 + 1, 5, none⟩)), .is (.int .u32 (u32i (s).f)), .is (.int .u32 (u32i ((s).e &&& (s).f))), .is (.pointer (some ⟨w.heap.size + 1 + 1, 4, none⟩)), .is (.int .u32 (u32i (s).e)), .is (.int .u32 (u32i (~~~(s).e))), .is (.pointer (some ⟨w.heap.size + 1 + 1, 6, none⟩)), .is (.int .u32 (u32i (s).g)), .is (.int .u32 (u32i ((~~~(s).e) &&& (s).g))), .is (.int .u32 (u32i (((s).e &&& (s).f) ^^^ ((~~~(s).e) &&& (s).g)))), .is (.int .u32 (u32i (((s).e &&& (s).f) ^^^ ((~~~(s).e) &&& (s).g))))] rfl ⟨?_, ?_, ?_, ?_, ?_, ?_, ?_, ?_, ?_, ?_, ?_, ?_, ?_, trivial⟩ ?_
        · refine stepE rfl fun sdn sa sw sE sd sk => ?_
          have h7 : sa.eval (.tmp 7) = .pointer (some ⟨w.heap.size + 1 + 1, 0, none⟩) := sk.old 7 rfl
          exact Runs.idx rfl h7 rfl (run_idx_arr1 Try.underlying118 inf118_eq inf118_size (4) (by omega) (by omega)) ⟨Ext.refl _, rfl⟩
        · refine stepE rfl fun sdn sa sw sE sd sk => ?_
          have h34 : sa.eval (.tmp 34) = .pointer (some ⟨w.heap.size + 1 + 1, 4, none⟩) := sk.fact 0 34 rfl (sd 0 rfl)
          exact Runs.load rfl h34 (run_load1 Try.underlying25 rfl (((c12.ext hE1).ext sE).cell (by rw [S8.list_length]; omega))) ⟨Ext.refl _, rfl⟩
        · refine stepE rfl fun sdn sa sw sE sd sk => ?_
          have h7 : sa.eval (.tmp 7) = .pointer (some ⟨w.heap.size + 1 + 1, 0, none⟩) := sk.old 7 rfl
          exact Runs.idx rfl h7 rfl (run_idx_arr1 Try.underlying118 inf118_eq inf118_size (5) (by omega) (by omega)) ⟨Ext.refl _, rfl⟩
        · refine stepE rfl fun sdn sa sw sE sd sk => ?_
          have h36 : sa.eval (.tmp 36) = .pointer (some ⟨w.heap.size + 1 + 1, 5, none⟩) := sk.fact 2 36 rfl (sd 2 rfl)
          exact Runs.load rfl h36 (run_load1 Try.underlying25 rfl (((c12.ext hE1).ext sE).cell (by rw [S8.list_length]; omega))) ⟨Ext.refl _, rfl⟩
        · refine stepE rfl fun sdn sa sw sE sd sk => ?_
          have h35 : sa.eval (.tmp 35) = .int .u32 (u32i (s).e) := sk.fact 1 35 rfl (sd 1 rfl)
          have h37 : sa.eval (.tmp 37) = .int .u32 (u32i (s).f) := sk.fact 3 37 rfl (sd 3 rfl)
          exact Runs.bin rfl h35 h37 (eqGuard_bin rfl) (bin_and32 _ _ _) ⟨Ext.refl _, rfl⟩
        · refine stepE rfl fun sdn sa sw sE sd sk => ?_
          have h7 : sa.eval (.tmp 7) = .pointer (some ⟨w.heap.size + 1 + 1, 0, none⟩) := sk.old 7 rfl
          exact Runs.idx rfl h7 rfl (run_idx_arr1 Try.underlying118 inf118_eq inf118_size (4) (by omega) (by omega)) ⟨Ext.refl _, rfl⟩
        · refine stepE rfl fun sdn sa sw sE sd sk => ?_
          have h39 : sa.eval (.tmp 39) = .pointer (some ⟨w.heap.size + 1 + 1, 4, none⟩) := sk.fact 5 39 rfl (sd 5 rfl)
          exact Runs.load rfl h39 (run_load1 Try.underlying25 rfl (((c12.ext hE1).ext sE).cell (by rw [S8.list_length]; omega))) ⟨Ext.refl _, rfl⟩
        · refine stepE rfl fun sdn sa sw sE sd sk => ?_
          have h40 : sa.eval (.tmp 40) = .int .u32 (u32i (s).e) := sk.fact 6 40 rfl (sd 6 rfl)
          exact Runs.un rfl h40 (un_not32 _) ⟨Ext.refl _, rfl⟩
        · refine stepE rfl fun sdn sa sw sE sd sk => ?_
          have h7 : sa.eval (.tmp 7) = .pointer (some ⟨w.heap.size + 1 + 1, 0, none⟩) := sk.old 7 rfl
          exact Runs.idx rfl h7 rfl (run_idx_arr1 Try.underlying118 inf118_eq inf118_size (6) (by omega) (by omega)) ⟨Ext.refl _, rfl⟩
        · refine stepE rfl fun sdn sa sw sE sd sk => ?_
          have h42 : sa.eval (.tmp 42) = .pointer (some ⟨w.heap.size + 1 + 1, 6, none⟩) := sk.fact 8 42 rfl (sd 8 rfl)
          exact Runs.load rfl h42 (run_load1 Try.underlying25 rfl (((c12.ext hE1).ext sE).cell (by rw [S8.list_length]; omega))) ⟨Ext.refl _, rfl⟩
        · refine stepE rfl fun sdn sa sw sE sd sk => ?_
          have h41 : sa.eval (.tmp 41) = .int .u32 (u32i (~~~(s).e)) := sk.fact 7 41 rfl (sd 7 rfl)
          have h43 : sa.eval (.tmp 43) = .int .u32 (u32i (s).g) := sk.fact 9 43 rfl (sd 9 rfl)
          exact Runs.bin rfl h41 h43 (eqGuard_bin rfl) (bin_and32 _ _ _) ⟨Ext.refl _, rfl⟩
        · refine stepE rfl fun sdn sa sw sE sd sk => ?_
          have h38 : sa.eval (.tmp 38) = .int .u32 (u32i ((s).e &&& (s).f)) := sk.fact 4 38 rfl (sd 4 rfl)
          have h44 : sa.eval (.tmp 44) = .int .u32 (u32i ((~~~(s).e) &&& (s).g)) := sk.fact 10 44 rfl (sd 10 rfl)
          exact Runs.bin rfl h38 h44 (eqGuard_bin rfl) (bin_xor32 _ _ _) ⟨Ext.refl _, rfl⟩
        · refine stepE rfl fun sdn sa sw sE sd sk => ?_
          have h45 : sa.eval (.tmp 45) = .int .u32 (u32i (((s).e &&& (s).f) ^^^ ((~~~(s).e) &&& (s).g))) := sk.fact 11 45 rfl (sd 11 rfl)
          exact Runs.assign rfl h45 ⟨Ext.refl _, rfl⟩
        ·
          intro vals W6 hE2 hv2
          have e0 : vals 0 = .pointer (some ⟨w.heap.size + 1 + 1, 4, none⟩) := hv2 0 (by omega) 34 rfl
          have e1 : vals 1 = .int .u32 (u32i (s).e) := hv2 1 (by omega) 35 rfl
          have e2 : vals 2 = .pointer (some ⟨w.heap.size + 1 + 1, 5, none⟩) := hv2 2 (by omega) 36 rfl
          have e3 : vals 3 = .int .u32 (u32i (s).f) := hv2 3 (by omega) 37 rfl
          have e4 : vals 4 = .int .u32 (u32i ((s).e &&& (s).f)) := hv2 4 (by omega) 38 rfl
          have e5 : vals 5 = .pointer (some ⟨w.heap.size + 1 + 1, 4, none⟩) := hv2 5 (by omega) 39 rfl
          have e6 : vals 6 = .int .u32 (u32i (s).e) := hv2 6 (by omega) 40 rfl
          have e7 : vals 7 = .int .u32 (u32i (~~~(s).e)) := hv2 7 (by omega) 41 rfl
          have e8 : vals 8 = .pointer (some ⟨w.heap.size + 1 + 1, 6, none⟩) := hv2 8 (by omega) 42 rfl
          have e9 : vals 9 = .int .u32 (u32i (s).g) := hv2 9 (by omega) 43 rfl
          have e10 : vals 10 = .int .u32 (u32i ((~~~(s).e) &&& (s).g)) := hv2 10 (by omega) 44 rfl
          have e11 : vals 11 = .int .u32 (u32i (((s).e &&& (s).f) ^^^ ((~~~(s).e) &&& (s).g))) := hv2 11 (by omega) 45 rfl
          have e12 : vals 12 = .int .u32 (u32i (((s).e &&& (s).f) ^^^ ((~~~(s).e) &&& (s).g))) := hv2 12 (by omega) 11 rfl
          simp only [putAll, Act.put, List.take_succ_cons, List.take_zero, List.drop_succ_cons, List.drop_zero, List.drop_nil, List.take_nil, Nat.reduceAdd, List.setIfInBounds_toArray, List.set_cons_succ, List.set_cons_zero, e0, e1, e2, e3, e4, e5, e6, e7, e8, e9, e10, e11, e12]
          clear hv2 e0 e1 e2 e3 e4 e5 e6 e7 e8 e9 e10 e11 e12
          go_upto_region 7 with (fail)
          refine par_ext (n := 15) (by kernel_rfl) [.is (.pointer (some ⟨w.heap.size + 1 + 1, 7, none⟩)), .is (.int .u32 (u32i (s).h)), .is (.int .u32 (u32i ((rotr (s).e 6 ^^^ rotr (s).e 11) ^^^ rotr (s).e 25))), .is (.int .u32 (u32i ((s).h + ((rotr (s).e 6 ^^^ rotr (s).e 11) ^^^ rotr (s).e 25)))), .is (.int .u32 (u32i (((s).e &&& (s).f) ^^^ ((~~~(s).e) &&& (s).g)))), .is (.int .u32 (u32i (((s).h + ((rotr (s).e 6 ^^^ rotr (s).e 11) ^^^ rotr (s).e 25)) + (((s).e &&& (s).f) ^^^ ((~~~(s).e) &&& (s).g))))), .is (.pointer (some ⟨g4, 0, none⟩)), .is (.int .i64 ((k : Int))), .is (.pointer (some ⟨g4, 0, none⟩)), .is (.pointer (some ⟨g4, k, none⟩)), .is (.int .u32 (u32i (uw shaK k))), .is (.int .u32 (u32i ((((s).h + ((rotr (s).e 6 ^^^ rotr (s).e 11) ^^^ rotr (s).e 25)) + (((s).e &&& (s).f) ^^^ ((~~~(s).e) &&& (s).g))) + (uw shaK k)))), .is (.int .u32 (u32i (uw (fillW L 64) k))), .is (.int .u32 (u32i (((((s).h + ((rotr (s).e 6 ^^^ rotr (s).e 11) ^^^ rotr (s).e 25)) + (((s).e &&& (s).f) ^^^ ((~~~(s).e) &&& (s).g))) + (uw shaK k)) + (uw (fillW L 64) k)))), .is (.int .u32 (u32i (((((s).h + ((rotr (s).e 6 ^^^ rotr (s).e 11) ^^^ rotr (s).e 25)) + (((s).e &&& (s).f) ^^^ ((~~~(s).e) &&& (s).g))) + (uw shaK k)) + (uw (fillW L 64) k))))] rfl ⟨?_, ?_, ?_, ?_, ?_, ?_, ?_, ?_, ?_, ?_, ?_, ?_, ?_, ?_, ?_, trivial⟩ ?_
          · refine stepE rfl fun sdn sa sw sE sd sk => ?_
            have h7 : sa.eval (.tmp 7) = .pointer (some ⟨w.heap.size + 1 + 1, 0, none⟩) := sk.old 7 rfl
            exact Runs.idx rfl h7 rfl (run_idx_arr1 Try.underlying118 inf118_eq inf118_size (7) (by omega) (by omega)) ⟨Ext.refl _, rfl⟩
          · refine stepE rfl fun sdn sa sw sE sd sk => ?_
            have h46 : sa.eval (.tmp 46) = .pointer (some ⟨w.heap.size + 1 + 1, 7, none⟩) := sk.fact 0 46 rfl (sd 0 rfl)
            exact Runs.load rfl h46 (run_load1 Try.underlying25 rfl ((((c12.ext hE1).ext hE2).ext sE).cell (by rw [S8.list_length]; omega))) ⟨Ext.refl _, rfl⟩
          · refine stepE rfl fun sdn sa sw sE sd sk => ?_
            have h10 : sa.eval (.tmp 10) = .int .u32 (u32i ((rotr (s).e 6 ^^^ rotr (s).e 11) ^^^ rotr (s).e 25)) := sk.old 10 rfl
            exact Runs.move rfl h10 ⟨Ext.refl _, rfl⟩
          · refine stepE rfl fun sdn sa sw sE sd sk => ?_
            have h47 : sa.eval (.tmp 47) = .int .u32 (u32i (s).h) := sk.fact 1 47 rfl (sd 1 rfl)
            have h48 : sa.eval (.tmp 48) = .int .u32 (u32i ((rotr (s).e 6 ^^^ rotr (s).e 11) ^^^ rotr (s).e 25)) := sk.fact 2 48 rfl (sd 2 rfl)
            exact Runs.bin rfl h47 h48 (eqGuard_bin rfl) (bin_add32 _ _ _) ⟨Ext.refl _, rfl⟩
          · refine stepE rfl fun sdn sa sw sE sd sk => ?_
            have h11 : sa.eval (.tmp 11) = .int .u32 (u32i (((s).e &&& (s).f) ^^^ ((~~~(s).e) &&& (s).g))) := sk.old 11 rfl
            exact Runs.move rfl h11 ⟨Ext.refl _, rfl⟩
          · refine stepE rfl fun sdn sa sw sE sd sk => ?_
            have h49 : sa.eval (.tmp 49) = .int .u32 (u32i ((s).h + ((rotr (s).e 6 ^^^ rotr (s).e 11) ^^^ rotr (s).e 25))) := sk.fact 3 49 rfl (sd 3 rfl)
            have h50 : sa.eval (.tmp 50) = .int .u32 (u32i (((s).e &&& (s).f) ^^^ ((~~~(s).e) &&& (s).g))) := sk.fact 4 50 rfl (sd 4 rfl)
            exact Runs.bin rfl h49 h50 (eqGuard_bin rfl) (bin_add32 _ _ _) ⟨Ext.refl _, rfl⟩
          · refine stepE rfl fun sdn sa sw sE sd sk => ?_
            have h2 : sa.eval (.tmp 2) = .pointer (some ⟨g4, 0, none⟩) := sk.old 2 rfl
            exact Runs.move rfl h2 ⟨Ext.refl _, rfl⟩
          · refine stepE rfl fun sdn sa sw sE sd sk => ?_
            have h8 : sa.eval (.tmp 8) = .int .i64 ((k : Int)) := sk.old 8 rfl
            exact Runs.move rfl h8 ⟨Ext.refl _, rfl⟩
          · refine stepE rfl fun sdn sa sw sE sd sk => ?_
            have h52 : sa.eval (.tmp 52) = .pointer (some ⟨g4, 0, none⟩) := sk.fact 6 52 rfl (sd 6 rfl)
            exact Runs.nil_ rfl h52 ⟨Ext.refl _, rfl⟩
          · refine stepE rfl fun sdn sa sw sE sd sk => ?_
            have h54 : sa.eval (.tmp 54) = .pointer (some ⟨g4, 0, none⟩) := sk.fact 8 54 rfl (sd 8 rfl)
            have h53 : sa.eval (.tmp 53) = .int .i64 ((k : Int)) := sk.fact 7 53 rfl (sd 7 rfl)
            exact Runs.idx rfl h54 h53 (run_idx_arr1 Try.underlying119 inf119_eq inf119_size (k) (by omega) (by omega)) ⟨Ext.refl _, rfl⟩
          · refine stepE rfl fun sdn sa sw sE sd sk => ?_
            have h55 : sa.eval (.tmp 55) = .pointer (some ⟨g4, k, none⟩) := sk.fact 9 55 rfl (sd 9 rfl)
            exact Runs.load rfl h55 (run_load1 Try.underlying25 rfl (((((hk.ext hEr).ext hE1).ext hE2).ext sE).cell (by rw [shaK_length]; omega))) ⟨Ext.refl _, rfl⟩
          · refine stepE rfl fun sdn sa sw sE sd sk => ?_
            have h51 : sa.eval (.tmp 51) = .int .u32 (u32i (((s).h + ((rotr (s).e 6 ^^^ rotr (s).e 11) ^^^ rotr (s).e 25)) + (((s).e &&& (s).f) ^^^ ((~~~(s).e) &&& (s).g)))) := sk.fact 5 51 rfl (sd 5 rfl)
            have h56 : sa.eval (.tmp 56) = .int .u32 (u32i (uw shaK k)) := sk.fact 10 56 rfl (sd 10 rfl)
            exact Runs.bin rfl h51 h56 (eqGuard_bin rfl) (bin_add32 _ _ _) ⟨Ext.refl _, rfl⟩
          · refine stepE rfl fun sdn sa sw sE sd sk => ?_
            have h9 : sa.eval (.tmp 9) = .int .u32 (u32i (uw (fillW L 64) k)) := sk.old 9 rfl
            exact Runs.move rfl h9 ⟨Ext.refl _, rfl⟩
          · refine stepE rfl fun sdn sa sw sE sd sk => ?_
            have h57 : sa.eval (.tmp 57) = .int .u32 (u32i ((((s).h + ((rotr (s).e 6 ^^^ rotr (s).e 11) ^^^ rotr (s).e 25)) + (((s).e &&& (s).f) ^^^ ((~~~(s).e) &&& (s).g))) + (uw shaK k))) := sk.fact 11 57 rfl (sd 11 rfl)
            have h58 : sa.eval (.tmp 58) = .int .u32 (u32i (uw (fillW L 64) k)) := sk.fact 12 58 rfl (sd 12 rfl)
            exact Runs.bin rfl h57 h58 (eqGuard_bin rfl) (bin_add32 _ _ _) ⟨Ext.refl _, rfl⟩
          · refine stepE rfl fun sdn sa sw sE sd sk => ?_
            have h59 : sa.eval (.tmp 59) = .int .u32 (u32i (((((s).h + ((rotr (s).e 6 ^^^ rotr (s).e 11) ^^^ rotr (s).e 25)) + (((s).e &&& (s).f) ^^^ ((~~~(s).e) &&& (s).g))) + (uw shaK k)) + (uw (fillW L 64) k))) := sk.fact 13 59 rfl (sd 13 rfl)
            exact Runs.assign rfl h59 ⟨Ext.refl _, rfl⟩
          ·
            intro vals W7 hE3 hv3
            have e0 : vals 0 = .pointer (some ⟨w.heap.size + 1 + 1, 7, none⟩) := hv3 0 (by omega) 46 rfl
            have e1 : vals 1 = .int .u32 (u32i (s).h) := hv3 1 (by omega) 47 rfl
            have e2 : vals 2 = .int .u32 (u32i ((rotr (s).e 6 ^^^ rotr (s).e 11) ^^^ rotr (s).e 25)) := hv3 2 (by omega) 48 rfl
            have e3 : vals 3 = .int .u32 (u32i ((s).h + ((rotr (s).e 6 ^^^ rotr (s).e 11) ^^^ rotr (s).e 25))) := hv3 3 (by omega) 49 rfl
            have e4 : vals 4 = .int .u32 (u32i (((s).e &&& (s).f) ^^^ ((~~~(s).e) &&& (s).g))) := hv3 4 (by omega) 50 rfl
            have e5 : vals 5 = .int .u32 (u32i (((s).h + ((rotr (s).e 6 ^^^ rotr (s).e 11) ^^^ rotr (s).e 25)) + (((s).e &&& (s).f) ^^^ ((~~~(s).e) &&& (s).g)))) := hv3 5 (by omega) 51 rfl
            have e6 : vals 6 = .pointer (some ⟨g4, 0, none⟩) := hv3 6 (by omega) 52 rfl
            have e7 : vals 7 = .int .i64 ((k : Int)) := hv3 7 (by omega) 53 rfl
            have e8 : vals 8 = .pointer (some ⟨g4, 0, none⟩) := hv3 8 (by omega) 54 rfl
            have e9 : vals 9 = .pointer (some ⟨g4, k, none⟩) := hv3 9 (by omega) 55 rfl
            have e10 : vals 10 = .int .u32 (u32i (uw shaK k)) := hv3 10 (by omega) 56 rfl
            have e11 : vals 11 = .int .u32 (u32i ((((s).h + ((rotr (s).e 6 ^^^ rotr (s).e 11) ^^^ rotr (s).e 25)) + (((s).e &&& (s).f) ^^^ ((~~~(s).e) &&& (s).g))) + (uw shaK k))) := hv3 11 (by omega) 57 rfl
            have e12 : vals 12 = .int .u32 (u32i (uw (fillW L 64) k)) := hv3 12 (by omega) 58 rfl
            have e13 : vals 13 = .int .u32 (u32i (((((s).h + ((rotr (s).e 6 ^^^ rotr (s).e 11) ^^^ rotr (s).e 25)) + (((s).e &&& (s).f) ^^^ ((~~~(s).e) &&& (s).g))) + (uw shaK k)) + (uw (fillW L 64) k))) := hv3 13 (by omega) 59 rfl
            have e14 : vals 14 = .int .u32 (u32i (((((s).h + ((rotr (s).e 6 ^^^ rotr (s).e 11) ^^^ rotr (s).e 25)) + (((s).e &&& (s).f) ^^^ ((~~~(s).e) &&& (s).g))) + (uw shaK k)) + (uw (fillW L 64) k))) := hv3 14 (by omega) 12 rfl
            simp only [putAll, Act.put, List.take_succ_cons, List.take_zero, List.drop_succ_cons, List.drop_zero, List.drop_nil, List.take_nil, Nat.reduceAdd, List.setIfInBounds_toArray, List.set_cons_succ, List.set_cons_zero, e0, e1, e2, e3, e4, e5, e6, e7, e8, e9, e10, e11, e12, e13, e14]
            clear hv3 e0 e1 e2 e3 e4 e5 e6 e7 e8 e9 e10 e11 e12 e13 e14
            rw [show ((((s).h + ((rotr (s).e 6 ^^^ rotr (s).e 11) ^^^ rotr (s).e 25)) + (((s).e &&& (s).f) ^^^ ((~~~(s).e) &&& (s).g)) + (uw shaK k)) + (uw (fillW L 64) k)) = roundT s (uw shaK k) (uw (fillW L 64) k) from rfl]
            go_upto_region 8 with (fail)
            refine par_ext (n := 12) (by kernel_rfl) [.is (.pointer (some ⟨w.heap.size + 1 + 1, 0, none⟩)), .is (.int .u32 (u32i (s).a)), .is (.int .u32 (u32i (rotr (s).a 2))), .is (.pointer (some ⟨w.heap.size + 1 + 1, 0, none⟩)), .is (.int .u32 (u32i (s).a)), .is (.int .u32 (u32i (rotr (s).a 13))), .is (.int .u32 (u32i ((rotr (s).a 2) ^^^ (rotr (s).a 13)))), .is (.pointer (some ⟨w.heap.size + 1 + 1, 0, none⟩)), .is (.int .u32 (u32i (s).a)), .is (.int .u32 (u32i (rotr (s).a 22))), .is (.int .u32 (u32i (((rotr (s).a 2) ^^^ (rotr (s).a 13)) ^^^ (rotr (s).a 22)))), .is (.int .u32 (u32i (((rotr (s).a 2) ^^^ (rotr (s).a 13)) ^^^ (rotr (s).a 22))))] rfl ⟨?_, ?_, ?_, ?_, ?_, ?_, ?_, ?_, ?_, ?_, ?_, ?_, trivial⟩ ?_
            · refine stepE rfl fun sdn sa sw sE sd sk => ?_
              have h7 : sa.eval (.tmp 7) = .pointer (some ⟨w.heap.size + 1 + 1, 0, none⟩) := sk.old 7 rfl
              exact Runs.idx rfl h7 rfl (run_idx_arr1 Try.underlying118 inf118_eq inf118_size (0) (by omega) (by omega)) ⟨Ext.refl _, rfl⟩
            · refine stepE rfl fun sdn sa sw sE sd sk => ?_
              have h60 : sa.eval (.tmp 60) = .pointer (some ⟨w.heap.size + 1 + 1, 0, none⟩) := sk.fact 0 60 rfl (sd 0 rfl)
              exact Runs.load rfl h60 (run_load1 Try.underlying25 rfl (((((c12.ext hE1).ext hE2).ext hE3).ext sE).cell (by rw [S8.list_length]; omega))) ⟨Ext.refl _, rfl⟩
            · refine stepE rfl fun sdn sa sw sE sd sk => ?_
              have h61 : sa.eval (.tmp 61) = .int .u32 (u32i (s).a) := sk.fact 1 61 rfl (sd 1 rfl)
              refine Runs.call (f := 122) (vs := [.int .u32 (u32i (s).a), .int .i64 ((2 : Int))]) rfl rfl rfl (by simp only [List.map_toArray, List.map_cons, List.map_nil, h61] <;> rfl) (ent122 _ _) ((right2_any (s).a sw).mono ?_); rintro e w' ⟨rfl, hx⟩; exact ⟨_, rfl, hx, rfl⟩
            · refine stepE rfl fun sdn sa sw sE sd sk => ?_
              have h7 : sa.eval (.tmp 7) = .pointer (some ⟨w.heap.size + 1 + 1, 0, none⟩) := sk.old 7 rfl
              exact Runs.idx rfl h7 rfl (run_idx_arr1 Try.underlying118 inf118_eq inf118_size (0) (by omega) (by omega)) ⟨Ext.refl _, rfl⟩
            · refine stepE rfl fun sdn sa sw sE sd sk => ?_
              have h63 : sa.eval (.tmp 63) = .pointer (some ⟨w.heap.size + 1 + 1, 0, none⟩) := sk.fact 3 63 rfl (sd 3 rfl)
              exact Runs.load rfl h63 (run_load1 Try.underlying25 rfl (((((c12.ext hE1).ext hE2).ext hE3).ext sE).cell (by rw [S8.list_length]; omega))) ⟨Ext.refl _, rfl⟩
            · refine stepE rfl fun sdn sa sw sE sd sk => ?_
              have h64 : sa.eval (.tmp 64) = .int .u32 (u32i (s).a) := sk.fact 4 64 rfl (sd 4 rfl)
              refine Runs.call (f := 122) (vs := [.int .u32 (u32i (s).a), .int .i64 ((13 : Int))]) rfl rfl rfl (by simp only [List.map_toArray, List.map_cons, List.map_nil, h64] <;> rfl) (ent122 _ _) ((right13_any (s).a sw).mono ?_); rintro e w' ⟨rfl, hx⟩; exact ⟨_, rfl, hx, rfl⟩
            · refine stepE rfl fun sdn sa sw sE sd sk => ?_
              have h62 : sa.eval (.tmp 62) = .int .u32 (u32i (rotr (s).a 2)) := sk.fact 2 62 rfl (sd 2 rfl)
              have h65 : sa.eval (.tmp 65) = .int .u32 (u32i (rotr (s).a 13)) := sk.fact 5 65 rfl (sd 5 rfl)
              exact Runs.bin rfl h62 h65 (eqGuard_bin rfl) (bin_xor32 _ _ _) ⟨Ext.refl _, rfl⟩
            · refine stepE rfl fun sdn sa sw sE sd sk => ?_
              have h7 : sa.eval (.tmp 7) = .pointer (some ⟨w.heap.size + 1 + 1, 0, none⟩) := sk.old 7 rfl
              exact Runs.idx rfl h7 rfl (run_idx_arr1 Try.underlying118 inf118_eq inf118_size (0) (by omega) (by omega)) ⟨Ext.refl _, rfl⟩
            · refine stepE rfl fun sdn sa sw sE sd sk => ?_
              have h67 : sa.eval (.tmp 67) = .pointer (some ⟨w.heap.size + 1 + 1, 0, none⟩) := sk.fact 7 67 rfl (sd 7 rfl)
              exact Runs.load rfl h67 (run_load1 Try.underlying25 rfl (((((c12.ext hE1).ext hE2).ext hE3).ext sE).cell (by rw [S8.list_length]; omega))) ⟨Ext.refl _, rfl⟩
            · refine stepE rfl fun sdn sa sw sE sd sk => ?_
              have h68 : sa.eval (.tmp 68) = .int .u32 (u32i (s).a) := sk.fact 8 68 rfl (sd 8 rfl)
              refine Runs.call (f := 122) (vs := [.int .u32 (u32i (s).a), .int .i64 ((22 : Int))]) rfl rfl rfl (by simp only [List.map_toArray, List.map_cons, List.map_nil, h68] <;> rfl) (ent122 _ _) ((right22_any (s).a sw).mono ?_); rintro e w' ⟨rfl, hx⟩; exact ⟨_, rfl, hx, rfl⟩
            · refine stepE rfl fun sdn sa sw sE sd sk => ?_
              have h66 : sa.eval (.tmp 66) = .int .u32 (u32i ((rotr (s).a 2) ^^^ (rotr (s).a 13))) := sk.fact 6 66 rfl (sd 6 rfl)
              have h69 : sa.eval (.tmp 69) = .int .u32 (u32i (rotr (s).a 22)) := sk.fact 9 69 rfl (sd 9 rfl)
              exact Runs.bin rfl h66 h69 (eqGuard_bin rfl) (bin_xor32 _ _ _) ⟨Ext.refl _, rfl⟩
            · refine stepE rfl fun sdn sa sw sE sd sk => ?_
              have h70 : sa.eval (.tmp 70) = .int .u32 (u32i (((rotr (s).a 2) ^^^ (rotr (s).a 13)) ^^^ (rotr (s).a 22))) := sk.fact 10 70 rfl (sd 10 rfl)
              exact Runs.assign rfl h70 ⟨Ext.refl _, rfl⟩
            ·
              intro vals W8 hE4 hv4
              have e0 : vals 0 = .pointer (some ⟨w.heap.size + 1 + 1, 0, none⟩) := hv4 0 (by omega) 60 rfl
              have e1 : vals 1 = .int .u32 (u32i (s).a) := hv4 1 (by omega) 61 rfl
              have e2 : vals 2 = .int .u32 (u32i (rotr (s).a 2)) := hv4 2 (by omega) 62 rfl
              have e3 : vals 3 = .pointer (some ⟨w.heap.size + 1 + 1, 0, none⟩) := hv4 3 (by omega) 63 rfl
              have e4 : vals 4 = .int .u32 (u32i (s).a) := hv4 4 (by omega) 64 rfl
              have e5 : vals 5 = .int .u32 (u32i (rotr (s).a 13)) := hv4 5 (by omega) 65 rfl
              have e6 : vals 6 = .int .u32 (u32i ((rotr (s).a 2) ^^^ (rotr (s).a 13))) := hv4 6 (by omega) 66 rfl
              have e7 : vals 7 = .pointer (some ⟨w.heap.size + 1 + 1, 0, none⟩) := hv4 7 (by omega) 67 rfl
              have e8 : vals 8 = .int .u32 (u32i (s).a) := hv4 8 (by omega) 68 rfl
              have e9 : vals 9 = .int .u32 (u32i (rotr (s).a 22)) := hv4 9 (by omega) 69 rfl
              have e10 : vals 10 = .int .u32 (u32i (((rotr (s).a 2) ^^^ (rotr (s).a 13)) ^^^ (rotr (s).a 22))) := hv4 10 (by omega) 70 rfl
              have e11 : vals 11 = .int .u32 (u32i (((rotr (s).a 2) ^^^ (rotr (s).a 13)) ^^^ (rotr (s).a 22))) := hv4 11 (by omega) 13 rfl
              simp only [putAll, Act.put, List.take_succ_cons, List.take_zero, List.drop_succ_cons, List.drop_zero, List.drop_nil, List.take_nil, Nat.reduceAdd, List.setIfInBounds_toArray, List.set_cons_succ, List.set_cons_zero, e0, e1, e2, e3, e4, e5, e6, e7, e8, e9, e10, e11]
              clear hv4 e0 e1 e2 e3 e4 e5 e6 e7 e8 e9 e10 e11
              rw [show ((rotr (s).a 2 ^^^ rotr (s).a 13) ^^^ rotr (s).a 22) = bigS0 (s).a from rfl]
              go_upto_region 9 with (fail)
              refine seq_ext (n := 18) (by kernel_rfl) [.is (.pointer (some ⟨w.heap.size + 1 + 1, 0, none⟩)), .is (.int .u32 (u32i (s).a)), .is (.pointer (some ⟨w.heap.size + 1 + 1, 1, none⟩)), .is (.int .u32 (u32i (s).b)), .is (.int .u32 (u32i ((s).a &&& (s).b))), .is (.pointer (some ⟨w.heap.size + 1 + 1, 0, none⟩)), .is (.int .u32 (u32i (s).a)), .is (.pointer (some ⟨w.heap.size + 1 + 1, 2, none⟩)), .is (.int .u32 (u32i (s).c)), .is (.int .u32 (u32i ((s).a &&& (s).c))), .is (.int .u32 (u32i (((s).a &&& (s).b) ^^^ ((s).a &&& (s).c)))), .is (.pointer (some ⟨w.heap.size + 1 + 1, 1, none⟩)), .is (.int .u32 (u32i (s).b)), .is (.pointer (some ⟨w.heap.size + 1 + 1, 2, none⟩)), .is (.int .u32 (u32i (s).c)), .is (.int .u32 (u32i ((s).b &&& (s).c))), .is (.int .u32 (u32i ((((s).a &&& (s).b) ^^^ ((s).a &&& (s).c)) ^^^ ((s).b &&& (s).c)))), .is (.int .u32 (u32i ((((s).a &&& (s).b) ^^^ ((s).a &&& (s).c)) ^^^ ((s).b &&& (s).c))))] rfl ⟨?_, ?_, ?_, ?_, ?_, ?_, ?_, ?_, ?_, ?_, ?_, ?_, ?_, ?_, ?_, ?_, ?_, ?_, trivial⟩ ?_
              · refine stepE rfl fun sdn sa sw sE sd sk => ?_
                have h7 : sa.eval (.tmp 7) = .pointer (some ⟨w.heap.size + 1 + 1, 0, none⟩) := sk.old 7 rfl
                exact Runs.idx rfl h7 rfl (run_idx_arr1 Try.underlying118 inf118_eq inf118_size (0) (by omega) (by omega)) ⟨Ext.refl _, rfl⟩
              · refine stepE rfl fun sdn sa sw sE sd sk => ?_
                have h71 : sa.eval (.tmp 71) = .pointer (some ⟨w.heap.size + 1 + 1, 0, none⟩) := sk.fact 0 71 rfl (sd 0 rfl)
                exact Runs.load rfl h71 (run_load1 Try.underlying25 rfl ((((((c12.ext hE1).ext hE2).ext hE3).ext hE4).ext sE).cell (by rw [S8.list_length]; omega))) ⟨Ext.refl _, rfl⟩
              · refine stepE rfl fun sdn sa sw sE sd sk => ?_
                have h7 : sa.eval (.tmp 7) = .pointer (some ⟨w.heap.size + 1 + 1, 0, none⟩) := sk.old 7 rfl
                exact Runs.idx rfl h7 rfl (run_idx_arr1 Try.underlying118 inf118_eq inf118_size (1) (by omega) (by omega)) ⟨Ext.refl _, rfl⟩
              · refine stepE rfl fun sdn sa sw sE sd sk => ?_
                have h73 : sa.eval (.tmp 73) = .pointer (some ⟨w.heap.size + 1 + 1, 1, none⟩) := sk.fact 2 73 rfl (sd 2 rfl)
                exact Runs.load rfl h73 (run_load1 Try.underlying25 rfl ((((((c12.ext hE1).ext hE2).ext hE3).ext hE4).ext sE).cell (by rw [S8.list_length]; omega))) ⟨Ext.refl _, rfl⟩
              · refine stepE rfl fun sdn sa sw sE sd sk => ?_
                have h72 : sa.eval (.tmp 72) = .int .u32 (u32i (s).a) := sk.fact 1 72 rfl (sd 1 rfl)
                have h74 : sa.eval (.tmp 74) = .int .u32 (u32i (s).b) := sk.fact 3 74 rfl (sd 3 rfl)
                exact Runs.bin rfl h72 h74 (eqGuard_bin rfl) (bin_and32 _ _ _) ⟨Ext.refl _, rfl⟩
              · refine stepE rfl fun sdn sa sw sE sd sk => ?_
                have h7 : sa.eval (.tmp 7) = .pointer (some ⟨w.heap.size + 1 + 1, 0, none⟩) := sk.old 7 rfl
                exact Runs.idx rfl h7 rfl (run_idx_arr1 Try.underlying118 inf118_eq inf118_size (0) (by omega) (by omega)) ⟨Ext.refl _, rfl⟩
              · refine stepE rfl fun sdn sa sw sE sd sk => ?_
                have h76 : sa.eval (.tmp 76) = .pointer (some ⟨w.heap.size + 1 + 1, 0, none⟩) := sk.fact 5 76 rfl (sd 5 rfl)
                exact Runs.load rfl h76 (run_load1 Try.underlying25 rfl ((((((c12.ext hE1).ext hE2).ext hE3).ext hE4).ext sE).cell (by rw [S8.list_length]; omega))) ⟨Ext.refl _, rfl⟩
              · refine stepE rfl fun sdn sa sw sE sd sk => ?_
                have h7 : sa.eval (.tmp 7) = .pointer (some ⟨w.heap.size + 1 + 1, 0, none⟩) := sk.old 7 rfl
                exact Runs.idx rfl h7 rfl (run_idx_arr1 Try.underlying118 inf118_eq inf118_size (2) (by omega) (by omega)) ⟨Ext.refl _, rfl⟩
              · refine stepE rfl fun sdn sa sw sE sd sk => ?_
                have h78 : sa.eval (.tmp 78) = .pointer (some ⟨w.heap.size + 1 + 1, 2, none⟩) := sk.fact 7 78 rfl (sd 7 rfl)
                exact Runs.load rfl h78 (run_load1 Try.underlying25 rfl ((((((c12.ext hE1).ext hE2).ext hE3).ext hE4).ext sE).cell (by rw [S8.list_length]; omega))) ⟨Ext.refl _, rfl⟩
              · refine stepE rfl fun sdn sa sw sE sd sk => ?_
                have h77 : sa.eval (.tmp 77) = .int .u32 (u32i (s).a) := sk.fact 6 77 rfl (sd 6 rfl)
                have h79 : sa.eval (.tmp 79) = .int .u32 (u32i (s).c) := sk.fact 8 79 rfl (sd 8 rfl)
                exact Runs.bin rfl h77 h79 (eqGuard_bin rfl) (bin_and32 _ _ _) ⟨Ext.refl _, rfl⟩
              · refine stepE rfl fun sdn sa sw sE sd sk => ?_
                have h75 : sa.eval (.tmp 75) = .int .u32 (u32i ((s).a &&& (s).b)) := sk.fact 4 75 rfl (sd 4 rfl)
                have h80 : sa.eval (.tmp 80) = .int .u32 (u32i ((s).a &&& (s).c)) := sk.fact 9 80 rfl (sd 9 rfl)
                exact Runs.bin rfl h75 h80 (eqGuard_bin rfl) (bin_xor32 _ _ _) ⟨Ext.refl _, rfl⟩
              · refine stepE rfl fun sdn sa sw sE sd sk => ?_
                have h7 : sa.eval (.tmp 7) = .pointer (some ⟨w.heap.size + 1 + 1, 0, none⟩) := sk.old 7 rfl
                exact Runs.idx rfl h7 rfl (run_idx_arr1 Try.underlying118 inf118_eq inf118_size (1) (by omega) (by omega)) ⟨Ext.refl _, rfl⟩
              · refine stepE rfl fun sdn sa sw sE sd sk => ?_
                have h82 : sa.eval (.tmp 82) = .pointer (some ⟨w.heap.size + 1 + 1, 1, none⟩) := sk.fact 11 82 rfl (sd 11 rfl)
                exact Runs.load rfl h82 (run_load1 Try.underlying25 rfl ((((((c12.ext hE1).ext hE2).ext hE3).ext hE4).ext sE).cell (by rw [S8.list_length]; omega))) ⟨Ext.refl _, rfl⟩
              · refine stepE rfl fun sdn sa sw sE sd sk => ?_
                have h7 : sa.eval (.tmp 7) = .pointer (some ⟨w.heap.size + 1 + 1, 0, none⟩) := sk.old 7 rfl
                exact Runs.idx rfl h7 rfl (run_idx_arr1 Try.underlying118 inf118_eq inf118_size (2) (by omega) (by omega)) ⟨Ext.refl _, rfl⟩
              · refine stepE rfl fun sdn sa sw sE sd sk => ?_
                have h84 : sa.eval (.tmp 84) = .pointer (some ⟨w.heap.size + 1 + 1, 2, none⟩) := sk.fact 13 84 rfl (sd 13 rfl)
                exact Runs.load rfl h84 (run_load1 Try.underlying25 rfl ((((((c12.ext hE1).ext hE2).ext hE3).ext hE4).ext sE).cell (by rw [S8.list_length]; omega))) ⟨Ext.refl _, rfl⟩
              · refine stepE rfl fun sdn sa sw sE sd sk => ?_
                have h83 : sa.eval (.tmp 83) = .int .u32 (u32i (s).b) := sk.fact 12 83 rfl (sd 12 rfl)
                have h85 : sa.eval (.tmp 85) = .int .u32 (u32i (s).c) := sk.fact 14 85 rfl (sd 14 rfl)
                exact Runs.bin rfl h83 h85 (eqGuard_bin rfl) (bin_and32 _ _ _) ⟨Ext.refl _, rfl⟩
              · refine stepE rfl fun sdn sa sw sE sd sk => ?_
                have h81 : sa.eval (.tmp 81) = .int .u32 (u32i (((s).a &&& (s).b) ^^^ ((s).a &&& (s).c))) := sk.fact 10 81 rfl (sd 10 rfl)
                have h86 : sa.eval (.tmp 86) = .int .u32 (u32i ((s).b &&& (s).c)) := sk.fact 15 86 rfl (sd 15 rfl)
                exact Runs.bin rfl h81 h86 (eqGuard_bin rfl) (bin_xor32 _ _ _) ⟨Ext.refl _, rfl⟩
              · refine stepE rfl fun sdn sa sw sE sd sk => ?_
                have h87 : sa.eval (.tmp 87) = .int .u32 (u32i ((((s).a &&& (s).b) ^^^ ((s).a &&& (s).c)) ^^^ ((s).b &&& (s).c))) := sk.fact 16 87 rfl (sd 16 rfl)
                exact Runs.assign rfl h87 ⟨Ext.refl _, rfl⟩
              ·
                intro vals W9 hE5 hv5
                have e0 : vals 0 = .pointer (some ⟨w.heap.size + 1 + 1, 0, none⟩) := hv5 0 (by omega) 71 rfl
                have e1 : vals 1 = .int .u32 (u32i (s).a) := hv5 1 (by omega) 72 rfl
                have e2 : vals 2 = .pointer (some ⟨w.heap.size + 1 + 1, 1, none⟩) := hv5 2 (by omega) 73 rfl
                have e3 : vals 3 = .int .u32 (u32i (s).b) := hv5 3 (by omega) 74 rfl
                have e4 : vals 4 = .int .u32 (u32i ((s).a &&& (s).b)) := hv5 4 (by omega) 75 rfl
                have e5 : vals 5 = .pointer (some ⟨w.heap.size + 1 + 1, 0, none⟩) := hv5 5 (by omega) 76 rfl
                have e6 : vals 6 = .int .u32 (u32i (s).a) := hv5 6 (by omega) 77 rfl
                have e7 : vals 7 = .pointer (some ⟨w.heap.size + 1 + 1, 2, none⟩) := hv5 7 (by omega) 78 rfl
                have e8 : vals 8 = .int .u32 (u32i (s).c) := hv5 8 (by omega) 79 rfl
                have e9 : vals 9 = .int .u32 (u32i ((s).a &&& (s).c)) := hv5 9 (by omega) 80 rfl
                have e10 : vals 10 = .int .u32 (u32i (((s).a &&& (s).b) ^^^ ((s).a &&& (s).c))) := hv5 10 (by omega) 81 rfl
                have e11 : vals 11 = .pointer (some ⟨w.heap.size + 1 + 1, 1, none⟩) := hv5 11 (by omega) 82 rfl
                have e12 : vals 12 = .int .u32 (u32i (s).b) := hv5 12 (by omega) 83 rfl
                have e13 : vals 13 = .pointer (some ⟨w.heap.size + 1 + 1, 2, none⟩) := hv5 13 (by omega) 84 rfl
                have e14 : vals 14 = .int .u32 (u32i (s).c) := hv5 14 (by omega) 85 rfl
                have e15 : vals 15 = .int .u32 (u32i ((s).b &&& (s).c)) := hv5 15 (by omega) 86 rfl
                have e16 : vals 16 = .int .u32 (u32i ((((s).a &&& (s).b) ^^^ ((s).a &&& (s).c)) ^^^ ((s).b &&& (s).c))) := hv5 16 (by omega) 87 rfl
                have e17 : vals 17 = .int .u32 (u32i ((((s).a &&& (s).b) ^^^ ((s).a &&& (s).c)) ^^^ ((s).b &&& (s).c))) := hv5 17 (by omega) 14 rfl
                simp only [putAll, Act.put, List.take_succ_cons, List.take_zero, List.drop_succ_cons, List.drop_zero, List.drop_nil, List.take_nil, Nat.reduceAdd, List.setIfInBounds_toArray, List.set_cons_succ, List.set_cons_zero, e0, e1, e2, e3, e4, e5, e6, e7, e8, e9, e10, e11, e12, e13, e14, e15, e16, e17]
                clear hv5 e0 e1 e2 e3 e4 e5 e6 e7 e8 e9 e10 e11 e12 e13 e14 e15 e16 e17
                rw [show ((((s).a &&& (s).b) ^^^ ((s).a &&& (s).c)) ^^^ ((s).b &&& (s).c)) = majF (s).a (s).b (s).c from rfl]
                go_upto_region 10 with (fail)
                refine seq_ext (n := 21) (by kernel_rfl) [.is (.int .u32 (u32i (roundT s (uw shaK k) (uw (fillW L 64) k)))), .is (.int .u32 (u32i (bigS0 (s).a))), .is (.int .u32 (u32i ((roundT s (uw shaK k) (uw (fillW L 64) k)) + (bigS0 (s).a)))), .is (.int .u32 (u32i (majF (s).a (s).b (s).c))), .is (.int .u32 (u32i (((roundT s (uw shaK k) (uw (fillW L 64) k)) + (bigS0 (s).a)) + (majF (s).a (s).b (s).c)))), .is (.pointer (some ⟨w.heap.size + 1 + 1, 0, none⟩)), .is (.int .u32 (u32i (s).a)), .is (.pointer (some ⟨w.heap.size + 1 + 1, 1, none⟩)), .is (.int .u32 (u32i (s).b)), .is (.pointer (some ⟨w.heap.size + 1 + 1, 2, none⟩)), .is (.int .u32 (u32i (s).c)), .is (.pointer (some ⟨w.heap.size + 1 + 1, 3, none⟩)), .is (.int .u32 (u32i (s).d)), .is (.int .u32 (u32i (roundT s (uw shaK k) (uw (fillW L 64) k)))), .is (.int .u32 (u32i ((s).d + (roundT s (uw shaK k) (uw (fillW L 64) k))))), .is (.pointer (some ⟨w.heap.size + 1 + 1, 4, none⟩)), .is (.int .u32 (u32i (s).e)), .is (.pointer (some ⟨w.heap.size + 1 + 1, 5, none⟩)), .is (.int .u32 (u32i (s).f)), .is (.pointer (some ⟨w.heap.size + 1 + 1, 6, none⟩)), .is (.int .u32 (u32i (s).g))] rfl ⟨?_, ?_, ?_, ?_, ?_, ?_, ?_, ?_, ?_, ?_, ?_, ?_, ?_, ?_, ?_, ?_, ?_, ?_, ?_, ?_, ?_, trivial⟩ ?_
                · refine stepE rfl fun sdn sa sw sE sd sk => ?_
                  have h12 : sa.eval (.tmp 12) = .int .u32 (u32i (roundT s (uw shaK k) (uw (fillW L 64) k))) := sk.old 12 rfl
                  exact Runs.move rfl h12 ⟨Ext.refl _, rfl⟩
                · refine stepE rfl fun sdn sa sw sE sd sk => ?_
                  have h13 : sa.eval (.tmp 13) = .int .u32 (u32i (bigS0 (s).a)) := sk.old 13 rfl
                  exact Runs.move rfl h13 ⟨Ext.refl _, rfl⟩
                · refine stepE rfl fun sdn sa sw sE sd sk => ?_
                  have h88 : sa.eval (.tmp 88) = .int .u32 (u32i (roundT s (uw shaK k) (uw (fillW L 64) k))) := sk.fact 0 88 rfl (sd 0 rfl)
                  have h89 : sa.eval (.tmp 89) = .int .u32 (u32i (bigS0 (s).a)) := sk.fact 1 89 rfl (sd 1 rfl)
                  exact Runs.bin rfl h88 h89 (eqGuard_bin rfl) (bin_add32 _ _ _) ⟨Ext.refl _, rfl⟩
                · refine stepE rfl fun sdn sa sw sE sd sk => ?_
                  have h14 : sa.eval (.tmp 14) = .int .u32 (u32i (majF (s).a (s).b (s).c)) := sk.old 14 rfl
                  exact Runs.move rfl h14 ⟨Ext.refl _, rfl⟩
                · refine stepE rfl fun sdn sa sw sE sd sk => ?_
                  have h90 : sa.eval (.tmp 90) = .int .u32 (u32i ((roundT s (uw shaK k) (uw (fillW L 64) k)) + (bigS0 (s).a))) := sk.fact 2 90 rfl (sd 2 rfl)
                  have h91 : sa.eval (.tmp 91) = .int .u32 (u32i (majF (s).a (s).b (s).c)) := sk.fact 3 91 rfl (sd 3 rfl)
                  exact Runs.bin rfl h90 h91 (eqGuard_bin rfl) (bin_add32 _ _ _) ⟨Ext.refl _, rfl⟩
                · refine stepE rfl fun sdn sa sw sE sd sk => ?_
                  have h7 : sa.eval (.tmp 7) = .pointer (some ⟨w.heap.size + 1 + 1, 0, none⟩) := sk.old 7 rfl
                  exact Runs.idx rfl h7 rfl (run_idx_arr1 Try.underlying118 inf118_eq inf118_size (0) (by omega) (by omega)) ⟨Ext.refl _, rfl⟩
                · refine stepE rfl fun sdn sa sw sE sd sk => ?_
                  have h93 : sa.eval (.tmp 93) = .pointer (some ⟨w.heap.size + 1 + 1, 0, none⟩) := sk.fact 5 93 rfl (sd 5 rfl)
                  exact Runs.load rfl h93 (run_load1 Try.underlying25 rfl (((((((c12.ext hE1).ext hE2).ext hE3).ext hE4).ext hE5).ext sE).cell (by rw [S8.list_length]; omega))) ⟨Ext.refl _, rfl⟩
                · refine stepE rfl fun sdn sa sw sE sd sk => ?_
                  have h7 : sa.eval (.tmp 7) = .pointer (some ⟨w.heap.size + 1 + 1, 0, none⟩) := sk.old 7 rfl
                  exact Runs.idx rfl h7 rfl (run_idx_arr1 Try.underlying118 inf118_eq inf118_size (1) (by omega) (by omega)) ⟨Ext.refl _, rfl⟩
                · refine stepE rfl fun sdn sa sw sE sd sk => ?_
                  have h95 : sa.eval (.tmp 95) = .pointer (some ⟨w.heap.size + 1 + 1, 1, none⟩) := sk.fact 7 95 rfl (sd 7 rfl)
                  exact Runs.load rfl h95 (run_load1 Try.underlying25 rfl (((((((c12.ext hE1).ext hE2).ext hE3).ext hE4).ext hE5).ext sE).cell (by rw [S8.list_length]; omega))) ⟨Ext.refl _, rfl⟩
                · refine stepE rfl fun sdn sa sw sE sd sk => ?_
                  have h7 : sa.eval (.tmp 7) = .pointer (some ⟨w.heap.size + 1 + 1, 0, none⟩) := sk.old 7 rfl
                  exact Runs.idx rfl h7 rfl (run_idx_arr1 Try.underlying118 inf118_eq inf118_size (2) (by omega) (by omega)) ⟨Ext.refl _, rfl⟩
                · refine stepE rfl fun sdn sa sw sE sd sk => ?_
                  have h97 : sa.eval (.tmp 97) = .pointer (some ⟨w.heap.size + 1 + 1, 2, none⟩) := sk.fact 9 97 rfl (sd 9 rfl)
                  exact Runs.load rfl h97 (run_load1 Try.underlying25 rfl (((((((c12.ext hE1).ext hE2).ext hE3).ext hE4).ext hE5).ext sE).cell (by rw [S8.list_length]; omega))) ⟨Ext.refl _, rfl⟩
                · refine stepE rfl fun sdn sa sw sE sd sk => ?_
                  have h7 : sa.eval (.tmp 7) = .pointer (some ⟨w.heap.size + 1 + 1, 0, none⟩) := sk.old 7 rfl
                  exact Runs.idx rfl h7 rfl (run_idx_arr1 Try.underlying118 inf118_eq inf118_size (3) (by omega) (by omega)) ⟨Ext.refl _, rfl⟩
                · refine stepE rfl fun sdn sa sw sE sd sk => ?_
                  have h99 : sa.eval (.tmp 99) = .pointer (some ⟨w.heap.size + 1 + 1, 3, none⟩) := sk.fact 11 99 rfl (sd 11 rfl)
                  exact Runs.load rfl h99 (run_load1 Try.underlying25 rfl (((((((c12.ext hE1).ext hE2).ext hE3).ext hE4).ext hE5).ext sE).cell (by rw [S8.list_length]; omega))) ⟨Ext.refl _, rfl⟩
                · refine stepE rfl fun sdn sa sw sE sd sk => ?_
                  have h12 : sa.eval (.tmp 12) = .int .u32 (u32i (roundT s (uw shaK k) (uw (fillW L 64) k))) := sk.old 12 rfl
                  exact Runs.move rfl h12 ⟨Ext.refl _, rfl⟩
                · refine stepE rfl fun sdn sa sw sE sd sk => ?_
                  have h100 : sa.eval (.tmp 100) = .int .u32 (u32i (s).d) := sk.fact 12 100 rfl (sd 12 rfl)
                  have h101 : sa.eval (.tmp 101) = .int .u32 (u32i (roundT s (uw shaK k) (uw (fillW L 64) k))) := sk.fact 13 101 rfl (sd 13 rfl)
                  exact Runs.bin rfl h100 h101 (eqGuard_bin rfl) (bin_add32 _ _ _) ⟨Ext.refl _, rfl⟩
                · refine stepE rfl fun sdn sa sw sE sd sk => ?_
                  have h7 : sa.eval (.tmp 7) = .pointer (some ⟨w.heap.size + 1 + 1, 0, none⟩) := sk.old 7 rfl
                  exact Runs.idx rfl h7 rfl (run_idx_arr1 Try.underlying118 inf118_eq inf118_size (4) (by omega) (by omega)) ⟨Ext.refl _, rfl⟩
                · refine stepE rfl fun sdn sa sw sE sd sk => ?_
                  have h103 : sa.eval (.tmp 103) = .pointer (some ⟨w.heap.size + 1 + 1, 4, none⟩) := sk.fact 15 103 rfl (sd 15 rfl)
                  exact Runs.load rfl h103 (run_load1 Try.underlying25 rfl (((((((c12.ext hE1).ext hE2).ext hE3).ext hE4).ext hE5).ext sE).cell (by rw [S8.list_length]; omega))) ⟨Ext.refl _, rfl⟩
                · refine stepE rfl fun sdn sa sw sE sd sk => ?_
                  have h7 : sa.eval (.tmp 7) = .pointer (some ⟨w.heap.size + 1 + 1, 0, none⟩) := sk.old 7 rfl
                  exact Runs.idx rfl h7 rfl (run_idx_arr1 Try.underlying118 inf118_eq inf118_size (5) (by omega) (by omega)) ⟨Ext.refl _, rfl⟩
                · refine stepE rfl fun sdn sa sw sE sd sk => ?_
                  have h105 : sa.eval (.tmp 105) = .pointer (some ⟨w.heap.size + 1 + 1, 5, none⟩) := sk.fact 17 105 rfl (sd 17 rfl)
                  exact Runs.load rfl h105 (run_load1 Try.underlying25 rfl (((((((c12.ext hE1).ext hE2).ext hE3).ext hE4).ext hE5).ext sE).cell (by rw [S8.list_length]; omega))) ⟨Ext.refl _, rfl⟩
                · refine stepE rfl fun sdn sa sw sE sd sk => ?_
                  have h7 : sa.eval (.tmp 7) = .pointer (some ⟨w.heap.size + 1 + 1, 0, none⟩) := sk.old 7 rfl
                  exact Runs.idx rfl h7 rfl (run_idx_arr1 Try.underlying118 inf118_eq inf118_size (6) (by omega) (by omega)) ⟨Ext.refl _, rfl⟩
                · refine stepE rfl fun sdn sa sw sE sd sk => ?_
                  have h107 : sa.eval (.tmp 107) = .pointer (some ⟨w.heap.size + 1 + 1, 6, none⟩) := sk.fact 19 107 rfl (sd 19 rfl)
                  exact Runs.load rfl h107 (run_load1 Try.underlying25 rfl (((((((c12.ext hE1).ext hE2).ext hE3).ext hE4).ext hE5).ext sE).cell (by rw [S8.list_length]; omega))) ⟨Ext.refl _, rfl⟩
                ·
                  intro vals W10 hE6 hv6
                  have e0 : vals 0 = .int .u32 (u32i (roundT s (uw shaK k) (uw (fillW L 64) k))) := hv6 0 (by omega) 88 rfl
                  have e1 : vals 1 = .int .u32 (u32i (bigS0 (s).a)) := hv6 1 (by omega) 89 rfl
                  have e2 : vals 2 = .int .u32 (u32i ((roundT s (uw shaK k) (uw (fillW L 64) k)) + (bigS0 (s).a))) := hv6 2 (by omega) 90 rfl
                  have e3 : vals 3 = .int .u32 (u32i (majF (s).a (s).b (s).c)) := hv6 3 (by omega) 91 rfl
                  have e4 : vals 4 = .int .u32 (u32i (((roundT s (uw shaK k) (uw (fillW L 64) k)) + (bigS0 (s).a)) + (majF (s).a (s).b (s).c))) := hv6 4 (by omega) 92 rfl
                  have e5 : vals 5 = .pointer (some ⟨w.heap.size + 1 + 1, 0, none⟩) := hv6 5 (by omega) 93 rfl
                  have e6 : vals 6 = .int .u32 (u32i (s).a) := hv6 6 (by omega) 94 rfl
                  have e7 : vals 7 = .pointer (some ⟨w.heap.size + 1 + 1, 1, none⟩) := hv6 7 (by omega) 95 rfl
                  have e8 : vals 8 = .int .u32 (u32i (s).b) := hv6 8 (by omega) 96 rfl
                  have e9 : vals 9 = .pointer (some ⟨w.heap.size + 1 + 1, 2, none⟩) := hv6 9 (by omega) 97 rfl
                  have e10 : vals 10 = .int .u32 (u32i (s).c) := hv6 10 (by omega) 98 rfl
                  have e11 : vals 11 = .pointer (some ⟨w.heap.size + 1 + 1, 3, none⟩) := hv6 11 (by omega) 99 rfl
                  have e12 : vals 12 = .int .u32 (u32i (s).d) := hv6 12 (by omega) 100 rfl
                  have e13 : vals 13 = .int .u32 (u32i (roundT s (uw shaK k) (uw (fillW L 64) k))) := hv6 13 (by omega) 101 rfl
                  have e14 : vals 14 = .int .u32 (u32i ((s).d + (roundT s (uw shaK k) (uw (fillW L 64) k)))) := hv6 14 (by omega) 102 rfl
                  have e15 : vals 15 = .pointer (some ⟨w.heap.size + 1 + 1, 4, none⟩) := hv6 15 (by omega) 103 rfl
                  have e16 : vals 16 = .int .u32 (u32i (s).e) := hv6 16 (by omega) 104 rfl
                  have e17 : vals 17 = .pointer (some ⟨w.heap.size + 1 + 1, 5, none⟩) := hv6 17 (by omega) 105 rfl
                  have e18 : vals 18 = .int .u32 (u32i (s).f) := hv6 18 (by omega) 106 rfl
                  have e19 : vals 19 = .pointer (some ⟨w.heap.size + 1 + 1, 6, none⟩) := hv6 19 (by omega) 107 rfl
                  have e20 : vals 20 = .int .u32 (u32i (s).g) := hv6 20 (by omega) 108 rfl
                  simp only [putAll, Act.put, List.take_succ_cons, List.take_zero, List.drop_succ_cons, List.drop_zero, List.drop_nil, List.take_nil, Nat.reduceAdd, List.setIfInBounds_toArray, List.set_cons_succ, List.set_cons_zero, e0, e1, e2, e3, e4, e5, e6, e7, e8, e9, e10, e11, e12, e13, e14, e15, e16, e17, e18, e19, e20]
                  clear hv6 e0 e1 e2 e3 e4 e5 e6 e7 e8 e9 e10 e11 e12 e13 e14 e15 e16 e17 e18 e19 e20
                  have hEE := ((((hE1.trans hE2).trans hE3).trans hE4).trans hE5).trans hE6
                  go_wp2_with (refine strow_law (l' := (roundS s (uw shaK k) (uw (fillW L 64) k)).list) rfl rfl rfl (by rw [roundS_at]; rfl) (c12.ext hEE) row8_eq (row8_size.trans (S8.list_length _).symm) ((S8.list_length _).trans (S8.list_length _).symm) ?_; intro W11 s7 g7 z7)
                  go_roundw
                  case rel =>
                    refine ⟨k + 1, by omega, by go_num, (c3.ext hEE).grown g7 (by simp; omega), (c6.ext hEE).grown g7 (by simp), ?_, (hEr.trans hEE).then_grown g7 (by intro j hj; cases hj; omega)⟩
                    simp only [roundsS, ← Hs.out]
                    exact s7
                  case measure => simp [intOf]; omega
    · obtain rfl : k = 64 := by omega
      clear hlt hk64
      obtain ⟨t, ht⟩ : ∃ s, s = roundsS (S8.of h) (fillW L 64) 64 := ⟨_, rfl⟩
      rw [← ht] at c12
      have Ht := Lib.hid ht
      clear ht
      go_wp2_with fail
      go_loopw [111] (fun i wr => ∃ k : Nat, k ≤ 8 ∧ i = .int .i64 k ∧ Arr wr w.heap.size 118 (addTo h t.list k) ∧ Arr wr (w.heap.size + 1) 118 (List.replicate 8 0) ∧ Arr wr (w.heap.size + 1 + 1) 118 t.list ∧ Ext w wr) (fun i _ => 8 - (intOf i).toNat)
      case atStart => exact ⟨0, by omega, rfl, c3, c6, c12, hEr⟩
      case round =>
        clear c3 c6 c12 hEr
        obtain ⟨k, hk8, rfl, c3, c6, c12, hEr⟩ := hrel
        by_cases hlt : k < 8
        · go_upto_region 15 with (fail)
          refine par_ext (n := 7) (by kernel_rfl) [.is (.int .i64 ((k : Int))), .is (.pointer (some ⟨w.heap.size, k, none⟩)), .is (.int .u32 (u32i (uw (addTo h t.list k) k))), .is (.int .i64 ((k : Int))), .is (.pointer (some ⟨w.heap.size + 1 + 1, k, none⟩)), .is (.int .u32 (u32i (uw (t).list k))), .is (.int .u32 (u32i ((uw (addTo h t.list k) k) + (uw (t).list k))))] rfl ⟨?_, ?_, ?_, ?_, ?_, ?_, ?_, trivial⟩ ?_
          · refine stepE rfl fun sdn sa sw sE sd sk => ?_
            have h15 : sa.eval (.tmp 15) = .int .i64 ((k : Int)) := sk.old 15 rfl
            exact Runs.move rfl h15 ⟨Ext.refl _, rfl⟩
          · refine stepE rfl fun sdn sa sw sE sd sk => ?_
            have h3 : sa.eval (.tmp 3) = .pointer (some ⟨w.heap.size, 0, none⟩) := sk.old 3 rfl
            have h114 : sa.eval (.tmp 114) = .int .i64 ((k : Int)) := sk.fact 0 114 rfl (sd 0 rfl)
            exact Runs.idx rfl h3 h114 (run_idx_arr1 Try.underlying118 inf118_eq inf118_size (k) (by omega) (by omega)) ⟨Ext.refl _, rfl⟩
          · refine stepE rfl fun sdn sa sw sE sd sk => ?_
            have h115 : sa.eval (.tmp 115) = .pointer (some ⟨w.heap.size, k, none⟩) := sk.fact 1 115 rfl (sd 1 rfl)
            exact Runs.load rfl h115 (run_load1 Try.underlying25 rfl ((c3.ext sE).cell (by rw [addTo_length, Hh.out]; omega))) ⟨Ext.refl _, rfl⟩
          · refine stepE rfl fun sdn sa sw sE sd sk => ?_
            have h15 : sa.eval (.tmp 15) = .int .i64 ((k : Int)) := sk.old 15 rfl
            exact Runs.move rfl h15 ⟨Ext.refl _, rfl⟩
          · refine stepE rfl fun sdn sa sw sE sd sk => ?_
            have h7 : sa.eval (.tmp 7) = .pointer (some ⟨w.heap.size + 1 + 1, 0, none⟩) := sk.old 7 rfl
            have h117 : sa.eval (.tmp 117) = .int .i64 ((k : Int)) := sk.fact 3 117 rfl (sd 3 rfl)
            exact Runs.idx rfl h7 h117 (run_idx_arr1 Try.underlying118 inf118_eq inf118_size (k) (by omega) (by omega)) ⟨Ext.refl _, rfl⟩
          · refine stepE rfl fun sdn sa sw sE sd sk => ?_
            have h118 : sa.eval (.tmp 118) = .pointer (some ⟨w.heap.size + 1 + 1, k, none⟩) := sk.fact 4 118 rfl (sd 4 rfl)
            exact Runs.load rfl h118 (run_load1 Try.underlying25 rfl ((c12.ext sE).cell (by rw [S8.list_length]; omega))) ⟨Ext.refl _, rfl⟩
          · refine stepE rfl fun sdn sa sw sE sd sk => ?_
            have h116 : sa.eval (.tmp 116) = .int .u32 (u32i (uw (addTo h t.list k) k)) := sk.fact 2 116 rfl (sd 2 rfl)
            have h119 : sa.eval (.tmp 119) = .int .u32 (u32i (uw (t).list k)) := sk.fact 5 119 rfl (sd 5 rfl)
            exact Runs.bin rfl h116 h119 (eqGuard_bin rfl) (bin_add32 _ _ _) ⟨Ext.refl _, rfl⟩
          ·
            intro vals W1 hE1 hv1
            have e0 : vals 0 = .int .i64 ((k : Int)) := hv1 0 (by omega) 114 rfl
            have e1 : vals 1 = .pointer (some ⟨w.heap.size, k, none⟩) := hv1 1 (by omega) 115 rfl
            have e2 : vals 2 = .int .u32 (u32i (uw (addTo h t.list k) k)) := hv1 2 (by omega) 116 rfl
            have e3 : vals 3 = .int .i64 ((k : Int)) := hv1 3 (by omega) 117 rfl
            have e4 : vals 4 = .pointer (some ⟨w.heap.size + 1 + 1, k, none⟩) := hv1 4 (by omega) 118 rfl
            have e5 : vals 5 = .int .u32 (u32i (uw (t).list k)) := hv1 5 (by omega) 119 rfl
            have e6 : vals 6 = .int .u32 (u32i ((uw (addTo h t.list k) k) + (uw (t).list k))) := hv1 6 (by omega) 120 rfl
            simp only [putAll, Act.put, List.take_succ_cons, List.take_zero, List.drop_succ_cons, List.drop_zero, List.drop_nil, List.take_nil, Nat.reduceAdd, List.setIfInBounds_toArray, List.set_cons_succ, List.set_cons_zero, e0, e1, e2, e3, e4, e5, e6]
            clear hv1 e0 e1 e2 e3 e4 e5 e6
            have y1 := (c3.ext hE1).cell (i := k) (by rw [addTo_length, Hh.out]; omega)
            have y2 := (c3.ext hE1).frozen k
            go_wp2_with fail
            go_roundw
            case rel =>
              refine ⟨k + 1, by omega, by go_num, ?_, (c6.ext hE1).far (by dsimp only; omega) _, (c12.ext hE1).far (by dsimp only; omega) _, (hEr.trans hE1).set (by dsimp only; omega) _⟩
              have y3 := (c3.ext hE1).set k (uw (addTo h t.list k) k + uw t.list k)
              simp only [addTo]
              exact y3
            case measure => simp [intOf]; omega
        · obtain rfl : k = 8 := by omega
          clear hlt hk8
          go_upto_region 17 with (fail)
          refine wp_region_lit ?_
          refine ldrow_law rfl rfl rfl c3 Try.underlying118 row8_map ((addTo_length _ _ _).trans Hh.out) ?_
          go_wp2_with (refine strow_law (l' := addTo h t.list 8) rfl rfl rfl rfl c6 row8_eq (row8_size.trans ((addTo_length _ _ _).trans Hh.out).symm) ((addTo_length _ _ _).trans Hh.out) ?_; intro W12 s8 g8 z8)
          refine bodyPost_ret (v := .agg (uv (compress h L))) ?_ rfl ⟨rfl, hEr.then_grown g8 (by intro j hj; cases hj; omega)⟩
          have e : compress h L = addTo h t.list 8 := by rw [Ht.out]; rfl
          rw [e]
          exact results_cell_row (fn := Try.f117) (p := 6) (ty := 118) rfl _ W12 (w.heap.size + 1) 118 (uv (addTo h t.list 8)) (0, 0) _ rfl s8 Try.underlying118 rfl (by rw [row8_map, uv_size, addTo_length, Hh.out])
end Go.Proofs.Ytmgnigofilkfmab
namespace Go.Proofs.Ytmgnigofilkfmab
set_option maxRecDepth 100000
open Go Go.RowKit Go.Shelf
attribute [local go_sem] Oper.semAt_some
set_option maxHeartbeats 1000000 in
theorem chunk_any (A : Option Addr) (n c : Nat) (w : World) :
    Calls Try.prog 116 #[.slice A n c, .int .i64 64] w fun e w' => e = .returned (.func (.func 120) #[] #[.pointer (some ⟨w.heap.size, 0, none⟩), .pointer (some ⟨w.heap.size + 1, 0, none⟩)]) ∧
      Blk w' w.heap.size 22 #[.slice A n c] ∧ Blk w' (w.heap.size + 1) 3 #[.int .i64 64] ∧ Ext w w' := by
  have E1 := Ext.new w (.cells #[.slice A n c] 22)
  have B1 := Blk.new w 22 #[.slice A n c]
  have E2 := Ext.new (w.alloc (.cells #[.slice A n c] 22)) (.cells #[.int .i64 64] 3)
  have B2 := Blk.new (w.alloc (.cells #[.slice A n c] 22)) 3 #[.int .i64 64]
  rw [World.size_alloc] at B2
  have H := Lib.hid (And.intro (B1.ext E2) (And.intro B2 (E1.trans E2)))
  clear E1 B1 E2 B2
  go_enter Try.func116, Try.ntmps116
  go_wp2_with fail
  go_ret
  exact ⟨rfl, H.out⟩
def encC (ad : Addr) (m : Nat) (i : Fin m) : Array Value := #[.slice (some (ad.add (64 * i.val))) 64 64]
/-- what a round keeps: the two boxes -/
def KeepC (b1 b2 m c : Nat) (ad : Addr) (W W' : World) : Prop :=
  (Blk W b1 22 #[.slice (some ad) (64 * m) c] → Blk W' b1 22 #[.slice (some ad) (64 * m) c]) ∧ (Blk W b2 3 #[.int .i64 64] → Blk W' b2 3 #[.int .i64 64])
set_option maxHeartbeats 2000000 in
theorem chunk_stops (nn b1 b2 m c : Nat) (ad : Addr) (w : World) (h1 : Blk w b1 22 #[.slice (some ad) (64 * m) c]) (h2 : Blk w b2 3 #[.int .i64 64]) (hc : 64 * m ≤ c) (hm : 64 * m ≤ 140737488355328) :
    SeqStopsK Fence.wide nn Try.prog 120 #[.pointer (some ⟨b1, 0, none⟩), .pointer (some ⟨b2, 0, none⟩)] (encC ad m) (KeepC b1 b2 m c ad) (fun xs => xs.map Fin.val = List.range m) (fun _ => True) m w := fun l J Jx W hW hJ _ hY h0 => by
  have B1 := h1.ext hW
  have B2 := h2.ext hW
  clear h1 h2
  refine callsIn_of_wp Try.func120 rfl trivial ?_ rfl
  simp only [Try.ntmps120, List.size_toArray, List.length_cons, List.length_nil, Nat.reduceAdd, Nat.reduceSub, Array.replicate_succ, Array.replicate_zero, List.push_toArray, List.append_toArray, List.nil_append, List.cons_append]
  gi_wp2
  gi_loopw [4] (fun i wr => ∃ (k : Nat) (pre : List (Fin m)), k ≤ m ∧ i = .int .i64 ((64 * k : Nat) : Int) ∧ pre.map Fin.val = List.range k ∧ J pre wr ∧ Blk wr b1 22 #[.slice (some ad) (64 * m) c] ∧ Blk wr b2 3 #[.int .i64 64])
    (fun i _ => 64 * m - (intOf i).toNat)
  case atStart => exact ⟨0, [], Nat.zero_le _, rfl, rfl, h0, B1, B2⟩
  case round =>
    clear B1 B2
    obtain ⟨k, pre, hk, rfl, hpre, hJs, B1, B2⟩ := hrel
    have y1 := B1.cell (i := 0) rfl
    have y2 := B2.cell (i := 0) rfl
    by_cases hlt : k < m
    · gi_wp2
      refine wpIn_wide.2 ?_
      refine par_ext (n := 7) (by kernel_rfl) [.is (.int .i64 ((64 : Int))), .is (.slice (some ad) (64 * m) (c)), .is (.int .i64 (((64 * k : Nat) : Int))), .is (.slice (if c = 64 * k then some ad else (some ad).map (·.add (64 * k * 1))) (64 * m - 64 * k) (c - 64 * k)), .is (.int .i64 ((64 * m - 64 * k : Nat))), .is (.int .i64 ((64 : Int))), .is (.int .i64 ((64 : Int)))] rfl ⟨?_, ?_, ?_, ?_, ?_, ?_, ?_, trivial⟩ ?_
      · refine stepE rfl fun sdn sa sw sE sd sk => ?_
        have h2 : sa.eval (.tmp 2) = .pointer (some ⟨b2, 0, none⟩) := sk.old 2 rfl
        exact Runs.load rfl h2 (run_load1 Try.underlying3 rfl ((B2.ext sE).cell (i := 0) rfl)) ⟨Ext.refl _, rfl⟩
      · refine stepE rfl fun sdn sa sw sE sd sk => ?_
        have h1 : sa.eval (.tmp 1) = .pointer (some ⟨b1, 0, none⟩) := sk.old 1 rfl
        exact Runs.load rfl h1 (run_load1 Try.underlying22 rfl ((B1.ext sE).cell (i := 0) rfl)) ⟨Ext.refl _, rfl⟩
      · refine stepE rfl fun sdn sa sw sE sd sk => ?_
        have h4 : sa.eval (.tmp 4) = .int .i64 (((64 * k : Nat) : Int)) := sk.old 4 rfl
        exact Runs.move rfl h4 ⟨Ext.refl _, rfl⟩
      · refine stepE rfl fun sdn sa sw sE sd sk => ?_
        have h14 : sa.eval (.tmp 14) = .slice (some ad) (64 * m) (c) := sk.fact 1 14 rfl (sd 1 rfl)
        have h15 : sa.eval (.tmp 15) = .int .i64 (((64 * k : Nat) : Int)) := sk.fact 2 15 rfl (sd 2 rfl)
        exact Runs.slice rfl h14 (by simp only [Option.map_some, Option.map_none, h15]; exact run_cut_l Try.underlying22 inf22_eq inf22_size (64 * k) (by first | rfl | omega) (by omega)) ⟨Ext.refl _, rfl⟩
      · refine stepE rfl fun sdn sa sw sE sd sk => ?_
        have h16 : sa.eval (.tmp 16) = .slice (if c = 64 * k then some ad else (some ad).map (·.add (64 * k * 1))) (64 * m - 64 * k) (c - 64 * k) := sk.fact 3 16 rfl (sd 3 rfl)
        exact Runs.len Try.underlying22 rfl h16 ⟨Ext.refl _, rfl⟩
      · refine stepE rfl fun sdn sa sw sE sd sk => ?_
        have h13 : sa.eval (.tmp 13) = .int .i64 ((64 : Int)) := sk.fact 0 13 rfl (sd 0 rfl)
        have h17 : sa.eval (.tmp 17) = .int .i64 ((64 * m - 64 * k : Nat)) := sk.fact 4 17 rfl (sd 4 rfl)
        have hmin : min (64 : Int) (((64 * m - 64 * k : Nat) : Nat) : Int) = 64 := by omega
        refine Runs.of_run (r := .int .i64 64) (w' := sw) ?_ ⟨Ext.refl _, rfl⟩
        unfold execOp
        simp only [resolve, invoke, builtin, List.map_toArray, List.map_cons, List.map_nil, h13, h17]
        go_simp
        all_goals (intro h; omega)
      · refine stepE rfl fun sdn sa sw sE sd sk => ?_
        have h18 : sa.eval (.tmp 18) = .int .i64 ((64 : Int)) := sk.fact 5 18 rfl (sd 5 rfl)
        exact Runs.assign rfl h18 ⟨Ext.refl _, rfl⟩
      intro vals W1 hE hv
      have e0 : vals 0 = .int .i64 ((64 : Int)) := hv 0 (by omega) 13 rfl
      have e1 : vals 1 = .slice (some ad) (64 * m) (c) := hv 1 (by omega) 14 rfl
      have e2 : vals 2 = .int .i64 (((64 * k : Nat) : Int)) := hv 2 (by omega) 15 rfl
      have e3 : vals 3 = .slice (if c = 64 * k then some ad else (some ad).map (·.add (64 * k * 1))) (64 * m - 64 * k) (c - 64 * k) := hv 3 (by omega) 16 rfl
      have e4 : vals 4 = .int .i64 ((64 * m - 64 * k : Nat)) := hv 4 (by omega) 17 rfl
      have e5 : vals 5 = .int .i64 ((64 : Int)) := hv 5 (by omega) 18 rfl
      have e6 : vals 6 = .int .i64 ((64 : Int)) := hv 6 (by omega) 5 rfl
      simp only [putAll, Act.put, List.take_succ_cons, List.take_zero, List.drop_succ_cons, List.drop_zero, List.drop_nil, List.take_nil, Nat.reduceAdd, List.setIfInBounds_toArray, List.set_cons_succ, List.set_cons_zero, e0, e1, e2, e3, e4, e5, e6]
      clear hv e0 e1 e2 e3 e4 e5 e6
      unfold wpList
      have hck : ¬ c = 64 * k := by omega
      have hJ1 := hJ pre wr W1 none hJs (hE.grownBy _) (by intro r h; cases h)
      have D1 := B1.ext hE
      have D2 := B2.ext hE
      have y1 := D1.cell (i := 0) rfl
      have y2 := D2.cell (i := 0) rfl
      obtain ⟨fn, tmps, assign, body, hy, hR⟩ := hY pre ⟨k, hlt⟩ W1 hJ1 (by rw [← List.length_map (f := Fin.val), hpre, List.length_range]; exact hlt)
      unfold encC at hy
      dsimp only at hy
      gi_wp2
      refine ⟨fun h => (by cases h), ?_⟩
      refine hR.mono ?_
      rintro e W3 (⟨rfl, hJ3, hk3⟩ | ⟨rfl, hJx3⟩)
      · have E1 := hk3.1 D1
        have E2 := hk3.2 D2
        have y1 := E1.cell (i := 0) rfl
        have y2 := E2.cell (i := 0) rfl
        gi_wp2
        go_roundw
        case rel => exact ⟨k + 1, pre ++ [⟨k, hlt⟩], by omega, by go_num, by rw [List.map_append, hpre, List.range_succ]; rfl, hJ3, E1, E2⟩
        case measure => simp [intOf]; omega
      · gi_wp2
        refine bodyPost_ret (results_none rfl _ _ _) rfl ?_
        exact ⟨⟨_, rfl⟩, .inr ⟨_, trivial, hJx3⟩⟩
    · obtain rfl : k = m := by omega
      gi_wp2
      go_end0
      exact ⟨⟨_, rfl⟩, .inl ⟨pre, hpre, hJs⟩⟩
end Go.Proofs.Ytmgnigofilkfmab
namespace Go.Proofs.Ytmgnigofilkfmab
set_option maxRecDepth 100000
open Go Go.RowKit Go.Shelf
attribute [local go_sem] Oper.semAt_some
theorem run_lawIn {F : Fence} {n : Nat} {P : Program} {ops : Array Oper} {rest : List Oper} {o : Oper} {a : Act} {Q : Exit → Act → World → Prop} {w w' : World} {v : Value} (hgd : o.guard = none) (hF : ∀ f, F.fn f) (hd : ∀ c, o.op ≠ .defer c) (hr : (execOp a.eval o).run P w = .ok (.value v) w') (h : wpListIn F n P ops Q rest (a.put o.dst v) w') : wpListIn F n P ops Q (o :: rest) a w := by
  refine wpListIn_plain hgd fun K hK => ?_
  unfold Oper.wpIn
  refine ⟨fun f _ => hF f, ?_⟩
  rw [Oper.semAt_plain F _ _ hd, hr]
  exact hK _ _ h
/-- the state behind the parts that have come -/
def foldC {m : Nat} (M : List UInt8) (h : List UInt32) (pre : List (Fin m)) : List UInt32 := pre.foldl (fun h i => compress h ((M.drop (64 * i.val)).take 64)) h
theorem foldC_length {m : Nat} (M : List UInt8) (pre : List (Fin m)) : ∀ h, (foldC M h pre).length = h.length := by
  induction pre with
  | nil => intro h; rfl
  | cons i pre ih => intro h; show (foldC M _ pre).length = _; rw [ih, compress_length]
theorem foldC_snoc {m : Nat} (M : List UInt8) (h : List UInt32) (pre : List (Fin m)) (i : Fin m) : foldC M h (pre ++ [i]) = compress (foldC M h pre) ((M.drop (64 * i.val)).take 64) := by
  unfold foldC
  rw [List.foldl_append]
  rfl
theorem foldC_all {m : Nat} (M : List UInt8) (h : List UInt32) (xs : List (Fin m)) (hx : xs.map Fin.val = List.range m) : foldC M h xs = blocks h M m := by
  have e1 : foldC M h xs = (xs.map Fin.val).foldl (fun h i => compress h ((M.drop (64 * i)).take 64)) h := by
    unfold foldC
    rw [List.foldl_map]
  rw [e1, hx]
  clear e1 hx xs
  induction m with
  | zero => rfl
  | succ k ih => rw [List.range_succ, List.foldl_append, ih, blocks_succ]; rfl
theorem nameA {P : Program} {c : Code} {Q : Exit → Act → World → Prop} {a : Act} {w : World} (h : ∀ a0, a0 = a → c.wp P Q a0 w) : c.wp P Q a w := h a rfl
theorem ldrow_lawIn {F : Fence} {k : Nat} {P : Program} {ops : Array Oper} {rest : List Oper} {o : Oper} {a : Act} {Q : Exit → Act → World → Prop} {w : World} {t : TypeId} {x : Operand} {g : Nat} {e : TypeId} {l : List UInt32} {N : Nat} {el : TypeId} (hgd : o.guard = none) (hF : ∀ f, F.fn f) (ho : o.op = .load t x) (hx : a.eval x = .pointer (some ⟨g, 0, none⟩)) (hg : Arr w g e l)
    (hu : P.underlying t = some (.array N el)) (hi : (P.info? t).map (·.size) = some N) (hl : l.length = N) (h : wpListIn F k P ops Q rest (a.put o.dst (.agg (uv l))) w) : wpListIn F k P ops Q (o :: rest) a w := by
  refine run_lawIn hgd hF (by rw [ho]; intro c e; cases e) (v := .agg (uv l)) (w' := w) ?_ h
  unfold execOp
  simp only [ho, hx, Sem.run_bind, run_ldrow hg hu hi hl, Result.andThen_ok, Sem.run_pure]
theorem strow_lawIn {F : Fence} {k : Nat} {P : Program} {ops : Array Oper} {rest : List Oper} {o : Oper} {a : Act} {Q : Exit → Act → World → Prop} {w : World} {t : TypeId} {x y : Operand} {g : Nat} {e : TypeId} {l l' : List UInt32} {i0 : TypeInfo} (hgd : o.guard = none) (hF : ∀ f, F.fn f) (ho : o.op = .store t x y) (hx : a.eval x = .pointer (some ⟨g, 0, none⟩)) (hy : a.eval y = .agg (uv l')) (hg : Arr w g e l)
    (hi : P.info? t = some i0) (hs : i0.size = l'.length) (hl : l'.length = l.length)
    (h : ∀ w', Arr w' g e l' → w.grownBy w' (some g) → w'.heap.size = w.heap.size → wpListIn F k P ops Q rest (a.put o.dst undef) w') : wpListIn F k P ops Q (o :: rest) a w := by
  obtain ⟨w', hr, h1, h2, h3⟩ := run_store_row (P := P) (w := w) (t := t) hi hg (cs := uv l') (by rw [uv_size, uv_size, hl]) (by rw [uv_size, hs]) (uv_one l')
  refine wpListIn_plain hgd fun K hK => ?_
  unfold Oper.wpIn
  refine ⟨fun f _ => hF f, ?_⟩
  rw [Oper.semAt_plain F _ _ (by rw [ho]; intro c e; cases e)]
  unfold execOp
  simp only [ho, hx, hy, Sem.run_bind, hr, Result.andThen_ok, Sem.run_pure]
  exact hK _ _ (h w' h1 h2 h3)
/-- what holds between two rounds -/
def InvC (w : World) (gk mm c' : Nat) (ad : Addr) (M : List UInt8) (pre : List (Fin mm)) (W : World) : Prop :=
  Arr W w.heap.size 118 (foldC M shaH pre) ∧ Arr W gk 119 shaK ∧ RB W (some ad) (64 * mm) c' M ∧ Ext w W
theorem InvC.own {w : World} {gk mm c' : Nat} {ad : Addr} {M : List UInt8} {B : Nat} (h1 : w.heap.size < B) (h2 : gk < B) (h3 : ad.block < B) : OwnFrom B (InvC w gk mm c' ad M) := by
  intro s W W' row hs hg hr
  have key : ∀ k, k < B → some k ≠ row := fun k hk e => by
    have := (hr k e.symm).1
    omega
  exact ⟨hs.1.grown hg (key _ h1), hs.2.1.grown hg (key _ h2), hs.2.2.1.grown hg (fun _ => key _ h3), hs.2.2.2.then_grown hg (fun k e => Nat.le_trans (Nat.le_of_lt h1) (hr k e).1)⟩
theorem make0_law {ops : Array Oper} {rest : List Oper} {o : Oper} {a : Act} {Q : Exit → Act → World → Prop} {w : World} (hgd : o.guard = none) {x y : Operand} {k : Nat} (ho : o.op = .makeSlice 22 x y) (hx : a.eval x = .int .i64 0) (hy : a.eval y = .int .i64 (k : Int)) (hk : k ≤ 1000000)
    (h : ∀ w', OB w' w.heap.size (some ⟨w.heap.size, 0, none⟩) 0 k [] → Ext w w' → wpList Try.prog ops Q rest (a.put o.dst (.slice (some ⟨w.heap.size, 0, none⟩) 0 k)) w') : wpList Try.prog ops Q (o :: rest) a w := by
  obtain ⟨i0, hi0, hz0, hz1, hz2⟩ := info_parts info_u8
  obtain ⟨w', hr, h1, h2⟩ := run_make_own (P := Try.prog) w w.heap.size 22 5 i0 (.int .u8 0) 1 Try.underlying22 hi0 hz0 hz1 .i64 .i64 k (by rw [hz2]; omega) (small_maxLen hk) (Nat.le_refl _)
  refine run_law hgd (v := .slice (some ⟨w.heap.size, 0, none⟩) 0 k) (w' := w') ?_ (h w' h1 (Ext.grown h2))
  unfold execOp
  simp only [ho, hx, hy, Sem.run_bind, hr, Result.andThen_ok, Sem.run_pure]
theorem OB.block_lt {w : World} {base n c : Nat} {ad : Addr} {L : List UInt8} (h : OB w base (some ad) n c L) : ad.block < w.heap.size := (h.lt rfl).2
set_option maxHeartbeats 4000000 in
theorem hsum_any (A : Option Addr) (n c : Nat) (L : List UInt8) (w : World) (hr : RB w A n c L) (hn : n ≤ 140737488355200) :
    Calls Try.prog 105 #[.slice A n c] w fun e w' => ∃ A' c', e = .returned (.slice A' 32 c') ∧ OB w' w.heap.size A' 32 c' (sha L) ∧ Ext w w' := by
  have hln := hr.len
  have Hn := Lib.hid hln
  clear hln
  refine (callsIn_wide (n := 3)).1 ?_
  refine callsIn_of_wp_marks Try.func105 rfl trivial ?_ rfl
  refine wpIn_wide.2 ?_
  simp only [Try.ntmps105, List.size_toArray, List.length_cons, List.length_nil, Nat.reduceAdd, Nat.reduceSub, Array.replicate_succ, Array.replicate_zero, List.push_toArray, List.append_toArray, List.nil_append, List.cons_append]
  go_upto_region 1 with (fail)
  refine wp_region_lit ?_
  refine pure_law (v := .agg (uv shaH)) rfl (by kernel_rfl) ?_
  go_wp2_with (refine strow_law (l' := shaH) rfl rfl rfl rfl (Arr.new w 118 (List.replicate 8 0)) row8_eq row8_size rfl ?_; intro W1 b3 g1 z1)
  have hE1 : Ext w W1 := (Ext.new w _).then_grown g1 (by intro k hk; cases hk; exact Nat.le_refl _)
  clear g1 z1
  refine (keys_any W1).mono ?_
  rintro e W2 ⟨rfl, hE2⟩
  go_wp2_with (refine strow_law (l' := shaK) rfl rfl rfl rfl (Arr.new W2 119 (List.replicate 64 0)) row64_eq (row64_size.trans shaK_length.symm) (shaK_length.trans List.length_replicate.symm) ?_; intro W3 bk g3 z3)
  have hE3 : Ext W2 W3 := (Ext.new W2 _).then_grown g3 (by intro k hk; cases hk; exact Nat.le_refl _)
  have hlk : w.heap.size < W2.heap.size := Nat.lt_of_lt_of_le b3.lt hE2.size
  clear g3 z3
  have b3' := (b3.ext hE2).ext hE3
  have hE03 := (hE1.trans hE2).trans hE3
  clear b3 hE1 hE2 hE3
  generalize W2.heap.size = gk at *
  have hroom := hr.room
  have hcap := hr.cap
  unfold maxLen at hcap
  refine (clone_any A n c L W3 (hr.ext hE03) (by omega)).mono ?_
  rintro e W4 ⟨B, d, rfl, own0, hE4⟩
  have rd0 := RB.lit W4 [0x80] (n := 1) rfl (small_maxLen (by decide))
  go_wp2_with (refine app_own (N := n + 1) (LM := L ++ [0x80]) rfl rfl rfl rfl (hE4.alloc _) (own0.ext (Ext.new W4 _)) rd0 rfl rfl (by omega) ?_; intro A2 c2 W9 own2 hE9)
  clear own0 rd0 hE4
  have hp := padZeros_lt n
  go_loopw [5] (fun v wr => ∃ (z c' : Nat) (A' : Option Addr), z ≤ padZeros n ∧ v = .slice A' (n + 1 + z) c' ∧ OB wr W3.heap.size A' (n + 1 + z) c' (L ++ 0x80 :: List.replicate z 0) ∧ Ext W3 wr) (fun v _ => n + 1 + padZeros n - slLen v)
  case atStart => exact ⟨0, c2, A2, by omega, rfl, own2, hE9⟩
  case round =>
    obtain ⟨z, c', A', hz, rfl, own, hEz⟩ := hrel
    have hpz : (n + 1 + z) % 64 = 56 ↔ z = padZeros n := by
      unfold padZeros at *
      omega
    have Hpz := Lib.hid hpz
    clear hpz own2 hE9
    by_cases hlt : z = padZeros n
    · subst hlt
      have hb0 : ((((n : Int) + 1 + (padZeros n : Int)) % 64 != 56) = false) := by
        have h2 := Hpz.out.2 rfl
        rw [bne_eq_false_iff_eq]
        omega
      go_wp2_with fail
      clear hb0
      go_loopw [5, 6] (fun v i wr => ∃ (m c' : Nat) (A' : Option Addr), m ≤ 8 ∧ i = .int .i64 (7 - (m : Int)) ∧ v = .slice A' (n + 1 + padZeros n + m) c' ∧ OB wr W3.heap.size A' (n + 1 + padZeros n + m) c' (L ++ 0x80 :: (List.replicate (padZeros n) 0 ++ (be8 (n * 8)).take m)) ∧ Ext W3 wr) (fun _ i _ => (1 + intOf i).toNat)
      case atStart => exact ⟨0, c', A', by omega, rfl, rfl, by simpa using own, hEz⟩
      case round =>
        clear own hEz Hpz hz
        obtain ⟨m, c', A', hm, rfl, rfl, own, hEz⟩ := hrel
        by_cases hlt : m < 8
        · go_upto_region 9 with (fail)
          refine seq_ext (n := 9) (by kernel_rfl) [.is (.slice (A') (n + 1 + padZeros n + m) (c')), .is (.slice (A) (n) (c)), .is (.int .i64 ((n : Nat))), .is (.int .u64 ((n : Nat) : Int)), .is (.int .u64 ((n * 8 : Nat) : Int)), .is (.int .i64 (7 - (m : Int))), .is (.int .i64 ((8 : Int) * (7 - (m : Int)))), .is (.int .u64 ((n * 8 / 2 ^ (8 * (7 - m)) : Nat) : Int)), .is (.int .u8 (u8i (UInt8.ofNat (n * 8 / 2 ^ (8 * (7 - m))))))] rfl ⟨?_, ?_, ?_, ?_, ?_, ?_, ?_, ?_, ?_, trivial⟩ ?_
          · refine stepE rfl fun sdn sa sw sE sd sk => ?_
            have h5 : sa.eval (.tmp 5) = .slice (A') (n + 1 + padZeros n + m) (c') := sk.old 5 rfl
            exact Runs.move rfl h5 ⟨Ext.refl _, rfl⟩
          · refine stepE rfl fun sdn sa sw sE sd sk => ?_
            have h0 : sa.eval (.tmp 0) = .slice (A) (n) (c) := sk.old 0 rfl
            exact Runs.move rfl h0 ⟨Ext.refl _, rfl⟩
          · refine stepE rfl fun sdn sa sw sE sd sk => ?_
            have h29 : sa.eval (.tmp 29) = .slice (A) (n) (c) := sk.fact 1 29 rfl (sd 1 rfl)
            exact Runs.len Try.underlying22 rfl h29 ⟨Ext.refl _, rfl⟩
          · refine stepE rfl fun sdn sa sw sE sd sk => ?_
            have h30 : sa.eval (.tmp 30) = .int .i64 ((n : Nat)) := sk.fact 2 30 rfl (sd 2 rfl)
            exact Runs.conv rfl h30 (conv_i64_u64 Try.underlying3 Try.underlying123 _ n rfl (by omega)) ⟨Ext.refl _, rfl⟩
          · refine stepE rfl fun sdn sa sw sE sd sk => ?_
            have h31 : sa.eval (.tmp 31) = .int .u64 ((n : Nat) : Int) := sk.fact 3 31 rfl (sd 3 rfl)
            exact Runs.bin rfl h31 rfl (eqGuard_bin rfl) (bin_mulu64 _ _ _ (n * 8) (by omega) (by omega)) ⟨Ext.refl _, rfl⟩
          · refine stepE rfl fun sdn sa sw sE sd sk => ?_
            have h6 : sa.eval (.tmp 6) = .int .i64 (7 - (m : Int)) := sk.old 6 rfl
            exact Runs.move rfl h6 ⟨Ext.refl _, rfl⟩
          · refine stepE rfl fun sdn sa sw sE sd sk => ?_
            have h33 : sa.eval (.tmp 33) = .int .i64 (7 - (m : Int)) := sk.fact 5 33 rfl (sd 5 rfl)
            exact Runs.bin rfl rfl h33 (eqGuard_bin rfl) (bin_mul64 _ _ _ (by omega) (by omega)) ⟨Ext.refl _, rfl⟩
          · refine stepE rfl fun sdn sa sw sE sd sk => ?_
            have h32 : sa.eval (.tmp 32) = .int .u64 ((n * 8 : Nat) : Int) := sk.fact 4 32 rfl (sd 4 rfl)
            have h34 : sa.eval (.tmp 34) = .int .i64 ((8 : Int) * (7 - (m : Int))) := sk.fact 6 34 rfl (sd 6 rfl)
            exact Runs.bin rfl h32 (h34.trans (congrArg (Value.int .i64) (show (8 : Int) * (7 - (m : Int)) = ((8 * (7 - m) : Nat) : Int) by omega))) (eqGuard_bin rfl) (bin_shru64 _ _ (n * 8) (8 * (7 - m)) (by omega)) ⟨Ext.refl _, rfl⟩
          · refine stepE rfl fun sdn sa sw sE sd sk => ?_
            have h35 : sa.eval (.tmp 35) = .int .u64 ((n * 8 / 2 ^ (8 * (7 - m)) : Nat) : Int) := sk.fact 7 35 rfl (sd 7 rfl)
            exact Runs.conv rfl h35 (conv_u64_u8 Try.underlying123 Try.underlying5 _) ⟨Ext.refl _, rfl⟩
          intro vals W11 hE hv
          have e0 : vals 0 = .slice (A') (n + 1 + padZeros n + m) (c') := hv 0 (by omega) 28 rfl
          have e1 : vals 1 = .slice (A) (n) (c) := hv 1 (by omega) 29 rfl
          have e2 : vals 2 = .int .i64 ((n : Nat)) := hv 2 (by omega) 30 rfl
          have e3 : vals 3 = .int .u64 ((n : Nat) : Int) := hv 3 (by omega) 31 rfl
          have e4 : vals 4 = .int .u64 ((n * 8 : Nat) : Int) := hv 4 (by omega) 32 rfl
          have e5 : vals 5 = .int .i64 (7 - (m : Int)) := hv 5 (by omega) 33 rfl
          have e6 : vals 6 = .int .i64 ((8 : Int) * (7 - (m : Int))) := hv 6 (by omega) 34 rfl
          have e7 : vals 7 = .int .u64 ((n * 8 / 2 ^ (8 * (7 - m)) : Nat) : Int) := hv 7 (by omega) 35 rfl
          have e8 : vals 8 = .int .u8 (u8i (UInt8.ofNat (n * 8 / 2 ^ (8 * (7 - m))))) := hv 8 (by omega) 36 rfl
          simp only [putAll, Act.put, List.take_succ_cons, List.take_zero, List.drop_succ_cons, List.drop_zero, List.drop_nil, List.take_nil, Nat.reduceAdd, List.setIfInBounds_toArray, List.set_cons_succ, List.set_cons_zero, e0, e1, e2, e3, e4, e5, e6, e7, e8]
          clear hv e0 e1 e2 e3 e4 e5 e6 e7 e8
          have hEw := hEz.trans hE
          have rd1 := RB.lit W11 [UInt8.ofNat (n * 8 / 2 ^ (8 * (7 - m)))] (n := 1) rfl (small_maxLen (by decide))
          go_wp2_with (refine app_own (N := n + 1 + padZeros n + m + 1) (LM := L ++ 0x80 :: (List.replicate (padZeros n) 0 ++ (be8 (n * 8)).take (m + 1))) rfl rfl rfl rfl (hEw.alloc _) ((own.ext hE).ext (Ext.new W11 _)) rd1 rfl (by rw [be8_take _ _ hlt]; simp) (by omega) ?_; intro A3 c3 W12 own3 hE12)
          go_roundw
          case rel => exact ⟨m + 1, c3, A3, by omega, by go_num, by rw [Nat.add_assoc], own3.to_ (by omega) rfl, hE12⟩
          case measure => simp [intOf]; omega
        · obtain rfl : m = 8 := by omega
          have Hpad : Hid (L ++ 0x80 :: (List.replicate (padZeros n) 0 ++ (be8 (n * 8)).take 8) = padded L) := by
            show _ = _
            rw [List.take_of_length_le (by rw [be8_length]; omega), ← Hn.out]
            rfl
          obtain ⟨M, hM⟩ : ∃ M, M = padded L := ⟨_, rfl⟩
          rw [Hpad.out, ← hM] at own
          have hlen := own.len
          have HM := Lib.hid hM
          clear hM hlt hm Hpad
          obtain ⟨mm, hmm⟩ : ∃ mm, n + 1 + padZeros n + 8 = 64 * mm := ⟨(n + 1 + padZeros n + 8) / 64, by unfold padZeros; omega⟩
          have hmm1 : 1 ≤ mm := by omega
          have hmm2 : 64 * mm ≤ 140737488355328 := by omega
          rw [hmm] at own hlen ⊢
          have Hlen := Lib.hid hlen
          clear hmm hlen
          have c3 := b3'.ext hEz
          have ck := bk.ext hEz
          have hEr := hE03.trans hEz
          have rdM := own.rb
          obtain ⟨ad, rfl, _⟩ := rdM.cells (by omega)
          have hal := own.block_lt
          go_wp2_with fail
          refine (chunk_any (some ad) (64 * mm) c' wr).mono ?_
          rintro e W14 ⟨rfl, k1, k2, hE14⟩
          go_wp2_with fail
          refine nameA fun a0 ha0 => ?_
          have q1 := k1.lt
          have q2 := k2.lt
          have q3 : w.heap.size < W14.heap.size := Nat.lt_of_lt_of_le c3.lt hE14.size
          have q4 : gk < W14.heap.size := Nat.lt_of_lt_of_le ck.lt hE14.size
          have q5 : ad.block < W14.heap.size := Nat.lt_of_lt_of_le hal hE14.size
          have q6 := c3.lt
          have q7 := ck.lt
          refine (wpIn_wide (n := 5)).1 (wpIn_rangeFunc_ownF (n := 5) rfl (by decide) (gf := 120) (lb := #[.pointer (some ⟨wr.heap.size, 0, none⟩), .pointer (some ⟨wr.heap.size + 1, 0, none⟩)]) (by rw [ha0]; rfl) trivial ent120
            (chunk_stops (5 - 1) wr.heap.size (wr.heap.size + 1) mm c' ad W14 k1 k2 rdM.room (by omega)) (fun h k => ⟨fun x => k.1 (h.1 x), fun x => k.2 (h.2 x)⟩)
            (fun W l o o' hl h _ _ => ⟨fun x => x.grown (grownBy_putObj' W l o') (by intro e; injection e; omega), fun x => x.grown (grownBy_putObj' W l o') (by intro e; injection e; omega)⟩) (Below.refl _ _) (fun _ => rfl)
            (InvC w gk mm c' ad M) (fun _ _ _ => False) (InvC.own q3 q4 q5) (fun _ _ _ _ _ hs _ _ => hs) ⟨c3.ext hE14, ck.ext hE14, rdM.ext hE14, hEr.trans hE14⟩
            (fun x => { tmps := (a0.tmps.setIfInBounds 41 (.slice (some (ad.add (64 * x.val))) 64 64)).setIfInBounds 7 (.slice (some (ad.add (64 * x.val))) 64 64), defers := [] }) ?assign ?body ?done ?stop)
          case assign =>
            intro l x W K hK
            subst ha0
            unfold encC
            gi_wp2
            exact hK
          case body =>
            rintro l pre x W ⟨i1, i2, i3, i4⟩ _
            subst ha0
            have hx := x.isLt
            have hcell : ∀ j, j < 64 → W.cell? ((ad.add (64 * x.val)).add j) = some (.int .u8 (u8i (ub ((M.drop (64 * x.val)).take 64) j))) := by
              intro j hj
              obtain ⟨ad', e1, hc1⟩ := i3.cells (by omega)
              injection e1 with e1
              subst e1
              have h2 : 64 * x.val + j < 64 * mm := by
                have : (x.val + 1) * 64 ≤ mm * 64 := Nat.mul_le_mul_right 64 hx
                omega
              rw [Addr.add_add, hc1 _ h2, ub_take hj]
              simp [ub]
            have Hcell := Lib.hid hcell
            clear hcell
            have hdep : (1 : Nat) ≤ 5 - 1 - 1 := by decide
            simp only [List.setIfInBounds_toArray, List.set_cons_succ, List.set_cons_zero]
            have hcl : (compress (foldC M shaH pre) ((M.drop (64 * x.val)).take 64)).length = 8 := by rw [compress_length, foldC_length]; rfl
            have hfl : (foldC M shaH pre).length = 8 := by rw [foldC_length]; rfl
            have Hcl := Lib.hid hcl
            have Hfl := Lib.hid hfl
            clear hcl hfl
            gi_wp2_with (refine ldrow_lawIn rfl (fun _ => trivial) rfl rfl i1 Try.underlying118 row8_map Hfl.out ?_)
            refine ⟨trivial, (CallsIn.inRound l (callsIn_wide.2 (mix_any gk 64 (ad.add (64 * x.val)) (foldC M shaH pre) ((M.drop (64 * x.val)).take 64) W Hfl.out i2 Hcell.out (Nat.le_refl _) (small_maxLen (by decide))))).mono ?_⟩
            rintro e W15 ⟨rfl, hE15⟩
            gi_wp2_with (refine strow_lawIn (l' := compress (foldC M shaH pre) ((M.drop (64 * x.val)).take 64)) rfl (fun _ => trivial) rfl rfl rfl (i1.ext hE15) row8_eq (row8_size.trans Hcl.out.symm) (Hcl.out.trans Hfl.out.symm) ?_; intro W16 s16 g16 z16)
            have hK1 : KeepsOthers W W16 := (KeepsOthers.of_grownBy (hE15.grownBy none) (by intro j o e; cases e)).trans (KeepsOthers.of_grownBy g16 (fun j o e h => by
              injection e with e
              subst e
              have h2 : W15.heap[w.heap.size]? = some (.cells (uv (foldC M shaH pre)) 118 (0, 0)) := i1.ext hE15
              rw [h2] at h
              injection h with h
              subst h
              rfl))
            refine ⟨hK1, ⟨fun y => (y.ext hE15).grown g16 (by intro e; injection e; omega), fun y => (y.ext hE15).grown g16 (by intro e; injection e; omega)⟩, ?_, (i2.ext hE15).grown g16 (by intro e; injection e; omega), (i3.ext hE15).grown g16 ?_, (i4.trans hE15).then_grown g16 (by intro k hk; cases hk; exact Nat.le_refl _)⟩
            · rw [foldC_snoc]
              exact s16
            · intro _ e
              have h2 := (own.lt (k := ad.block) rfl).1
              have h3 : ad.block = w.heap.size := by injection e
              have h4 := b3'.lt
              omega
          case done =>
            rintro D ys W hD hys ⟨i1, i2, i3, i4⟩ hK
            subst ha0
            obtain ⟨hs, hhs⟩ : ∃ hs, hs = foldC M shaH ys := ⟨_, rfl⟩
            rw [← hhs] at i1
            have hsum : sha L = hs.flatMap bytesOf := by
              rw [hhs, foldC_all M shaH ys hys]
              unfold sha
              rw [← HM.out, Hlen.out, Nat.mul_div_cancel_left _ (by decide)]
            have hl8 : hs.length = 8 := by rw [hhs, foldC_length]; rfl
            have Hsum := Lib.hid hsum
            have HH := Lib.hid hl8
            have hDlt : D < W.heap.size := (Array.getElem?_eq_some_iff.1 hK).1
            have HK := Lib.hid hK
            clear hsum hl8 hhs hK HM Hlen own rdM k1 k2 c3 ck b3' bk
            go_wp2_with (first | (refine make0_law (k := 32) rfl rfl rfl rfl (by omega) ?_; intro W17 own17 hE17) | (refine ldrow_law rfl rfl rfl (i1.ext hE17) Try.underlying118 row8_map HH.out ?_))
            go_loopw [8, 47] (fun v k wr => ∃ (kk d : Nat) (B : Option Addr), kk ≤ 8 ∧ k = .int .i64 kk ∧ v = .slice B (4 * kk) d ∧ OB wr W.heap.size B (4 * kk) d ((hs.take kk).flatMap bytesOf) ∧ Ext W wr) (fun _ k _ => 8 - (intOf k).toNat)
            case atStart => exact ⟨0, 32, _, by omega, rfl, rfl, own17, hE17⟩
            case round =>
              clear own17 hE17
              obtain ⟨k, d, B, hk8, rfl, rfl, own, hE14⟩ := hrel
              by_cases hlt : k < 8
              · have e1 := fun w' : World => run_index_uv (P := Try.prog) (w := w') (d := .int .u32) Try.underlying118 inf118_eq inf118_size Try.underlying25 hs k HH.out (by rw [HH.out]; omega)
                go_upto_region 17 with (fail)
                clear e1
                refine seq_ext (n := 13) (by kernel_rfl) [.is (.slice (B) (4 * k) (d)), .is (.int .u32 (u32i (uw hs k))), .is (.int .u32 (u32i (shr (uw hs k) 24))), .is (.int .u8 (u8i ((shr (uw hs k) 24)).toUInt8)), .is (.int .u32 (u32i (uw hs k))), .is (.int .u32 (u32i (shr (uw hs k) 16))), .is (.int .u8 (u8i ((shr (uw hs k) 16)).toUInt8)), .is (.int .u32 (u32i (uw hs k))), .is (.int .u32 (u32i (shr (uw hs k) 8))), .is (.int .u8 (u8i ((shr (uw hs k) 8)).toUInt8)), .is (.int .u32 (u32i (uw hs k))), .is (.int .u8 (u8i ((uw hs k)).toUInt8)), .rb ([((shr (uw hs k) 24)).toUInt8, ((shr (uw hs k) 16)).toUInt8, ((shr (uw hs k) 8)).toUInt8, ((uw hs k)).toUInt8])] rfl ⟨?_, ?_, ?_, ?_, ?_, ?_, ?_, ?_, ?_, ?_, ?_, ?_, ?_, trivial⟩ ?_
                · refine stepE rfl fun sdn sa sw sE sd sk => ?_
                  have h8 : sa.eval (.tmp 8) = .slice (B) (4 * k) (d) := sk.old 8 rfl
                  exact Runs.move rfl h8 ⟨Ext.refl _, rfl⟩
                · refine stepE rfl fun sdn sa sw sE sd sk => ?_
                  have h10 : sa.eval (.tmp 10) = .int .u32 (u32i (uw hs k)) := sk.old 10 rfl
                  exact Runs.move rfl h10 ⟨Ext.refl _, rfl⟩
                · refine stepE rfl fun sdn sa sw sE sd sk => ?_
                  have h51 : sa.eval (.tmp 51) = .int .u32 (u32i (uw hs k)) := sk.fact 1 51 rfl (sd 1 rfl)
                  exact Runs.bin rfl h51 rfl (eqGuard_bin rfl) (bin_shr32 _ _ 24 _) ⟨Ext.refl _, rfl⟩
                · refine stepE rfl fun sdn sa sw sE sd sk => ?_
                  have h52 : sa.eval (.tmp 52) = .int .u32 (u32i (shr (uw hs k) 24)) := sk.fact 2 52 rfl (sd 2 rfl)
                  exact Runs.conv rfl h52 (conv_u32_u8 Try.underlying25 Try.underlying5 _) ⟨Ext.refl _, rfl⟩
                · refine stepE rfl fun sdn sa sw sE sd sk => ?_
                  have h10 : sa.eval (.tmp 10) = .int .u32 (u32i (uw hs k)) := sk.old 10 rfl
                  exact Runs.move rfl h10 ⟨Ext.refl _, rfl⟩
                · refine stepE rfl fun sdn sa sw sE sd sk => ?_
                  have h54 : sa.eval (.tmp 54) = .int .u32 (u32i (uw hs k)) := sk.fact 4 54 rfl (sd 4 rfl)
                  exact Runs.bin rfl h54 rfl (eqGuard_bin rfl) (bin_shr32 _ _ 16 _) ⟨Ext.refl _, rfl⟩
                · refine stepE rfl fun sdn sa sw sE sd sk => ?_
                  have h55 : sa.eval (.tmp 55) = .int .u32 (u32i (shr (uw hs k) 16)) := sk.fact 5 55 rfl (sd 5 rfl)
                  exact Runs.conv rfl h55 (conv_u32_u8 Try.underlying25 Try.underlying5 _) ⟨Ext.refl _, rfl⟩
                · refine stepE rfl fun sdn sa sw sE sd sk => ?_
                  have h10 : sa.eval (.tmp 10) = .int .u32 (u32i (uw hs k)) := sk.old 10 rfl
                  exact Runs.move rfl h10 ⟨Ext.refl _, rfl⟩
                · refine stepE rfl fun sdn sa sw sE sd sk => ?_
                  have h57 : sa.eval (.tmp 57) = .int .u32 (u32i (uw hs k)) := sk.fact 7 57 rfl (sd 7 rfl)
                  exact Runs.bin rfl h57 rfl (eqGuard_bin rfl) (bin_shr32 _ _ 8 _) ⟨Ext.refl _, rfl⟩
                · refine stepE rfl fun sdn sa sw sE sd sk => ?_
                  have h58 : sa.eval (.tmp 58) = .int .u32 (u32i (shr (uw hs k) 8)) := sk.fact 8 58 rfl (sd 8 rfl)
                  exact Runs.conv rfl h58 (conv_u32_u8 Try.underlying25 Try.underlying5 _) ⟨Ext.refl _, rfl⟩
                · refine stepE rfl fun sdn sa sw sE sd sk => ?_
                  have h10 : sa.eval (.tmp 10) = .int .u32 (u32i (uw hs k)) := sk.old 10 rfl
                  exact Runs.move rfl h10 ⟨Ext.refl _, rfl⟩
                · refine stepE rfl fun sdn sa sw sE sd sk => ?_
                  have h60 : sa.eval (.tmp 60) = .int .u32 (u32i (uw hs k)) := sk.fact 10 60 rfl (sd 10 rfl)
                  exact Runs.conv rfl h60 (conv_u32_u8 Try.underlying25 Try.underlying5 _) ⟨Ext.refl _, rfl⟩
                · refine stepE rfl fun sdn sa sw sE sd sk => ?_
                  have h53 : sa.eval (.tmp 53) = .int .u8 (u8i ((shr (uw hs k) 24)).toUInt8) := sk.fact 3 53 rfl (sd 3 rfl)
                  have h56 : sa.eval (.tmp 56) = .int .u8 (u8i ((shr (uw hs k) 16)).toUInt8) := sk.fact 6 56 rfl (sd 6 rfl)
                  have h59 : sa.eval (.tmp 59) = .int .u8 (u8i ((shr (uw hs k) 8)).toUInt8) := sk.fact 9 59 rfl (sd 9 rfl)
                  have h61 : sa.eval (.tmp 61) = .int .u8 (u8i ((uw hs k)).toUInt8) := sk.fact 11 61 rfl (sd 11 rfl)
                  exact Runs.lit4 rfl h53 h56 h59 h61 (fun w1 e1 o1 => ⟨e1, _, _, _, rfl, o1.rb⟩)
                intro vals W18 hE hv
                have e0 : vals 0 = .slice (B) (4 * k) (d) := hv 0 (by omega) 50 rfl
                have e1 : vals 1 = .int .u32 (u32i (uw hs k)) := hv 1 (by omega) 51 rfl
                have e2 : vals 2 = .int .u32 (u32i (shr (uw hs k) 24)) := hv 2 (by omega) 52 rfl
                have e3 : vals 3 = .int .u8 (u8i ((shr (uw hs k) 24)).toUInt8) := hv 3 (by omega) 53 rfl
                have e4 : vals 4 = .int .u32 (u32i (uw hs k)) := hv 4 (by omega) 54 rfl
                have e5 : vals 5 = .int .u32 (u32i (shr (uw hs k) 16)) := hv 5 (by omega) 55 rfl
                have e6 : vals 6 = .int .u8 (u8i ((shr (uw hs k) 16)).toUInt8) := hv 6 (by omega) 56 rfl
                have e7 : vals 7 = .int .u32 (u32i (uw hs k)) := hv 7 (by omega) 57 rfl
                have e8 : vals 8 = .int .u32 (u32i (shr (uw hs k) 8)) := hv 8 (by omega) 58 rfl
                have e9 : vals 9 = .int .u8 (u8i ((shr (uw hs k) 8)).toUInt8) := hv 9 (by omega) 59 rfl
                have e10 : vals 10 = .int .u32 (u32i (uw hs k)) := hv 10 (by omega) 60 rfl
                have e11 : vals 11 = .int .u8 (u8i ((uw hs k)).toUInt8) := hv 11 (by omega) 61 rfl
                obtain ⟨A62, n62, c62, e12, r62⟩ := hv 12 (by omega) 62 rfl
                simp only [putAll, Act.put, List.take_succ_cons, List.take_zero, List.drop_succ_cons, List.drop_zero, List.drop_nil, List.take_nil, Nat.reduceAdd, List.setIfInBounds_toArray, List.set_cons_succ, List.set_cons_zero, e0, e1, e2, e3, e4, e5, e6, e7, e8, e9, e10, e11, e12]
                clear hv e0 e1 e2 e3 e4 e5 e6 e7 e8 e9 e10 e11 e12
                have hEw := hE14.trans hE
                have rd1 : RB W18 A62 n62 c62 (bytesOf (uw hs k)) := r62
                obtain rfl : n62 = 4 := rd1.len.symm
                go_wp2_with (refine app_own (N := 4 * k + 4) (LM := (hs.take (k + 1)).flatMap bytesOf) rfl rfl rfl rfl hEw (own.ext hE) rd1 rfl (flatMap_take_succ hs k (by rw [HH.out]; exact hlt)).symm (by omega) ?_; intro A3 c3 W19 own3 hE16)
                go_roundw
                case rel => exact ⟨k + 1, c3, A3, by omega, by go_num, rfl, own3, hE16⟩
                case measure => simp [intOf]; omega
              · obtain rfl : k = 8 := by omega
                clear hlt
                rw [List.take_of_length_le (by rw [HH.out]; exact Nat.le_refl _), ← Hsum.out] at own
                go_wp2_with fail
                have hK2 := (hE14.block hDlt).trans HK.out
                refine ⟨by simp, .inl ⟨_, _, rfl, run_takeDeferred hK2, ?_⟩⟩
                have g := grownBy_putObj' wr D (.deferred none)
                exact ⟨_, results_tmp rfl _ _ _, B, d, rfl, (own.grown g (own.not_blk hDlt)).base i4.size, (i4.trans hE14).then_grown g (by intro k hk; cases hk; omega)⟩
          case stop =>
            rintro D c pre W _ _ h _
            exact h.elim
    · have hb0 : ((((n : Int) + 1 + (z : Int)) % 64 != 56) = true) := by
        have h2 : ¬ (n + 1 + z) % 64 = 56 := fun e => hlt (Hpz.out.1 e)
        rw [bne_iff_ne]
        omega
      go_wp2_with (refine app_own (N := n + 1 + z + 1) (LM := L ++ 0x80 :: List.replicate (z + 1) 0) rfl rfl rfl rfl (hEz.alloc _) (own.ext (Ext.new wr _)) (RB.lit wr [0] rfl (small_maxLen (by decide))) rfl (by rw [List.replicate_succ', List.append_assoc]; rfl) (by omega) ?_; intro A3 c3 W10 own3 hE10)
      clear hb0
      go_roundw
      case rel => exact ⟨z + 1, c3, A3, by omega, rfl, own3, hE10⟩
      case measure => simp only [slLen]; omega
end Go.Proofs.Ytmgnigofilkfmab
namespace Go.Proofs.Ytmgnigofilkfmab
set_option maxRecDepth 100000
open Go Go.RowKit
set_option maxHeartbeats 1000000 in
theorem htagged_any (t : UInt8) (A : Option Addr) (n c : Nat) (Ls : List (List UInt8)) (w : World) (hr : RBB w A n c Ls) (hn : Ls.flatten.length ≤ 140737488355199) :
    Calls Try.prog 73 #[.int .u8 (u8i t), .slice A n c] w fun e w' => ∃ A' c', e = .returned (.slice A' 32 c') ∧ OB w' w.heap.size A' 32 c' (tagged t Ls.flatten) ∧ Ext w w' := by
  have hln := hr.len
  have hroom := hr.room
  have hcap := hr.cap
  unfold maxLen at hcap
  have Hn := Lib.hid hln
  clear hln
  go_enter Try.func73, Try.ntmps73
  go_wp2_with fail
  go_loopw [5, 12] (fun v i wr => ∃ (k q d : Nat) (B : Option Addr), k ≤ n ∧ i = .int .i64 k ∧ v = .slice B q d ∧ OB wr w.heap.size B q d (t :: (Ls.take k).flatten) ∧ Ext w wr) (fun _ i _ => n - (intOf i).toNat)
  case atStart => exact ⟨0, 1, 1, _, by omega, rfl, rfl, OB.lit w [t] rfl (small_maxLen (by decide)), Ext.new w _⟩
  case round =>
    obtain ⟨k, q, d, B, hk, rfl, rfl, own, hEr⟩ := hrel
    by_cases hlt : k < n
    · obtain ⟨ad, rfl, hc⟩ := hr.cells (by omega)
      obtain ⟨B1, m1, d1, hcell, hrb⟩ := hc k hlt
      have hcell' := hEr.cell hcell
      have hrb' := hrb.ext hEr
      have hlq : q + m1 ≤ 140737488355328 := by
        have h1 := own.len
        have h2 := hrb.len
        have h3 := flatten_step_le Ls k (by rw [Hn.out]; exact hlt)
        simp only [List.length_cons] at h1
        omega
      clear hc hcell
      go_wp2_with (refine app_own (N := q + m1) (LM := t :: (Ls.take (k + 1)).flatten) rfl rfl rfl rfl hEr own hrb' rfl (by rw [flatten_take_succ Ls k (by rw [Hn.out]; exact hlt)]; rfl) hlq ?_; intro A3 c3 W3 own3 hE3)
      go_roundw
      case rel => exact ⟨k + 1, _, c3, A3, by omega, by go_num, rfl, own3, hE3⟩
      case measure => simp [intOf]; omega
    · obtain rfl : k = n := by omega
      rw [List.take_of_length_le (by rw [Hn.out]; exact Nat.le_refl _)] at own
      have hq : q ≤ 140737488355200 := by
        have h1 := own.len
        simp only [List.length_cons] at h1
        omega
      go_wp2_with fail
      refine (hsum_any B q d _ wr own.rb hq).mono ?_
      rintro e W4 ⟨A4, c4, rfl, own4, hE4⟩
      go_wp2_with fail
      go_ret
      exact ⟨A4, c4, rfl, own4.base hEr.size, hEr.trans hE4⟩
theorem hsame_any (A B : Option Addr) (n c m d : Nat) (L M : List UInt8) (w : World) (hr : RB w A n c L) (hs : RB w B m d M) :
    Calls Try.prog 74 #[.slice A n c, .slice B m d] w fun e w' => e = .returned (.bool (decide (L = M))) ∧ w = w' := by
  go_enter Try.func74, Try.ntmps74
  go_wp2_with fail
  refine (equal_any A B n c m d L M w hr hs).mono ?_
  rintro e w1 ⟨rfl, rfl⟩
  go_wp2_with fail
  go_ret
  exact ⟨rfl, rfl⟩
end Go.Proofs.Ytmgnigofilkfmab
