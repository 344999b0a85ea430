/-
  hash.right and bits.RotateLeft32, walked.
-/
import Derived.Test.YtkndgpjamijbbaaGreatLawNumbers22Q6
namespace Go.Proofs.YtkndgpjamijbbaaGreat
set_option maxRecDepth 100000
open Go Go.RowKit

set_option maxHeartbeats 1000000 in
theorem rot2_any (x : UInt32) (w : World) :
    Calls Tryz.prog 108 #[.int .u32 (u32i x), .int .i64 (-2)] w fun e w' => e = .returned (.int .u32 (u32i (rotr x 2))) ∧ Ext w w' := by
  go_enter Tryz.func108, Tryz.ntmps108
  have h0 : bits BinOp.and IntKind.u64 (IntKind.u64.wrap (-2)) 31 = 30 := by rfl
  have e1 : u32i x * 1073741824 % 4294967296 = u32i (shl x 30) := by unfold u32i; rw [shl_toNat]; omega
  have e2 : u32i x / 4 = u32i (shr x 2) := by unfold u32i; rw [shr_toNat]; omega
  have e3 : bits BinOp.or IntKind.u32 (u32i (shl x 30)) (u32i (shr x 2)) = u32i (shl x 30 ||| shr x 2) := by
    have h3 := bin_or32 (P := Tryz.prog) (w := w) 56 (shl x 30) (shr x 2)
    simpa [binOp_or, intBits_or] using h3
  have e4 : u32i (shl x 30 ||| shr x 2) = u32i (rotr x 2) := congrArg u32i (rotr_or x 2)
  go_wp2_with fail
  go_ret
  exact ⟨rfl, Ext.refl _⟩
set_option maxHeartbeats 1000000 in
theorem right2_any (x : UInt32) (w : World) :
    Calls Tryz.prog 103 #[.int .u32 (u32i x), .int .i64 2] w fun e w' => e = .returned (.int .u32 (u32i (rotr x 2))) ∧ Ext w w' := by
  go_enter Tryz.func103, Tryz.ntmps103
  go_wp2_with fail
  refine (rot2_any x w).mono ?_
  rintro e w1 ⟨rfl, hE⟩
  go_wp2_with fail
  go_ret
  exact ⟨rfl, hE⟩

set_option maxHeartbeats 1000000 in
theorem rot6_any (x : UInt32) (w : World) :
    Calls Tryz.prog 108 #[.int .u32 (u32i x), .int .i64 (-6)] w fun e w' => e = .returned (.int .u32 (u32i (rotr x 6))) ∧ Ext w w' := by
  go_enter Tryz.func108, Tryz.ntmps108
  have h0 : bits BinOp.and IntKind.u64 (IntKind.u64.wrap (-6)) 31 = 26 := by rfl
  have e1 : u32i x * 67108864 % 4294967296 = u32i (shl x 26) := by unfold u32i; rw [shl_toNat]; omega
  have e2 : u32i x / 64 = u32i (shr x 6) := by unfold u32i; rw [shr_toNat]; omega
  have e3 : bits BinOp.or IntKind.u32 (u32i (shl x 26)) (u32i (shr x 6)) = u32i (shl x 26 ||| shr x 6) := by
    have h3 := bin_or32 (P := Tryz.prog) (w := w) 56 (shl x 26) (shr x 6)
    simpa [binOp_or, intBits_or] using h3
  have e4 : u32i (shl x 26 ||| shr x 6) = u32i (rotr x 6) := congrArg u32i (rotr_or x 6)
  go_wp2_with fail
  go_ret
  exact ⟨rfl, Ext.refl _⟩
set_option maxHeartbeats 1000000 in
theorem right6_any (x : UInt32) (w : World) :
    Calls Tryz.prog 103 #[.int .u32 (u32i x), .int .i64 6] w fun e w' => e = .returned (.int .u32 (u32i (rotr x 6))) ∧ Ext w w' := by
  go_enter Tryz.func103, Tryz.ntmps103
  go_wp2_with fail
  refine (rot6_any x w).mono ?_
  rintro e w1 ⟨rfl, hE⟩
  go_wp2_with fail
  go_ret
  exact ⟨rfl, hE⟩

set_option maxHeartbeats 1000000 in
theorem rot7_any (x : UInt32) (w : World) :
    Calls Tryz.prog 108 #[.int .u32 (u32i x), .int .i64 (-7)] w fun e w' => e = .returned (.int .u32 (u32i (rotr x 7))) ∧ Ext w w' := by
  go_enter Tryz.func108, Tryz.ntmps108
  have h0 : bits BinOp.and IntKind.u64 (IntKind.u64.wrap (-7)) 31 = 25 := by rfl
  have e1 : u32i x * 33554432 % 4294967296 = u32i (shl x 25) := by unfold u32i; rw [shl_toNat]; omega
  have e2 : u32i x / 128 = u32i (shr x 7) := by unfold u32i; rw [shr_toNat]; omega
  have e3 : bits BinOp.or IntKind.u32 (u32i (shl x 25)) (u32i (shr x 7)) = u32i (shl x 25 ||| shr x 7) := by
    have h3 := bin_or32 (P := Tryz.prog) (w := w) 56 (shl x 25) (shr x 7)
    simpa [binOp_or, intBits_or] using h3
  have e4 : u32i (shl x 25 ||| shr x 7) = u32i (rotr x 7) := congrArg u32i (rotr_or x 7)
  go_wp2_with fail
  go_ret
  exact ⟨rfl, Ext.refl _⟩
set_option maxHeartbeats 1000000 in
theorem right7_any (x : UInt32) (w : World) :
    Calls Tryz.prog 103 #[.int .u32 (u32i x), .int .i64 7] w fun e w' => e = .returned (.int .u32 (u32i (rotr x 7))) ∧ Ext w w' := by
  go_enter Tryz.func103, Tryz.ntmps103
  go_wp2_with fail
  refine (rot7_any x w).mono ?_
  rintro e w1 ⟨rfl, hE⟩
  go_wp2_with fail
  go_ret
  exact ⟨rfl, hE⟩

set_option maxHeartbeats 1000000 in
theorem rot11_any (x : UInt32) (w : World) :
    Calls Tryz.prog 108 #[.int .u32 (u32i x), .int .i64 (-11)] w fun e w' => e = .returned (.int .u32 (u32i (rotr x 11))) ∧ Ext w w' := by
  go_enter Tryz.func108, Tryz.ntmps108
  have h0 : bits BinOp.and IntKind.u64 (IntKind.u64.wrap (-11)) 31 = 21 := by rfl
  have e1 : u32i x * 2097152 % 4294967296 = u32i (shl x 21) := by unfold u32i; rw [shl_toNat]; omega
  have e2 : u32i x / 2048 = u32i (shr x 11) := by unfold u32i; rw [shr_toNat]; omega
  have e3 : bits BinOp.or IntKind.u32 (u32i (shl x 21)) (u32i (shr x 11)) = u32i (shl x 21 ||| shr x 11) := by
    have h3 := bin_or32 (P := Tryz.prog) (w := w) 56 (shl x 21) (shr x 11)
    simpa [binOp_or, intBits_or] using h3
  have e4 : u32i (shl x 21 ||| shr x 11) = u32i (rotr x 11) := congrArg u32i (rotr_or x 11)
  go_wp2_with fail
  go_ret
  exact ⟨rfl, Ext.refl _⟩
set_option maxHeartbeats 1000000 in
theorem right11_any (x : UInt32) (w : World) :
    Calls Tryz.prog 103 #[.int .u32 (u32i x), .int .i64 11] w fun e w' => e = .returned (.int .u32 (u32i (rotr x 11))) ∧ Ext w w' := by
  go_enter Tryz.func103, Tryz.ntmps103
  go_wp2_with fail
  refine (rot11_any x w).mono ?_
  rintro e w1 ⟨rfl, hE⟩
  go_wp2_with fail
  go_ret
  exact ⟨rfl, hE⟩

set_option maxHeartbeats 1000000 in
theorem rot13_any (x : UInt32) (w : World) :
    Calls Tryz.prog 108 #[.int .u32 (u32i x), .int .i64 (-13)] w fun e w' => e = .returned (.int .u32 (u32i (rotr x 13))) ∧ Ext w w' := by
  go_enter Tryz.func108, Tryz.ntmps108
  have h0 : bits BinOp.and IntKind.u64 (IntKind.u64.wrap (-13)) 31 = 19 := by rfl
  have e1 : u32i x * 524288 % 4294967296 = u32i (shl x 19) := by unfold u32i; rw [shl_toNat]; omega
  have e2 : u32i x / 8192 = u32i (shr x 13) := by unfold u32i; rw [shr_toNat]; omega
  have e3 : bits BinOp.or IntKind.u32 (u32i (shl x 19)) (u32i (shr x 13)) = u32i (shl x 19 ||| shr x 13) := by
    have h3 := bin_or32 (P := Tryz.prog) (w := w) 56 (shl x 19) (shr x 13)
    simpa [binOp_or, intBits_or] using h3
  have e4 : u32i (shl x 19 ||| shr x 13) = u32i (rotr x 13) := congrArg u32i (rotr_or x 13)
  go_wp2_with fail
  go_ret
  exact ⟨rfl, Ext.refl _⟩
set_option maxHeartbeats 1000000 in
theorem right13_any (x : UInt32) (w : World) :
    Calls Tryz.prog 103 #[.int .u32 (u32i x), .int .i64 13] w fun e w' => e = .returned (.int .u32 (u32i (rotr x 13))) ∧ Ext w w' := by
  go_enter Tryz.func103, Tryz.ntmps103
  go_wp2_with fail
  refine (rot13_any x w).mono ?_
  rintro e w1 ⟨rfl, hE⟩
  go_wp2_with fail
  go_ret
  exact ⟨rfl, hE⟩

set_option maxHeartbeats 1000000 in
theorem rot17_any (x : UInt32) (w : World) :
    Calls Tryz.prog 108 #[.int .u32 (u32i x), .int .i64 (-17)] w fun e w' => e = .returned (.int .u32 (u32i (rotr x 17))) ∧ Ext w w' := by
  go_enter Tryz.func108, Tryz.ntmps108
  have h0 : bits BinOp.and IntKind.u64 (IntKind.u64.wrap (-17)) 31 = 15 := by rfl
  have e1 : u32i x * 32768 % 4294967296 = u32i (shl x 15) := by unfold u32i; rw [shl_toNat]; omega
  have e2 : u32i x / 131072 = u32i (shr x 17) := by unfold u32i; rw [shr_toNat]; omega
  have e3 : bits BinOp.or IntKind.u32 (u32i (shl x 15)) (u32i (shr x 17)) = u32i (shl x 15 ||| shr x 17) := by
    have h3 := bin_or32 (P := Tryz.prog) (w := w) 56 (shl x 15) (shr x 17)
    simpa [binOp_or, intBits_or] using h3
  have e4 : u32i (shl x 15 ||| shr x 17) = u32i (rotr x 17) := congrArg u32i (rotr_or x 17)
  go_wp2_with fail
  go_ret
  exact ⟨rfl, Ext.refl _⟩
set_option maxHeartbeats 1000000 in
theorem right17_any (x : UInt32) (w : World) :
    Calls Tryz.prog 103 #[.int .u32 (u32i x), .int .i64 17] w fun e w' => e = .returned (.int .u32 (u32i (rotr x 17))) ∧ Ext w w' := by
  go_enter Tryz.func103, Tryz.ntmps103
  go_wp2_with fail
  refine (rot17_any x w).mono ?_
  rintro e w1 ⟨rfl, hE⟩
  go_wp2_with fail
  go_ret
  exact ⟨rfl, hE⟩

set_option maxHeartbeats 1000000 in
theorem rot18_any (x : UInt32) (w : World) :
    Calls Tryz.prog 108 #[.int .u32 (u32i x), .int .i64 (-18)] w fun e w' => e = .returned (.int .u32 (u32i (rotr x 18))) ∧ Ext w w' := by
  go_enter Tryz.func108, Tryz.ntmps108
  have h0 : bits BinOp.and IntKind.u64 (IntKind.u64.wrap (-18)) 31 = 14 := by rfl
  have e1 : u32i x * 16384 % 4294967296 = u32i (shl x 14) := by unfold u32i; rw [shl_toNat]; omega
  have e2 : u32i x / 262144 = u32i (shr x 18) := by unfold u32i; rw [shr_toNat]; omega
  have e3 : bits BinOp.or IntKind.u32 (u32i (shl x 14)) (u32i (shr x 18)) = u32i (shl x 14 ||| shr x 18) := by
    have h3 := bin_or32 (P := Tryz.prog) (w := w) 56 (shl x 14) (shr x 18)
    simpa [binOp_or, intBits_or] using h3
  have e4 : u32i (shl x 14 ||| shr x 18) = u32i (rotr x 18) := congrArg u32i (rotr_or x 18)
  go_wp2_with fail
  go_ret
  exact ⟨rfl, Ext.refl _⟩
set_option maxHeartbeats 1000000 in
theorem right18_any (x : UInt32) (w : World) :
    Calls Tryz.prog 103 #[.int .u32 (u32i x), .int .i64 18] w fun e w' => e = .returned (.int .u32 (u32i (rotr x 18))) ∧ Ext w w' := by
  go_enter Tryz.func103, Tryz.ntmps103
  go_wp2_with fail
  refine (rot18_any x w).mono ?_
  rintro e w1 ⟨rfl, hE⟩
  go_wp2_with fail
  go_ret
  exact ⟨rfl, hE⟩

set_option maxHeartbeats 1000000 in
theorem rot19_any (x : UInt32) (w : World) :
    Calls Tryz.prog 108 #[.int .u32 (u32i x), .int .i64 (-19)] w fun e w' => e = .returned (.int .u32 (u32i (rotr x 19))) ∧ Ext w w' := by
  go_enter Tryz.func108, Tryz.ntmps108
  have h0 : bits BinOp.and IntKind.u64 (IntKind.u64.wrap (-19)) 31 = 13 := by rfl
  have e1 : u32i x * 8192 % 4294967296 = u32i (shl x 13) := by unfold u32i; rw [shl_toNat]; omega
  have e2 : u32i x / 524288 = u32i (shr x 19) := by unfold u32i; rw [shr_toNat]; omega
  have e3 : bits BinOp.or IntKind.u32 (u32i (shl x 13)) (u32i (shr x 19)) = u32i (shl x 13 ||| shr x 19) := by
    have h3 := bin_or32 (P := Tryz.prog) (w := w) 56 (shl x 13) (shr x 19)
    simpa [binOp_or, intBits_or] using h3
  have e4 : u32i (shl x 13 ||| shr x 19) = u32i (rotr x 19) := congrArg u32i (rotr_or x 19)
  go_wp2_with fail
  go_ret
  exact ⟨rfl, Ext.refl _⟩
set_option maxHeartbeats 1000000 in
theorem right19_any (x : UInt32) (w : World) :
    Calls Tryz.prog 103 #[.int .u32 (u32i x), .int .i64 19] w fun e w' => e = .returned (.int .u32 (u32i (rotr x 19))) ∧ Ext w w' := by
  go_enter Tryz.func103, Tryz.ntmps103
  go_wp2_with fail
  refine (rot19_any x w).mono ?_
  rintro e w1 ⟨rfl, hE⟩
  go_wp2_with fail
  go_ret
  exact ⟨rfl, hE⟩

set_option maxHeartbeats 1000000 in
theorem rot22_any (x : UInt32) (w : World) :
    Calls Tryz.prog 108 #[.int .u32 (u32i x), .int .i64 (-22)] w fun e w' => e = .returned (.int .u32 (u32i (rotr x 22))) ∧ Ext w w' := by
  go_enter Tryz.func108, Tryz.ntmps108
  have h0 : bits BinOp.and IntKind.u64 (IntKind.u64.wrap (-22)) 31 = 10 := by rfl
  have e1 : u32i x * 1024 % 4294967296 = u32i (shl x 10) := by unfold u32i; rw [shl_toNat]; omega
  have e2 : u32i x / 4194304 = u32i (shr x 22) := by unfold u32i; rw [shr_toNat]; omega
  have e3 : bits BinOp.or IntKind.u32 (u32i (shl x 10)) (u32i (shr x 22)) = u32i (shl x 10 ||| shr x 22) := by
    have h3 := bin_or32 (P := Tryz.prog) (w := w) 56 (shl x 10) (shr x 22)
    simpa [binOp_or, intBits_or] using h3
  have e4 : u32i (shl x 10 ||| shr x 22) = u32i (rotr x 22) := congrArg u32i (rotr_or x 22)
  go_wp2_with fail
  go_ret
  exact ⟨rfl, Ext.refl _⟩
set_option maxHeartbeats 1000000 in
theorem right22_any (x : UInt32) (w : World) :
    Calls Tryz.prog 103 #[.int .u32 (u32i x), .int .i64 22] w fun e w' => e = .returned (.int .u32 (u32i (rotr x 22))) ∧ Ext w w' := by
  go_enter Tryz.func103, Tryz.ntmps103
  go_wp2_with fail
  refine (rot22_any x w).mono ?_
  rintro e w1 ⟨rfl, hE⟩
  go_wp2_with fail
  go_ret
  exact ⟨rfl, hE⟩

set_option maxHeartbeats 1000000 in
theorem rot25_any (x : UInt32) (w : World) :
    Calls Tryz.prog 108 #[.int .u32 (u32i x), .int .i64 (-25)] w fun e w' => e = .returned (.int .u32 (u32i (rotr x 25))) ∧ Ext w w' := by
  go_enter Tryz.func108, Tryz.ntmps108
  have h0 : bits BinOp.and IntKind.u64 (IntKind.u64.wrap (-25)) 31 = 7 := by rfl
  have e1 : u32i x * 128 % 4294967296 = u32i (shl x 7) := by unfold u32i; rw [shl_toNat]; omega
  have e2 : u32i x / 33554432 = u32i (shr x 25) := by unfold u32i; rw [shr_toNat]; omega
  have e3 : bits BinOp.or IntKind.u32 (u32i (shl x 7)) (u32i (shr x 25)) = u32i (shl x 7 ||| shr x 25) := by
    have h3 := bin_or32 (P := Tryz.prog) (w := w) 56 (shl x 7) (shr x 25)
    simpa [binOp_or, intBits_or] using h3
  have e4 : u32i (shl x 7 ||| shr x 25) = u32i (rotr x 25) := congrArg u32i (rotr_or x 25)
  go_wp2_with fail
  go_ret
  exact ⟨rfl, Ext.refl _⟩
set_option maxHeartbeats 1000000 in
theorem right25_any (x : UInt32) (w : World) :
    Calls Tryz.prog 103 #[.int .u32 (u32i x), .int .i64 25] w fun e w' => e = .returned (.int .u32 (u32i (rotr x 25))) ∧ Ext w w' := by
  go_enter Tryz.func103, Tryz.ntmps103
  go_wp2_with fail
  refine (rot25_any x w).mono ?_
  rintro e w1 ⟨rfl, hE⟩
  go_wp2_with fail
  go_ret
  exact ⟨rfl, hE⟩

end Go.Proofs.YtkndgpjamijbbaaGreat
