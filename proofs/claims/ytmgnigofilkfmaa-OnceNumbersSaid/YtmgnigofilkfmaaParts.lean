/-
  Slices of byte slices that are laid. Plain theorems.
-/
import Derived.Test.YtmgnigofilkfmaaLists
import Derived.Test.YtmgnigofilkfmaaOwn
namespace Go.Proofs.Ytmgnigofilkfmaa
set_option maxRecDepth 100000
open Go Go.RowKit
def MP.rbb (Ls : List (List UInt8)) : MP Ext := ⟨fun u w => ∃ A n c, u = .slice A n c ∧ RBB w A n c Ls, fun _ _ _ e ⟨A, n, c, h1, h2⟩ => ⟨A, n, c, h1, h2.ext e⟩⟩
theorem RBB.of1 {w : World} {B0 : Option Addr} {m0 d0 : Nat} {L0 : List UInt8} (h0 : RB w B0 m0 d0 L0) (t : TypeId) : RBB (w.alloc (.cells #[.slice B0 m0 d0] t)) (some ⟨w.heap.size, 0, none⟩) 1 1 [L0] :=
  ⟨rfl, Nat.le_refl _, small_maxLen (by decide), fun _ => ⟨_, rfl, fun j hj => by
    have hB := Blk.new w t #[.slice B0 m0 d0]
    have hE := Ext.new w (.cells #[.slice B0 m0 d0] t)
    rw [add_plain]
    have hc : j = 0 := by omega
    rcases hc with rfl
    · exact ⟨_, _, _, hB.cell (i := 0) rfl, h0.ext hE⟩⟩⟩
theorem run_ss1 (w : World) (B0 : Option Addr) (m0 d0 : Nat) : (Instr.buildSlice 32 1 #[(0, Value.slice B0 m0 d0)]).run Try.prog w = .ok (.slice (some ⟨w.heap.size, 0, none⟩) 1 1) (w.alloc (.cells #[.slice B0 m0 d0] 22)) := by
  go_simp
theorem Runs.ss1 {o : Oper} {ρ : Operand → Value} {w : World} {G : Value → World → Prop} {y0 : Operand} {B0 : Option Addr} {m0 d0 : Nat} {L0 : List UInt8} (ho : o.op = .buildSlice 32 1 #[(0, y0)]) (e0 : ρ y0 = .slice B0 m0 d0) (h0 : RB w B0 m0 d0 L0)
    (h : ∀ w', Ext w w' → RBB w' (some ⟨w.heap.size, 0, none⟩) 1 1 [L0] → G (.slice (some ⟨w.heap.size, 0, none⟩) 1 1) w') : Runs Try.prog o ρ w G := by
  refine Runs.of_run (r := .slice (some ⟨w.heap.size, 0, none⟩) 1 1) ?_ (h _ (Ext.new w _) (RBB.of1 h0 22))
  unfold execOp
  simp only [ho, e0, List.map_toArray, List.map_cons, List.map_nil, Sem.run_bind, run_ss1, Result.andThen_ok, Sem.run_pure]
theorem RBB.of2 {w : World} {B0 B1 : Option Addr} {m0 d0 m1 d1 : Nat} {L0 L1 : List UInt8} (h0 : RB w B0 m0 d0 L0) (h1 : RB w B1 m1 d1 L1) (t : TypeId) : RBB (w.alloc (.cells #[.slice B0 m0 d0, .slice B1 m1 d1] t)) (some ⟨w.heap.size, 0, none⟩) 2 2 [L0, L1] :=
  ⟨rfl, Nat.le_refl _, small_maxLen (by decide), fun _ => ⟨_, rfl, fun j hj => by
    have hB := Blk.new w t #[.slice B0 m0 d0, .slice B1 m1 d1]
    have hE := Ext.new w (.cells #[.slice B0 m0 d0, .slice B1 m1 d1] t)
    rw [add_plain]
    have hc : j = 0 ∨ j = 1 := by omega
    rcases hc with rfl | rfl
    · exact ⟨_, _, _, hB.cell (i := 0) rfl, h0.ext hE⟩
    · exact ⟨_, _, _, hB.cell (i := 1) rfl, h1.ext hE⟩⟩⟩
theorem run_ss2 (w : World) (B0 : Option Addr) (m0 d0 : Nat) (B1 : Option Addr) (m1 d1 : Nat) : (Instr.buildSlice 32 2 #[(0, Value.slice B0 m0 d0), (1, Value.slice B1 m1 d1)]).run Try.prog w = .ok (.slice (some ⟨w.heap.size, 0, none⟩) 2 2) (w.alloc (.cells #[.slice B0 m0 d0, .slice B1 m1 d1] 22)) := by
  go_simp
theorem Runs.ss2 {o : Oper} {ρ : Operand → Value} {w : World} {G : Value → World → Prop} {y0 y1 : Operand} {B0 B1 : Option Addr} {m0 d0 m1 d1 : Nat} {L0 L1 : List UInt8} (ho : o.op = .buildSlice 32 2 #[(0, y0), (1, y1)]) (e0 : ρ y0 = .slice B0 m0 d0) (e1 : ρ y1 = .slice B1 m1 d1) (h0 : RB w B0 m0 d0 L0) (h1 : RB w B1 m1 d1 L1)
    (h : ∀ w', Ext w w' → RBB w' (some ⟨w.heap.size, 0, none⟩) 2 2 [L0, L1] → G (.slice (some ⟨w.heap.size, 0, none⟩) 2 2) w') : Runs Try.prog o ρ w G := by
  refine Runs.of_run (r := .slice (some ⟨w.heap.size, 0, none⟩) 2 2) ?_ (h _ (Ext.new w _) (RBB.of2 h0 h1 22))
  unfold execOp
  simp only [ho, e0, e1, List.map_toArray, List.map_cons, List.map_nil, Sem.run_bind, run_ss2, Result.andThen_ok, Sem.run_pure]
theorem RBB.of3 {w : World} {B0 B1 B2 : Option Addr} {m0 d0 m1 d1 m2 d2 : Nat} {L0 L1 L2 : List UInt8} (h0 : RB w B0 m0 d0 L0) (h1 : RB w B1 m1 d1 L1) (h2 : RB w B2 m2 d2 L2) (t : TypeId) : RBB (w.alloc (.cells #[.slice B0 m0 d0, .slice B1 m1 d1, .slice B2 m2 d2] t)) (some ⟨w.heap.size, 0, none⟩) 3 3 [L0, L1, L2] :=
  ⟨rfl, Nat.le_refl _, small_maxLen (by decide), fun _ => ⟨_, rfl, fun j hj => by
    have hB := Blk.new w t #[.slice B0 m0 d0, .slice B1 m1 d1, .slice B2 m2 d2]
    have hE := Ext.new w (.cells #[.slice B0 m0 d0, .slice B1 m1 d1, .slice B2 m2 d2] t)
    rw [add_plain]
    have hc : j = 0 ∨ j = 1 ∨ j = 2 := by omega
    rcases hc with rfl | rfl | rfl
    · exact ⟨_, _, _, hB.cell (i := 0) rfl, h0.ext hE⟩
    · exact ⟨_, _, _, hB.cell (i := 1) rfl, h1.ext hE⟩
    · exact ⟨_, _, _, hB.cell (i := 2) rfl, h2.ext hE⟩⟩⟩
theorem run_ss3 (w : World) (B0 : Option Addr) (m0 d0 : Nat) (B1 : Option Addr) (m1 d1 : Nat) (B2 : Option Addr) (m2 d2 : Nat) : (Instr.buildSlice 32 3 #[(0, Value.slice B0 m0 d0), (1, Value.slice B1 m1 d1), (2, Value.slice B2 m2 d2)]).run Try.prog w = .ok (.slice (some ⟨w.heap.size, 0, none⟩) 3 3) (w.alloc (.cells #[.slice B0 m0 d0, .slice B1 m1 d1, .slice B2 m2 d2] 22)) := by
  go_simp
theorem Runs.ss3 {o : Oper} {ρ : Operand → Value} {w : World} {G : Value → World → Prop} {y0 y1 y2 : Operand} {B0 B1 B2 : Option Addr} {m0 d0 m1 d1 m2 d2 : Nat} {L0 L1 L2 : List UInt8} (ho : o.op = .buildSlice 32 3 #[(0, y0), (1, y1), (2, y2)]) (e0 : ρ y0 = .slice B0 m0 d0) (e1 : ρ y1 = .slice B1 m1 d1) (e2 : ρ y2 = .slice B2 m2 d2) (h0 : RB w B0 m0 d0 L0) (h1 : RB w B1 m1 d1 L1) (h2 : RB w B2 m2 d2 L2)
    (h : ∀ w', Ext w w' → RBB w' (some ⟨w.heap.size, 0, none⟩) 3 3 [L0, L1, L2] → G (.slice (some ⟨w.heap.size, 0, none⟩) 3 3) w') : Runs Try.prog o ρ w G := by
  refine Runs.of_run (r := .slice (some ⟨w.heap.size, 0, none⟩) 3 3) ?_ (h _ (Ext.new w _) (RBB.of3 h0 h1 h2 22))
  unfold execOp
  simp only [ho, e0, e1, e2, List.map_toArray, List.map_cons, List.map_nil, Sem.run_bind, run_ss3, Result.andThen_ok, Sem.run_pure]
end Go.Proofs.Ytmgnigofilkfmaa
