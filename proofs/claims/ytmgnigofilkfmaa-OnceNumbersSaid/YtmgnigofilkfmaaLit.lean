/-
  Byte literals in a region. Plain theorems.
-/
import Derived.Test.YtmgnigofilkfmaaMore
namespace Go.Proofs.Ytmgnigofilkfmaa
set_option maxRecDepth 100000
open Go Go.RowKit
theorem run_lit0 (w : World) : (Instr.buildSlice 22 0 #[]).run Try.prog w = .ok (.slice (some ⟨w.heap.size, 0, none⟩) 0 0) (w.alloc (.cells #[] 5)) := by
  go_simp
theorem Runs.lit0 {o : Oper} {ρ : Operand → Value} {w : World} {G : Value → World → Prop} (ho : o.op = .buildSlice 22 0 #[]) 
    (h : ∀ w', Ext w w' → OB w' w.heap.size (some ⟨w.heap.size, 0, none⟩) 0 0 [] → G (.slice (some ⟨w.heap.size, 0, none⟩) 0 0) w') : Runs Try.prog o ρ w G := by
  refine Runs.of_run (r := .slice (some ⟨w.heap.size, 0, none⟩) 0 0) (w' := w.alloc (.cells (bv []).toArray 5)) ?_ (h _ (Ext.new w _) (OB.lit w [] rfl (small_maxLen (by decide))))
  unfold execOp
  simp only [ho, List.map_toArray, List.map_cons, List.map_nil, Sem.run_bind, run_lit0, Result.andThen_ok, Sem.run_pure]
  rfl

theorem run_lit1 (w : World) (x0 : Int) : (Instr.buildSlice 22 1 #[(0, Value.int .u8 x0)]).run Try.prog w = .ok (.slice (some ⟨w.heap.size, 0, none⟩) 1 1) (w.alloc (.cells #[Value.int .u8 x0] 5)) := by
  go_simp
theorem Runs.lit1 {o : Oper} {ρ : Operand → Value} {w : World} {G : Value → World → Prop} {y0 : Operand} {b0 : UInt8} (ho : o.op = .buildSlice 22 1 #[(0, y0)]) (h0 : ρ y0 = .int .u8 (u8i b0))
    (h : ∀ w', Ext w w' → OB w' w.heap.size (some ⟨w.heap.size, 0, none⟩) 1 1 [b0] → G (.slice (some ⟨w.heap.size, 0, none⟩) 1 1) w') : Runs Try.prog o ρ w G := by
  refine Runs.of_run (r := .slice (some ⟨w.heap.size, 0, none⟩) 1 1) (w' := w.alloc (.cells (bv [b0]).toArray 5)) ?_ (h _ (Ext.new w _) (OB.lit w [b0] rfl (small_maxLen (by decide))))
  unfold execOp
  simp only [ho, h0, List.map_toArray, List.map_cons, List.map_nil, Sem.run_bind, run_lit1, Result.andThen_ok, Sem.run_pure]
  rfl

theorem run_lit2 (w : World) (x0 x1 : Int) : (Instr.buildSlice 22 2 #[(0, Value.int .u8 x0), (1, Value.int .u8 x1)]).run Try.prog w = .ok (.slice (some ⟨w.heap.size, 0, none⟩) 2 2) (w.alloc (.cells #[Value.int .u8 x0, Value.int .u8 x1] 5)) := by
  go_simp
theorem Runs.lit2 {o : Oper} {ρ : Operand → Value} {w : World} {G : Value → World → Prop} {y0 y1 : Operand} {b0 b1 : UInt8} (ho : o.op = .buildSlice 22 2 #[(0, y0), (1, y1)]) (h0 : ρ y0 = .int .u8 (u8i b0)) (h1 : ρ y1 = .int .u8 (u8i b1))
    (h : ∀ w', Ext w w' → OB w' w.heap.size (some ⟨w.heap.size, 0, none⟩) 2 2 [b0, b1] → G (.slice (some ⟨w.heap.size, 0, none⟩) 2 2) w') : Runs Try.prog o ρ w G := by
  refine Runs.of_run (r := .slice (some ⟨w.heap.size, 0, none⟩) 2 2) (w' := w.alloc (.cells (bv [b0, b1]).toArray 5)) ?_ (h _ (Ext.new w _) (OB.lit w [b0, b1] rfl (small_maxLen (by decide))))
  unfold execOp
  simp only [ho, h0, h1, List.map_toArray, List.map_cons, List.map_nil, Sem.run_bind, run_lit2, Result.andThen_ok, Sem.run_pure]
  rfl

theorem run_lit4 (w : World) (x0 x1 x2 x3 : Int) : (Instr.buildSlice 22 4 #[(0, Value.int .u8 x0), (1, Value.int .u8 x1), (2, Value.int .u8 x2), (3, Value.int .u8 x3)]).run Try.prog w = .ok (.slice (some ⟨w.heap.size, 0, none⟩) 4 4) (w.alloc (.cells #[Value.int .u8 x0, Value.int .u8 x1, Value.int .u8 x2, Value.int .u8 x3] 5)) := by
  go_simp
theorem Runs.lit4 {o : Oper} {ρ : Operand → Value} {w : World} {G : Value → World → Prop} {y0 y1 y2 y3 : Operand} {b0 b1 b2 b3 : UInt8} (ho : o.op = .buildSlice 22 4 #[(0, y0), (1, y1), (2, y2), (3, y3)]) (h0 : ρ y0 = .int .u8 (u8i b0)) (h1 : ρ y1 = .int .u8 (u8i b1)) (h2 : ρ y2 = .int .u8 (u8i b2)) (h3 : ρ y3 = .int .u8 (u8i b3))
    (h : ∀ w', Ext w w' → OB w' w.heap.size (some ⟨w.heap.size, 0, none⟩) 4 4 [b0, b1, b2, b3] → G (.slice (some ⟨w.heap.size, 0, none⟩) 4 4) w') : Runs Try.prog o ρ w G := by
  refine Runs.of_run (r := .slice (some ⟨w.heap.size, 0, none⟩) 4 4) (w' := w.alloc (.cells (bv [b0, b1, b2, b3]).toArray 5)) ?_ (h _ (Ext.new w _) (OB.lit w [b0, b1, b2, b3] rfl (small_maxLen (by decide))))
  unfold execOp
  simp only [ho, h0, h1, h2, h3, List.map_toArray, List.map_cons, List.map_nil, Sem.run_bind, run_lit4, Result.andThen_ok, Sem.run_pure]
  rfl

theorem run_lit6 (w : World) (x0 x1 x2 x3 x4 x5 : Int) : (Instr.buildSlice 22 6 #[(0, Value.int .u8 x0), (1, Value.int .u8 x1), (2, Value.int .u8 x2), (3, Value.int .u8 x3), (4, Value.int .u8 x4), (5, Value.int .u8 x5)]).run Try.prog w = .ok (.slice (some ⟨w.heap.size, 0, none⟩) 6 6) (w.alloc (.cells #[Value.int .u8 x0, Value.int .u8 x1, Value.int .u8 x2, Value.int .u8 x3, Value.int .u8 x4, Value.int .u8 x5] 5)) := by
  go_simp
theorem Runs.lit6 {o : Oper} {ρ : Operand → Value} {w : World} {G : Value → World → Prop} {y0 y1 y2 y3 y4 y5 : Operand} {b0 b1 b2 b3 b4 b5 : UInt8} (ho : o.op = .buildSlice 22 6 #[(0, y0), (1, y1), (2, y2), (3, y3), (4, y4), (5, y5)]) (h0 : ρ y0 = .int .u8 (u8i b0)) (h1 : ρ y1 = .int .u8 (u8i b1)) (h2 : ρ y2 = .int .u8 (u8i b2)) (h3 : ρ y3 = .int .u8 (u8i b3)) (h4 : ρ y4 = .int .u8 (u8i b4)) (h5 : ρ y5 = .int .u8 (u8i b5))
    (h : ∀ w', Ext w w' → OB w' w.heap.size (some ⟨w.heap.size, 0, none⟩) 6 6 [b0, b1, b2, b3, b4, b5] → G (.slice (some ⟨w.heap.size, 0, none⟩) 6 6) w') : Runs Try.prog o ρ w G := by
  refine Runs.of_run (r := .slice (some ⟨w.heap.size, 0, none⟩) 6 6) (w' := w.alloc (.cells (bv [b0, b1, b2, b3, b4, b5]).toArray 5)) ?_ (h _ (Ext.new w _) (OB.lit w [b0, b1, b2, b3, b4, b5] rfl (small_maxLen (by decide))))
  unfold execOp
  simp only [ho, h0, h1, h2, h3, h4, h5, List.map_toArray, List.map_cons, List.map_nil, Sem.run_bind, run_lit6, Result.andThen_ok, Sem.run_pure]
  rfl
end Go.Proofs.Ytmgnigofilkfmaa
