/-
  The reference's Encode and Same of manifests, walked.
-/
import Derived.Test.YtmgnigofilkfmabRef1
import Derived.Test.YtmgnigofilkfmabManDec
namespace Go.Proofs.Ytmgnigofilkfmab
set_option maxRecDepth 100000
open Go Go.RowKit
/-- a full byte slice that reads as L -/
def MP.full (L : List UInt8) : MP Ext := ⟨fun u w => ∃ A, u = .slice (some A) 1 1 ∧ RB w (some A) 1 1 L, fun _ _ _ e ⟨A, h1, h2⟩ => ⟨A, h1, h2.ext e⟩⟩
theorem Runs.conv1 {P : Program} {o : Oper} {ρ : Operand → Value} {w w' : World} {G : Value → World → Prop} {s t : TypeId} {x : Operand} {u r : Value} (ho : o.op = .convert s t x) (hx : ρ x = u) (hr : (convert s t u).run P w = .ok r w') (h : G r w') : Runs P o ρ w G := by
  refine Runs.of_run (r := r) (w' := w') ?_ h
  unfold execOp
  simp only [ho, hx, Sem.run_bind, hr, Result.andThen_ok, Sem.run_pure]
set_option maxHeartbeats 2000000 in
theorem renc_any (m : Man) (F N : Option Addr) (nf cf nn cn : Nat) (w : World) (hF : RB w F nf cf m.fw) (hN : RB w N nn cn m.notes) (hs : m.name.length ≤ 60000) (hnf : nf ≤ 60000) (hnn : nn ≤ 60000) :
    Calls Try.prog 46 #[manV m F nf cf N nn cn] w fun e w' => ∃ A' k c', e = .returned (.slice A' k c') ∧ OB w' w.heap.size A' k c' (encM m) ∧ Ext w w' := by
  unfold manV
  go_enter Try.func46, Try.ntmps46
  go_upto_region 1 with (fail)
  obtain ⟨w0, hw0⟩ : ∃ w0, w0 = w.alloc (.cells #[.string (str m.name), .int .u32 (u32i m.ver), .slice F nf cf, .slice N nn cn] 27) := ⟨_, rfl⟩
  have hB : Blk w0 w.heap.size 27 #[.string (str m.name), .int .u32 (u32i m.ver), .slice F nf cf, .slice N nn cn] := by rw [hw0]; exact Blk.new w _ _
  have hE0 : Ext w w0 := by rw [hw0]; exact Ext.new w _
  rw [← hw0]
  clear hw0
  have hlt0 : w.heap.size < w0.heap.size := hB.lt
  refine par_ext (n := 7) (by kernel_rfl) [.full ([77]), .is (.pointer (some ⟨w.heap.size, 0, none⟩)), .is (.string (str (m.name))), .rb (m.name), .ob (w0.heap.size) ([77] ++ (be2 m.name.length ++ m.name)), .is (.pointer (some ⟨w.heap.size, 1, none⟩)), .is (.int .u32 (u32i (m.ver)))] rfl ⟨?_, ?_, ?_, ?_, ?_, ?_, ?_, trivial⟩ ?_
  · refine stepE rfl fun sdn sa sw sE sd sk => ?_
    exact Runs.lit1 rfl rfl (fun w1 e1 o1 => ⟨e1, _, rfl, o1.rb⟩)
  · refine stepE rfl fun sdn sa sw sE sd sk => ?_
    have h1 : sa.eval (.tmp 1) = .pointer (some ⟨w.heap.size, 0, none⟩) := sk.old 1 rfl
    refine Runs.of_run (r := .pointer (some ⟨w.heap.size, 0, none⟩)) (w' := sw) ?_ ⟨Ext.refl _, rfl⟩
    unfold execOp
    simp only [h1]
    go_simp
  · refine stepE rfl fun sdn sa sw sE sd sk => ?_
    have h5 : sa.eval (.tmp 5) = .pointer (some ⟨w.heap.size, 0, none⟩) := sk.fact 1 5 rfl (sd 1 rfl)
    exact Runs.load rfl h5 (run_load1 Try.underlying9 rfl ((hB.ext sE).cell (i := 0) rfl)) ⟨Ext.refl _, rfl⟩
  · refine stepE rfl fun sdn sa sw sE sd sk => ?_
    have h6 : sa.eval (.tmp 6) = .string (str (m.name)) := sk.fact 2 6 rfl (sd 2 rfl)
    obtain ⟨c9, w9, hr9, h91, h92, _⟩ := run_conv_bytes sw m.name (by omega); exact Runs.conv1 rfl h6 hr9 ⟨h92, _, _, _, rfl, h91⟩
  · refine stepE rfl fun sdn sa sw sE sd sk => ?_
    obtain ⟨A4, h4, r4⟩ := sk.fact 0 4 rfl (sd 0 rfl)
    obtain ⟨A7, n7, c7, h7, r7⟩ := sk.fact 3 7 rfl (sd 3 rfl)
    have hl7 := r7.len; refine Runs.call (f := 86) (vs := [.slice (some A4) 1 1, .slice A7 n7 c7]) rfl rfl rfl (by simp only [List.map_toArray, List.map_cons, List.map_nil, h4, h7] <;> rfl) (ent86 _ _) ((r1bytes_full sw A4 1 _ A7 n7 c7 m.name r4 r7 (by omega) (by omega)).mono ?_); rintro e w' ⟨A', c', rfl, o1, e1⟩; exact ⟨_, rfl, e1, _, _, _, rfl, by have := o1.base sE.size; rw [hl7]; exact this⟩
  · refine stepE rfl fun sdn sa sw sE sd sk => ?_
    have h1 : sa.eval (.tmp 1) = .pointer (some ⟨w.heap.size, 0, none⟩) := sk.old 1 rfl
    refine Runs.of_run (r := .pointer (some ⟨w.heap.size, 1, none⟩)) (w' := sw) ?_ ⟨Ext.refl _, rfl⟩
    unfold execOp
    simp only [h1]
    go_simp
  · refine stepE rfl fun sdn sa sw sE sd sk => ?_
    have h9 : sa.eval (.tmp 9) = .pointer (some ⟨w.heap.size, 1, none⟩) := sk.fact 5 9 rfl (sd 5 rfl)
    exact Runs.load rfl h9 (run_load1 Try.underlying25 rfl ((hB.ext sE).cell (i := 1) rfl)) ⟨Ext.refl _, rfl⟩
  intro vals W1 hE hv
  obtain ⟨A4, e0, r4⟩ := hv 0 (by omega) 4 rfl
  have e1 : vals 1 = .pointer (some ⟨w.heap.size, 0, none⟩) := hv 1 (by omega) 5 rfl
  have e2 : vals 2 = .string (str (m.name)) := hv 2 (by omega) 6 rfl
  obtain ⟨A7, n7, c7, e3, r7⟩ := hv 3 (by omega) 7 rfl
  obtain ⟨A8, n8, c8, e4, r8⟩ := hv 4 (by omega) 8 rfl
  have e5 : vals 5 = .pointer (some ⟨w.heap.size, 1, none⟩) := hv 5 (by omega) 9 rfl
  have e6 : vals 6 = .int .u32 (u32i (m.ver)) := hv 6 (by omega) 10 rfl
  simp only [putAll, Act.put, List.take_succ_cons, List.take_zero, List.drop_succ_cons, List.drop_zero, List.drop_nil, List.take_nil, Nat.reduceAdd, List.setIfInBounds_toArray, List.set_cons_succ, List.set_cons_zero, e0, e1, e2, e3, e4, e5, e6]
  clear hv e0 e1 e2 e3 e4 e5 e6
  have hl8 : n8 = 3 + m.name.length := by have := r8.len; simp [be2_length] at this; omega
  have Hl8 := Lib.hid hl8
  clear hl8
  go_wp2_with fail
  have hl8 := Hl8.out
  obtain ⟨n, hn⟩ : ∃ n, n8 + 4 = n := ⟨_, rfl⟩
  obtain ⟨X8, hX8, r8'⟩ : ∃ X8, X8 = [77] ++ (be2 m.name.length ++ m.name) ∧ OB W1 w0.heap.size A8 n8 c8 X8 := ⟨_, rfl, r8⟩
  obtain ⟨X, hX⟩ : ∃ X, X8 ++ beBytes m.ver 4 = X := ⟨_, rfl⟩
  have HX8 := Lib.hid hX8
  clear hX8
  refine (r1num_to w0 W1 A8 n8 c8 X8 m.ver hE r8' (by omega) hn hX).mono ?_
  rintro e W2 ⟨A, c, rfl, own2, hE2⟩
  have hne : some w.heap.size ≠ blk A := by intro e; have := (own2.lt e.symm).1; omega
  have hBW := hB.ext hE2
  have Hn := Lib.hid hn
  have hn9 : n ≤ 70000 := by omega
  have HX := Lib.hid hX
  clear r4 r7 r8 r8' hE hl8 hn hX Hl8
  go_upto_region 2 with (fail)
  refine par_app (n := 6) 3 hE2 own2 (by kernel_rfl) [.is (.slice (A) (n) (c)), .is (.pointer (some ⟨w.heap.size, 2, none⟩)), .is (.slice (F) (nf) (cf)), .app (w0.heap.size) (W2.heap.size) (A) (n + nf) (X ++ m.fw), .is (.pointer (some ⟨w.heap.size, 3, none⟩)), .is (.slice (N) (nn) (cn))] rfl ⟨?_, ?_, ?_, ?_, ?_, ?_, trivial⟩ ?_
  · refine stepEA rfl (by decide) fun sdn sa sw sG sE sd sk => ?_
    have h3 : sa.eval (.tmp 3) = .slice (A) (n) (c) := sk.old 3 rfl
    exact Runs.move rfl h3 ⟨Ext.refl _, rfl⟩
  · refine stepEA rfl (by decide) fun sdn sa sw sG sE sd sk => ?_
    have h1 : sa.eval (.tmp 1) = .pointer (some ⟨w.heap.size, 0, none⟩) := sk.old 1 rfl
    refine Runs.of_run (r := .pointer (some ⟨w.heap.size, 2, none⟩)) (w' := sw) ?_ ⟨Ext.refl _, rfl⟩
    unfold execOp
    simp only [h1]
    go_simp
  · refine stepEA rfl (by decide) fun sdn sa sw sG sE sd sk => ?_
    have h13 : sa.eval (.tmp 13) = .pointer (some ⟨w.heap.size, 2, none⟩) := sk.fact 1 13 rfl (sd 1 rfl)
    exact Runs.load rfl h13 (run_load1 Try.underlying22 rfl ((hBW.grown sG hne).cell (i := 2) rfl)) ⟨Ext.refl _, rfl⟩
  · refine stepApp (N := n + nf) (q := W2.heap.size) rfl rfl (by omega) rfl rfl (Nat.le_refl _) ⟨.inr (stays_is _ _), .inr (stays_is _ _), .inr (stays_is _ _), .inl rfl, .inr (stays_is _ _), .inr (stays_is _ _), trivial⟩ fun sdn sa sw sG sE sd sk => ?_
    have h12 : sa.eval (.tmp 12) = .slice (A) (n) (c) := sk.fact 0 12 rfl (sd 0 rfl)
    have h14 : sa.eval (.tmp 14) = .slice (F) (nf) (cf) := sk.fact 2 14 rfl (sd 2 rfl)
    exact ⟨h12, F, nf, cf, h14, hF.ext (hE0.trans sE), rfl⟩
  · refine stepEA rfl (by decide) fun sdn sa sw sG sE sd sk => ?_
    have h1 : sa.eval (.tmp 1) = .pointer (some ⟨w.heap.size, 0, none⟩) := sk.old 1 rfl
    refine Runs.of_run (r := .pointer (some ⟨w.heap.size, 3, none⟩)) (w' := sw) ?_ ⟨Ext.refl _, rfl⟩
    unfold execOp
    simp only [h1]
    go_simp
  · refine stepEA rfl (by decide) fun sdn sa sw sG sE sd sk => ?_
    have h16 : sa.eval (.tmp 16) = .pointer (some ⟨w.heap.size, 3, none⟩) := sk.fact 4 16 rfl (sd 4 rfl)
    exact Runs.load rfl h16 (run_load1 Try.underlying22 rfl ((hBW.grown sG hne).cell (i := 3) rfl)) ⟨Ext.refl _, rfl⟩
  intro vals W3 hG hE hv
  have e0 : vals 0 = .slice (A) (n) (c) := hv 0 (by omega) 12 rfl
  have e1 : vals 1 = .pointer (some ⟨w.heap.size, 2, none⟩) := hv 1 (by omega) 13 rfl
  have e2 : vals 2 = .slice (F) (nf) (cf) := hv 2 (by omega) 14 rfl
  obtain ⟨A15, c15, e3, o15, b15⟩ := hv 3 (by omega) 15 rfl
  have e4 : vals 4 = .pointer (some ⟨w.heap.size, 3, none⟩) := hv 4 (by omega) 16 rfl
  have e5 : vals 5 = .slice (N) (nn) (cn) := hv 5 (by omega) 17 rfl
  simp only [putAll, Act.put, List.take_succ_cons, List.take_zero, List.drop_succ_cons, List.drop_zero, List.drop_nil, List.take_nil, Nat.reduceAdd, List.setIfInBounds_toArray, List.set_cons_succ, List.set_cons_zero, e0, e1, e2, e3, e4, e5]
  clear hv e0 e1 e2 e3 e4 e5
  go_wp2_with fail
  have hNW := hN.ext (hE0.trans hE)
  have hdis : 0 < nn → blk N ≠ blk A15 := by
    intro h0 e
    obtain ⟨ad, hA, _⟩ := hN.cells h0
    have h1 : blk N = some ad.block := by rw [hA]; rfl
    have h2 := hN.blk_lt h0 _ h1
    have h3 := (o15.lt (e.symm.trans h1)).1
    omega
  have hNl := hN.len
  obtain ⟨N5, hN5⟩ : ∃ N5, n + nf + (2 + nn) = N5 := ⟨_, rfl⟩
  obtain ⟨X5, hX5⟩ : ∃ X5, (X ++ m.fw) ++ (be2 nn ++ m.notes) = X5 := ⟨_, rfl⟩
  refine (r1bytes_to w0 W3 A15 (n + nf) c15 _ N nn cn m.notes hE o15 hNW hdis (by omega) (by omega) hN5 hX5).mono ?_
  rintro e W4 ⟨A4, c4, rfl, own4, hE4⟩
  have HX5 := Lib.hid hX5
  have HNl := Lib.hid hNl
  clear hX5 hNl hN5
  go_wp2_with fail
  go_ret
  refine ⟨A4, N5, c4, rfl, ?_, hE0.trans hE4⟩
  have e5 : X5 = encM m := by
    have e3 := HNl.out
    subst e3
    rw [← HX5.out, ← HX.out, HX8.out]
    simp only [encM, List.append_assoc]
  rw [← e5]
  exact own4.base hE0.size
end Go.Proofs.Ytmgnigofilkfmab
