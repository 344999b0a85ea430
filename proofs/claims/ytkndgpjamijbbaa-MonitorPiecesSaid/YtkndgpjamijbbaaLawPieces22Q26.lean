/-
  The reference's Encode and Same of manifests, walked. check.Get, check.Decode, walked. A region that draws its order and ends by storing the first part of a tuple and handing on the second: the second part may be taken out before or behind the store. Plain theorems. check.Decode; ref10's Get, walked.
-/
import Derived.Test.YtkndgpjamijbbaaLawPieces22Q24
import Derived.Test.YtkndgpjamijbbaaLawPieces22Q25
import Derived.Test.YtkndgpjamijbbaaLawPieces22Q23
import Derived.Test.YtkndgpjamijbbaaLawPieces22Q20
import Derived.Test.YtkndgpjamijbbaaLawPieces22Q5
import Derived.Test.YtkndgpjamijbbaaLawPieces22Q21
import Derived.Deep.MidRow
namespace Go.Proofs.Ytkndgpjamijbbaa
set_option maxRecDepth 100000
open Go Go.RowKit
/-- a full byte slice that reads as L -/
def MP.full (L : List UInt8) : MP Ext := ⟨fun u w => ∃ A, u = .slice (some A) 1 1 ∧ RB w (some A) 1 1 L, fun _ _ _ e ⟨A, h1, h2⟩ => ⟨A, h1, h2.ext e⟩⟩
theorem Runs.conv1 {P : Program} {o : Oper} {ρ : Operand → Value} {w w' : World} {G : Value → World → Prop} {s t : TypeId} {x : Operand} {u r : Value} (ho : o.op = .convert s t x) (hx : ρ x = u) (hr : (convert s t u).run P w = .ok r w') (h : G r w') : Runs P o ρ w G := by
  refine Runs.of_run (r := r) (w' := w') ?_ h
  unfold execOp
  simp only [ho, hx, Sem.run_bind, hr, Result.andThen_ok, Sem.run_pure]
set_option maxHeartbeats 2000000 in
theorem renc_any (m : Man) (F N : Option Addr) (nf cf nn cn : Nat) (w : World) (hF : RB w F nf cf m.fw) (hN : RB w N nn cn m.notes) (hs : m.name.length ≤ 60000) (hnf : nf ≤ 60000) (hnn : nn ≤ 60000) :
    Calls Try.prog 96 #[manV m F nf cf N nn cn] w fun e w' => ∃ A' k c', e = .returned (.slice A' k c') ∧ OB w' w.heap.size A' k c' (encM m) ∧ Ext w w' := by
  unfold manV
  go_enter Try.func96, Try.ntmps96
  go_upto_region 1 with (fail)
  obtain ⟨w0, hw0⟩ : ∃ w0, w0 = w.alloc (.cells #[.string (str m.name), .int .u32 (u32i m.ver), .slice F nf cf, .slice N nn cn] 117) := ⟨_, rfl⟩
  have hB : Blk w0 w.heap.size 117 #[.string (str m.name), .int .u32 (u32i m.ver), .slice F nf cf, .slice N nn cn] := by rw [hw0]; exact Blk.new w _ _
  have hE0 : Ext w w0 := by rw [hw0]; exact Ext.new w _
  rw [← hw0]
  clear hw0
  have hlt0 : w.heap.size < w0.heap.size := hB.lt
  refine par_ext (n := 7) (by kernel_rfl) [.full ([77]), .is (.pointer (some ⟨w.heap.size, 0, none⟩)), .is (.string (str (m.name))), .rb (m.name), .ob (w0.heap.size) ([77] ++ (be2 m.name.length ++ m.name)), .is (.pointer (some ⟨w.heap.size, 1, none⟩)), .is (.int .u32 (u32i (m.ver)))] rfl ⟨?_, ?_, ?_, ?_, ?_, ?_, ?_, trivial⟩ ?_
  · refine stepE rfl fun sdn sa sw sE sd sk => ?_
    exact Runs.lit1 rfl rfl (fun w1 e1 o1 => ⟨e1, _, rfl, o1.rb⟩)
  · refine stepE rfl fun sdn sa sw sE sd sk => ?_
    have h1 : sa.eval (.tmp 1) = .pointer (some ⟨w.heap.size, 0, none⟩) := sk.old 1 rfl
    refine Runs.of_run (r := .pointer (some ⟨w.heap.size, 0, none⟩)) (w' := sw) ?_ ⟨Ext.refl _, rfl⟩
    unfold execOp
    simp only [h1]
    go_simp
  · refine stepE rfl fun sdn sa sw sE sd sk => ?_
    have h5 : sa.eval (.tmp 5) = .pointer (some ⟨w.heap.size, 0, none⟩) := sk.fact 1 5 rfl (sd 1 rfl)
    exact Runs.load rfl h5 (run_load1 Try.underlying9 rfl ((hB.ext sE).cell (i := 0) rfl)) ⟨Ext.refl _, rfl⟩
  · refine stepE rfl fun sdn sa sw sE sd sk => ?_
    have h6 : sa.eval (.tmp 6) = .string (str (m.name)) := sk.fact 2 6 rfl (sd 2 rfl)
    obtain ⟨c9, w9, hr9, h91, h92, _⟩ := run_conv_bytes sw m.name (by omega); exact Runs.conv1 rfl h6 hr9 ⟨h92, _, _, _, rfl, h91⟩
  · refine stepE rfl fun sdn sa sw sE sd sk => ?_
    obtain ⟨A4, h4, r4⟩ := sk.fact 0 4 rfl (sd 0 rfl)
    obtain ⟨A7, n7, c7, h7, r7⟩ := sk.fact 3 7 rfl (sd 3 rfl)
    have hl7 := r7.len; refine Runs.call (f := 119) (vs := [.slice (some A4) 1 1, .slice A7 n7 c7]) rfl rfl rfl (by simp only [List.map_toArray, List.map_cons, List.map_nil, h4, h7] <;> rfl) (ent119 _ _) ((r1bytes_full sw A4 1 _ A7 n7 c7 m.name r4 r7 (by omega) (by omega)).mono ?_); rintro e w' ⟨A', c', rfl, o1, e1⟩; exact ⟨_, rfl, e1, _, _, _, rfl, by have := o1.base sE.size; rw [hl7]; exact this⟩
  · refine stepE rfl fun sdn sa sw sE sd sk => ?_
    have h1 : sa.eval (.tmp 1) = .pointer (some ⟨w.heap.size, 0, none⟩) := sk.old 1 rfl
    refine Runs.of_run (r := .pointer (some ⟨w.heap.size, 1, none⟩)) (w' := sw) ?_ ⟨Ext.refl _, rfl⟩
    unfold execOp
    simp only [h1]
    go_simp
  · refine stepE rfl fun sdn sa sw sE sd sk => ?_
    have h9 : sa.eval (.tmp 9) = .pointer (some ⟨w.heap.size, 1, none⟩) := sk.fact 5 9 rfl (sd 5 rfl)
    exact Runs.load rfl h9 (run_load1 Try.underlying84 rfl ((hB.ext sE).cell (i := 1) rfl)) ⟨Ext.refl _, rfl⟩
  intro vals W1 hE hv
  obtain ⟨A4, e0, r4⟩ := hv 0 (by omega) 4 rfl
  have e1 : vals 1 = .pointer (some ⟨w.heap.size, 0, none⟩) := hv 1 (by omega) 5 rfl
  have e2 : vals 2 = .string (str (m.name)) := hv 2 (by omega) 6 rfl
  obtain ⟨A7, n7, c7, e3, r7⟩ := hv 3 (by omega) 7 rfl
  obtain ⟨A8, n8, c8, e4, r8⟩ := hv 4 (by omega) 8 rfl
  have e5 : vals 5 = .pointer (some ⟨w.heap.size, 1, none⟩) := hv 5 (by omega) 9 rfl
  have e6 : vals 6 = .int .u32 (u32i (m.ver)) := hv 6 (by omega) 10 rfl
  simp only [putAll, Act.put, List.take_succ_cons, List.take_zero, List.drop_succ_cons, List.drop_zero, List.drop_nil, List.take_nil, Nat.reduceAdd, List.setIfInBounds_toArray, List.set_cons_succ, List.set_cons_zero, e0, e1, e2, e3, e4, e5, e6]
  clear hv e0 e1 e2 e3 e4 e5 e6
  have hl8 : n8 = 3 + m.name.length := by have := r8.len; simp [be2_length] at this; omega
  have Hl8 := Lib.hid hl8
  clear hl8
  go_wp2_with fail
  have hl8 := Hl8.out
  obtain ⟨n, hn⟩ : ∃ n, n8 + 4 = n := ⟨_, rfl⟩
  obtain ⟨X8, hX8, r8'⟩ : ∃ X8, X8 = [77] ++ (be2 m.name.length ++ m.name) ∧ OB W1 w0.heap.size A8 n8 c8 X8 := ⟨_, rfl, r8⟩
  obtain ⟨X, hX⟩ : ∃ X, X8 ++ beBytes m.ver 4 = X := ⟨_, rfl⟩
  have HX8 := Lib.hid hX8
  clear hX8
  refine (r1num_to w0 W1 A8 n8 c8 X8 m.ver hE r8' (by omega) hn hX).mono ?_
  rintro e W2 ⟨A, c, rfl, own2, hE2⟩
  have hne : some w.heap.size ≠ blk A := by intro e; have := (own2.lt e.symm).1; omega
  have hBW := hB.ext hE2
  have Hn := Lib.hid hn
  have hn9 : n ≤ 70000 := by omega
  have HX := Lib.hid hX
  clear r4 r7 r8 r8' hE hl8 hn hX Hl8
  go_upto_region 2 with (fail)
  refine par_app (n := 6) 3 hE2 own2 (by kernel_rfl) [.is (.slice (A) (n) (c)), .is (.pointer (some ⟨w.heap.size, 2, none⟩)), .is (.slice (F) (nf) (cf)), .app (w0.heap.size) (W2.heap.size) (A) (n + nf) (X ++ m.fw), .is (.pointer (some ⟨w.heap.size, 3, none⟩)), .is (.slice (N) (nn) (cn))] rfl ⟨?_, ?_, ?_, ?_, ?_, ?_, trivial⟩ ?_
  · refine stepEA rfl (by decide) fun sdn sa sw sG sE sd sk => ?_
    have h3 : sa.eval (.tmp 3) = .slice (A) (n) (c) := sk.old 3 rfl
    exact Runs.move rfl h3 ⟨Ext.refl _, rfl⟩
  · refine stepEA rfl (by decide) fun sdn sa sw sG sE sd sk => ?_
    have h1 : sa.eval (.tmp 1) = .pointer (some ⟨w.heap.size, 0, none⟩) := sk.old 1 rfl
    refine Runs.of_run (r := .pointer (some ⟨w.heap.size, 2, none⟩)) (w' := sw) ?_ ⟨Ext.refl _, rfl⟩
    unfold execOp
    simp only [h1]
    go_simp
  · refine stepEA rfl (by decide) fun sdn sa sw sG sE sd sk => ?_
    have h13 : sa.eval (.tmp 13) = .pointer (some ⟨w.heap.size, 2, none⟩) := sk.fact 1 13 rfl (sd 1 rfl)
    exact Runs.load rfl h13 (run_load1 Try.underlying22 rfl ((hBW.grown sG hne).cell (i := 2) rfl)) ⟨Ext.refl _, rfl⟩
  · refine stepApp (N := n + nf) (q := W2.heap.size) rfl rfl (by omega) rfl rfl (Nat.le_refl _) ⟨.inr (stays_is _ _), .inr (stays_is _ _), .inr (stays_is _ _), .inl rfl, .inr (stays_is _ _), .inr (stays_is _ _), trivial⟩ fun sdn sa sw sG sE sd sk => ?_
    have h12 : sa.eval (.tmp 12) = .slice (A) (n) (c) := sk.fact 0 12 rfl (sd 0 rfl)
    have h14 : sa.eval (.tmp 14) = .slice (F) (nf) (cf) := sk.fact 2 14 rfl (sd 2 rfl)
    exact ⟨h12, F, nf, cf, h14, hF.ext (hE0.trans sE), rfl⟩
  · refine stepEA rfl (by decide) fun sdn sa sw sG sE sd sk => ?_
    have h1 : sa.eval (.tmp 1) = .pointer (some ⟨w.heap.size, 0, none⟩) := sk.old 1 rfl
    refine Runs.of_run (r := .pointer (some ⟨w.heap.size, 3, none⟩)) (w' := sw) ?_ ⟨Ext.refl _, rfl⟩
    unfold execOp
    simp only [h1]
    go_simp
  · refine stepEA rfl (by decide) fun sdn sa sw sG sE sd sk => ?_
    have h16 : sa.eval (.tmp 16) = .pointer (some ⟨w.heap.size, 3, none⟩) := sk.fact 4 16 rfl (sd 4 rfl)
    exact Runs.load rfl h16 (run_load1 Try.underlying22 rfl ((hBW.grown sG hne).cell (i := 3) rfl)) ⟨Ext.refl _, rfl⟩
  intro vals W3 hG hE hv
  have e0 : vals 0 = .slice (A) (n) (c) := hv 0 (by omega) 12 rfl
  have e1 : vals 1 = .pointer (some ⟨w.heap.size, 2, none⟩) := hv 1 (by omega) 13 rfl
  have e2 : vals 2 = .slice (F) (nf) (cf) := hv 2 (by omega) 14 rfl
  obtain ⟨A15, c15, e3, o15, b15⟩ := hv 3 (by omega) 15 rfl
  have e4 : vals 4 = .pointer (some ⟨w.heap.size, 3, none⟩) := hv 4 (by omega) 16 rfl
  have e5 : vals 5 = .slice (N) (nn) (cn) := hv 5 (by omega) 17 rfl
  simp only [putAll, Act.put, List.take_succ_cons, List.take_zero, List.drop_succ_cons, List.drop_zero, List.drop_nil, List.take_nil, Nat.reduceAdd, List.setIfInBounds_toArray, List.set_cons_succ, List.set_cons_zero, e0, e1, e2, e3, e4, e5]
  clear hv e0 e1 e2 e3 e4 e5
  go_wp2_with fail
  have hNW := hN.ext (hE0.trans hE)
  have hdis : 0 < nn → blk N ≠ blk A15 := by
    intro h0 e
    obtain ⟨ad, hA, _⟩ := hN.cells h0
    have h1 : blk N = some ad.block := by rw [hA]; rfl
    have h2 := hN.blk_lt h0 _ h1
    have h3 := (o15.lt (e.symm.trans h1)).1
    omega
  have hNl := hN.len
  obtain ⟨N5, hN5⟩ : ∃ N5, n + nf + (2 + nn) = N5 := ⟨_, rfl⟩
  obtain ⟨X5, hX5⟩ : ∃ X5, (X ++ m.fw) ++ (be2 nn ++ m.notes) = X5 := ⟨_, rfl⟩
  refine (r1bytes_to w0 W3 A15 (n + nf) c15 _ N nn cn m.notes hE o15 hNW hdis (by omega) (by omega) hN5 hX5).mono ?_
  rintro e W4 ⟨A4, c4, rfl, own4, hE4⟩
  have HX5 := Lib.hid hX5
  have HNl := Lib.hid hNl
  clear hX5 hNl hN5
  go_wp2_with fail
  go_ret
  refine ⟨A4, N5, c4, rfl, ?_, hE0.trans hE4⟩
  have e5 : X5 = encM m := by
    have e3 := HNl.out
    subst e3
    rw [← HX5.out, ← HX.out, HX8.out]
    simp only [encM, List.append_assoc]
  rw [← e5]
  exact own4.base hE0.size
end Go.Proofs.Ytkndgpjamijbbaa
namespace Go.Proofs.Ytkndgpjamijbbaa
set_option maxRecDepth 100000
open Go Go.RowKit
theorem RdrS.away {w w' : World} {base q : Nat} {L : List UInt8} {bad : Bool} (h : RdrS w base q L bad) {k : Nat} {t : TypeId} {cs : Array Value} (hb : Blk w k t cs) (ht : t ≠ 151) (hno : ∀ (i : Nat) (x : Int), cs[i]? ≠ some (.int .u8 x)) (g : w.grownBy w' (some k)) : RdrS w' base q L bad := by
  obtain ⟨A', n', c', hn, hR⟩ := h
  have hbA : 0 < n' → blk A' ≠ some k := hR.rb.apart5 hb hno
  refine ⟨A', n', c', hn, hR.blk.grown g (fun e => ?_), hR.rb.grown g hbA, hR.ne, hR.base, fun h0 k' hk => ?_⟩
  · injection e with e
    subst e
    have h1 := hR.blk
    unfold Blk at h1 hb
    rw [h1] at hb
    injection hb with hb
    injection hb with _ hb
    exact ht hb.symm
  · obtain ⟨cs', fr, h1⟩ := hR.ty h0 k' hk
    exact ⟨cs', fr, (g.block k' (Array.getElem?_eq_some_iff.1 h1).1 (fun e => hbA h0 (by rw [hk, e]))).trans h1⟩
theorem RdrS.set5 {w : World} {base q : Nat} {L : List UInt8} {bad : Bool} (h : RdrS w base q L bad) {g : Nat} {t : TypeId} (ht : t ≠ 151) {x k : Int} {A0 P Q : Option Addr} {n0 c0 np cp nq cq : Nat} (hB : Blk w g t (sgdC x A0 n0 c0 k P np cp Q nq cq))
    (x' k' : Int) (A1 P1 Q1 : Option Addr) (n1 c1 np1 cp1 nq1 cq1 : Nat) : RdrS (((((w.setCell ⟨g, 0, none⟩ (.int .i64 x')).setCell ⟨g, 1, none⟩ (.slice A1 n1 c1)).setCell ⟨g, 2, none⟩ (.int .i64 k')).setCell ⟨g, 3, none⟩ (.slice P1 np1 cp1)).setCell ⟨g, 4, none⟩ (.slice Q1 nq1 cq1)) base q L bad := by
  have b0 : Blk (w.setCell ⟨g, 0, none⟩ (.int .i64 x')) g t (sgdC x' A0 n0 c0 k P np cp Q nq cq) := hB.set 0 _
  have b1 : Blk _ g t (sgdC x' A1 n1 c1 k P np cp Q nq cq) := b0.set 1 (.slice A1 n1 c1)
  have b2 : Blk _ g t (sgdC x' A1 n1 c1 k' P np cp Q nq cq) := b1.set 2 (.int .i64 k')
  have b3 : Blk _ g t (sgdC x' A1 n1 c1 k' P1 np1 cp1 Q nq cq) := b2.set 3 (.slice P1 np1 cp1)
  exact ((((h.away hB ht (sgd_no _ _ _ _ _ _ _ _ _ _ _) (grown_set w ⟨g, 0, none⟩ (.int .i64 x'))).away b0 ht (sgd_no _ _ _ _ _ _ _ _ _ _ _) (grown_set _ ⟨g, 1, none⟩ (.slice A1 n1 c1))).away b1 ht (sgd_no _ _ _ _ _ _ _ _ _ _ _) (grown_set _ ⟨g, 2, none⟩ (.int .i64 k'))).away b2 ht (sgd_no _ _ _ _ _ _ _ _ _ _ _) (grown_set _ ⟨g, 3, none⟩ (.slice P1 np1 cp1))).away b3 ht (sgd_no _ _ _ _ _ _ _ _ _ _ _) (grown_set _ ⟨g, 4, none⟩ (.slice Q1 nq1 cq1))
end Go.Proofs.Ytkndgpjamijbbaa
namespace Go.Proofs.Ytkndgpjamijbbaa
set_option maxRecDepth 100000
open Go Go.RowKit
def noU8 (cs : Array Value) : Bool := cs.toList.all fun v => match v with | .int .u8 _ => false | _ => true
theorem nou8 {cs : Array Value} (h : noU8 cs = true) (i : Nat) (x : Int) : cs[i]? ≠ some (.int .u8 x) := by
  intro e
  have h1 := List.all_eq_true.1 h _ (Array.mem_toList_iff.2 (Array.mem_of_getElem? e))
  simp at h1
def isSl : Option Value → Bool
  | some (.slice _ _ _) => true
  | _ => false
def no3B (cs : Array Value) : Bool := (List.range cs.size).all fun i => !(isSl cs[i]? && isSl cs[i + 1]? && isSl cs[i + 2]?)
theorem no3 {cs : Array Value} (h : no3B cs = true) (i : Nat) (a b c : Value) (ha : cs[i]? = some a) (hb : cs[i + 1]? = some b) (hc : cs[i + 2]? = some c) : ¬ (isSl (some a) = true ∧ isSl (some b) = true ∧ isSl (some c) = true) := by
  have hi : i < cs.size := (Array.getElem?_eq_some_iff.1 ha).1
  have h1 := List.all_eq_true.1 h i (List.mem_range.2 hi)
  rw [ha, hb, hc] at h1
  rintro ⟨k1, k2, k3⟩
  rw [k1, k2, k3] at h1
  cases h1
end Go.Proofs.Ytkndgpjamijbbaa
namespace Go.Proofs.Ytkndgpjamijbbaa
set_option maxRecDepth 100000
open Go Go.RowKit
theorem RBB.away {w w' : World} {A : Option Addr} {n c : Nat} {Ls : List (List UInt8)} (h : RBB w A n c Ls) {k : Nat} {t : TypeId} {cs : Array Value} (hb : Blk w k t cs) (hno : ∀ (i : Nat) (x : Int), cs[i]? ≠ some (.int .u8 x)) (g : w.grownBy w' (some k)) (hA : 0 < n → blk A ≠ some k) : RBB w' A n c Ls :=
  ⟨h.len, h.room, h.cap, fun hn => by
    obtain ⟨ad, rfl, hc⟩ := h.cells hn
    refine ⟨ad, rfl, fun j hj => ?_⟩
    obtain ⟨B, m, d, h1, h2⟩ := hc j hj
    exact ⟨B, m, d, g.cell h1 (by rw [block_of_add]; exact hA hn), h2.grown g (h2.apart5 hb hno)⟩⟩
theorem RBB.apart_sgd {w : World} {A : Option Addr} {n c : Nat} {Ls : List (List UInt8)} (h : RBB w A n c Ls) (hn : 3 ≤ n) {g : Nat} {t : TypeId} {x k : Int} {A0 P Q : Option Addr} {n0 c0 np cp nq cq : Nat} (hB : Blk w g t (sgdC x A0 n0 c0 k P np cp Q nq cq)) : blk A ≠ some g := by
  obtain ⟨ad, rfl, hc⟩ := h.cells (by omega)
  intro e
  have e2 : ad.block = g := by
    have e3 : some ad.block = some g := e
    injection e3
  unfold Blk at hB
  have key : ∀ j v, w.cell? (ad.add j) = some v → (sgdC x A0 n0 c0 k P np cp Q nq cq)[ad.off + j]? = some v := by
    intro j v h1
    unfold World.cell? at h1
    have h3 : (ad.add j).block = g := by rw [block_of_add, e2]
    have h4 : (ad.add j).off = ad.off + j := by
      unfold Addr.add
      by_cases hj : j = 0
      · rw [if_pos hj, hj]; rfl
      · rw [if_neg hj]
    rw [h3, hB] at h1
    by_cases hs : (ad.add j).spot.isSome = true
    · simp [hs] at h1
    · simp only [hs] at h1
      rw [h4] at h1
      exact h1
  obtain ⟨B0, m0, d0, h0, _⟩ := hc 0 (by omega)
  obtain ⟨B1, m1, d1, h1, _⟩ := hc 1 (by omega)
  obtain ⟨B2, m2, d2, h2, _⟩ := hc 2 (by omega)
  have k0 := key _ _ h0
  have k1 := key _ _ h1
  have k2 := key _ _ h2
  unfold sgdC at k0 k1 k2
  generalize ad.off = o at *
  rcases o with _ | _ | _ | _ | _ | o <;> simp at k0 k1 k2
theorem RBB.apart3 {w : World} {A : Option Addr} {n c : Nat} {Ls : List (List UInt8)} (h : RBB w A n c Ls) {g : Nat} {t : TypeId} {cs : Array Value} (hB : Blk w g t cs) (hno : ∀ (i : Nat) (a b c : Value), cs[i]? = some a → cs[i + 1]? = some b → cs[i + 2]? = some c → ¬ (isSl (some a) = true ∧ isSl (some b) = true ∧ isSl (some c) = true)) (hn : 3 ≤ n) : blk A ≠ some g := by
  obtain ⟨ad, rfl, hc⟩ := h.cells (by omega)
  intro e
  have e2 : ad.block = g := by
    have e3 : some ad.block = some g := e
    injection e3
  unfold Blk at hB
  have key : ∀ j v, w.cell? (ad.add j) = some v → cs[ad.off + j]? = some v := by
    intro j v h1
    unfold World.cell? at h1
    have h3 : (ad.add j).block = g := by rw [block_of_add, e2]
    have h4 : (ad.add j).off = ad.off + j := by
      unfold Addr.add
      by_cases hj : j = 0
      · rw [if_pos hj, hj]; rfl
      · rw [if_neg hj]
    rw [h3, hB] at h1
    by_cases hs : (ad.add j).spot.isSome = true
    · simp [hs] at h1
    · simp only [hs] at h1
      rw [h4] at h1
      exact h1
  obtain ⟨B0, m0, d0, h0, _⟩ := hc 0 (by omega)
  obtain ⟨B1, m1, d1, h1, _⟩ := hc 1 (by omega)
  obtain ⟨B2, m2, d2, h2, _⟩ := hc 2 (by omega)
  exact hno _ _ _ _ (key _ _ h0) (key _ _ h1) (key _ _ h2) ⟨rfl, rfl, rfl⟩
theorem RBB.set5 {w : World} {A : Option Addr} {n c : Nat} {L : List (List UInt8)} (h : RBB w A n c L) (hn : 3 ≤ n) {g : Nat} {t : TypeId} {x k : Int} {A0 P Q : Option Addr} {n0 c0 np cp nq cq : Nat} (hB : Blk w g t (sgdC x A0 n0 c0 k P np cp Q nq cq))
    (x' k' : Int) (A1 P1 Q1 : Option Addr) (n1 c1 np1 cp1 nq1 cq1 : Nat) : RBB (((((w.setCell ⟨g, 0, none⟩ (.int .i64 x')).setCell ⟨g, 1, none⟩ (.slice A1 n1 c1)).setCell ⟨g, 2, none⟩ (.int .i64 k')).setCell ⟨g, 3, none⟩ (.slice P1 np1 cp1)).setCell ⟨g, 4, none⟩ (.slice Q1 nq1 cq1)) A n c L := by
  have b0 : Blk (w.setCell ⟨g, 0, none⟩ (.int .i64 x')) g t (sgdC x' A0 n0 c0 k P np cp Q nq cq) := hB.set 0 _
  have b1 : Blk _ g t (sgdC x' A1 n1 c1 k P np cp Q nq cq) := b0.set 1 (.slice A1 n1 c1)
  have b2 : Blk _ g t (sgdC x' A1 n1 c1 k' P np cp Q nq cq) := b1.set 2 (.int .i64 k')
  have b3 : Blk _ g t (sgdC x' A1 n1 c1 k' P1 np1 cp1 Q nq cq) := b2.set 3 (.slice P1 np1 cp1)
  have hA : 0 < n → blk A ≠ some g := fun _ => h.apart_sgd hn hB
  exact ((((h.away hB (sgd_no _ _ _ _ _ _ _ _ _ _ _) (grown_set w ⟨g, 0, none⟩ (.int .i64 x')) hA).away b0 (sgd_no _ _ _ _ _ _ _ _ _ _ _) (grown_set _ ⟨g, 1, none⟩ (.slice A1 n1 c1)) hA).away b1 (sgd_no _ _ _ _ _ _ _ _ _ _ _) (grown_set _ ⟨g, 2, none⟩ (.int .i64 k')) hA).away b2 (sgd_no _ _ _ _ _ _ _ _ _ _ _) (grown_set _ ⟨g, 3, none⟩ (.slice P1 np1 cp1)) hA).away b3 (sgd_no _ _ _ _ _ _ _ _ _ _ _) (grown_set _ ⟨g, 4, none⟩ (.slice Q1 nq1 cq1)) hA
end Go.Proofs.Ytkndgpjamijbbaa
