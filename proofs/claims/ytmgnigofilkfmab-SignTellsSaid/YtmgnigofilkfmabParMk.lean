/-
  A region that draws its order and writes constant texts ('[]byte("..")'): new rows get the run-time's mark, their cells stay. Plain theorems.
-/
import Derived.Test.YtmgnigofilkfmabOwn
import Derived.Test.YtmgnigofilkfmabRuns
import Derived.Lib.SlBytesConst
namespace Go.Proofs.Ytmgnigofilkfmab
set_option maxRecDepth 100000
open Go Go.RowKit
def bare : Obj → Obj
  | .cells c e _ => .cells c e (0, 0)
  | o => o
/-- all blocks stay, but for the run-time's marks -/
structure Mk (w w' : World) : Prop where
  size : w.heap.size ≤ w'.heap.size
  at_ : ∀ i, i < w.heap.size → (w'.heap[i]?).map bare = (w.heap[i]?).map bare
theorem Mk.of_ext {w w' : World} (e : Ext w w') : Mk w w' := ⟨e.size, fun i hi => by rw [e.block hi]⟩
theorem cell_bare {w w' : World} {i : Nat} (h : (w'.heap[i]?).map bare = (w.heap[i]?).map bare) (p : Addr) (hp : p.block = i) : w'.cell? p = w.cell? p := by
  unfold World.cell?
  rw [hp]
  cases h1 : w.heap[i]? with
  | none =>
    rw [h1] at h
    cases h2 : w'.heap[i]? with
    | none => rfl
    | some o => rw [h2] at h; cases h
  | some o =>
    rw [h1] at h
    cases h2 : w'.heap[i]? with
    | none => rw [h2] at h; cases h
    | some o' =>
      rw [h2] at h
      simp only [Option.map_some, Option.some.injEq] at h
      cases o <;> cases o' <;> simp_all [bare]
theorem shape_bare {w w' : World} {i : Nat} (h : (w'.heap[i]?).map bare = (w.heap[i]?).map bare) : w'.shape? i = w.shape? i := by
  unfold World.shape?
  cases h1 : w.heap[i]? with
  | none =>
    rw [h1] at h
    cases h2 : w'.heap[i]? with
    | none => rfl
    | some o => rw [h2] at h; cases h
  | some o =>
    rw [h1] at h
    cases h2 : w'.heap[i]? with
    | none => rw [h2] at h; cases h
    | some o' =>
      rw [h2] at h
      simp only [Option.map_some, Option.some.injEq] at h
      cases o <;> cases o' <;> simp_all [bare]
theorem Mk.cell {w w' : World} (h : Mk w w') {p : Addr} {v : Value} (hc : w.cell? p = some v) : w'.cell? p = some v :=
  (cell_bare (h.at_ p.block (World.block_lt_of_cell? w p hc)) p rfl).trans hc
theorem RB.mk_ {w w' : World} {A : Option Addr} {n c : Nat} {L : List UInt8} (h : RB w A n c L) (e : Mk w w') : RB w' A n c L :=
  ⟨h.len, h.room, h.cap, fun hn => by
    obtain ⟨ad, ha, hc⟩ := h.cells hn
    exact ⟨ad, ha, fun j hj => e.cell (hc j hj)⟩⟩
theorem freeze_heap (w : World) (g k i : Nat) : (((w.freeze ⟨g, k, none⟩ 1).heap[i]?).map bare = (w.heap[i]?).map bare) ∧ (i ≠ g → (w.freeze ⟨g, k, none⟩ 1).heap[i]? = w.heap[i]?) := by
  unfold World.freeze
  rw [if_neg (by decide)]
  refine ⟨?_, fun hi => ?_⟩
  · show ((w.heap.modify g _)[i]?).map bare = _
    rw [Array.getElem?_modify]
    by_cases h : g = i
    · rw [if_pos h]
      cases w.heap[i]? with
      | none => rfl
      | some o => cases o <;> rfl
    · rw [if_neg h]
  · show (w.heap.modify g _)[i]? = _
    rw [Array.getElem?_modify, if_neg (Ne.symm hi)]
theorem freeze_size (w : World) (g k : Nat) : (w.freeze ⟨g, k, none⟩ 1).heap.size = w.heap.size := by
  unfold World.freeze
  rw [if_neg (by decide)]
  show (w.heap.modify g _).size = _
  rw [Array.size_modify]
theorem Mk.freeze (w : World) (g k : Nat) : Mk w (w.freeze ⟨g, k, none⟩ 1) := ⟨by rw [freeze_size]; exact Nat.le_refl _, fun i _ => (freeze_heap w g k i).1⟩
theorem Ext.freeze {w0 w : World} (h : Ext w0 w) {g k : Nat} (hg : w0.heap.size ≤ g) : Ext w0 (w.freeze ⟨g, k, none⟩ 1) :=
  h.then_grown (row := some g) ⟨by unfold World.freeze; rw [if_neg (by decide)], by unfold World.freeze; rw [if_neg (by decide)], by unfold World.freeze; rw [if_neg (by decide)], by rw [freeze_size]; exact Nat.le_refl _, fun i _ hne => (freeze_heap w g k i).2 (fun e => hne (by rw [e]))⟩ (by intro k hk; cases hk; exact hg)
theorem run_mark {P : Program} (w : World) (t e : TypeId) (g n m c : Nat) (ht : P.underlying t = some (.slice e)) (he : P.underlying e = some (.int .u8)) (hs : w.shape? g = some (e, m)) :
    (convert t t (.slice (some ⟨g, 0, none⟩) n c)).run P w = .ok (.slice (some ⟨g, 0, none⟩) n c) (w.freeze ⟨g, m, none⟩ 1) := by
  simp [convert, run_underlying ht, run_underlying he, markStringish, hs]
theorem OB.shape {w : World} {base g n c : Nat} {L : List UInt8} (h : OB w base (some ⟨g, 0, none⟩) n c L) : w.shape? g = some (5, c) := by
  rcases h.2 with ⟨e, _⟩ | ⟨g', cap, cur, e, _, h1, _, _, h2, _⟩
  · cases e
  · injection e with e1 e2 e3
    injection e1 with e1
    injection e1 with e1
    subst e1
    unfold World.shape?
    rw [h1]
    simp only [h2, e3, Nat.mul_one]
def MP.rbm (L : List UInt8) : MP Mk := ⟨fun u w => ∃ A n c, u = .slice A n c ∧ RB w A n c L, fun _ _ _ e ⟨A, n, c, h1, h2⟩ => ⟨A, n, c, h1, h2.mk_ e⟩⟩
def MP.rbk (n : Nat) (L : List UInt8) : MP Mk := ⟨fun u w => ∃ A c, u = .slice A n c ∧ RB w A n c L, fun _ _ _ e ⟨A, c, h1, h2⟩ => ⟨A, c, h1, h2.mk_ e⟩⟩
theorem Runs.conv_w {P : Program} {o : Oper} {ρ : Operand → Value} {w w' : World} {G : Value → World → Prop} {s t : TypeId} {x : Operand} {u r : Value} (ho : o.op = .convert s t x) (hx : ρ x = u) (hr : (convert s t u).run P w = .ok r w') (h : G r w') : Runs P o ρ w G := by
  unfold Runs execOp
  simp only [ho, hx, Sem.run_bind, hr, Result.andThen_ok, Sem.run_pure]
  exact h
/-- a constant text's new row -/
def MP.lit (b m : Nat) (L : List UInt8) : MP Mk := ⟨fun u w => ∃ g, u = .slice (some ⟨g, 0, none⟩) m m ∧ RB w (some ⟨g, 0, none⟩) m m L ∧ w.shape? g = some (5, m) ∧ b ≤ g ∧ g < w.heap.size, fun _ _ _ e ⟨g, h1, h2, h3, h4, h5⟩ => ⟨g, h1, h2.mk_ e, (shape_bare (e.at_ g h5)).trans h3, h4, Nat.lt_of_lt_of_le h5 e.size⟩⟩
section
variable {P : Program} {ops : Array Oper} {H : List Tmp} {F : List (MP Mk)} {a0 : Act} {w0 : World} {i : Nat} {o : Oper}
theorem stepEM (ho : o.guard = none) (h : ∀ (done : Nat → Bool) (a : Act) (w : World), Ext w0 w → (∀ j, (depsOf o).contains j = true → done j = true) → Known ops H F a0 done a w →
    Runs P o a.eval w fun v w' => Ext w w' ∧ factAt F i v w') : StepOK P ops H F (fun _ w' => Ext w0 w') a0 i o := by
  intro done a w hJ _ hd hk
  rw [if_pos (by simp [Region.wanted, ho])]
  exact (h done a w hJ (deps_done hd) hk).mono fun v w' hg => ⟨fun j _ u hu => factAt_keep (Mk.of_ext hg.1) j u hu, hJ.trans hg.1, hg.2⟩
theorem stepYM {j d : Nat} {b : Bool} (ho : o.guard = some (j, b)) (hj : dstAt ops j = some d) (hdep : (depsOf o).contains j = true) (hyes : ∀ v w, factAt F j v w → v = .bool b)
    (h : ∀ (done : Nat → Bool) (a : Act) (w : World), Ext w0 w → (∀ j, (depsOf o).contains j = true → done j = true) → Known ops H F a0 done a w →
    Runs P o a.eval w fun v w' => Ext w w' ∧ factAt F i v w') : StepOK P ops H F (fun _ w' => Ext w0 w') a0 i o := by
  intro done a w hJ _ hd hk
  have hd' := deps_done hd
  have hb := hyes _ _ (hk.fact j d hj (hd' j hdep))
  rw [if_pos (by simp [Region.wanted, ho, yielded_of hj hb])]
  exact (h done a w hJ hd' hk).mono fun v w' hg => ⟨fun j _ u hu => factAt_keep (Mk.of_ext hg.1) j u hu, hJ.trans hg.1, hg.2⟩
/-- the mark itself -/
theorem stepYK {j d : Nat} {b : Bool} (ho : o.guard = some (j, b)) (hj : dstAt ops j = some d) (hdep : (depsOf o).contains j = true) (hyes : ∀ v w, factAt F j v w → v = .bool b)
    (h : ∀ (done : Nat → Bool) (a : Act) (w : World), Ext w0 w → (∀ j, (depsOf o).contains j = true → done j = true) → Known ops H F a0 done a w →
    Runs P o a.eval w fun v w' => (Mk w w' ∧ Ext w0 w') ∧ factAt F i v w') : StepOK P ops H F (fun _ w' => Ext w0 w') a0 i o := by
  intro done a w hJ _ hd hk
  have hd' := deps_done hd
  have hb := hyes _ _ (hk.fact j d hj (hd' j hdep))
  rw [if_pos (by simp [Region.wanted, ho, yielded_of hj hb])]
  exact (h done a w hJ hd' hk).mono fun v w' hg => ⟨fun j _ u hu => factAt_keep hg.1.1 j u hu, hg.1.2, hg.2⟩
theorem stepEK (ho : o.guard = none) (h : ∀ (done : Nat → Bool) (a : Act) (w : World), Ext w0 w → (∀ j, (depsOf o).contains j = true → done j = true) → Known ops H F a0 done a w →
    Runs P o a.eval w fun v w' => (Mk w w' ∧ Ext w0 w') ∧ factAt F i v w') : StepOK P ops H F (fun _ w' => Ext w0 w') a0 i o := by
  intro done a w hJ _ hd hk
  rw [if_pos (by simp [Region.wanted, ho])]
  exact (h done a w hJ (deps_done hd) hk).mono fun v w' hg => ⟨fun j _ u hu => factAt_keep hg.1.1 j u hu, hg.1.2, hg.2⟩
theorem stepNM {j d : Nat} {b : Bool} (ho : o.guard = some (j, !b)) (hj : dstAt ops j = some d) (hdep : (depsOf o).contains j = true) (hno : ∀ v w, factAt F j v w → v = .bool b)
    (h : ∀ w, factAt F i undef w) : StepOK P ops H F (fun _ w' => Ext w0 w') a0 i o := by
  intro done a w hJ _ hd hk
  have hd' := deps_done hd
  have hb := hno _ _ (hk.fact j d hj (hd' j hdep))
  rw [if_neg (by simp [Region.wanted, ho, yielded_of hj hb])]
  exact ⟨hJ, h w⟩
end
theorem par_mk {ops : Array Oper} {id n : Nat} {a : Act} {w : World} {Q : Exit → Act → World → Prop}
    (hB : parB ops n = true) (F : List (MP Mk))
    (hsz : (dsts ops).all (fun t => decide (t < a.tmps.size)) = true)
    (steps : StepsOK Try.prog ops ((ops.toList.take n).filterMap (·.dst)) F (fun _ w' => Ext w w') a 0 (ops.toList.take n))
    (fin : ∀ (vals : Nat → Value) (w' : World), Ext w w' → (∀ j, j < n → ∀ d, dstAt ops j = some d → factAt F j (vals j) w') → wpList Try.prog ops Q (ops.toList.drop n) (putAll a 0 (ops.toList.take n) vals) w') :
    (Code.region id ops true).wp Try.prog Q a w :=
  par_region (R := Mk) (by kernel_rfl) hB F (fun _ w' => Ext w w') (Ext.refl w).drew (fun t ht => by simpa using List.all_eq_true.1 hsz t ht) steps (fun vals w' h1 h2 => fin vals w' h1 h2) (fun _ _ _ _ h => h)
end Go.Proofs.Ytmgnigofilkfmab
