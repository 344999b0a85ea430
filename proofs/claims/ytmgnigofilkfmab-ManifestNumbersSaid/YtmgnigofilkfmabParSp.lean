/-
  A region that draws its order, one of whose operations appends a byte to a slice that was made in the region. Plain theorems.
-/
import Derived.Test.YtmgnigofilkfmabAppOne
import Derived.Test.YtmgnigofilkfmabParts
import Derived.ArgAppend
namespace Go.Proofs.Ytmgnigofilkfmab
set_option maxRecDepth 100000
open Go Go.RowKit
/-- a fact that a byte stored at place n of a row of bytes leaves standing -/
def SpOK (n : Nat) (m : MP Ext) : Prop := ∀ (u : Value) (w : World) (g : Nat) (x : Int) (cur : Array Value), w.heap[g]? = some (.cells cur 5 (0, 0)) → n < cur.size → m.p u w → m.p u (w.setCell ⟨g, n, none⟩ (.int .u8 x))
theorem spok_is (n : Nat) (v : Value) : SpOK n (MP.is v) := fun _ _ _ _ _ _ _ h => h
theorem spok_any (n : Nat) : SpOK n MP.any := fun _ _ _ _ _ _ _ _ => trivial
def MP.lo (m : Nat) (L : List UInt8) : MP Ext := ⟨fun u w => ∃ g c, u = .slice (some ⟨g, 0, none⟩) m c ∧ RB w (some ⟨g, 0, none⟩) m c L, fun _ _ _ e ⟨g, c, h1, h2⟩ => ⟨g, c, h1, h2.ext e⟩⟩
theorem spok_lo {n m : Nat} (h : m ≤ n) (L : List UInt8) : SpOK n (MP.lo m L) := by
  rintro u w g x cur hg hn ⟨g', c, h1, h2⟩
  refine ⟨g', c, h1, h2.len, h2.room, h2.cap, fun hm => ?_⟩
  obtain ⟨ad, ha, hc⟩ := h2.cells hm
  refine ⟨ad, ha, fun j hj => ?_⟩
  cases ha
  rw [add_plain]
  have h3 := World.cell?_setCells_out g [.int .u8 x] n w ⟨g', j, none⟩ (fun _ _ => .inl (show j < n by omega))
  have h4 := hc j hj
  rw [add_plain] at h4
  exact h3.trans h4
def MP.oblo (b N : Nat) (L : List UInt8) : MP Ext := ⟨fun u w => ∃ g c, u = .slice (some ⟨g, 0, none⟩) N c ∧ OB w b (some ⟨g, 0, none⟩) N c L, fun _ _ _ e ⟨g, c, h1, h2⟩ => ⟨g, c, h1, h2.ext e⟩⟩
theorem set_heap {w : World} {g n : Nat} {cur : Array Value} {t : TypeId} (hg : w.heap[g]? = some (.cells cur t (0, 0))) (v : Value) : (w.setCell ⟨g, n, none⟩ v).heap[g]? = some (.cells (cur.setIfInBounds n v) t (0, 0)) := by
  simp [World.setCell, Array.getElem?_modify, hg]
theorem spok_oblo {n N b : Nat} (h : N ≤ n) (L : List UInt8) : SpOK n (MP.oblo b N L) := by
  rintro u w g x cur hg hn ⟨g', c, h1, h2⟩
  refine ⟨g', c, h1, h2.1, ?_⟩
  rcases h2.2 with h0 | ⟨g'', cap, cur', e, hb, h3, h4, h5, h6, h7⟩
  · exact .inl h0
  · have e2 : g' = g'' := by
      injection e with e1
      injection e1 with e1
      injection e1
    subst e2
    by_cases hgg : g' = g
    · subst hgg
      rw [hg] at h3
      injection h3 with h3
      injection h3 with h3
      subst h3
      refine .inr ⟨g', cap, _, e, hb, set_heap hg _, h4, h5, by rw [Array.size_setIfInBounds]; exact h6, ?_⟩
      rw [Array.toList_setIfInBounds, List.take_set, List.set_eq_of_length_le (by rw [List.length_take]; omega)]
      exact h7
    · exact .inr ⟨g', cap, cur', e, hb, (Below.heap_setCell w ⟨g, n, none⟩ _ g' hgg).trans h3, h4, h5, h6, h7⟩
def MP.obn (b N : Nat) (L : List UInt8) : MP Ext := ⟨fun u w => ∃ A c, u = .slice A N c ∧ OB w b A N c L, fun _ _ _ e ⟨A, c, h1, h2⟩ => ⟨A, c, h1, h2.ext e⟩⟩
def JS (w0 : World) (k : Nat) (after : List Nat) (done : Nat → Bool) (w : World) : Prop := Ext w0 w ∧ ∀ j, after.contains j = true → done j = true → done k = true
section
variable {ops : Array Oper} {H : List Tmp} {F : List (MP Ext)} {a0 : Act} {w0 : World} {i k : Nat} {after : List Nat} {o : Oper}
theorem JS.set {done : Nat → Bool} {w w' : World} (h : JS w0 k after done w) (e : Ext w0 w') (hi : after.contains i = false ∨ done k = true) : JS w0 k after (setDone done i) w' := by
  refine ⟨e, fun j hj hd => ?_⟩
  unfold setDone at hd ⊢
  by_cases hki : k = i
  · rw [if_pos hki]
  · rw [if_neg hki]
    by_cases hji : j = i
    · subst hji
      rcases hi with h1 | h1
      · rw [h1] at hj; cases hj
      · exact h1
    · rw [if_neg hji] at hd
      exact h.2 j hj hd
theorem stepES (ho : o.guard = none) (hi : after.contains i = false ∨ (depsOf o).contains k = true) (h : ∀ (done : Nat → Bool) (a : Act) (w : World), Ext w0 w → (∀ j, (depsOf o).contains j = true → done j = true) → Known ops H F a0 done a w →
    Runs Try.prog o a.eval w fun v w' => Ext w w' ∧ factAt F i v w') : StepOK Try.prog ops H F (JS w0 k after) a0 i o := by
  intro done a w hJ _ hd hk
  rw [if_pos (by simp [Region.wanted, ho])]
  have hd' := deps_done hd
  exact (h done a w hJ.1 hd' hk).mono fun v w' hg => ⟨fun j _ u hu => factAt_keep hg.1 j u hu, hJ.set (hJ.1.trans hg.1) (hi.imp id (hd' k)), hg.2⟩
theorem stepES2 (p : Nat) (ho : o.guard = none) (hp : (depsOf o).contains p = true) (hpk : p = k ∨ after.contains p = true) (h : ∀ (done : Nat → Bool) (a : Act) (w : World), Ext w0 w → (∀ j, (depsOf o).contains j = true → done j = true) → Known ops H F a0 done a w →
    Runs Try.prog o a.eval w fun v w' => Ext w w' ∧ factAt F i v w') : StepOK Try.prog ops H F (JS w0 k after) a0 i o := by
  intro done a w hJ _ hd hk
  rw [if_pos (by simp [Region.wanted, ho])]
  have hd' := deps_done hd
  have hdk : done k = true := by
    rcases hpk with e | e
    · rw [← e]; exact hd' p hp
    · exact hJ.2 p e (hd' p hp)
  exact (h done a w hJ.1 hd' hk).mono fun v w' hg => ⟨fun j _ u hu => factAt_keep hg.1 j u hu, hJ.set (hJ.1.trans hg.1) (.inr hdk), hg.2⟩
theorem stepYS2 {j d : Nat} {b : Bool} (p : Nat) (ho : o.guard = some (j, b)) (hj : dstAt ops j = some d) (hdep : (depsOf o).contains j = true) (hyes : ∀ v w, factAt F j v w → v = .bool b) (hp : (depsOf o).contains p = true) (hpk : p = k ∨ after.contains p = true)
    (h : ∀ (done : Nat → Bool) (a : Act) (w : World), Ext w0 w → (∀ j, (depsOf o).contains j = true → done j = true) → Known ops H F a0 done a w →
    Runs Try.prog o a.eval w fun v w' => Ext w w' ∧ factAt F i v w') : StepOK Try.prog ops H F (JS w0 k after) a0 i o := by
  intro done a w hJ _ hd hk
  have hd' := deps_done hd
  have hb := hyes _ _ (hk.fact j d hj (hd' j hdep))
  rw [if_pos (by simp [Region.wanted, ho, yielded_of hj hb])]
  have hdk : done k = true := by
    rcases hpk with e | e
    · rw [← e]; exact hd' p hp
    · exact hJ.2 p e (hd' p hp)
  exact (h done a w hJ.1 hd' hk).mono fun v w' hg => ⟨fun j _ u hu => factAt_keep hg.1 j u hu, hJ.set (hJ.1.trans hg.1) (.inr hdk), hg.2⟩
theorem stepSp {s x : Operand} {n : Nat} {L : List UInt8} {y : UInt8} (ho : o.guard = none) (hop : o.op = .call { callee := .builtin .append, args := #[s, x], argTypes := #[22, 22] })
    (hn : n + 1 ≤ 1000000) (hF : F[k]? = some (MP.obn w0.heap.size (n + 1) (L ++ [y]))) (hak : after.contains k = false) (hst : ∀ j m, F[j]? = some m → j ≠ k → after.contains j = false → SpOK n m)
    (h : ∀ (done : Nat → Bool) (a : Act) (w : World), Ext w0 w → (∀ j, (depsOf o).contains j = true → done j = true) → Known ops H F a0 done a w →
      ∃ g c, a.eval s = .slice (some ⟨g, 0, none⟩) n c ∧ OB w w0.heap.size (some ⟨g, 0, none⟩) n c L ∧ ∃ B d, a.eval x = .slice (some B) 1 d ∧ RB w (some B) 1 d [y]) : StepOK Try.prog ops H F (JS w0 k after) a0 k o := by
  intro done a w hJ hnd hd hk
  rw [if_pos (by simp [Region.wanted, ho])]
  obtain ⟨g, c, hs, own, B, d, hx, hr⟩ := h done a w hJ.1 (deps_done hd) hk
  have own' := own
  obtain ⟨hlen, h0 | ⟨g', cap, cur, e, hb, h3, h4, h5, h6, h7⟩⟩ := own'
  · cases h0.1
  injection e with e1 e2 e3
  injection e1 with e1
  injection e1 with e1
  subst e1 e3
  by_cases hroom : n + 1 ≤ c
  · obtain ⟨i0, hi0, hz0, hz1, hz2⟩ := info_parts info_u8
    obtain ⟨Bd, hB, hc⟩ := hr.cells (by omega)
    cases hB
    have hcs : cur.size = c := by omega
    have hrun := run_append_room_cells (P := Try.prog) (w := w) 22 o.type 5 i0 Try.underlying22 hi0 g 0 n c B 1 d [.int .u8 (u8i y)] (by rw [hz1]; rfl) (fun j u hu => by
        rcases j with _ | j
        · injection hu with hu
          subst hu
          exact hc 0 (by omega)
        · cases hu) (by simp [Value.oneCell']) hroom
      (fun j hj => by
        have hj0 : j = 0 := by simpa using hj
        subst hj0
        rw [hz1, cell_of_row w g _ cur 5 (0, 0) h3]
        simp only [Nat.zero_add, Nat.mul_one, Nat.add_zero, Option.isSome_iff_exists]
        exact ⟨_, Array.getElem?_eq_getElem (show n < cur.size by omega)⟩)
      (fun j hj => frozen_of_row w g _ cur 5 h3)
    rw [hz1, show 0 + n * 1 = n from by omega] at hrun
    have hrun : (Builtin.append_ #[22, 22] o.type #[.slice (some ⟨g, 0, none⟩) n c, .slice (some B) 1 d]).run Try.prog w = .ok (.slice (some ⟨g, 0, none⟩) (n + 1) c) (w.setCell ⟨g, n, none⟩ (.int .u8 (u8i y))) := hrun
    refine Runs.of_run (r := .slice (some ⟨g, 0, none⟩) (n + 1) c) (w' := w.setCell ⟨g, n, none⟩ (.int .u8 (u8i y))) ?_ ⟨fun j hj u hu => ?_, hJ.set (hJ.1.set (p := ⟨g, n, none⟩) hb _) (.inl hak), ?_⟩
    · unfold execOp
      simp only [hop, resolve, invoke, builtin, Sem.run_bind, Sem.run_pure, Result.andThen_ok, List.map_toArray, List.map_cons, List.map_nil, hs, hx, hrun]
    · have hjk : j ≠ k := fun e => by subst e; rw [hj] at hnd; cases hnd
      unfold factAt at hu ⊢
      cases hm : F[j]? with
      | none => trivial
      | some mm =>
        rw [hm] at hu
        have hja : after.contains j = false := by
          cases hc : after.contains j with
          | false => rfl
          | true =>
            have := hJ.2 j hc hj
            rw [hnd] at this
            cases this
        exact hst j mm hm hjk hja u w g _ cur h3 (by omega) hu
    · unfold factAt
      rw [hF]
      have hL := own.len
      refine ⟨_, c, rfl, by rw [bv_length, List.length_append, hL]; simp, .inr ⟨g, c, _, rfl, hb, set_heap h3 _, hroom, h5, by rw [Array.size_setIfInBounds]; exact h6, ?_⟩⟩
      rw [Array.toList_setIfInBounds, Nat.mul_one, List.take_succ_eq_append_getElem (by rw [List.length_set]; simp; omega), List.take_set, List.set_eq_of_length_le (by rw [List.length_take]; omega), bv_append]
      rw [Nat.mul_one] at h7
      rw [h7]
      simp [bv]
  · obtain ⟨A', c', w', hrun, h2, h3'⟩ := run_app_full o.type own.rb hr (by omega) (by omega)
    refine Runs.of_run (r := .slice A' (n + 1) c') (w' := w') ?_ ⟨fun j _ u hu => factAt_keep h3' j u hu, hJ.set (hJ.1.trans h3') (.inl hak), ?_⟩
    · unfold execOp
      simp only [hop, resolve, invoke, builtin, Sem.run_bind, Sem.run_pure, Result.andThen_ok, List.map_toArray, List.map_cons, List.map_nil, hs, hx, hrun]
    · unfold factAt
      rw [hF]
      exact ⟨A', c', rfl, h2.base hJ.1.size⟩
end
theorem par_sp {ops : Array Oper} {id n : Nat} {a : Act} {w : World} {Q : Exit → Act → World → Prop} (k : Nat) (after : List Nat)
    (hB : parB ops n = true) (F : List (MP Ext))
    (hsz : (dsts ops).all (fun t => decide (t < a.tmps.size)) = true)
    (steps : StepsOK Try.prog ops ((ops.toList.take n).filterMap (·.dst)) F (JS w k after) a 0 (ops.toList.take n))
    (fin : ∀ (vals : Nat → Value) (w' : World), Ext w w' → (∀ j, j < n → ∀ d, dstAt ops j = some d → factAt F j (vals j) w') → wpList Try.prog ops Q (ops.toList.drop n) (putAll a 0 (ops.toList.take n) vals) w') :
    (Code.region id ops true).wp Try.prog Q a w :=
  par_region (R := Ext) (by kernel_rfl) hB F (JS w k after) ⟨(Ext.refl w).drew, fun j _ h => by cases h⟩ (fun t ht => by simpa using List.all_eq_true.1 hsz t ht) steps (fun vals w' h1 h2 => fin vals w' h1.1 h2)
    (fun d d' w h hj => ⟨hj.1, fun j hj' hd => (h k).symm.trans (hj.2 j hj' ((h j).trans hd))⟩)
/-- five byte slices in one row -/
theorem run_ss5 (w : World) (B0 : Option Addr) (m0 d0 : Nat) (B1 : Option Addr) (m1 d1 : Nat) (B2 : Option Addr) (m2 d2 : Nat) (B3 : Option Addr) (m3 d3 : Nat) (B4 : Option Addr) (m4 d4 : Nat) : (Instr.buildSlice 50 5 #[(0, Value.slice B0 m0 d0), (1, Value.slice B1 m1 d1), (2, Value.slice B2 m2 d2), (3, Value.slice B3 m3 d3), (4, Value.slice B4 m4 d4)]).run Try.prog w = .ok (.slice (some ⟨w.heap.size, 0, none⟩) 5 5) (w.alloc (.cells #[.slice B0 m0 d0, .slice B1 m1 d1, .slice B2 m2 d2, .slice B3 m3 d3, .slice B4 m4 d4] 22)) := by
  go_simp
theorem RBB.of5 {w : World} {B0 B1 B2 B3 B4 : Option Addr} {m0 d0 m1 d1 m2 d2 m3 d3 m4 d4 : Nat} {L0 L1 L2 L3 L4 : List UInt8} (h0 : RB w B0 m0 d0 L0) (h1 : RB w B1 m1 d1 L1) (h2 : RB w B2 m2 d2 L2) (h3 : RB w B3 m3 d3 L3) (h4 : RB w B4 m4 d4 L4) (t : TypeId) : RBB (w.alloc (.cells #[.slice B0 m0 d0, .slice B1 m1 d1, .slice B2 m2 d2, .slice B3 m3 d3, .slice B4 m4 d4] t)) (some ⟨w.heap.size, 0, none⟩) 5 5 [L0, L1, L2, L3, L4] :=
  ⟨rfl, Nat.le_refl _, small_maxLen (by decide), fun _ => ⟨_, rfl, fun j hj => by
    have hB := Blk.new w t #[.slice B0 m0 d0, .slice B1 m1 d1, .slice B2 m2 d2, .slice B3 m3 d3, .slice B4 m4 d4]
    have hE := Ext.new w (.cells #[.slice B0 m0 d0, .slice B1 m1 d1, .slice B2 m2 d2, .slice B3 m3 d3, .slice B4 m4 d4] t)
    rw [add_plain]
    have hc : j = 0 ∨ j = 1 ∨ j = 2 ∨ j = 3 ∨ j = 4 := by omega
    rcases hc with rfl | rfl | rfl | rfl | rfl
    · exact ⟨_, _, _, hB.cell (i := 0) rfl, h0.ext hE⟩
    · exact ⟨_, _, _, hB.cell (i := 1) rfl, h1.ext hE⟩
    · exact ⟨_, _, _, hB.cell (i := 2) rfl, h2.ext hE⟩
    · exact ⟨_, _, _, hB.cell (i := 3) rfl, h3.ext hE⟩
    · exact ⟨_, _, _, hB.cell (i := 4) rfl, h4.ext hE⟩⟩⟩
theorem Runs.ss5 {o : Oper} {ρ : Operand → Value} {w : World} {G : Value → World → Prop} {y0 y1 y2 y3 y4 : Operand} {B0 B1 B2 B3 B4 : Option Addr} {m0 d0 m1 d1 m2 d2 m3 d3 m4 d4 : Nat} {L0 L1 L2 L3 L4 : List UInt8} (ho : o.op = .buildSlice 50 5 #[(0, y0), (1, y1), (2, y2), (3, y3), (4, y4)]) (e0 : ρ y0 = .slice B0 m0 d0) (e1 : ρ y1 = .slice B1 m1 d1) (e2 : ρ y2 = .slice B2 m2 d2) (e3 : ρ y3 = .slice B3 m3 d3) (e4 : ρ y4 = .slice B4 m4 d4) (h0 : RB w B0 m0 d0 L0) (h1 : RB w B1 m1 d1 L1) (h2 : RB w B2 m2 d2 L2) (h3 : RB w B3 m3 d3 L3) (h4 : RB w B4 m4 d4 L4)
    (h : ∀ w', Ext w w' → RBB w' (some ⟨w.heap.size, 0, none⟩) 5 5 [L0, L1, L2, L3, L4] → G (.slice (some ⟨w.heap.size, 0, none⟩) 5 5) w') : Runs Try.prog o ρ w G := by
  refine Runs.of_run (r := .slice (some ⟨w.heap.size, 0, none⟩) 5 5) ?_ (h _ (Ext.new w _) (RBB.of5 h0 h1 h2 h3 h4 22))
  unfold execOp
  simp only [ho, e0, e1, e2, e3, e4, List.map_toArray, List.map_cons, List.map_nil, Sem.run_bind, run_ss5, Result.andThen_ok, Sem.run_pure]
end Go.Proofs.Ytmgnigofilkfmab
