/-
  Appending many slices to a row of the call's own. slices.Grow of none and slices.Concat of two rows of byte slices, walked.
-/
import Derived.Test.YthggfbpdhkpkjaaLawMany10Q16
import Derived.Test.YthggfbpdhkpkjaaLawMany10Q21
import Derived.Lib.AppendZerosOnto
namespace Go.Proofs.Ythggfbpdhkpkjaa
set_option maxRecDepth 100000
open Go Go.RowKit
theorem RBB.vals {w : World} {A : Option Addr} {n c : Nat} {Ls : List (List UInt8)} (h : RBB w A n c Ls) :
    ∃ us : List Value, us.length = n ∧ (∀ ad, A = some ad → ∀ j u, us[j]? = some u → w.cell? (ad.add j) = some u) ∧ (∀ u ∈ us, u.oneCell' = true) ∧ ∀ j, j < n → ∃ B m d, us[j]? = some (.slice B m d) ∧ RB w B m d (lb Ls j) := by
  by_cases hn : n = 0
  · subst hn
    exact ⟨[], rfl, fun _ _ j u hu => by simp at hu, fun u hu => by simp at hu, fun j hj => absurd hj (Nat.not_lt_zero _)⟩
  · obtain ⟨ad, rfl, hc⟩ := h.cells (by omega)
    have pick : ∃ f : Nat → Value, ∀ j, j < n → w.cell? (ad.add j) = some (f j) ∧ ∃ B m d, f j = .slice B m d ∧ RB w B m d (lb Ls j) :=
      ⟨fun j => (w.cell? (ad.add j)).getD undef, fun j hj => by
        obtain ⟨B, m, d, h1, h2⟩ := hc j hj
        have e : (w.cell? (ad.add j)).getD undef = .slice B m d := by rw [h1]; rfl
        exact ⟨by show w.cell? (ad.add j) = some ((w.cell? (ad.add j)).getD undef); rw [e]; exact h1, B, m, d, e, h2⟩⟩
    obtain ⟨f, hf⟩ := pick
    have hget : ∀ j, j < n → ((List.range n).map f)[j]? = some (f j) := fun j hj => by simp [hj]
    refine ⟨(List.range n).map f, by simp, fun ad' e j u hu => ?_, fun u hu => ?_, fun j hj => ?_⟩
    · cases e
      have hj : j < n := by
        rcases Nat.lt_or_ge j n with h1 | h1
        · exact h1
        · rw [List.getElem?_eq_none (by simpa using h1)] at hu; cases hu
      rw [hget j hj] at hu
      injection hu with hu
      subst hu
      exact (hf j hj).1
    · simp only [List.mem_map, List.mem_range] at hu
      obtain ⟨j, hj, rfl⟩ := hu
      obtain ⟨_, B, m, d, h1, _⟩ := hf j hj
      rw [h1]
      simp [Value.oneCell']
    · obtain ⟨_, B, m, d, h1, h2⟩ := hf j hj
      exact ⟨B, m, d, by rw [hget j hj, h1], h2⟩
theorem appvs_law {ops : Array Oper} {rest : List Oper} {o : Oper} {a : Act} {Q : Exit → Act → World → Prop} {w : World} (hgd : o.guard = none) {s x : Operand} (ho : o.op = .call { callee := .builtin .append, args := #[s, x], argTypes := #[37, 37] })
    {A : Option Addr} {n c : Nat} (hs : a.eval s = .slice A n c) {ad : Addr} {k d : Nat} (hx : a.eval x = .slice (some ad) k d) {base : Nat} {vs us : List Value}
    (hown : w.ownsRow base 22 1 (.slice A n c) n vs) (hul : us.length = k) (hcells : ∀ j u, us[j]? = some u → w.cell? (ad.add j) = some u) (hone : ∀ u ∈ us, u.oneCell' = true) (hk : 0 < k) (hbase : base ≤ w.heap.size) (hnk : n + k ≤ 1000000)
    (h : ∀ A' c' w', w'.ownsRow base 22 1 (.slice A' (n + k) c') (n + k) (vs ++ us) → w.grownBy w' (blk A) → wpList Try.prog ops Q rest (a.put o.dst (.slice A' (n + k) c')) w') : wpList Try.prog ops Q (o :: rest) a w := by
  obtain ⟨i0, hi0, hz0, hz1, hz2⟩ := info_parts info_bb'
  obtain ⟨v', w', hrun, r1, r2, _, r4⟩ := run_append_own_at (P := Try.prog) w base 37 o.type 22 i0 (.slice none 0 0) 1 24 Try.underlying37 hi0 hz0 hz1 hz2 rfl (by decide) (.slice A n c) n vs hown ad k d us (by rw [hul, Nat.mul_one]) hcells hone (small_maxLen hnk) (by omega) hbase
  obtain ⟨A', c', rfl⟩ : ∃ A' c', v' = .slice A' (n + k) c' := by
    rcases r1.2 with ⟨_, h0⟩ | ⟨g, cap, _, rfl, _⟩
    · omega
    · exact ⟨_, cap, rfl⟩
  rw [ownBlock_slice] at r2
  refine run_law hgd (v := .slice A' (n + k) c') (w' := w') ?_ (h A' c' w' r1 r2)
  unfold execOp
  simp only [ho, resolve, invoke, builtin, Sem.run_bind, Sem.run_pure, Result.andThen_ok, List.map_toArray, List.map_cons, List.map_nil, hs, hx, hrun]
end Go.Proofs.Ythggfbpdhkpkjaa
namespace Go.Proofs.Ythggfbpdhkpkjaa
set_option maxRecDepth 100000
open Go Go.RowKit
set_option maxHeartbeats 4000000 in
theorem grow_nil (w : World) : Calls Try.prog 114 #[.slice none 0 0, .int .i64 68] w fun e w' => ∃ g c, e = .returned (.slice (some ⟨g, 0, none⟩) 0 c) ∧ w'.ownsRow w.heap.size 22 1 (.slice (some ⟨g, 0, none⟩) 0 c) 0 [] ∧ Ext w w' := by
  obtain ⟨i0, hi0, hz0, hz1, hz2⟩ := info_parts info_bb'
  go_enter Try.func114, Try.ntmps114
  go_wp2_with fail
  have h1 := grownCap_ge w 68 0 22
  have h2 := grownCap_le_maxLen w 68 0 22 (small_maxLen (by omega))
  unfold grownCap at h1 h2
  go_ret
  refine ⟨w.heap.size, _, rfl, ⟨rfl, .inr ⟨w.heap.size, _, _, rfl, Nat.le_refl _, heap_alloc_new _ _, Nat.zero_le _, h2, ?_, by simp⟩⟩, (Ext.new w _).drew⟩
  rw [Array.size_append, size_zeroCells, size_zeroCells]
  simp only [List.size_toArray, List.length_cons, List.length_nil, Nat.mul_one, Nat.zero_add]
  omega
def SumI (w : World) (s i : Value) (wr : World) : Prop :=
  ∃ j : Nat, j ≤ 2 ∧ i = .int .i64 j ∧ s = .int .i64 (if j = 0 then 0 else if j = 1 then 64 else 68) ∧ wr = w
def CatI (w : World) (us1 us2 : List Value) (v i : Value) (wr : World) : Prop :=
  ∃ (j n c : Nat) (A : Option Addr) (vs : List Value), j ≤ 2 ∧ i = .int .i64 j ∧ v = .slice A n c ∧ n = (if j = 0 then 0 else if j = 1 then 64 else 68) ∧ vs = (if j = 0 then [] else if j = 1 then us1 else us1 ++ us2) ∧ wr.ownsRow w.heap.size 22 1 (.slice A n c) n vs ∧ Ext w wr
set_option maxHeartbeats 4000000 in
theorem concat_two (g cp cq : Nat) (P Q : Option Addr) (Ps Qs : List (List UInt8)) (wO w : World) (hO : Ext wO w) (hp : RBB wO P 64 cp Ps) (hq : RBB wO Q 4 cq Qs) (hB : Blk w g 37 #[.slice P 64 cp, .slice Q 4 cq]) :
    Calls Try.prog 98 #[.slice (some ⟨g, 0, none⟩) 2 2] w fun e w' => ∃ A c us, e = .returned (.slice A 68 c) ∧ w'.ownsRow w.heap.size 22 1 (.slice A 68 c) 68 us ∧ (∀ j, j < 68 → ∃ B m d, us[j]? = some (.slice B m d) ∧ RB wO B m d (lb (Ps ++ Qs) j)) ∧ Ext w w' := by
  obtain ⟨us1, l1, c1, o1, f1⟩ := hp.vals
  obtain ⟨us2, l2, c2, o2, f2⟩ := hq.vals
  obtain ⟨adP, rfl, _⟩ := hp.cells (by omega)
  obtain ⟨adQ, rfl, _⟩ := hq.cells (by omega)
  have y1 := hB.cell (i := 0) (v := .slice (some adP) 64 cp) rfl
  have y2 := hB.cell (i := 1) (v := .slice (some adQ) 4 cq) rfl
  have hlp := hp.len
  have hlq := hq.len
  have c1 := fun j u hu => hO.cell (c1 adP rfl j u hu)
  have c2 := fun j u hu => hO.cell (c2 adQ rfl j u hu)
  clear hO
  go_enter Try.func98, Try.ntmps98
  go_wp2_with fail
  go_loopw [3, 11] (fun s i wr => SumI w s i wr) (fun _ i _ => 2 - (intOf i).toNat)
  case atStart => exact ⟨0, by omega, rfl, rfl, rfl⟩
  case round =>
    obtain ⟨j, hj, rfl, rfl, rfl⟩ := hrel
    have hc : j = 0 ∨ j = 1 ∨ j = 2 := by omega
    rcases hc with rfl | rfl | rfl
    · go_wp2_with fail
      go_roundw
      case rel => exact ⟨1, by omega, rfl, rfl, rfl⟩
      case measure => simp [intOf]
    · go_wp2_with fail
      go_roundw
      case rel => exact ⟨2, by omega, rfl, rfl, rfl⟩
      case measure => simp [intOf]
    · go_wp2_with fail
      refine (grow_nil wr).mono ?_
      rintro e w2 ⟨gN, cN, rfl, own, hE⟩
      go_wp2_with fail
      obtain ⟨w0, rfl⟩ : ∃ w0, w0 = wr := ⟨_, rfl⟩
      go_loopw [6, 27] (fun v i wr => CatI w0 us1 us2 v i wr) (fun _ i _ => 2 - (intOf i).toNat)
      case atStart => exact ⟨0, 0, cN, _, [], by omega, rfl, rfl, rfl, rfl, own, hE⟩
      case round =>
        clear own hE
        obtain ⟨j, n, c, A, vs, hj', rfl, rfl, hn, hvs, own, hEr⟩ := hrel
        have z1 := hEr.cell y1
        have z2 := hEr.cell y2
        have hc : j = 0 ∨ j = 1 ∨ j = 2 := by omega
        rcases hc with rfl | rfl | rfl
        · obtain rfl : n = 0 := hn
          obtain rfl : vs = [] := hvs
          go_wp2_with (refine appvs_law (base := w0.heap.size) (us := us1) rfl rfl rfl rfl own l1 (fun j u hu => hEr.cell (c1 j u hu)) o1 (by omega) hEr.size (by omega) ?_; intro A5 c5 w5 own5 g5)
          go_roundw
          case rel => exact ⟨1, 64, c5, A5, us1, by omega, rfl, rfl, rfl, rfl, own5, hEr.then_grown g5 (fun b hb => (World.ownsRow.lt own b (by rw [ownBlock_slice]; exact hb)).1)⟩
          case measure => simp [intOf]
        · obtain rfl : n = 64 := hn
          obtain rfl : vs = us1 := hvs
          go_wp2_with (refine appvs_law (base := w0.heap.size) (us := us2) rfl rfl rfl rfl own l2 (fun j u hu => hEr.cell (c2 j u hu)) o2 (by omega) hEr.size (by omega) ?_; intro A5 c5 w5 own5 g5)
          go_roundw
          case rel => exact ⟨2, 68, c5, A5, vs ++ us2, by omega, rfl, rfl, rfl, rfl, own5, hEr.then_grown g5 (fun b hb => (World.ownsRow.lt own b (by rw [ownBlock_slice]; exact hb)).1)⟩
          case measure => simp [intOf]
        · obtain rfl : n = 68 := hn
          have hvs' : vs = us1 ++ us2 := hvs
          go_wp2_with fail
          go_ret
          refine ⟨A, c, vs, rfl, own, fun i hi => ?_, hEr⟩
          by_cases h64 : i < 64
          · obtain ⟨B, m, d, g1, g2⟩ := f1 i h64
            refine ⟨B, m, d, by rw [hvs', List.getElem?_append_left (by omega)]; exact g1, ?_⟩
            have e : lb (Ps ++ Qs) i = lb Ps i := by unfold lb; simp [List.getElem?_append_left (show i < Ps.length by omega)]
            rw [e]
            exact g2
          · obtain ⟨B, m, d, g1, g2⟩ := f2 (i - 64) (by omega)
            refine ⟨B, m, d, by rw [hvs', List.getElem?_append_right (by omega), l1]; exact g1, ?_⟩
            have e : lb (Ps ++ Qs) i = lb Qs (i - 64) := by unfold lb; simp [List.getElem?_append_right (show Ps.length ≤ i by omega), hlp]
            rw [e]
            exact g2
end Go.Proofs.Ythggfbpdhkpkjaa
