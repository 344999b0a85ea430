/-
  slices.Grow of none and slices.Concat of two rows of byte slices, walked. sign.Encode and ref5.Encode, walked. ref5.Same of two like signatures, and law5.same, walked.
-/
import Derived.Test.YtmgnigofilkfmabOwnerG
import Derived.Lib.AppendZerosOnto
import Derived.Test.YtmgnigofilkfmabWireG
namespace Go.Proofs.Ytmgnigofilkfmab
set_option maxRecDepth 100000
open Go Go.RowKit
theorem RBB.vals {w : World} {A : Option Addr} {n c : Nat} {Ls : List (List UInt8)} (h : RBB w A n c Ls) :
    ∃ us : List Value, us.length = n ∧ (∀ ad, A = some ad → ∀ j u, us[j]? = some u → w.cell? (ad.add j) = some u) ∧ (∀ u ∈ us, u.oneCell' = true) ∧ ∀ j, j < n → ∃ B m d, us[j]? = some (.slice B m d) ∧ RB w B m d (lb Ls j) := by
  by_cases hn : n = 0
  · subst hn
    exact ⟨[], rfl, fun _ _ j u hu => by simp at hu, fun u hu => by simp at hu, fun j hj => absurd hj (Nat.not_lt_zero _)⟩
  · obtain ⟨ad, rfl, hc⟩ := h.cells (by omega)
    have pick : ∃ f : Nat → Value, ∀ j, j < n → w.cell? (ad.add j) = some (f j) ∧ ∃ B m d, f j = .slice B m d ∧ RB w B m d (lb Ls j) :=
      ⟨fun j => (w.cell? (ad.add j)).getD undef, fun j hj => by
        obtain ⟨B, m, d, h1, h2⟩ := hc j hj
        have e : (w.cell? (ad.add j)).getD undef = .slice B m d := by rw [h1]; rfl
        exact ⟨by show w.cell? (ad.add j) = some ((w.cell? (ad.add j)).getD undef); rw [e]; exact h1, B, m, d, e, h2⟩⟩
    obtain ⟨f, hf⟩ := pick
    have hget : ∀ j, j < n → ((List.range n).map f)[j]? = some (f j) := fun j hj => by simp [hj]
    refine ⟨(List.range n).map f, by simp, fun ad' e j u hu => ?_, fun u hu => ?_, fun j hj => ?_⟩
    · cases e
      have hj : j < n := by
        rcases Nat.lt_or_ge j n with h1 | h1
        · exact h1
        · rw [List.getElem?_eq_none (by simpa using h1)] at hu; cases hu
      rw [hget j hj] at hu
      injection hu with hu
      subst hu
      exact (hf j hj).1
    · simp only [List.mem_map, List.mem_range] at hu
      obtain ⟨j, hj, rfl⟩ := hu
      obtain ⟨_, B, m, d, h1, _⟩ := hf j hj
      rw [h1]
      simp [Value.oneCell']
    · obtain ⟨_, B, m, d, h1, h2⟩ := hf j hj
      exact ⟨B, m, d, by rw [hget j hj, h1], h2⟩
theorem appvs_law {ops : Array Oper} {rest : List Oper} {o : Oper} {a : Act} {Q : Exit → Act → World → Prop} {w : World} (hgd : o.guard = none) {s x : Operand} (ho : o.op = .call { callee := .builtin .append, args := #[s, x], argTypes := #[50, 50] })
    {A : Option Addr} {n c : Nat} (hs : a.eval s = .slice A n c) {ad : Addr} {k d : Nat} (hx : a.eval x = .slice (some ad) k d) {base : Nat} {vs us : List Value}
    (hown : w.ownsRow base 22 1 (.slice A n c) n vs) (hul : us.length = k) (hcells : ∀ j u, us[j]? = some u → w.cell? (ad.add j) = some u) (hone : ∀ u ∈ us, u.oneCell' = true) (hk : 0 < k) (hbase : base ≤ w.heap.size) (hnk : n + k ≤ 1000000)
    (h : ∀ A' c' w', w'.ownsRow base 22 1 (.slice A' (n + k) c') (n + k) (vs ++ us) → w.grownBy w' (blk A) → wpList Try.prog ops Q rest (a.put o.dst (.slice A' (n + k) c')) w') : wpList Try.prog ops Q (o :: rest) a w := by
  obtain ⟨i0, hi0, hz0, hz1, hz2⟩ := info_parts info_bb'
  obtain ⟨v', w', hrun, r1, r2, _, r4⟩ := run_append_own_at (P := Try.prog) w base 50 o.type 22 i0 (.slice none 0 0) 1 24 Try.underlying50 hi0 hz0 hz1 hz2 rfl (by decide) (.slice A n c) n vs hown ad k d us (by rw [hul, Nat.mul_one]) hcells hone (small_maxLen hnk) (by omega) hbase
  obtain ⟨A', c', rfl⟩ : ∃ A' c', v' = .slice A' (n + k) c' := by
    rcases r1.2 with ⟨_, h0⟩ | ⟨g, cap, _, rfl, _⟩
    · omega
    · exact ⟨_, cap, rfl⟩
  rw [ownBlock_slice] at r2
  refine run_law hgd (v := .slice A' (n + k) c') (w' := w') ?_ (h A' c' w' r1 r2)
  unfold execOp
  simp only [ho, resolve, invoke, builtin, Sem.run_bind, Sem.run_pure, Result.andThen_ok, List.map_toArray, List.map_cons, List.map_nil, hs, hx, hrun]
theorem OBC.of_vals {w0 w : World} {base n c : Nat} {A : Option Addr} {vs : List Value} {Ls : List (List UInt8)} (h : w.ownsRow base 22 1 (.slice A n c) n vs) (hb : w0.heap.size ≤ base) (e : Ext w0 w) (hl : Ls.length = n)
    (hv : ∀ j, j < n → ∃ B m d, vs[j]? = some (.slice B m d) ∧ RB w0 B m d (lb Ls j)) : OBC w base A n c Ls := by
  refine ⟨vs, h, hl, fun j hj => ?_⟩
  obtain ⟨B, m, d, h1, h2⟩ := hv j hj
  refine ⟨B, m, d, h1, h2.ext e, fun hm e' => ?_⟩
  cases hB : blk B with
  | none =>
    obtain ⟨ad, rfl, _⟩ := h2.cells hm
    cases hB
  | some k =>
    have h3 := rb_blk_lt h2 hm k hB
    rw [hB] at e'
    have h4 := (World.ownsRow.lt h k (by rw [ownBlock_slice]; exact e'.symm)).1
    omega
set_option maxHeartbeats 4000000 in
theorem grow_nil (w : World) : Calls Try.prog 109 #[.slice none 0 0, .int .i64 68] w fun e w' => ∃ g c, e = .returned (.slice (some ⟨g, 0, none⟩) 0 c) ∧ w'.ownsRow w.heap.size 22 1 (.slice (some ⟨g, 0, none⟩) 0 c) 0 [] ∧ Ext w w' := by
  obtain ⟨i0, hi0, hz0, hz1, hz2⟩ := info_parts info_bb'
  go_enter Try.func109, Try.ntmps109
  go_wp2_with fail
  have h1 := grownCap_ge w 68 0 22
  have h2 := grownCap_le_maxLen w 68 0 22 (small_maxLen (by omega))
  unfold grownCap at h1 h2
  go_ret
  refine ⟨w.heap.size, _, rfl, ⟨rfl, .inr ⟨w.heap.size, _, _, rfl, Nat.le_refl _, heap_alloc_new _ _, Nat.zero_le _, h2, ?_, by simp⟩⟩, (Ext.new w _).drew⟩
  rw [Array.size_append, size_zeroCells, size_zeroCells]
  simp only [List.size_toArray, List.length_cons, List.length_nil, Nat.mul_one, Nat.zero_add]
  omega
def SumI (w : World) (s i : Value) (wr : World) : Prop :=
  ∃ j : Nat, j ≤ 2 ∧ i = .int .i64 j ∧ s = .int .i64 (if j = 0 then 0 else if j = 1 then 64 else 68) ∧ wr = w
def CatI (w : World) (us1 us2 : List Value) (v i : Value) (wr : World) : Prop :=
  ∃ (j n c : Nat) (A : Option Addr) (vs : List Value), j ≤ 2 ∧ i = .int .i64 j ∧ v = .slice A n c ∧ n = (if j = 0 then 0 else if j = 1 then 64 else 68) ∧ vs = (if j = 0 then [] else if j = 1 then us1 else us1 ++ us2) ∧ wr.ownsRow w.heap.size 22 1 (.slice A n c) n vs ∧ Ext w wr
set_option maxHeartbeats 4000000 in
theorem concat_two (g cp cq : Nat) (P Q : Option Addr) (Ps Qs : List (List UInt8)) (wO w : World) (hO : Ext wO w) (hp : RBB wO P 64 cp Ps) (hq : RBB wO Q 4 cq Qs) (hB : Blk w g 50 #[.slice P 64 cp, .slice Q 4 cq]) :
    Calls Try.prog 81 #[.slice (some ⟨g, 0, none⟩) 2 2] w fun e w' => ∃ A c us, e = .returned (.slice A 68 c) ∧ w'.ownsRow w.heap.size 22 1 (.slice A 68 c) 68 us ∧ (∀ j, j < 68 → ∃ B m d, us[j]? = some (.slice B m d) ∧ RB wO B m d (lb (Ps ++ Qs) j)) ∧ Ext w w' := by
  obtain ⟨us1, l1, c1, o1, f1⟩ := hp.vals
  obtain ⟨us2, l2, c2, o2, f2⟩ := hq.vals
  obtain ⟨adP, rfl, _⟩ := hp.cells (by omega)
  obtain ⟨adQ, rfl, _⟩ := hq.cells (by omega)
  have y1 := hB.cell (i := 0) (v := .slice (some adP) 64 cp) rfl
  have y2 := hB.cell (i := 1) (v := .slice (some adQ) 4 cq) rfl
  have hlp := hp.len
  have hlq := hq.len
  have c1 := fun j u hu => hO.cell (c1 adP rfl j u hu)
  have c2 := fun j u hu => hO.cell (c2 adQ rfl j u hu)
  clear hO
  go_enter Try.func81, Try.ntmps81
  go_wp2_with fail
  go_loopw [3, 11] (fun s i wr => SumI w s i wr) (fun _ i _ => 2 - (intOf i).toNat)
  case atStart => exact ⟨0, by omega, rfl, rfl, rfl⟩
  case round =>
    obtain ⟨j, hj, rfl, rfl, rfl⟩ := hrel
    have hc : j = 0 ∨ j = 1 ∨ j = 2 := by omega
    rcases hc with rfl | rfl | rfl
    · go_wp2_with fail
      go_roundw
      case rel => exact ⟨1, by omega, rfl, rfl, rfl⟩
      case measure => simp [intOf]
    · go_wp2_with fail
      go_roundw
      case rel => exact ⟨2, by omega, rfl, rfl, rfl⟩
      case measure => simp [intOf]
    · go_wp2_with fail
      refine (grow_nil wr).mono ?_
      rintro e w2 ⟨gN, cN, rfl, own, hE⟩
      go_wp2_with fail
      obtain ⟨w0, rfl⟩ : ∃ w0, w0 = wr := ⟨_, rfl⟩
      go_loopw [6, 27] (fun v i wr => CatI w0 us1 us2 v i wr) (fun _ i _ => 2 - (intOf i).toNat)
      case atStart => exact ⟨0, 0, cN, _, [], by omega, rfl, rfl, rfl, rfl, own, hE⟩
      case round =>
        clear own hE
        obtain ⟨j, n, c, A, vs, hj', rfl, rfl, hn, hvs, own, hEr⟩ := hrel
        have z1 := hEr.cell y1
        have z2 := hEr.cell y2
        have hc : j = 0 ∨ j = 1 ∨ j = 2 := by omega
        rcases hc with rfl | rfl | rfl
        · obtain rfl : n = 0 := hn
          obtain rfl : vs = [] := hvs
          go_wp2_with (refine appvs_law (base := w0.heap.size) (us := us1) rfl rfl rfl rfl own l1 (fun j u hu => hEr.cell (c1 j u hu)) o1 (by omega) hEr.size (by omega) ?_; intro A5 c5 w5 own5 g5)
          go_roundw
          case rel => exact ⟨1, 64, c5, A5, us1, by omega, rfl, rfl, rfl, rfl, own5, hEr.then_grown g5 (fun b hb => (World.ownsRow.lt own b (by rw [ownBlock_slice]; exact hb)).1)⟩
          case measure => simp [intOf]
        · obtain rfl : n = 64 := hn
          obtain rfl : vs = us1 := hvs
          go_wp2_with (refine appvs_law (base := w0.heap.size) (us := us2) rfl rfl rfl rfl own l2 (fun j u hu => hEr.cell (c2 j u hu)) o2 (by omega) hEr.size (by omega) ?_; intro A5 c5 w5 own5 g5)
          go_roundw
          case rel => exact ⟨2, 68, c5, A5, vs ++ us2, by omega, rfl, rfl, rfl, rfl, own5, hEr.then_grown g5 (fun b hb => (World.ownsRow.lt own b (by rw [ownBlock_slice]; exact hb)).1)⟩
          case measure => simp [intOf]
        · obtain rfl : n = 68 := hn
          have hvs' : vs = us1 ++ us2 := hvs
          go_wp2_with fail
          go_ret
          refine ⟨A, c, vs, rfl, own, fun i hi => ?_, hEr⟩
          by_cases h64 : i < 64
          · obtain ⟨B, m, d, g1, g2⟩ := f1 i h64
            refine ⟨B, m, d, by rw [hvs', List.getElem?_append_left (by omega)]; exact g1, ?_⟩
            have e : lb (Ps ++ Qs) i = lb Ps i := by unfold lb; simp [List.getElem?_append_left (show i < Ps.length by omega)]
            rw [e]
            exact g2
          · obtain ⟨B, m, d, g1, g2⟩ := f2 (i - 64) (by omega)
            refine ⟨B, m, d, by rw [hvs', List.getElem?_append_right (by omega), l1]; exact g1, ?_⟩
            have e : lb (Ps ++ Qs) i = lb Qs (i - 64) := by unfold lb; simp [List.getElem?_append_right (show Ps.length ≤ i by omega), hlp]
            rw [e]
            exact g2
end Go.Proofs.Ytmgnigofilkfmab
namespace Go.Proofs.Ytmgnigofilkfmab
set_option maxRecDepth 100000
open Go Go.RowKit
def encS (k : Int) (Ps Qs : List (List UInt8)) : List UInt8 := bytesOf (keyW k) ++ (Ps ++ Qs).flatten
theorem beBytes_four (x : UInt32) : beBytes x 4 = bytesOf x := by
  unfold beBytes bytesOf
  simp only [List.range_succ, List.range_zero, List.nil_append, List.cons_append, List.map_cons, List.map_nil]
  refine congrArg (fun z => [_, _, _, z]) ?_
  apply UInt8.toNat_inj.1
  rw [UInt32.toNat_toUInt8, shr_toNat, UInt32.toNat_toUInt8]
  simp
theorem row_chg {w w' : World} {base : Nat} {e : TypeId} {s : Nat} {v : Value} {n : Nat} {xs : List Value} (h : w.ownsRow base e s v n xs) {p : Nat} {A : Option Addr} (k : Chg w w' p A) (hp : v.ownBlock ≠ some p) (hA : ∀ b, blk A = some b → v.ownBlock ≠ some b) : w'.ownsRow base e s v n xs := by
  refine ⟨h.1, ?_⟩
  rcases h.2 with h0 | ⟨g, cap, cur, e, hg, h1, h2⟩
  · exact .inl h0
  · refine .inr ⟨g, cap, cur, e, hg, ?_, h2⟩
    have hv : v.ownBlock = some g := by rw [e]; rfl
    have hlt : g < w.heap.size := (Array.getElem?_eq_some_iff.1 h1).1
    rw [k.block g hlt (fun e => hp (by rw [hv, e])) (fun e => hA g e hv)]
    exact h1
theorem flatten_take_len (Ls : List (List UInt8)) (n : Nat) (hn : n ≤ Ls.length) (h : ∀ i, i < Ls.length → (lb Ls i).length = 32) : ((Ls.take n).flatten).length = 32 * n := by
  induction n with
  | zero => rfl
  | succ n ih => rw [flatten_take_succ Ls n hn, List.length_append, ih (by omega), h n (by omega)]; omega
def EncI (wI : World) (x : UInt32) (Ls : List (List UInt8)) (p : Nat) (C : Option Addr) (cc bc : Nat) (us : List Value) (i : Value) (wr : World) : Prop :=
  ∃ (k c : Nat) (A : Option Addr), k ≤ 68 ∧ i = .int .i64 k ∧ Wtr wr wI.heap.size p A (4 + 32 * k) c (beBytes x 4 ++ (Ls.take k).flatten) ∧ wr.ownsRow bc 22 1 (.slice C 68 cc) 68 us ∧ Ext wI wr
set_option maxHeartbeats 4000000 in
theorem sencode_any (x : Int) (P Q : Option Addr) (np cp nq cq : Nat) (Ps Qs : List (List UInt8)) (w : World) (hp : RBB w P np cp Ps) (hq : RBB w Q nq cq Qs) :
    Calls Try.prog 43 #[.agg #[.int .i64 x, .slice P np cp, .slice Q nq cq]] w fun e w' =>
      (rightB x Ps Qs = true → ∃ B d, e = .returned (.tuple #[.slice B 2180 d, .int .i64 0]) ∧ OB w' w.heap.size B 2180 d (encS x Ps Qs)) ∧
      (rightB x Ps Qs = false → e = .returned (.tuple #[.slice none 0 0, .int .i64 12])) ∧ Ext w w' := by
  have hck := fun w' => conv_key (P := Try.prog) (w := w') Try.underlying3 Try.underlying25 x
  go_enter Try.func43, Try.ntmps43
  have hE1 := Ext.new w (.cells #[.int .i64 x, .slice P np cp, .slice Q nq cq] 52)
  have hB1 := Blk.new w 52 #[.int .i64 x, .slice P np cp, .slice Q nq cq]
  go_wp2_with fail
  refine (sright_any x P Q np cp nq cq Ps Qs _ (hp.ext hE1) (hq.ext hE1)).mono ?_
  rintro e w2 ⟨rfl, hE2⟩
  have hE12 := hE1.trans hE2
  have hB2 := hB1.ext hE2
  clear hB1
  cases hr : rightB x Ps Qs with
  | false =>
    go_wp2_with fail
    go_ret2
    exact ⟨fun h => absurd (hr.symm.trans h) (by decide), fun _ => rfl, hE12⟩
  | true =>
    obtain ⟨_, ⟨hpl, hp32⟩, hql, hq32⟩ := rightB_true hr
    obtain rfl : np = 64 := hp.len.symm.trans hpl
    obtain rfl : nq = 4 := hq.len.symm.trans hql
    have hLs : (Ps ++ Qs).length = 68 := by rw [List.length_append, hpl, hql]
    have hL32 : ∀ i, i < (Ps ++ Qs).length → (lb (Ps ++ Qs) i).length = 32 := by
      intro i hi
      by_cases h64 : i < 64
      · have e : lb (Ps ++ Qs) i = lb Ps i := by unfold lb; simp [List.getElem?_append_left (show i < Ps.length by omega)]
        rw [e]
        exact hp32 i h64
      · have e : lb (Ps ++ Qs) i = lb Qs (i - 64) := by unfold lb; simp [List.getElem?_append_right (show Ps.length ≤ i by omega), hpl]
        rw [e]
        exact hq32 _ (by omega)
    have HLs := Lib.hid hLs
    have HL32 := Lib.hid hL32
    have Hr := Lib.hid hr
    clear hr hpl hp32 hql hq32 hLs hL32
    go_wp2_with fail
    refine (wnew_any w2).mono ?_
    rintro e w3 ⟨p, rfl, hW3, hE3⟩
    have hB3 := hB2.ext hE3
    have y0 := hB3.cell (i := 0) (v := .int .i64 x) rfl
    go_wp2_with fail
    refine (wnum_any w2 w3 p _ _ _ _ (keyW x) hE3 hW3 (by omega)).mono ?_
    rintro e w4 ⟨rfl, A4, c4, hW4, hC4, hL4⟩
    have hE4 := hW3.chg_ext hE3 hC4
    have hB4 := hB2.ext hE4
    have z1 := hB4.cell (i := 1) (v := .slice P 64 cp) rfl
    have z2 := hB4.cell (i := 2) (v := .slice Q 4 cq) rfl
    clear y0 hB3 hW3 hC4 hL4
    have hE5 := Ext.new w4 (.cells #[.slice P 64 cp, .slice Q 4 cq] 50)
    have hB5 := Blk.new w4 50 #[.slice P 64 cp, .slice Q 4 cq]
    go_wp2_with fail
    refine (concat_two w4.heap.size cp cq P Q Ps Qs w _ ((hE12.trans hE4).trans hE5) hp hq hB5).mono ?_
    rintro e w6 ⟨C, cc, us, rfl, ownC, hus, hE6⟩
    have hE46 := hE5.trans hE6
    have hE26 := hE4.trans hE46
    have hW6 : Wtr w6 w2.heap.size p A4 (4 + 32 * 0) c4 (beBytes (keyW x) 4 ++ ((Ps ++ Qs).take 0).flatten) := by
      have := (show Wtr w6 w2.heap.size p A4 (0 + 4) c4 ([] ++ beBytes (keyW x) 4) from ⟨hW4.blk.ext hE46, hW4.own.ext hE46, hW4.ne, hW4.base⟩)
      simpa using this
    obtain ⟨bc, hbc⟩ : ∃ bc, bc = (w4.alloc (.cells #[.slice P 64 cp, .slice Q 4 cq] 50)).heap.size := ⟨_, rfl⟩
    rw [← hbc] at ownC
    clear hbc hB5 hE5 hE6 hW4 z1 z2 hE46 hE4 hB4 hB2 hE3 hE1 hE2
    have Hus := Lib.hid hus
    clear hus hck
    obtain ⟨Ls, hLs⟩ : ∃ Ls, Ls = Ps ++ Qs := ⟨_, rfl⟩
    rw [← hLs] at HLs HL32 Hus hW6
    have HLq := Lib.hid hLs
    clear hLs
    go_wp2_with fail
    go_loopw [23] (fun i wr => EncI w2 (keyW x) Ls p C cc bc us i wr) (fun i _ => 68 - (intOf i).toNat)
    case atStart => exact ⟨0, c4, A4, by omega, rfl, hW6, ownC, hE26⟩
    case round =>
      clear hW6 ownC hE26
      obtain ⟨k, c, A, hk, rfl, hW, ownC, hEr⟩ := hrel
      by_cases hlt : k < 68
      · have hki : (k : Int) < 68 := by omega
        obtain ⟨B, m, d, hu, hB⟩ := Hus.out k hlt
        obtain rfl : m = 32 := hB.len.symm.trans (HL32.out k (by rw [HLs.out]; exact hlt))
        have hCn : ∃ gC, C = some ⟨gC, 0, none⟩ := by
          rcases ownC.2 with ⟨e, h0⟩ | ⟨g, cap, cur, e, _⟩
          · omega
          · injection e with e1
            exact ⟨g, e1⟩
        obtain ⟨gC, rfl⟩ := hCn
        have y1 := World.ownsRow.cells ownC (g := gC) (by rw [ownBlock_slice]; rfl) k _ hu
        rw [add_plain] at y1
        have hft := flatten_take_succ Ls k (by rw [HLs.out]; exact hlt)
        have Hft := Lib.hid hft
        clear hft hu
        go_wp2_with fail
        refine (wraw_any w2 wr p _ _ _ _ _ B _ (lb Ls k) hEr hW (hB.ext (hE12.trans hEr)) (by omega)).mono ?_
        rintro e w8 ⟨rfl, A8, c8, hW8, hC8, hL8⟩
        have hE8 := hW.chg_ext hEr hC8
        have ownC8 := row_chg ownC hC8 (row_ne ownC hW.blk (by decide)) (fun b hb => by
          obtain ⟨cs, hcs⟩ := row_type hW.own (k := b) (by rw [ownBlock_slice]; exact hb)
          exact row_ne ownC hcs (by decide))
        rw [show 4 + 32 * k + 32 = 4 + 32 * (k + 1) from by omega, List.append_assoc, ← Hft.out] at hW8
        go_wp2_with fail
        go_roundw
        case rel => exact ⟨k + 1, c8, A8, by omega, by go_num, hW8, ownC8, hE8⟩
        case measure => simp [intOf]; omega
      · obtain rfl : k = 68 := by omega
        have htk : Ls.take 68 = Ls := List.take_of_length_le (by rw [HLs.out]; omega)
        rw [htk] at hW
        go_wp2_with fail
        refine (wdone_any wr w2.heap.size p _ _ _ _ hW (by omega)).mono ?_
        rintro e w9 ⟨B, d, rfl, own9, hE9⟩
        go_wp2_with fail
        go_ret2
        refine ⟨fun _ => ⟨B, d, rfl, ?_⟩, fun h => absurd (Hr.out.symm.trans h) (by decide), (hE12.trans hEr).trans hE9⟩
        have h1 := own9.base (hE12.trans hEr).size
        rw [beBytes_four] at h1
        unfold encS
        rw [← HLq.out]
        exact h1
def offE (j : Nat) : Nat := if j = 0 then 0 else if j = 1 then 64 else 68
def EncO (w1 : World) (gB : Nat) (cs : Array Value) (x : UInt32) (Ls : List (List UInt8)) (v i : Value) (wr : World) : Prop :=
  ∃ (j c : Nat) (A : Option Addr), j ≤ 2 ∧ i = .int .i64 j ∧ v = .slice A (4 + 32 * offE j) c ∧ OB wr w1.heap.size A (4 + 32 * offE j) c (bytesOf x ++ (Ls.take (offE j)).flatten) ∧ Blk wr gB 50 cs ∧ Ext w1 wr
def EncN (w1 : World) (gB : Nat) (cs : Array Value) (x : UInt32) (Ls : List (List UInt8)) (m n : Nat) (v i : Value) (wr : World) : Prop :=
  ∃ (k c : Nat) (A : Option Addr), k ≤ n ∧ i = .int .i64 k ∧ v = .slice A (4 + 32 * (m + k)) c ∧ OB wr w1.heap.size A (4 + 32 * (m + k)) c (bytesOf x ++ (Ls.take (m + k)).flatten) ∧ Blk wr gB 50 cs ∧ Ext w1 wr
set_option maxHeartbeats 4000000 in
theorem rencode_any (x : Int) (P Q : Option Addr) (np cp nq cq : Nat) (Ps Qs : List (List UInt8)) (w : World) (hp : RBB w P np cp Ps) (hq : RBB w Q nq cq Qs) (hr : rightB x Ps Qs = true) :
    Calls Try.prog 79 #[.agg #[.int .i64 x, .slice P np cp, .slice Q nq cq]] w fun e w' => ∃ B d, e = .returned (.slice B 2180 d) ∧ OB w' w.heap.size B 2180 d (encS x Ps Qs) ∧ Ext w w' := by
  have hck := fun w' => conv_key (P := Try.prog) (w := w') Try.underlying3 Try.underlying25 x
  obtain ⟨_, ⟨hpl, hp32⟩, hql, hq32⟩ := rightB_true hr
  obtain rfl : np = 64 := hp.len.symm.trans hpl
  obtain rfl : nq = 4 := hq.len.symm.trans hql
  have hLs : (Ps ++ Qs).length = 68 := by rw [List.length_append, hpl, hql]
  have hlb0 : ∀ k, k < 64 → lb (Ps ++ Qs) (0 + k) = lb Ps k := by
    intro k hk
    unfold lb
    simp [List.getElem?_append_left (show k < Ps.length by omega)]
  have hlb1 : ∀ k, k < 4 → lb (Ps ++ Qs) (64 + k) = lb Qs k := by
    intro k hk
    unfold lb
    simp [List.getElem?_append_right (show Ps.length ≤ 64 + k by omega), hpl]
  have HLs := Lib.hid hLs
  have Hlb0 := Lib.hid hlb0
  have Hlb1 := Lib.hid hlb1
  have Hp32 := Lib.hid hp32
  have Hq32 := Lib.hid hq32
  have henc : encS x Ps Qs = bytesOf (keyW x) ++ ((Ps ++ Qs).take 68).flatten := by unfold encS; rw [List.take_of_length_le (by rw [hLs]; omega)]
  rw [henc]
  generalize Ps ++ Qs = Ls at *
  clear hpl hp32 hql hq32 hLs hlb0 hlb1 henc
  go_enter Try.func79, Try.ntmps79
  have hE1 := Ext.new w (.cells #[.int .i64 x, .slice P 64 cp, .slice Q 4 cq] 52)
  have hB1 := Blk.new w 52 #[.int .i64 x, .slice P 64 cp, .slice Q 4 cq]
  go_wp2_with fail
  refine (num4_any (keyW x) _).mono ?_
  rintro e w2 ⟨A2, c2, rfl, own2, hE2⟩
  have hB2 := hB1.ext hE2
  have z1 := hB2.cell (i := 1) (v := .slice P 64 cp) rfl
  have z2 := hB2.cell (i := 2) (v := .slice Q 4 cq) rfl
  have hE12 := hE1.trans hE2
  have own2 := own2.base hE1.size
  clear hB1 hE1 hE2 hck
  have hE3 := Ext.new w2 (.cells #[.slice P 64 cp, .slice Q 4 cq] 50)
  have hB3 := Blk.new w2 50 #[.slice P 64 cp, .slice Q 4 cq]
  have own3 := own2.ext hE3
  have hE13 := hE12.trans hE3
  go_wp2_with fail
  have gB2 : w2.heap.size < w2.heap.size + 1 := Nat.lt_succ_self _
  obtain ⟨gB, hgB⟩ : ∃ gB, gB = w2.heap.size := ⟨_, rfl⟩
  rw [← hgB] at hB3 ⊢
  clear gB2 own2 z1 z2 hE3 hB2 hE12
  have own3' : OB (w2.alloc (.cells #[.slice P 64 cp, .slice Q 4 cq] 50)) w.heap.size A2 (4 + 32 * offE 0) c2 (bytesOf (keyW x) ++ (Ls.take (offE 0)).flatten) := by
    show OB _ _ A2 4 c2 _
    simpa [offE] using own3
  go_loopw [3, 17] (fun v i wr => EncO w gB #[.slice P 64 cp, .slice Q 4 cq] (keyW x) Ls v i wr) (fun _ i _ => 2 - (intOf i).toNat)
  case atStart => exact ⟨0, c2, A2, by omega, rfl, rfl, own3', hB3, hE13⟩
  case round =>
    clear own3 own3' hB3 hE13 hgB
    obtain ⟨j, c, A, hj, rfl, rfl, own, hB, hEr⟩ := hrel
    by_cases hlt : j < 2
    · have hji : (j : Int) < 2 := by omega
      obtain ⟨A', n', c', L, hcell, hrL, hoff, hlb, h32, hn'⟩ : ∃ (A' : Option Addr) (n' c' : Nat) (L : List (List UInt8)), wr.cell? ⟨gB, j, none⟩ = some (.slice A' n' c') ∧ RBB w A' n' c' L ∧ offE j + n' = offE (j + 1) ∧ (∀ k, k < n' → lb Ls (offE j + k) = lb L k) ∧ (∀ k, k < n' → (lb L k).length = 32) ∧ n' ≤ 64 := by
        have hc : j = 0 ∨ j = 1 := by omega
        rcases hc with rfl | rfl
        · exact ⟨P, 64, cp, Ps, hB.cell (i := 0) rfl, hp, rfl, Hlb0.out, Hp32.out, by omega⟩
        · exact ⟨Q, 4, cq, Qs, hB.cell (i := 1) rfl, hq, rfl, Hlb1.out, Hq32.out, by omega⟩
      have ho68 : offE j + n' ≤ 68 := by
        rw [hoff]
        unfold offE
        split
        · omega
        · split <;> omega
      have Hoff := Lib.hid hoff
      have Hlb := Lib.hid hlb
      have H32 := Lib.hid h32
      clear hoff hlb h32
      generalize offE j = m at *
      go_wp2_with fail
      go_loopw [3, 6] (fun v i wi => EncN w gB #[.slice P 64 cp, .slice Q 4 cq] (keyW x) Ls m n' v i wi) (fun _ i _ => n' - (intOf i).toNat)
      case atStart => exact ⟨0, c, A, by omega, rfl, rfl, own, hB, hEr⟩
      case round =>
        clear own hB hEr hcell
        obtain ⟨k, c, A, hk, rfl, rfl, own, hB, hEr⟩ := hrel
        by_cases hlt2 : k < n'
        · have hki : (k : Int) < (n' : Int) := by omega
          obtain ⟨ad, rfl, hc⟩ := hrL.cells (by omega)
          obtain ⟨E, z, y, hcell3, hrE⟩ := hc k hlt2
          obtain rfl : z = 32 := hrE.len.symm.trans (H32.out k hlt2)
          have y1 := hEr.cell hcell3
          have rE := hrE.ext hEr
          have hft := flatten_take_succ Ls (m + k) (by rw [HLs.out]; omega)
          rw [Hlb.out k hlt2] at hft
          have Hft := Lib.hid hft
          clear hft hc hcell3 hrE
          have hnB := row_ne own hB (by decide)
          rw [ownBlock_slice] at hnB
          go_wp2_with (refine app_law rfl rfl rfl rfl own rE (by omega) hEr.size ?_; intro A5 c5 w5 own5 g5 b5 s5)
          have hB5 := hB.grown g5 (fun e => hnB e.symm)
          have hE5 := hEr.then_grown g5 (fun b hb => (own.lt hb).1)
          rw [show 4 + 32 * (m + k) + 32 = 4 + 32 * (m + (k + 1)) from by omega, List.append_assoc, ← Hft.out] at own5
          go_roundw
          case rel => exact ⟨k + 1, c5, A5, by omega, by go_num, rfl, own5, hB5, hE5⟩
          case measure => simp [intOf]; omega
        · obtain rfl : k = n' := by omega
          rw [Hoff.out] at own
          go_wp2_with fail
          go_roundw
          case rel => exact ⟨j + 1, c, A, by omega, by go_num, by rw [Hoff.out], own, hB, hEr⟩
          case measure => simp [intOf]; omega
    · obtain rfl : j = 2 := by omega
      go_wp2_with fail
      go_ret
      exact ⟨A, c, rfl, own, hEr⟩
end Go.Proofs.Ytmgnigofilkfmab
namespace Go.Proofs.Ytmgnigofilkfmab
set_option maxRecDepth 100000
open Go Go.RowKit
def UpTo (w1 : World) (n : Nat) (i : Value) (wr : World) : Prop := ∃ k : Nat, k ≤ n ∧ i = .int .i64 k ∧ Ext w1 wr
set_option maxHeartbeats 4000000 in
theorem rsame_true (x : Int) (P Q P' Q' : Option Addr) (np cp nq cq np' cp' nq' cq' : Nat) (Ps Qs : List (List UInt8)) (w : World) (hp : RBB w P np cp Ps) (hq : RBB w Q nq cq Qs) (hp' : RBB w P' np' cp' Ps) (hq' : RBB w Q' nq' cq' Qs) :
    Calls Try.prog 39 #[.agg #[.int .i64 x, .slice P np cp, .slice Q nq cq], .agg #[.int .i64 x, .slice P' np' cp', .slice Q' nq' cq']] w fun e w' => e = .returned (.bool true) ∧ Ext w w' := by
  obtain rfl : np = np' := hp.len.symm.trans hp'.len
  obtain rfl : nq = nq' := hq.len.symm.trans hq'.len
  have hc1 := hp.cap
  have hc2 := hq.cap
  have hc3 := hp.room
  have hc4 := hq.room
  have hc5 := hp'.room
  have hc6 := hq'.room
  unfold maxLen at hc1 hc2
  have hE1 := Ext.new w (.cells #[.int .i64 x, .slice P np cp, .slice Q nq cq] 52)
  have hB1 := Blk.new w 52 #[.int .i64 x, .slice P np cp, .slice Q nq cq]
  obtain ⟨w1, hw1⟩ : ∃ w1, w1 = w.alloc (.cells #[.int .i64 x, .slice P np cp, .slice Q nq cq] 52) := ⟨_, rfl⟩
  rw [← hw1] at hE1 hB1
  have hE2 := Ext.new w1 (.cells #[.int .i64 x, .slice P' np cp', .slice Q' nq cq'] 52)
  have hB2 := Blk.new w1 52 #[.int .i64 x, .slice P' np cp', .slice Q' nq cq']
  have hs1 : w1.heap.size = w.heap.size + 1 := by rw [hw1]; exact World.size_alloc _ _
  have hB1 := hB1.ext hE2
  have hE12 := hE1.trans hE2
  rw [hs1] at hB2
  rw [hw1] at hE12 hB1 hB2
  clear hw1 hs1 hE1 hE2
  go_enter Try.func39, Try.ntmps39
  go_wp2_with fail
  generalize (w.alloc (.cells #[.int .i64 x, .slice P np cp, .slice Q nq cq] 52)).alloc (.cells #[.int .i64 x, .slice P' np cp', .slice Q' nq cq'] 52) = w2 at *
  go_loopw [5] (fun i wr => UpTo w2 np i wr) (fun i _ => np - (intOf i).toNat)
  case atStart => exact ⟨0, by omega, rfl, Ext.refl _⟩
  case round =>
    obtain ⟨k, hk, rfl, hEr⟩ := hrel
    have hEw := hE12.trans hEr
    have b1 := hB1.ext hEr
    have b2 := hB2.ext hEr
    have u1 : wr.cell? ⟨w.heap.size, 1, none⟩ = some (.slice P np cp) := b1.cell (i := 1) rfl
    have v1 : wr.cell? ⟨w.heap.size + 1, 1, none⟩ = some (.slice P' np cp') := b2.cell (i := 1) rfl
    by_cases hlt : k < np
    · have hki : (k : Int) < (np : Int) := by omega
      obtain ⟨adP, rfl, hcP⟩ := hp.cells (by omega)
      obtain ⟨adR, rfl, hcR⟩ := hp'.cells (by omega)
      obtain ⟨E1, z1, y1, hc1, hr1⟩ := hcP k hlt
      obtain ⟨E2, z2, y2, hc2, hr2⟩ := hcR k hlt
      have hr1 := hr1.ext hEw
      have hr2 := hr2.ext hEw
      have hc1 := hEw.cell hc1
      have hc2 := hEw.cell hc2
      clear hcP hcR
      go_upto_region 6 with (fail)
      refine par_ext (n := 13) (by kernel_rfl) [.is (.pointer (some ⟨w.heap.size, 1, none⟩)), .is (.slice (some adP) (np) (cp)), .is (.int .i64 (((k : Nat) : Int))), .is (.pointer (some ((adP : Addr).add (k)))), .is (.slice (E1) (z1) (y1)), .is (.string (str (lb Ps k))), .is (.pointer (some ⟨w.heap.size + 1, 1, none⟩)), .is (.slice (some adR) (np) (cp')), .is (.int .i64 (((k : Nat) : Int))), .is (.pointer (some ((adR : Addr).add (k)))), .is (.slice (E2) (z2) (y2)), .is (.string (str (lb Ps k))), .is (.bool (false))] rfl ⟨?_, ?_, ?_, ?_, ?_, ?_, ?_, ?_, ?_, ?_, ?_, ?_, ?_, trivial⟩ ?_
      · refine stepE rfl fun sdn sa sw sE sd sk => ?_
        have h2 : sa.eval (.tmp 2) = .pointer (some ⟨w.heap.size, 0, none⟩) := sk.old 2 rfl
        refine Runs.of_run (r := .pointer (some ⟨w.heap.size, 1, none⟩)) (w' := sw) ?_ ⟨Ext.refl _, rfl⟩
        unfold execOp
        simp only [h2]
        go_simp
      · refine stepE rfl fun sdn sa sw sE sd sk => ?_
        have h37 : sa.eval (.tmp 37) = .pointer (some ⟨w.heap.size, 1, none⟩) := sk.fact 0 37 rfl (sd 0 rfl)
        exact Runs.load rfl h37 (run_load1 Try.underlying50 rfl (sE.cell u1)) ⟨Ext.refl _, rfl⟩
      · refine stepE rfl fun sdn sa sw sE sd sk => ?_
        have h5 : sa.eval (.tmp 5) = .int .i64 (((k : Nat) : Int)) := sk.old 5 rfl
        exact Runs.move rfl h5 ⟨Ext.refl _, rfl⟩
      · refine stepE rfl fun sdn sa sw sE sd sk => ?_
        have h38 : sa.eval (.tmp 38) = .slice (some adP) (np) (cp) := sk.fact 1 38 rfl (sd 1 rfl)
        have h39 : sa.eval (.tmp 39) = .int .i64 (((k : Nat) : Int)) := sk.fact 2 39 rfl (sd 2 rfl)
        exact Runs.idx rfl h38 h39 (run_idx_sl1 Try.underlying50 infZZ_eq infZZ_size (k) (by omega) (by omega)) ⟨Ext.refl _, rfl⟩
      · refine stepE rfl fun sdn sa sw sE sd sk => ?_
        have h40 : sa.eval (.tmp 40) = .pointer (some ((adP : Addr).add (k))) := sk.fact 3 40 rfl (sd 3 rfl)
        exact Runs.load rfl h40 (run_load1 Try.underlying22 rfl (sE.cell hc1)) ⟨Ext.refl _, rfl⟩
      · refine stepE rfl fun sdn sa sw sE sd sk => ?_
        have h41 : sa.eval (.tmp 41) = .slice (E1) (z1) (y1) := sk.fact 4 41 rfl (sd 4 rfl)
        exact Runs.conv rfl h41 (run_str (hr1.ext sE)) ⟨Ext.refl _, rfl⟩
      · refine stepE rfl fun sdn sa sw sE sd sk => ?_
        have h3 : sa.eval (.tmp 3) = .pointer (some ⟨w.heap.size + 1, 0, none⟩) := sk.old 3 rfl
        refine Runs.of_run (r := .pointer (some ⟨w.heap.size + 1, 1, none⟩)) (w' := sw) ?_ ⟨Ext.refl _, rfl⟩
        unfold execOp
        simp only [h3]
        go_simp
      · refine stepE rfl fun sdn sa sw sE sd sk => ?_
        have h43 : sa.eval (.tmp 43) = .pointer (some ⟨w.heap.size + 1, 1, none⟩) := sk.fact 6 43 rfl (sd 6 rfl)
        exact Runs.load rfl h43 (run_load1 Try.underlying50 rfl (sE.cell v1)) ⟨Ext.refl _, rfl⟩
      · refine stepE rfl fun sdn sa sw sE sd sk => ?_
        have h5 : sa.eval (.tmp 5) = .int .i64 (((k : Nat) : Int)) := sk.old 5 rfl
        exact Runs.move rfl h5 ⟨Ext.refl _, rfl⟩
      · refine stepE rfl fun sdn sa sw sE sd sk => ?_
        have h44 : sa.eval (.tmp 44) = .slice (some adR) (np) (cp') := sk.fact 7 44 rfl (sd 7 rfl)
        have h45 : sa.eval (.tmp 45) = .int .i64 (((k : Nat) : Int)) := sk.fact 8 45 rfl (sd 8 rfl)
        exact Runs.idx rfl h44 h45 (run_idx_sl1 Try.underlying50 infZZ_eq infZZ_size (k) (by omega) (by omega)) ⟨Ext.refl _, rfl⟩
      · refine stepE rfl fun sdn sa sw sE sd sk => ?_
        have h46 : sa.eval (.tmp 46) = .pointer (some ((adR : Addr).add (k))) := sk.fact 9 46 rfl (sd 9 rfl)
        exact Runs.load rfl h46 (run_load1 Try.underlying22 rfl (sE.cell hc2)) ⟨Ext.refl _, rfl⟩
      · refine stepE rfl fun sdn sa sw sE sd sk => ?_
        have h47 : sa.eval (.tmp 47) = .slice (E2) (z2) (y2) := sk.fact 10 47 rfl (sd 10 rfl)
        exact Runs.conv rfl h47 (run_str (hr2.ext sE)) ⟨Ext.refl _, rfl⟩
      · refine stepE rfl fun sdn sa sw sE sd sk => ?_
        have h42 : sa.eval (.tmp 42) = .string (str (lb Ps k)) := sk.fact 5 42 rfl (sd 5 rfl)
        have h48 : sa.eval (.tmp 48) = .string (str (lb Ps k)) := sk.fact 11 48 rfl (sd 11 rfl)
        exact Runs.bin rfl h42 h48 (by rfl) (bin_nes _ _ _) ⟨Ext.refl _, congrArg Value.bool (by simp)⟩
      intro vals W1 hE hv
      have e0 : vals 0 = .pointer (some ⟨w.heap.size, 1, none⟩) := hv 0 (by omega) 37 rfl
      have e1 : vals 1 = .slice (some adP) (np) (cp) := hv 1 (by omega) 38 rfl
      have e2 : vals 2 = .int .i64 (((k : Nat) : Int)) := hv 2 (by omega) 39 rfl
      have e3 : vals 3 = .pointer (some ((adP : Addr).add (k))) := hv 3 (by omega) 40 rfl
      have e4 : vals 4 = .slice (E1) (z1) (y1) := hv 4 (by omega) 41 rfl
      have e5 : vals 5 = .string (str (lb Ps k)) := hv 5 (by omega) 42 rfl
      have e6 : vals 6 = .pointer (some ⟨w.heap.size + 1, 1, none⟩) := hv 6 (by omega) 43 rfl
      have e7 : vals 7 = .slice (some adR) (np) (cp') := hv 7 (by omega) 44 rfl
      have e8 : vals 8 = .int .i64 (((k : Nat) : Int)) := hv 8 (by omega) 45 rfl
      have e9 : vals 9 = .pointer (some ((adR : Addr).add (k))) := hv 9 (by omega) 46 rfl
      have e10 : vals 10 = .slice (E2) (z2) (y2) := hv 10 (by omega) 47 rfl
      have e11 : vals 11 = .string (str (lb Ps k)) := hv 11 (by omega) 48 rfl
      have e12 : vals 12 = .bool (false) := hv 12 (by omega) 49 rfl
      simp only [putAll, Act.put, List.take_succ_cons, List.take_zero, List.drop_succ_cons, List.drop_zero, List.drop_nil, List.take_nil, Nat.reduceAdd, List.setIfInBounds_toArray, List.set_cons_succ, List.set_cons_zero, e0, e1, e2, e3, e4, e5, e6, e7, e8, e9, e10, e11, e12]
      clear hv e0 e1 e2 e3 e4 e5 e6 e7 e8 e9 e10 e11 e12
      go_wp2_with fail
      go_roundw
      case rel => exact ⟨k + 1, by omega, by go_num, hEr.trans hE⟩
      case measure => simp [intOf]; omega
    · obtain rfl : k = np := by omega
      go_wp2_with fail
      obtain ⟨w3, rfl⟩ : ∃ w3, w3 = wr := ⟨_, rfl⟩
      clear u1 v1 b1 b2
      go_loopw [6] (fun i wr => UpTo w2 nq i wr) (fun i _ => nq - (intOf i).toNat)
      case atStart => exact ⟨0, by omega, rfl, hEr⟩
      case round =>
        clear hEr hEw
        obtain ⟨j, hj, rfl, hEr⟩ := hrel
        have hEw := hE12.trans hEr
        have b1 := hB1.ext hEr
        have b2 := hB2.ext hEr
        have u1 : wr.cell? ⟨w.heap.size, 2, none⟩ = some (.slice Q nq cq) := b1.cell (i := 2) rfl
        have v1 : wr.cell? ⟨w.heap.size + 1, 2, none⟩ = some (.slice Q' nq cq') := b2.cell (i := 2) rfl
        by_cases hlt2 : j < nq
        · have hji : (j : Int) < (nq : Int) := by omega
          obtain ⟨adP, rfl, hcP⟩ := hq.cells (by omega)
          obtain ⟨adR, rfl, hcR⟩ := hq'.cells (by omega)
          obtain ⟨E1, z1, y1, hc1, hr1⟩ := hcP j hlt2
          obtain ⟨E2, z2, y2, hc2, hr2⟩ := hcR j hlt2
          have hr1 := hr1.ext hEw
          have hr2 := hr2.ext hEw
          have hc1 := hEw.cell hc1
          have hc2 := hEw.cell hc2
          clear hcP hcR
          go_upto_region 11 with (fail)
          refine par_ext (n := 13) (by kernel_rfl) [.is (.pointer (some ⟨w.heap.size, 2, none⟩)), .is (.slice (some adP) (nq) (cq)), .is (.int .i64 (((j : Nat) : Int))), .is (.pointer (some ((adP : Addr).add (j)))), .is (.slice (E1) (z1) (y1)), .is (.string (str (lb Qs j))), .is (.pointer (some ⟨w.heap.size + 1, 2, none⟩)), .is (.slice (some adR) (nq) (cq')), .is (.int .i64 (((j : Nat) : Int))), .is (.pointer (some ((adR : Addr).add (j)))), .is (.slice (E2) (z2) (y2)), .is (.string (str (lb Qs j))), .is (.bool (false))] rfl ⟨?_, ?_, ?_, ?_, ?_, ?_, ?_, ?_, ?_, ?_, ?_, ?_, ?_, trivial⟩ ?_
          · refine stepE rfl fun sdn sa sw sE sd sk => ?_
            have h2 : sa.eval (.tmp 2) = .pointer (some ⟨w.heap.size, 0, none⟩) := sk.old 2 rfl
            refine Runs.of_run (r := .pointer (some ⟨w.heap.size, 2, none⟩)) (w' := sw) ?_ ⟨Ext.refl _, rfl⟩
            unfold execOp
            simp only [h2]
            go_simp
          · refine stepE rfl fun sdn sa sw sE sd sk => ?_
            have h57 : sa.eval (.tmp 57) = .pointer (some ⟨w.heap.size, 2, none⟩) := sk.fact 0 57 rfl (sd 0 rfl)
            exact Runs.load rfl h57 (run_load1 Try.underlying50 rfl (sE.cell u1)) ⟨Ext.refl _, rfl⟩
          · refine stepE rfl fun sdn sa sw sE sd sk => ?_
            have h6 : sa.eval (.tmp 6) = .int .i64 (((j : Nat) : Int)) := sk.old 6 rfl
            exact Runs.move rfl h6 ⟨Ext.refl _, rfl⟩
          · refine stepE rfl fun sdn sa sw sE sd sk => ?_
            have h58 : sa.eval (.tmp 58) = .slice (some adP) (nq) (cq) := sk.fact 1 58 rfl (sd 1 rfl)
            have h59 : sa.eval (.tmp 59) = .int .i64 (((j : Nat) : Int)) := sk.fact 2 59 rfl (sd 2 rfl)
            exact Runs.idx rfl h58 h59 (run_idx_sl1 Try.underlying50 infZZ_eq infZZ_size (j) (by omega) (by omega)) ⟨Ext.refl _, rfl⟩
          · refine stepE rfl fun sdn sa sw sE sd sk => ?_
            have h60 : sa.eval (.tmp 60) = .pointer (some ((adP : Addr).add (j))) := sk.fact 3 60 rfl (sd 3 rfl)
            exact Runs.load rfl h60 (run_load1 Try.underlying22 rfl (sE.cell hc1)) ⟨Ext.refl _, rfl⟩
          · refine stepE rfl fun sdn sa sw sE sd sk => ?_
            have h61 : sa.eval (.tmp 61) = .slice (E1) (z1) (y1) := sk.fact 4 61 rfl (sd 4 rfl)
            exact Runs.conv rfl h61 (run_str (hr1.ext sE)) ⟨Ext.refl _, rfl⟩
          · refine stepE rfl fun sdn sa sw sE sd sk => ?_
            have h3 : sa.eval (.tmp 3) = .pointer (some ⟨w.heap.size + 1, 0, none⟩) := sk.old 3 rfl
            refine Runs.of_run (r := .pointer (some ⟨w.heap.size + 1, 2, none⟩)) (w' := sw) ?_ ⟨Ext.refl _, rfl⟩
            unfold execOp
            simp only [h3]
            go_simp
          · refine stepE rfl fun sdn sa sw sE sd sk => ?_
            have h63 : sa.eval (.tmp 63) = .pointer (some ⟨w.heap.size + 1, 2, none⟩) := sk.fact 6 63 rfl (sd 6 rfl)
            exact Runs.load rfl h63 (run_load1 Try.underlying50 rfl (sE.cell v1)) ⟨Ext.refl _, rfl⟩
          · refine stepE rfl fun sdn sa sw sE sd sk => ?_
            have h6 : sa.eval (.tmp 6) = .int .i64 (((j : Nat) : Int)) := sk.old 6 rfl
            exact Runs.move rfl h6 ⟨Ext.refl _, rfl⟩
          · refine stepE rfl fun sdn sa sw sE sd sk => ?_
            have h64 : sa.eval (.tmp 64) = .slice (some adR) (nq) (cq') := sk.fact 7 64 rfl (sd 7 rfl)
            have h65 : sa.eval (.tmp 65) = .int .i64 (((j : Nat) : Int)) := sk.fact 8 65 rfl (sd 8 rfl)
            exact Runs.idx rfl h64 h65 (run_idx_sl1 Try.underlying50 infZZ_eq infZZ_size (j) (by omega) (by omega)) ⟨Ext.refl _, rfl⟩
          · refine stepE rfl fun sdn sa sw sE sd sk => ?_
            have h66 : sa.eval (.tmp 66) = .pointer (some ((adR : Addr).add (j))) := sk.fact 9 66 rfl (sd 9 rfl)
            exact Runs.load rfl h66 (run_load1 Try.underlying22 rfl (sE.cell hc2)) ⟨Ext.refl _, rfl⟩
          · refine stepE rfl fun sdn sa sw sE sd sk => ?_
            have h67 : sa.eval (.tmp 67) = .slice (E2) (z2) (y2) := sk.fact 10 67 rfl (sd 10 rfl)
            exact Runs.conv rfl h67 (run_str (hr2.ext sE)) ⟨Ext.refl _, rfl⟩
          · refine stepE rfl fun sdn sa sw sE sd sk => ?_
            have h62 : sa.eval (.tmp 62) = .string (str (lb Qs j)) := sk.fact 5 62 rfl (sd 5 rfl)
            have h68 : sa.eval (.tmp 68) = .string (str (lb Qs j)) := sk.fact 11 68 rfl (sd 11 rfl)
            exact Runs.bin rfl h62 h68 (by rfl) (bin_nes _ _ _) ⟨Ext.refl _, congrArg Value.bool (by simp)⟩
          intro vals W1 hE hv
          have e0 : vals 0 = .pointer (some ⟨w.heap.size, 2, none⟩) := hv 0 (by omega) 57 rfl
          have e1 : vals 1 = .slice (some adP) (nq) (cq) := hv 1 (by omega) 58 rfl
          have e2 : vals 2 = .int .i64 (((j : Nat) : Int)) := hv 2 (by omega) 59 rfl
          have e3 : vals 3 = .pointer (some ((adP : Addr).add (j))) := hv 3 (by omega) 60 rfl
          have e4 : vals 4 = .slice (E1) (z1) (y1) := hv 4 (by omega) 61 rfl
          have e5 : vals 5 = .string (str (lb Qs j)) := hv 5 (by omega) 62 rfl
          have e6 : vals 6 = .pointer (some ⟨w.heap.size + 1, 2, none⟩) := hv 6 (by omega) 63 rfl
          have e7 : vals 7 = .slice (some adR) (nq) (cq') := hv 7 (by omega) 64 rfl
          have e8 : vals 8 = .int .i64 (((j : Nat) : Int)) := hv 8 (by omega) 65 rfl
          have e9 : vals 9 = .pointer (some ((adR : Addr).add (j))) := hv 9 (by omega) 66 rfl
          have e10 : vals 10 = .slice (E2) (z2) (y2) := hv 10 (by omega) 67 rfl
          have e11 : vals 11 = .string (str (lb Qs j)) := hv 11 (by omega) 68 rfl
          have e12 : vals 12 = .bool (false) := hv 12 (by omega) 69 rfl
          simp only [putAll, Act.put, List.take_succ_cons, List.take_zero, List.drop_succ_cons, List.drop_zero, List.drop_nil, List.take_nil, Nat.reduceAdd, List.setIfInBounds_toArray, List.set_cons_succ, List.set_cons_zero, e0, e1, e2, e3, e4, e5, e6, e7, e8, e9, e10, e11, e12]
          clear hv e0 e1 e2 e3 e4 e5 e6 e7 e8 e9 e10 e11 e12
          go_wp2_with fail
          go_roundw
          case rel => exact ⟨j + 1, by omega, by go_num, hEr.trans hE⟩
          case measure => simp [intOf]; omega
        · obtain rfl : j = nq := by omega
          go_wp2_with fail
          go_ret
          exact ⟨rfl, hEw⟩
set_option maxHeartbeats 8000000 in
theorem same5_any (B D P Q : Option Addr) (m e' nd cd np cp nq cq : Nat) (x : Int) (X M : List UInt8) (Ps Qs : List (List UInt8)) (w : World) (hX : RB w D nd cd X) (hM : RB w B m e' M) (hmn : m ≤ 140737488355000) (hp : RBB w P np cp Ps) (hq : RBB w Q nq cq Qs) :
    Calls Try.prog 40 #[.slice D nd cd, .slice B m e', .agg #[.int .i64 x, .slice P np cp, .slice Q nq cq]] w fun e w' => e = .returned (.bool true) ∧ Ext w w' := by
  go_enter Try.func40, Try.ntmps40
  have hE1 := Ext.new w (.cells #[.int .i64 x, .slice P np cp, .slice Q nq cq] 52)
  have hB1 := Blk.new w 52 #[.int .i64 x, .slice P np cp, .slice Q nq cq]
  go_wp2_with fail
  refine (sencode_any x P Q np cp nq cq Ps Qs _ (hp.ext hE1) (hq.ext hE1)).mono ?_
  rintro e w3 ⟨h1, h2, hE3⟩
  have hE13 := hE1.trans hE3
  obtain ⟨vv, hvv⟩ : ∃ v, verB X M x Ps Qs = v := ⟨_, rfl⟩
  have Hvv := Lib.hid hvv
  clear hvv
  cases hr : rightB x Ps Qs with
  | true =>
    obtain ⟨B1, d1, rfl, own⟩ := h1 hr
    clear h1 h2
    have Hr := Lib.hid hr
    have hB3 := hB1.ext hE3
    have z0 := hB3.cell (i := 0) (v := .int .i64 x) rfl
    have z1 := hB3.cell (i := 1) (v := .slice P np cp) rfl
    have z2 := hB3.cell (i := 2) (v := .slice Q nq cq) rfl
    go_wp2_with fail
    clear z0 z1 z2 hB3
    refine (rright_any x P Q np cp nq cq Ps Qs _ (hp.ext hE13) (hq.ext hE13)).mono ?_
    rw [hr]
    rintro e w4 ⟨rfl, hE4⟩
    have hE14 := hE13.trans hE4
    have hB4 := (hB1.ext hE3).ext hE4
    have rb := (own.ext hE4).rb
    have rX := hX.ext hE14
    have rM := hM.ext hE14
    have rP := hp.ext hE14
    have rQ := hq.ext hE14
    clear hB1 hE1 hE3 hE13 hE4 own hr
    go_upto_region 3 with (fail)
    refine par_ext (n := 21) (by kernel_rfl) [.is (.agg #[.int .i64 x, .slice P np cp, .slice Q nq cq]), .is (.bool (true)), .is (.bool (true)), .is (.bool (false)), .is (.bool (false)), .is (.slice (D) (nd) (cd)), .is (.slice (B) (m) (e')), .is (.agg #[.int .i64 x, .slice P np cp, .slice Q nq cq]), .is (.bool (vv)), .is (.slice (D) (nd) (cd)), .is (.slice (B) (m) (e')), .is (.agg #[.int .i64 x, .slice P np cp, .slice Q nq cq]), .is (.bool (vv)), .is (.bool (false)), .is (.bool (false)), .is (.bool (false)), .is (.int .i64 ((0 : Int))), .is (.bool (true)), .is (.bool (true)), .is (.bool (false)), .is (.bool (false))] rfl ⟨?_, ?_, ?_, ?_, ?_, ?_, ?_, ?_, ?_, ?_, ?_, ?_, ?_, ?_, ?_, ?_, ?_, ?_, ?_, ?_, ?_, trivial⟩ ?_
    · refine stepE rfl fun sdn sa sw sE sd sk => ?_
      have h5 : sa.eval (.tmp 5) = .pointer (some ⟨w.heap.size, 0, none⟩) := sk.old 5 rfl
      exact Runs.load rfl h5 (load_sig (hB4.ext sE)) ⟨Ext.refl _, rfl⟩
    · refine stepE rfl fun sdn sa sw sE sd sk => ?_
      have h17 : sa.eval (.tmp 17) = .agg #[.int .i64 x, .slice P np cp, .slice Q nq cq] := sk.fact 0 17 rfl (sd 0 rfl)
      refine Runs.call (f := 71) (vs := [.agg #[.int .i64 x, .slice P np cp, .slice Q nq cq]]) rfl rfl rfl (by simp only [List.map_toArray, List.map_cons, List.map_nil, h17] <;> rfl) (ent71 _ _) ((sright_any x P Q np cp nq cq Ps Qs sw (rP.ext sE) (rQ.ext sE)).mono ?_); rintro e w' ⟨rfl, hx⟩; exact ⟨_, rfl, hx, congrArg Value.bool (Hr.out)⟩
    · refine stepE rfl fun sdn sa sw sE sd sk => ?_
      have h9 : sa.eval (.tmp 9) = .bool (true) := sk.old 9 rfl
      exact Runs.move rfl h9 ⟨Ext.refl _, rfl⟩
    · refine stepE rfl fun sdn sa sw sE sd sk => ?_
      have h18 : sa.eval (.tmp 18) = .bool (true) := sk.fact 1 18 rfl (sd 1 rfl)
      have h19 : sa.eval (.tmp 19) = .bool (true) := sk.fact 2 19 rfl (sd 2 rfl)
      exact Runs.bin rfl h18 h19 (by rfl) (bin_neb _ _) ⟨Ext.refl _, congrArg Value.bool (by simp)⟩
    · refine stepE rfl fun sdn sa sw sE sd sk => ?_
      have h20 : sa.eval (.tmp 20) = .bool (false) := sk.fact 3 20 rfl (sd 3 rfl)
      exact Runs.move rfl h20 ⟨Ext.refl _, rfl⟩
    · refine stepY (j := 4) (d := 21) (b := false) rfl rfl rfl (fun v w h => h) fun sdn sa sw sE sd sk => ?_
      have h0 : sa.eval (.tmp 0) = .slice (D) (nd) (cd) := sk.old 0 rfl
      exact Runs.move rfl h0 ⟨Ext.refl _, rfl⟩
    · refine stepY (j := 4) (d := 21) (b := false) rfl rfl rfl (fun v w h => h) fun sdn sa sw sE sd sk => ?_
      have h1 : sa.eval (.tmp 1) = .slice (B) (m) (e') := sk.old 1 rfl
      exact Runs.move rfl h1 ⟨Ext.refl _, rfl⟩
    · refine stepY (j := 4) (d := 21) (b := false) rfl rfl rfl (fun v w h => h) fun sdn sa sw sE sd sk => ?_
      have h5 : sa.eval (.tmp 5) = .pointer (some ⟨w.heap.size, 0, none⟩) := sk.old 5 rfl
      exact Runs.load rfl h5 (load_sig (hB4.ext sE)) ⟨Ext.refl _, rfl⟩
    · refine stepY (j := 4) (d := 21) (b := false) rfl rfl rfl (fun v w h => h) fun sdn sa sw sE sd sk => ?_
      have h22 : sa.eval (.tmp 22) = .slice (D) (nd) (cd) := sk.fact 5 22 rfl (sd 5 rfl)
      have h23 : sa.eval (.tmp 23) = .slice (B) (m) (e') := sk.fact 6 23 rfl (sd 6 rfl)
      have h24 : sa.eval (.tmp 24) = .agg #[.int .i64 x, .slice P np cp, .slice Q nq cq] := sk.fact 7 24 rfl (sd 7 rfl)
      refine Runs.call (f := 33) (vs := [.slice (D) (nd) (cd), .slice (B) (m) (e'), .agg #[.int .i64 x, .slice P np cp, .slice Q nq cq]]) rfl rfl rfl (by simp only [List.map_toArray, List.map_cons, List.map_nil, h22, h23, h24] <;> rfl) (ent33 _ _) ((sverify_any _ _ P Q _ _ _ _ np cp nq cq x _ M Ps Qs sw (rX.ext sE) (rM.ext sE) (by omega) (rP.ext sE) (rQ.ext sE)).mono ?_); rintro e w' ⟨rfl, hx⟩; exact ⟨_, rfl, hx, congrArg Value.bool (Hvv.out)⟩
    · refine stepY (j := 4) (d := 21) (b := false) rfl rfl rfl (fun v w h => h) fun sdn sa sw sE sd sk => ?_
      have h0 : sa.eval (.tmp 0) = .slice (D) (nd) (cd) := sk.old 0 rfl
      exact Runs.move rfl h0 ⟨Ext.refl _, rfl⟩
    · refine stepY (j := 4) (d := 21) (b := false) rfl rfl rfl (fun v w h => h) fun sdn sa sw sE sd sk => ?_
      have h1 : sa.eval (.tmp 1) = .slice (B) (m) (e') := sk.old 1 rfl
      exact Runs.move rfl h1 ⟨Ext.refl _, rfl⟩
    · refine stepY (j := 4) (d := 21) (b := false) rfl rfl rfl (fun v w h => h) fun sdn sa sw sE sd sk => ?_
      have h5 : sa.eval (.tmp 5) = .pointer (some ⟨w.heap.size, 0, none⟩) := sk.old 5 rfl
      exact Runs.load rfl h5 (load_sig (hB4.ext sE)) ⟨Ext.refl _, rfl⟩
    · refine stepY (j := 4) (d := 21) (b := false) rfl rfl rfl (fun v w h => h) fun sdn sa sw sE sd sk => ?_
      have h26 : sa.eval (.tmp 26) = .slice (D) (nd) (cd) := sk.fact 9 26 rfl (sd 9 rfl)
      have h27 : sa.eval (.tmp 27) = .slice (B) (m) (e') := sk.fact 10 27 rfl (sd 10 rfl)
      have h28 : sa.eval (.tmp 28) = .agg #[.int .i64 x, .slice P np cp, .slice Q nq cq] := sk.fact 11 28 rfl (sd 11 rfl)
      refine Runs.call (f := 38) (vs := [.slice (D) (nd) (cd), .slice (B) (m) (e'), .agg #[.int .i64 x, .slice P np cp, .slice Q nq cq]]) rfl rfl rfl (by simp only [List.map_toArray, List.map_cons, List.map_nil, h26, h27, h28] <;> rfl) (ent38 _ _) ((rverify_any _ _ P Q _ _ _ _ np cp nq cq x _ M Ps Qs sw (rX.ext sE) (rM.ext sE) (by omega) (rP.ext sE) (rQ.ext sE)).mono ?_); rintro e w' ⟨rfl, hx⟩; exact ⟨_, rfl, hx, congrArg Value.bool (Hvv.out)⟩
    · refine stepY (j := 4) (d := 21) (b := false) rfl rfl rfl (fun v w h => h) fun sdn sa sw sE sd sk => ?_
      have h25 : sa.eval (.tmp 25) = .bool (vv) := sk.fact 8 25 rfl (sd 8 rfl)
      have h29 : sa.eval (.tmp 29) = .bool (vv) := sk.fact 12 29 rfl (sd 12 rfl)
      exact Runs.bin rfl h25 h29 (by rfl) (bin_neb _ _) ⟨Ext.refl _, congrArg Value.bool (by simp)⟩
    · refine stepE rfl fun sdn sa sw sE sd sk => ?_
      have h21 : sa.eval (.tmp 21) = .bool (false) := sk.fact 4 21 rfl (sd 4 rfl)
      have h30 : sa.eval (.tmp 30) = .bool (false) := sk.fact 13 30 rfl (sd 13 rfl)
      exact Runs.pick rfl h21 ⟨Ext.refl _, by first | exact h30 | simpa using h30⟩
    · refine stepE rfl fun sdn sa sw sE sd sk => ?_
      have h31 : sa.eval (.tmp 31) = .bool (false) := sk.fact 14 31 rfl (sd 14 rfl)
      exact Runs.move rfl h31 ⟨Ext.refl _, rfl⟩
    · refine stepY (j := 15) (d := 32) (b := false) rfl rfl rfl (fun v w h => h) fun sdn sa sw sE sd sk => ?_
      have h8 : sa.eval (.tmp 8) = .int .i64 ((0 : Int)) := sk.old 8 rfl
      exact Runs.move rfl h8 ⟨Ext.refl _, rfl⟩
    · refine stepY (j := 15) (d := 32) (b := false) rfl rfl rfl (fun v w h => h) fun sdn sa sw sE sd sk => ?_
      have h33 : sa.eval (.tmp 33) = .int .i64 ((0 : Int)) := sk.fact 16 33 rfl (sd 16 rfl)
      exact Runs.bin rfl h33 rfl (by rfl) (bin_eql _ _ _ _) ⟨Ext.refl _, congrArg Value.bool (decide_eq_true rfl)⟩
    · refine stepY (j := 15) (d := 32) (b := false) rfl rfl rfl (fun v w h => h) fun sdn sa sw sE sd sk => ?_
      have h9 : sa.eval (.tmp 9) = .bool (true) := sk.old 9 rfl
      exact Runs.move rfl h9 ⟨Ext.refl _, rfl⟩
    · refine stepY (j := 15) (d := 32) (b := false) rfl rfl rfl (fun v w h => h) fun sdn sa sw sE sd sk => ?_
      have h34 : sa.eval (.tmp 34) = .bool (true) := sk.fact 17 34 rfl (sd 17 rfl)
      have h35 : sa.eval (.tmp 35) = .bool (true) := sk.fact 18 35 rfl (sd 18 rfl)
      exact Runs.bin rfl h34 h35 (by rfl) (bin_neb _ _) ⟨Ext.refl _, congrArg Value.bool (by simp)⟩
    · refine stepE rfl fun sdn sa sw sE sd sk => ?_
      have h32 : sa.eval (.tmp 32) = .bool (false) := sk.fact 15 32 rfl (sd 15 rfl)
      have h36 : sa.eval (.tmp 36) = .bool (false) := sk.fact 19 36 rfl (sd 19 rfl)
      exact Runs.pick rfl h32 ⟨Ext.refl _, by first | exact h36 | simpa using h36⟩
    intro vals w5 hE5 hv5
    have e0 : vals 0 = .agg #[.int .i64 x, .slice P np cp, .slice Q nq cq] := hv5 0 (by omega) 17 rfl
    have e1 : vals 1 = .bool (true) := hv5 1 (by omega) 18 rfl
    have e2 : vals 2 = .bool (true) := hv5 2 (by omega) 19 rfl
    have e3 : vals 3 = .bool (false) := hv5 3 (by omega) 20 rfl
    have e4 : vals 4 = .bool (false) := hv5 4 (by omega) 21 rfl
    have e5 : vals 5 = .slice (D) (nd) (cd) := hv5 5 (by omega) 22 rfl
    have e6 : vals 6 = .slice (B) (m) (e') := hv5 6 (by omega) 23 rfl
    have e7 : vals 7 = .agg #[.int .i64 x, .slice P np cp, .slice Q nq cq] := hv5 7 (by omega) 24 rfl
    have e8 : vals 8 = .bool (vv) := hv5 8 (by omega) 25 rfl
    have e9 : vals 9 = .slice (D) (nd) (cd) := hv5 9 (by omega) 26 rfl
    have e10 : vals 10 = .slice (B) (m) (e') := hv5 10 (by omega) 27 rfl
    have e11 : vals 11 = .agg #[.int .i64 x, .slice P np cp, .slice Q nq cq] := hv5 11 (by omega) 28 rfl
    have e12 : vals 12 = .bool (vv) := hv5 12 (by omega) 29 rfl
    have e13 : vals 13 = .bool (false) := hv5 13 (by omega) 30 rfl
    have e14 : vals 14 = .bool (false) := hv5 14 (by omega) 31 rfl
    have e15 : vals 15 = .bool (false) := hv5 15 (by omega) 32 rfl
    have e16 : vals 16 = .int .i64 ((0 : Int)) := hv5 16 (by omega) 33 rfl
    have e17 : vals 17 = .bool (true) := hv5 17 (by omega) 34 rfl
    have e18 : vals 18 = .bool (true) := hv5 18 (by omega) 35 rfl
    have e19 : vals 19 = .bool (false) := hv5 19 (by omega) 36 rfl
    have e20 : vals 20 = .bool (false) := hv5 20 (by omega) 37 rfl
    simp only [putAll, Act.put, List.take_succ_cons, List.take_zero, List.drop_succ_cons, List.drop_zero, List.drop_nil, List.take_nil, Nat.reduceAdd, List.setIfInBounds_toArray, List.set_cons_succ, List.set_cons_zero, e0, e1, e2, e3, e4, e5, e6, e7, e8, e9, e10, e11, e12, e13, e14, e15, e16, e17, e18, e19, e20]
    clear hv5 e0 e1 e2 e3 e4 e5 e6 e7 e8 e9 e10 e11 e12 e13 e14 e15 e16 e17 e18 e19 e20
    have hB5 := hB4.ext hE5
    have rb5 := rb.ext hE5
    have rP5 := rP.ext hE5
    have rQ5 := rQ.ext hE5
    have hE15 := hE14.trans hE5
    clear hB4 rb rP rQ rX rM hE14 hE5
    go_upto_region 5 with (fail)
    refine par_ext (n := 23) (by kernel_rfl) [.is (.bool (true)), .is (.bool (true)), .is (.slice (B1) (2180) (d1)), .is (.string (str (encS x Ps Qs))), .is (.agg #[.int .i64 x, .slice P np cp, .slice Q nq cq]), .rb (encS x Ps Qs), .is (.string (str (encS x Ps Qs))), .is (.bool (true)), .is (.bool (true)), .is (.bool (true)), .is undef, .is undef, .is undef, .is undef, .is undef, .is undef, .is undef, .is undef, .is undef, .is undef, .is undef, .is (.bool (true)), .is (.bool (true))] rfl ⟨?_, ?_, ?_, ?_, ?_, ?_, ?_, ?_, ?_, ?_, ?_, ?_, ?_, ?_, ?_, ?_, ?_, ?_, ?_, ?_, ?_, ?_, ?_, trivial⟩ ?_
    · refine stepE rfl fun sdn sa sw sE sd sk => ?_
      have h9 : sa.eval (.tmp 9) = .bool (true) := sk.old 9 rfl
      exact Runs.move rfl h9 ⟨Ext.refl _, rfl⟩
    · refine stepE rfl fun sdn sa sw sE sd sk => ?_
      have h38 : sa.eval (.tmp 38) = .bool (true) := sk.fact 0 38 rfl (sd 0 rfl)
      exact Runs.move rfl h38 ⟨Ext.refl _, rfl⟩
    · refine stepY (j := 1) (d := 39) (b := true) rfl rfl rfl (fun v w h => h) fun sdn sa sw sE sd sk => ?_
      have h7 : sa.eval (.tmp 7) = .slice (B1) (2180) (d1) := sk.old 7 rfl
      exact Runs.move rfl h7 ⟨Ext.refl _, rfl⟩
    · refine stepY (j := 1) (d := 39) (b := true) rfl rfl rfl (fun v w h => h) fun sdn sa sw sE sd sk => ?_
      have h40 : sa.eval (.tmp 40) = .slice (B1) (2180) (d1) := sk.fact 2 40 rfl (sd 2 rfl)
      exact Runs.conv rfl h40 (run_str (rb5.ext sE)) ⟨Ext.refl _, rfl⟩
    · refine stepY (j := 1) (d := 39) (b := true) rfl rfl rfl (fun v w h => h) fun sdn sa sw sE sd sk => ?_
      have h5 : sa.eval (.tmp 5) = .pointer (some ⟨w.heap.size, 0, none⟩) := sk.old 5 rfl
      exact Runs.load rfl h5 (load_sig (hB5.ext sE)) ⟨Ext.refl _, rfl⟩
    · refine stepY (j := 1) (d := 39) (b := true) rfl rfl rfl (fun v w h => h) fun sdn sa sw sE sd sk => ?_
      have h42 : sa.eval (.tmp 42) = .agg #[.int .i64 x, .slice P np cp, .slice Q nq cq] := sk.fact 4 42 rfl (sd 4 rfl)
      refine Runs.call (f := 79) (vs := [.agg #[.int .i64 x, .slice P np cp, .slice Q nq cq]]) rfl rfl rfl (by simp only [List.map_toArray, List.map_cons, List.map_nil, h42] <;> rfl) (ent79 _ _) ((rencode_any x P Q np cp nq cq Ps Qs sw (rP5.ext sE) (rQ5.ext sE) Hr.out).mono ?_); rintro e w' ⟨B', d', rfl, own, hx⟩; exact ⟨_, rfl, hx, B', 2180, d', rfl, own.rb⟩
    · refine stepY (j := 1) (d := 39) (b := true) rfl rfl rfl (fun v w h => h) fun sdn sa sw sE sd sk => ?_
      obtain ⟨A43, n43, c43, h43, r43⟩ := sk.fact 5 43 rfl (sd 5 rfl)
      exact Runs.conv rfl h43 (run_str r43) ⟨Ext.refl _, rfl⟩
    · refine stepY (j := 1) (d := 39) (b := true) rfl rfl rfl (fun v w h => h) fun sdn sa sw sE sd sk => ?_
      have h41 : sa.eval (.tmp 41) = .string (str (encS x Ps Qs)) := sk.fact 3 41 rfl (sd 3 rfl)
      have h44 : sa.eval (.tmp 44) = .string (str (encS x Ps Qs)) := sk.fact 6 44 rfl (sd 6 rfl)
      exact Runs.bin rfl h41 h44 (by rfl) (bin_eqs _ _ _) ⟨Ext.refl _, congrArg Value.bool (by simp)⟩
    · refine stepE rfl fun sdn sa sw sE sd sk => ?_
      have h39 : sa.eval (.tmp 39) = .bool (true) := sk.fact 1 39 rfl (sd 1 rfl)
      have h45 : sa.eval (.tmp 45) = .bool (true) := sk.fact 7 45 rfl (sd 7 rfl)
      exact Runs.pick rfl h39 ⟨Ext.refl _, by first | exact h45 | simpa using h45⟩
    · refine stepE rfl fun sdn sa sw sE sd sk => ?_
      have h46 : sa.eval (.tmp 46) = .bool (true) := sk.fact 8 46 rfl (sd 8 rfl)
      exact Runs.move rfl h46 ⟨Ext.refl _, rfl⟩
    · exact stepN (j := 9) (d := 47) (b := true) rfl rfl rfl (fun v w h => h) fun w => rfl
    · exact stepN (j := 9) (d := 47) (b := true) rfl rfl rfl (fun v w h => h) fun w => rfl
    · exact stepN (j := 9) (d := 47) (b := true) rfl rfl rfl (fun v w h => h) fun w => rfl
    · exact stepU (j := 12) (d := 50) (b := true) rfl rfl rfl (fun v w h => h) fun w => rfl
    · exact stepU (j := 12) (d := 50) (b := true) rfl rfl rfl (fun v w h => h) fun w => rfl
    · exact stepN (j := 9) (d := 47) (b := true) rfl rfl rfl (fun v w h => h) fun w => rfl
    · exact stepN (j := 9) (d := 47) (b := true) rfl rfl rfl (fun v w h => h) fun w => rfl
    · exact stepU (j := 16) (d := 54) (b := true) rfl rfl rfl (fun v w h => h) fun w => rfl
    · exact stepU (j := 16) (d := 54) (b := true) rfl rfl rfl (fun v w h => h) fun w => rfl
    · exact stepU (j := 16) (d := 54) (b := true) rfl rfl rfl (fun v w h => h) fun w => rfl
    · exact stepN (j := 9) (d := 47) (b := true) rfl rfl rfl (fun v w h => h) fun w => rfl
    · refine stepE rfl fun sdn sa sw sE sd sk => ?_
      have h47 : sa.eval (.tmp 47) = .bool (true) := sk.fact 9 47 rfl (sd 9 rfl)
      exact Runs.pick rfl h47 ⟨Ext.refl _, rfl⟩
    · refine stepE rfl fun sdn sa sw sE sd sk => ?_
      have h59 : sa.eval (.tmp 59) = .bool (true) := sk.fact 21 59 rfl (sd 21 rfl)
      exact Runs.assign rfl h59 ⟨Ext.refl _, rfl⟩
    intro vals W6 hE6 hv6
    have e0 : vals 0 = .bool (true) := hv6 0 (by omega) 38 rfl
    have e1 : vals 1 = .bool (true) := hv6 1 (by omega) 39 rfl
    have e2 : vals 2 = .slice (B1) (2180) (d1) := hv6 2 (by omega) 40 rfl
    have e3 : vals 3 = .string (str (encS x Ps Qs)) := hv6 3 (by omega) 41 rfl
    have e4 : vals 4 = .agg #[.int .i64 x, .slice P np cp, .slice Q nq cq] := hv6 4 (by omega) 42 rfl
    obtain ⟨A43, n43, c43, e5, r43⟩ := hv6 5 (by omega) 43 rfl
    have e6 : vals 6 = .string (str (encS x Ps Qs)) := hv6 6 (by omega) 44 rfl
    have e7 : vals 7 = .bool (true) := hv6 7 (by omega) 45 rfl
    have e8 : vals 8 = .bool (true) := hv6 8 (by omega) 46 rfl
    have e9 : vals 9 = .bool (true) := hv6 9 (by omega) 47 rfl
    have e21 : vals 21 = .bool (true) := hv6 21 (by omega) 59 rfl
    have e22 : vals 22 = .bool (true) := hv6 22 (by omega) 6 rfl
    simp only [putAll, Act.put, List.take_succ_cons, List.take_zero, List.drop_succ_cons, List.drop_zero, List.drop_nil, List.take_nil, Nat.reduceAdd, List.setIfInBounds_toArray, List.set_cons_succ, List.set_cons_zero, e0, e1, e2, e3, e4, e5, e6, e7, e8, e9, e21, e22]
    clear hv6 e0 e1 e2 e3 e4 e5 e6 e7 e8 e9 e21 e22
    go_wp2_with fail
    go_ret
    exact ⟨rfl, hE15.trans hE6⟩
  | false =>
    obtain rfl := h2 hr
    clear h1 h2
    have Hr := Lib.hid hr
    have hB3 := hB1.ext hE3
    have z0 := hB3.cell (i := 0) (v := .int .i64 x) rfl
    have z1 := hB3.cell (i := 1) (v := .slice P np cp) rfl
    have z2 := hB3.cell (i := 2) (v := .slice Q nq cq) rfl
    go_wp2_with fail
    clear z0 z1 z2 hB3
    refine (rright_any x P Q np cp nq cq Ps Qs _ (hp.ext hE13) (hq.ext hE13)).mono ?_
    rw [hr]
    rintro e w4 ⟨rfl, hE4⟩
    have hE14 := hE13.trans hE4
    have hB4 := (hB1.ext hE3).ext hE4
    have rX := hX.ext hE14
    have rM := hM.ext hE14
    have rP := hp.ext hE14
    have rQ := hq.ext hE14
    clear hB1 hE1 hE3 hE13 hE4 hr
    go_upto_region 3 with (fail)
    refine par_ext (n := 21) (by kernel_rfl) [.is (.agg #[.int .i64 x, .slice P np cp, .slice Q nq cq]), .is (.bool (false)), .is (.bool (false)), .is (.bool (false)), .is (.bool (false)), .is (.slice (D) (nd) (cd)), .is (.slice (B) (m) (e')), .is (.agg #[.int .i64 x, .slice P np cp, .slice Q nq cq]), .is (.bool (vv)), .is (.slice (D) (nd) (cd)), .is (.slice (B) (m) (e')), .is (.agg #[.int .i64 x, .slice P np cp, .slice Q nq cq]), .is (.bool (vv)), .is (.bool (false)), .is (.bool (false)), .is (.bool (false)), .is (.int .i64 ((12 : Int))), .is (.bool (false)), .is (.bool (false)), .is (.bool (false)), .is (.bool (false))] rfl ⟨?_, ?_, ?_, ?_, ?_, ?_, ?_, ?_, ?_, ?_, ?_, ?_, ?_, ?_, ?_, ?_, ?_, ?_, ?_, ?_, ?_, trivial⟩ ?_
    · refine stepE rfl fun sdn sa sw sE sd sk => ?_
      have h5 : sa.eval (.tmp 5) = .pointer (some ⟨w.heap.size, 0, none⟩) := sk.old 5 rfl
      exact Runs.load rfl h5 (load_sig (hB4.ext sE)) ⟨Ext.refl _, rfl⟩
    · refine stepE rfl fun sdn sa sw sE sd sk => ?_
      have h17 : sa.eval (.tmp 17) = .agg #[.int .i64 x, .slice P np cp, .slice Q nq cq] := sk.fact 0 17 rfl (sd 0 rfl)
      refine Runs.call (f := 71) (vs := [.agg #[.int .i64 x, .slice P np cp, .slice Q nq cq]]) rfl rfl rfl (by simp only [List.map_toArray, List.map_cons, List.map_nil, h17] <;> rfl) (ent71 _ _) ((sright_any x P Q np cp nq cq Ps Qs sw (rP.ext sE) (rQ.ext sE)).mono ?_); rintro e w' ⟨rfl, hx⟩; exact ⟨_, rfl, hx, congrArg Value.bool (Hr.out)⟩
    · refine stepE rfl fun sdn sa sw sE sd sk => ?_
      have h9 : sa.eval (.tmp 9) = .bool (false) := sk.old 9 rfl
      exact Runs.move rfl h9 ⟨Ext.refl _, rfl⟩
    · refine stepE rfl fun sdn sa sw sE sd sk => ?_
      have h18 : sa.eval (.tmp 18) = .bool (false) := sk.fact 1 18 rfl (sd 1 rfl)
      have h19 : sa.eval (.tmp 19) = .bool (false) := sk.fact 2 19 rfl (sd 2 rfl)
      exact Runs.bin rfl h18 h19 (by rfl) (bin_neb _ _) ⟨Ext.refl _, congrArg Value.bool (by simp)⟩
    · refine stepE rfl fun sdn sa sw sE sd sk => ?_
      have h20 : sa.eval (.tmp 20) = .bool (false) := sk.fact 3 20 rfl (sd 3 rfl)
      exact Runs.move rfl h20 ⟨Ext.refl _, rfl⟩
    · refine stepY (j := 4) (d := 21) (b := false) rfl rfl rfl (fun v w h => h) fun sdn sa sw sE sd sk => ?_
      have h0 : sa.eval (.tmp 0) = .slice (D) (nd) (cd) := sk.old 0 rfl
      exact Runs.move rfl h0 ⟨Ext.refl _, rfl⟩
    · refine stepY (j := 4) (d := 21) (b := false) rfl rfl rfl (fun v w h => h) fun sdn sa sw sE sd sk => ?_
      have h1 : sa.eval (.tmp 1) = .slice (B) (m) (e') := sk.old 1 rfl
      exact Runs.move rfl h1 ⟨Ext.refl _, rfl⟩
    · refine stepY (j := 4) (d := 21) (b := false) rfl rfl rfl (fun v w h => h) fun sdn sa sw sE sd sk => ?_
      have h5 : sa.eval (.tmp 5) = .pointer (some ⟨w.heap.size, 0, none⟩) := sk.old 5 rfl
      exact Runs.load rfl h5 (load_sig (hB4.ext sE)) ⟨Ext.refl _, rfl⟩
    · refine stepY (j := 4) (d := 21) (b := false) rfl rfl rfl (fun v w h => h) fun sdn sa sw sE sd sk => ?_
      have h22 : sa.eval (.tmp 22) = .slice (D) (nd) (cd) := sk.fact 5 22 rfl (sd 5 rfl)
      have h23 : sa.eval (.tmp 23) = .slice (B) (m) (e') := sk.fact 6 23 rfl (sd 6 rfl)
      have h24 : sa.eval (.tmp 24) = .agg #[.int .i64 x, .slice P np cp, .slice Q nq cq] := sk.fact 7 24 rfl (sd 7 rfl)
      refine Runs.call (f := 33) (vs := [.slice (D) (nd) (cd), .slice (B) (m) (e'), .agg #[.int .i64 x, .slice P np cp, .slice Q nq cq]]) rfl rfl rfl (by simp only [List.map_toArray, List.map_cons, List.map_nil, h22, h23, h24] <;> rfl) (ent33 _ _) ((sverify_any _ _ P Q _ _ _ _ np cp nq cq x _ M Ps Qs sw (rX.ext sE) (rM.ext sE) (by omega) (rP.ext sE) (rQ.ext sE)).mono ?_); rintro e w' ⟨rfl, hx⟩; exact ⟨_, rfl, hx, congrArg Value.bool (Hvv.out)⟩
    · refine stepY (j := 4) (d := 21) (b := false) rfl rfl rfl (fun v w h => h) fun sdn sa sw sE sd sk => ?_
      have h0 : sa.eval (.tmp 0) = .slice (D) (nd) (cd) := sk.old 0 rfl
      exact Runs.move rfl h0 ⟨Ext.refl _, rfl⟩
    · refine stepY (j := 4) (d := 21) (b := false) rfl rfl rfl (fun v w h => h) fun sdn sa sw sE sd sk => ?_
      have h1 : sa.eval (.tmp 1) = .slice (B) (m) (e') := sk.old 1 rfl
      exact Runs.move rfl h1 ⟨Ext.refl _, rfl⟩
    · refine stepY (j := 4) (d := 21) (b := false) rfl rfl rfl (fun v w h => h) fun sdn sa sw sE sd sk => ?_
      have h5 : sa.eval (.tmp 5) = .pointer (some ⟨w.heap.size, 0, none⟩) := sk.old 5 rfl
      exact Runs.load rfl h5 (load_sig (hB4.ext sE)) ⟨Ext.refl _, rfl⟩
    · refine stepY (j := 4) (d := 21) (b := false) rfl rfl rfl (fun v w h => h) fun sdn sa sw sE sd sk => ?_
      have h26 : sa.eval (.tmp 26) = .slice (D) (nd) (cd) := sk.fact 9 26 rfl (sd 9 rfl)
      have h27 : sa.eval (.tmp 27) = .slice (B) (m) (e') := sk.fact 10 27 rfl (sd 10 rfl)
      have h28 : sa.eval (.tmp 28) = .agg #[.int .i64 x, .slice P np cp, .slice Q nq cq] := sk.fact 11 28 rfl (sd 11 rfl)
      refine Runs.call (f := 38) (vs := [.slice (D) (nd) (cd), .slice (B) (m) (e'), .agg #[.int .i64 x, .slice P np cp, .slice Q nq cq]]) rfl rfl rfl (by simp only [List.map_toArray, List.map_cons, List.map_nil, h26, h27, h28] <;> rfl) (ent38 _ _) ((rverify_any _ _ P Q _ _ _ _ np cp nq cq x _ M Ps Qs sw (rX.ext sE) (rM.ext sE) (by omega) (rP.ext sE) (rQ.ext sE)).mono ?_); rintro e w' ⟨rfl, hx⟩; exact ⟨_, rfl, hx, congrArg Value.bool (Hvv.out)⟩
    · refine stepY (j := 4) (d := 21) (b := false) rfl rfl rfl (fun v w h => h) fun sdn sa sw sE sd sk => ?_
      have h25 : sa.eval (.tmp 25) = .bool (vv) := sk.fact 8 25 rfl (sd 8 rfl)
      have h29 : sa.eval (.tmp 29) = .bool (vv) := sk.fact 12 29 rfl (sd 12 rfl)
      exact Runs.bin rfl h25 h29 (by rfl) (bin_neb _ _) ⟨Ext.refl _, congrArg Value.bool (by simp)⟩
    · refine stepE rfl fun sdn sa sw sE sd sk => ?_
      have h21 : sa.eval (.tmp 21) = .bool (false) := sk.fact 4 21 rfl (sd 4 rfl)
      have h30 : sa.eval (.tmp 30) = .bool (false) := sk.fact 13 30 rfl (sd 13 rfl)
      exact Runs.pick rfl h21 ⟨Ext.refl _, by first | exact h30 | simpa using h30⟩
    · refine stepE rfl fun sdn sa sw sE sd sk => ?_
      have h31 : sa.eval (.tmp 31) = .bool (false) := sk.fact 14 31 rfl (sd 14 rfl)
      exact Runs.move rfl h31 ⟨Ext.refl _, rfl⟩
    · refine stepY (j := 15) (d := 32) (b := false) rfl rfl rfl (fun v w h => h) fun sdn sa sw sE sd sk => ?_
      have h8 : sa.eval (.tmp 8) = .int .i64 ((12 : Int)) := sk.old 8 rfl
      exact Runs.move rfl h8 ⟨Ext.refl _, rfl⟩
    · refine stepY (j := 15) (d := 32) (b := false) rfl rfl rfl (fun v w h => h) fun sdn sa sw sE sd sk => ?_
      have h33 : sa.eval (.tmp 33) = .int .i64 ((12 : Int)) := sk.fact 16 33 rfl (sd 16 rfl)
      exact Runs.bin rfl h33 rfl (by rfl) (bin_eql _ _ _ _) ⟨Ext.refl _, congrArg Value.bool (decide_eq_false (by omega))⟩
    · refine stepY (j := 15) (d := 32) (b := false) rfl rfl rfl (fun v w h => h) fun sdn sa sw sE sd sk => ?_
      have h9 : sa.eval (.tmp 9) = .bool (false) := sk.old 9 rfl
      exact Runs.move rfl h9 ⟨Ext.refl _, rfl⟩
    · refine stepY (j := 15) (d := 32) (b := false) rfl rfl rfl (fun v w h => h) fun sdn sa sw sE sd sk => ?_
      have h34 : sa.eval (.tmp 34) = .bool (false) := sk.fact 17 34 rfl (sd 17 rfl)
      have h35 : sa.eval (.tmp 35) = .bool (false) := sk.fact 18 35 rfl (sd 18 rfl)
      exact Runs.bin rfl h34 h35 (by rfl) (bin_neb _ _) ⟨Ext.refl _, congrArg Value.bool (by simp)⟩
    · refine stepE rfl fun sdn sa sw sE sd sk => ?_
      have h32 : sa.eval (.tmp 32) = .bool (false) := sk.fact 15 32 rfl (sd 15 rfl)
      have h36 : sa.eval (.tmp 36) = .bool (false) := sk.fact 19 36 rfl (sd 19 rfl)
      exact Runs.pick rfl h32 ⟨Ext.refl _, by first | exact h36 | simpa using h36⟩
    intro vals w5 hE5 hv5
    have e0 : vals 0 = .agg #[.int .i64 x, .slice P np cp, .slice Q nq cq] := hv5 0 (by omega) 17 rfl
    have e1 : vals 1 = .bool (false) := hv5 1 (by omega) 18 rfl
    have e2 : vals 2 = .bool (false) := hv5 2 (by omega) 19 rfl
    have e3 : vals 3 = .bool (false) := hv5 3 (by omega) 20 rfl
    have e4 : vals 4 = .bool (false) := hv5 4 (by omega) 21 rfl
    have e5 : vals 5 = .slice (D) (nd) (cd) := hv5 5 (by omega) 22 rfl
    have e6 : vals 6 = .slice (B) (m) (e') := hv5 6 (by omega) 23 rfl
    have e7 : vals 7 = .agg #[.int .i64 x, .slice P np cp, .slice Q nq cq] := hv5 7 (by omega) 24 rfl
    have e8 : vals 8 = .bool (vv) := hv5 8 (by omega) 25 rfl
    have e9 : vals 9 = .slice (D) (nd) (cd) := hv5 9 (by omega) 26 rfl
    have e10 : vals 10 = .slice (B) (m) (e') := hv5 10 (by omega) 27 rfl
    have e11 : vals 11 = .agg #[.int .i64 x, .slice P np cp, .slice Q nq cq] := hv5 11 (by omega) 28 rfl
    have e12 : vals 12 = .bool (vv) := hv5 12 (by omega) 29 rfl
    have e13 : vals 13 = .bool (false) := hv5 13 (by omega) 30 rfl
    have e14 : vals 14 = .bool (false) := hv5 14 (by omega) 31 rfl
    have e15 : vals 15 = .bool (false) := hv5 15 (by omega) 32 rfl
    have e16 : vals 16 = .int .i64 ((12 : Int)) := hv5 16 (by omega) 33 rfl
    have e17 : vals 17 = .bool (false) := hv5 17 (by omega) 34 rfl
    have e18 : vals 18 = .bool (false) := hv5 18 (by omega) 35 rfl
    have e19 : vals 19 = .bool (false) := hv5 19 (by omega) 36 rfl
    have e20 : vals 20 = .bool (false) := hv5 20 (by omega) 37 rfl
    simp only [putAll, Act.put, List.take_succ_cons, List.take_zero, List.drop_succ_cons, List.drop_zero, List.drop_nil, List.take_nil, Nat.reduceAdd, List.setIfInBounds_toArray, List.set_cons_succ, List.set_cons_zero, e0, e1, e2, e3, e4, e5, e6, e7, e8, e9, e10, e11, e12, e13, e14, e15, e16, e17, e18, e19, e20]
    clear hv5 e0 e1 e2 e3 e4 e5 e6 e7 e8 e9 e10 e11 e12 e13 e14 e15 e16 e17 e18 e19 e20
    have hE15 := hE14.trans hE5
    clear hB4 rP rQ rX rM hE14 hE5
    go_upto_region 5 with (fail)
    refine par_ext (n := 23) (by kernel_rfl) [.is (.bool (false)), .is (.bool (false)), .is undef, .is undef, .is undef, .is undef, .is undef, .is undef, .is (.bool (false)), .is (.bool (false)), .is (.bool (false)), .is (.bool (true)), .is (.bool (true)), .is (.int .i64 ((12 : Int))), .is (.bool (true)), .is (.bool (true)), .is (.bool (true)), .is (.slice (none) (0) (0)), .is (.int .i64 ((0 : Nat))), .is (.bool (true)), .is (.bool (true)), .is (.bool (true)), .is (.bool (true))] rfl ⟨?_, ?_, ?_, ?_, ?_, ?_, ?_, ?_, ?_, ?_, ?_, ?_, ?_, ?_, ?_, ?_, ?_, ?_, ?_, ?_, ?_, ?_, ?_, trivial⟩ ?_
    · refine stepE rfl fun sdn sa sw sE sd sk => ?_
      have h9 : sa.eval (.tmp 9) = .bool (false) := sk.old 9 rfl
      exact Runs.move rfl h9 ⟨Ext.refl _, rfl⟩
    · refine stepE rfl fun sdn sa sw sE sd sk => ?_
      have h38 : sa.eval (.tmp 38) = .bool (false) := sk.fact 0 38 rfl (sd 0 rfl)
      exact Runs.move rfl h38 ⟨Ext.refl _, rfl⟩
    · exact stepN (j := 1) (d := 39) (b := false) rfl rfl rfl (fun v w h => h) fun w => rfl
    · exact stepN (j := 1) (d := 39) (b := false) rfl rfl rfl (fun v w h => h) fun w => rfl
    · exact stepN (j := 1) (d := 39) (b := false) rfl rfl rfl (fun v w h => h) fun w => rfl
    · exact stepN (j := 1) (d := 39) (b := false) rfl rfl rfl (fun v w h => h) fun w => rfl
    · exact stepN (j := 1) (d := 39) (b := false) rfl rfl rfl (fun v w h => h) fun w => rfl
    · exact stepN (j := 1) (d := 39) (b := false) rfl rfl rfl (fun v w h => h) fun w => rfl
    · refine stepE rfl fun sdn sa sw sE sd sk => ?_
      have h39 : sa.eval (.tmp 39) = .bool (false) := sk.fact 1 39 rfl (sd 1 rfl)
      exact Runs.pick rfl h39 ⟨Ext.refl _, rfl⟩
    · refine stepE rfl fun sdn sa sw sE sd sk => ?_
      have h46 : sa.eval (.tmp 46) = .bool (false) := sk.fact 8 46 rfl (sd 8 rfl)
      exact Runs.move rfl h46 ⟨Ext.refl _, rfl⟩
    · refine stepY (j := 9) (d := 47) (b := false) rfl rfl rfl (fun v w h => h) fun sdn sa sw sE sd sk => ?_
      have h9 : sa.eval (.tmp 9) = .bool (false) := sk.old 9 rfl
      exact Runs.move rfl h9 ⟨Ext.refl _, rfl⟩
    · refine stepY (j := 9) (d := 47) (b := false) rfl rfl rfl (fun v w h => h) fun sdn sa sw sE sd sk => ?_
      have h48 : sa.eval (.tmp 48) = .bool (false) := sk.fact 10 48 rfl (sd 10 rfl)
      exact Runs.un rfl h48 (by rfl) ⟨Ext.refl _, rfl⟩
    · refine stepY (j := 9) (d := 47) (b := false) rfl rfl rfl (fun v w h => h) fun sdn sa sw sE sd sk => ?_
      have h49 : sa.eval (.tmp 49) = .bool (true) := sk.fact 11 49 rfl (sd 11 rfl)
      exact Runs.move rfl h49 ⟨Ext.refl _, rfl⟩
    · refine stepY (j := 12) (d := 50) (b := true) rfl rfl rfl (fun v w h => h) fun sdn sa sw sE sd sk => ?_
      have h8 : sa.eval (.tmp 8) = .int .i64 ((12 : Int)) := sk.old 8 rfl
      exact Runs.move rfl h8 ⟨Ext.refl _, rfl⟩
    · refine stepY (j := 12) (d := 50) (b := true) rfl rfl rfl (fun v w h => h) fun sdn sa sw sE sd sk => ?_
      have h51 : sa.eval (.tmp 51) = .int .i64 ((12 : Int)) := sk.fact 13 51 rfl (sd 13 rfl)
      exact Runs.bin rfl h51 rfl (by rfl) (bin_eql _ _ _ _) ⟨Ext.refl _, congrArg Value.bool (by decide)⟩
    · refine stepY (j := 9) (d := 47) (b := false) rfl rfl rfl (fun v w h => h) fun sdn sa sw sE sd sk => ?_
      have h50 : sa.eval (.tmp 50) = .bool (true) := sk.fact 12 50 rfl (sd 12 rfl)
      have h52 : sa.eval (.tmp 52) = .bool (true) := sk.fact 14 52 rfl (sd 14 rfl)
      exact Runs.pick rfl h50 ⟨Ext.refl _, by first | exact h52 | simpa using h52⟩
    · refine stepY (j := 9) (d := 47) (b := false) rfl rfl rfl (fun v w h => h) fun sdn sa sw sE sd sk => ?_
      have h53 : sa.eval (.tmp 53) = .bool (true) := sk.fact 15 53 rfl (sd 15 rfl)
      exact Runs.move rfl h53 ⟨Ext.refl _, rfl⟩
    · refine stepY (j := 16) (d := 54) (b := true) rfl rfl rfl (fun v w h => h) fun sdn sa sw sE sd sk => ?_
      have h7 : sa.eval (.tmp 7) = .slice (none) (0) (0) := sk.old 7 rfl
      exact Runs.move rfl h7 ⟨Ext.refl _, rfl⟩
    · refine stepY (j := 16) (d := 54) (b := true) rfl rfl rfl (fun v w h => h) fun sdn sa sw sE sd sk => ?_
      have h55 : sa.eval (.tmp 55) = .slice (none) (0) (0) := sk.fact 17 55 rfl (sd 17 rfl)
      exact Runs.len Try.underlying22 rfl h55 ⟨Ext.refl _, rfl⟩
    · refine stepY (j := 16) (d := 54) (b := true) rfl rfl rfl (fun v w h => h) fun sdn sa sw sE sd sk => ?_
      have h56 : sa.eval (.tmp 56) = .int .i64 ((0 : Nat)) := sk.fact 18 56 rfl (sd 18 rfl)
      exact Runs.bin rfl h56 rfl (by rfl) (bin_eql _ _ _ _) ⟨Ext.refl _, congrArg Value.bool (by decide)⟩
    · refine stepY (j := 9) (d := 47) (b := false) rfl rfl rfl (fun v w h => h) fun sdn sa sw sE sd sk => ?_
      have h54 : sa.eval (.tmp 54) = .bool (true) := sk.fact 16 54 rfl (sd 16 rfl)
      have h57 : sa.eval (.tmp 57) = .bool (true) := sk.fact 19 57 rfl (sd 19 rfl)
      exact Runs.pick rfl h54 ⟨Ext.refl _, by first | exact h57 | simpa using h57⟩
    · refine stepE rfl fun sdn sa sw sE sd sk => ?_
      have h47 : sa.eval (.tmp 47) = .bool (false) := sk.fact 9 47 rfl (sd 9 rfl)
      have h58 : sa.eval (.tmp 58) = .bool (true) := sk.fact 20 58 rfl (sd 20 rfl)
      exact Runs.pick rfl h47 ⟨Ext.refl _, by first | exact h58 | simpa using h58⟩
    · refine stepE rfl fun sdn sa sw sE sd sk => ?_
      have h59 : sa.eval (.tmp 59) = .bool (true) := sk.fact 21 59 rfl (sd 21 rfl)
      exact Runs.assign rfl h59 ⟨Ext.refl _, rfl⟩
    intro vals W6 hE6 hv6
    have e0 : vals 0 = .bool (false) := hv6 0 (by omega) 38 rfl
    have e1 : vals 1 = .bool (false) := hv6 1 (by omega) 39 rfl
    have e8 : vals 8 = .bool (false) := hv6 8 (by omega) 46 rfl
    have e9 : vals 9 = .bool (false) := hv6 9 (by omega) 47 rfl
    have e10 : vals 10 = .bool (false) := hv6 10 (by omega) 48 rfl
    have e11 : vals 11 = .bool (true) := hv6 11 (by omega) 49 rfl
    have e12 : vals 12 = .bool (true) := hv6 12 (by omega) 50 rfl
    have e13 : vals 13 = .int .i64 ((12 : Int)) := hv6 13 (by omega) 51 rfl
    have e14 : vals 14 = .bool (true) := hv6 14 (by omega) 52 rfl
    have e15 : vals 15 = .bool (true) := hv6 15 (by omega) 53 rfl
    have e16 : vals 16 = .bool (true) := hv6 16 (by omega) 54 rfl
    have e17 : vals 17 = .slice (none) (0) (0) := hv6 17 (by omega) 55 rfl
    have e18 : vals 18 = .int .i64 ((0 : Nat)) := hv6 18 (by omega) 56 rfl
    have e19 : vals 19 = .bool (true) := hv6 19 (by omega) 57 rfl
    have e20 : vals 20 = .bool (true) := hv6 20 (by omega) 58 rfl
    have e21 : vals 21 = .bool (true) := hv6 21 (by omega) 59 rfl
    have e22 : vals 22 = .bool (true) := hv6 22 (by omega) 6 rfl
    simp only [putAll, Act.put, List.take_succ_cons, List.take_zero, List.drop_succ_cons, List.drop_zero, List.drop_nil, List.take_nil, Nat.reduceAdd, List.setIfInBounds_toArray, List.set_cons_succ, List.set_cons_zero, e0, e1, e8, e9, e10, e11, e12, e13, e14, e15, e16, e17, e18, e19, e20, e21, e22]
    clear hv6 e0 e1 e8 e9 e10 e11 e12 e13 e14 e15 e16 e17 e18 e19 e20 e21 e22
    go_wp2_with fail
    go_ret
    exact ⟨rfl, hE15.trans hE6⟩
end Go.Proofs.Ytmgnigofilkfmab
