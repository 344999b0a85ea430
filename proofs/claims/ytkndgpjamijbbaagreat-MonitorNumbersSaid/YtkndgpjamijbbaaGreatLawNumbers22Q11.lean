/-
  hash.Sum, walked: for any bytes it answers their SHA-256, in new memory. hash.Tagged and hash.Same, walked. An append to a full slice: nothing older is turned. Plain theorems.
-/
import Derived.Test.YtkndgpjamijbbaaGreatLawNumbers22Q10
import Derived.Test.YtkndgpjamijbbaaGreatLawNumbers22Q4
namespace Go.Proofs.YtkndgpjamijbbaaGreat
set_option maxRecDepth 100000
open Go Go.RowKit Go.Shelf
attribute [local go_sem] Oper.semAt_some
theorem run_lawIn {F : Fence} {n : Nat} {P : Program} {ops : Array Oper} {rest : List Oper} {o : Oper} {a : Act} {Q : Exit → Act → World → Prop} {w w' : World} {v : Value} (hgd : o.guard = none) (hF : ∀ f, F.fn f) (hd : ∀ c, o.op ≠ .defer c) (hr : (execOp a.eval o).run P w = .ok (.value v) w') (h : wpListIn F n P ops Q rest (a.put o.dst v) w') : wpListIn F n P ops Q (o :: rest) a w := by
  refine wpListIn_plain hgd fun K hK => ?_
  unfold Oper.wpIn
  refine ⟨fun f _ => hF f, ?_⟩
  rw [Oper.semAt_plain F _ _ hd, hr]
  exact hK _ _ h
/-- the state behind the parts that have come -/
def foldC {m : Nat} (M : List UInt8) (h : List UInt32) (pre : List (Fin m)) : List UInt32 := pre.foldl (fun h i => compress h ((M.drop (64 * i.val)).take 64)) h
theorem foldC_length {m : Nat} (M : List UInt8) (pre : List (Fin m)) : ∀ h, (foldC M h pre).length = h.length := by
  induction pre with
  | nil => intro h; rfl
  | cons i pre ih => intro h; show (foldC M _ pre).length = _; rw [ih, compress_length]
theorem foldC_snoc {m : Nat} (M : List UInt8) (h : List UInt32) (pre : List (Fin m)) (i : Fin m) : foldC M h (pre ++ [i]) = compress (foldC M h pre) ((M.drop (64 * i.val)).take 64) := by
  unfold foldC
  rw [List.foldl_append]
  rfl
theorem foldC_all {m : Nat} (M : List UInt8) (h : List UInt32) (xs : List (Fin m)) (hx : xs.map Fin.val = List.range m) : foldC M h xs = blocks h M m := by
  have e1 : foldC M h xs = (xs.map Fin.val).foldl (fun h i => compress h ((M.drop (64 * i)).take 64)) h := by
    unfold foldC
    rw [List.foldl_map]
  rw [e1, hx]
  clear e1 hx xs
  induction m with
  | zero => rfl
  | succ k ih => rw [List.range_succ, List.foldl_append, ih, blocks_succ]; rfl
theorem nameA {P : Program} {c : Code} {Q : Exit → Act → World → Prop} {a : Act} {w : World} (h : ∀ a0, a0 = a → c.wp P Q a0 w) : c.wp P Q a w := h a rfl
theorem ldrow_lawIn {F : Fence} {k : Nat} {P : Program} {ops : Array Oper} {rest : List Oper} {o : Oper} {a : Act} {Q : Exit → Act → World → Prop} {w : World} {t : TypeId} {x : Operand} {g : Nat} {e : TypeId} {l : List UInt32} {N : Nat} {el : TypeId} (hgd : o.guard = none) (hF : ∀ f, F.fn f) (ho : o.op = .load t x) (hx : a.eval x = .pointer (some ⟨g, 0, none⟩)) (hg : Arr w g e l)
    (hu : P.underlying t = some (.array N el)) (hi : (P.info? t).map (·.size) = some N) (hl : l.length = N) (h : wpListIn F k P ops Q rest (a.put o.dst (.agg (uv l))) w) : wpListIn F k P ops Q (o :: rest) a w := by
  refine run_lawIn hgd hF (by rw [ho]; intro c e; cases e) (v := .agg (uv l)) (w' := w) ?_ h
  unfold execOp
  simp only [ho, hx, Sem.run_bind, run_ldrow hg hu hi hl, Result.andThen_ok, Sem.run_pure]
theorem strow_lawIn {F : Fence} {k : Nat} {P : Program} {ops : Array Oper} {rest : List Oper} {o : Oper} {a : Act} {Q : Exit → Act → World → Prop} {w : World} {t : TypeId} {x y : Operand} {g : Nat} {e : TypeId} {l l' : List UInt32} {i0 : TypeInfo} (hgd : o.guard = none) (hF : ∀ f, F.fn f) (ho : o.op = .store t x y) (hx : a.eval x = .pointer (some ⟨g, 0, none⟩)) (hy : a.eval y = .agg (uv l')) (hg : Arr w g e l)
    (hi : P.info? t = some i0) (hs : i0.size = l'.length) (hl : l'.length = l.length)
    (h : ∀ w', Arr w' g e l' → w.grownBy w' (some g) → w'.heap.size = w.heap.size → wpListIn F k P ops Q rest (a.put o.dst undef) w') : wpListIn F k P ops Q (o :: rest) a w := by
  obtain ⟨w', hr, h1, h2, h3⟩ := run_store_row (P := P) (w := w) (t := t) hi hg (cs := uv l') (by rw [uv_size, uv_size, hl]) (by rw [uv_size, hs]) (uv_one l')
  refine wpListIn_plain hgd fun K hK => ?_
  unfold Oper.wpIn
  refine ⟨fun f _ => hF f, ?_⟩
  rw [Oper.semAt_plain F _ _ (by rw [ho]; intro c e; cases e)]
  unfold execOp
  simp only [ho, hx, hy, Sem.run_bind, hr, Result.andThen_ok, Sem.run_pure]
  exact hK _ _ (h w' h1 h2 h3)
/-- what holds between two rounds -/
def InvC (w : World) (gk mm c' : Nat) (ad : Addr) (M : List UInt8) (pre : List (Fin mm)) (W : World) : Prop :=
  Arr W w.heap.size 100 (foldC M shaH pre) ∧ Arr W gk 101 shaK ∧ RB W (some ad) (64 * mm) c' M ∧ Ext w W
theorem InvC.own {w : World} {gk mm c' : Nat} {ad : Addr} {M : List UInt8} {B : Nat} (h1 : w.heap.size < B) (h2 : gk < B) (h3 : ad.block < B) : OwnFrom B (InvC w gk mm c' ad M) := by
  intro s W W' row hs hg hr
  have key : ∀ k, k < B → some k ≠ row := fun k hk e => by
    have := (hr k e.symm).1
    omega
  exact ⟨hs.1.grown hg (key _ h1), hs.2.1.grown hg (key _ h2), hs.2.2.1.grown hg (fun _ => key _ h3), hs.2.2.2.then_grown hg (fun k e => Nat.le_trans (Nat.le_of_lt h1) (hr k e).1)⟩
theorem make0_law {ops : Array Oper} {rest : List Oper} {o : Oper} {a : Act} {Q : Exit → Act → World → Prop} {w : World} (hgd : o.guard = none) {x y : Operand} {k : Nat} (ho : o.op = .makeSlice 26 x y) (hx : a.eval x = .int .i64 0) (hy : a.eval y = .int .i64 (k : Int)) (hk : k ≤ 1000000)
    (h : ∀ w', OB w' w.heap.size (some ⟨w.heap.size, 0, none⟩) 0 k [] → Ext w w' → wpList Tryz.prog ops Q rest (a.put o.dst (.slice (some ⟨w.heap.size, 0, none⟩) 0 k)) w') : wpList Tryz.prog ops Q (o :: rest) a w := by
  obtain ⟨i0, hi0, hz0, hz1, hz2⟩ := info_parts info_u8
  obtain ⟨w', hr, h1, h2⟩ := run_make_own (P := Tryz.prog) w w.heap.size 26 5 i0 (.int .u8 0) 1 Tryz.underlying26 hi0 hz0 hz1 .i64 .i64 k (by rw [hz2]; omega) (small_maxLen hk) (Nat.le_refl _)
  refine run_law hgd (v := .slice (some ⟨w.heap.size, 0, none⟩) 0 k) (w' := w') ?_ (h w' h1 (Ext.grown h2))
  unfold execOp
  simp only [ho, hx, hy, Sem.run_bind, hr, Result.andThen_ok, Sem.run_pure]
theorem OB.block_lt {w : World} {base n c : Nat} {ad : Addr} {L : List UInt8} (h : OB w base (some ad) n c L) : ad.block < w.heap.size := (h.lt rfl).2
set_option maxHeartbeats 4000000 in
theorem hsum_any (A : Option Addr) (n c : Nat) (L : List UInt8) (w : World) (hr : RB w A n c L) (hn : n ≤ 140737488355200) :
    Calls Tryz.prog 65 #[.slice A n c] w fun e w' => ∃ A' c', e = .returned (.slice A' 32 c') ∧ OB w' w.heap.size A' 32 c' (sha L) ∧ Ext w w' := by
  have hln := hr.len
  have Hn := Lib.hid hln
  clear hln
  refine (callsIn_wide (n := 3)).1 ?_
  refine callsIn_of_wp_marks Tryz.func65 rfl trivial ?_ rfl
  refine wpIn_wide.2 ?_
  simp only [Tryz.ntmps65, List.size_toArray, List.length_cons, List.length_nil, Nat.reduceAdd, Nat.reduceSub, Array.replicate_succ, Array.replicate_zero, List.push_toArray, List.append_toArray, List.nil_append, List.cons_append]
  go_upto_region 1 with (fail)
  refine wp_region_lit ?_
  refine pure_law (v := .agg (uv shaH)) rfl (by kernel_rfl) ?_
  go_wp2_with (refine strow_law (l' := shaH) rfl rfl rfl rfl (Arr.new w 100 (List.replicate 8 0)) row8_eq row8_size rfl ?_; intro W1 b3 g1 z1)
  have hE1 : Ext w W1 := (Ext.new w _).then_grown g1 (by intro k hk; cases hk; exact Nat.le_refl _)
  clear g1 z1
  refine (keys_any W1).mono ?_
  rintro e W2 ⟨rfl, hE2⟩
  go_wp2_with (refine strow_law (l' := shaK) rfl rfl rfl rfl (Arr.new W2 101 (List.replicate 64 0)) row64_eq (row64_size.trans shaK_length.symm) (shaK_length.trans List.length_replicate.symm) ?_; intro W3 bk g3 z3)
  have hE3 : Ext W2 W3 := (Ext.new W2 _).then_grown g3 (by intro k hk; cases hk; exact Nat.le_refl _)
  have hlk : w.heap.size < W2.heap.size := Nat.lt_of_lt_of_le b3.lt hE2.size
  clear g3 z3
  have b3' := (b3.ext hE2).ext hE3
  have hE03 := (hE1.trans hE2).trans hE3
  clear b3 hE1 hE2 hE3
  generalize W2.heap.size = gk at *
  have hroom := hr.room
  have hcap := hr.cap
  unfold maxLen at hcap
  refine (clone_any A n c L W3 (hr.ext hE03) (by omega)).mono ?_
  rintro e W4 ⟨B, d, rfl, own0, hE4⟩
  have rd0 := RB.lit W4 [0x80] (n := 1) rfl (small_maxLen (by decide))
  go_wp2_with (refine app_own (N := n + 1) (LM := L ++ [0x80]) rfl rfl rfl rfl (hE4.alloc _) (own0.ext (Ext.new W4 _)) rd0 rfl rfl (by omega) ?_; intro A2 c2 W9 own2 hE9)
  clear own0 rd0 hE4
  have hp := padZeros_lt n
  go_loopw [5] (fun v wr => ∃ (z c' : Nat) (A' : Option Addr), z ≤ padZeros n ∧ v = .slice A' (n + 1 + z) c' ∧ OB wr W3.heap.size A' (n + 1 + z) c' (L ++ 0x80 :: List.replicate z 0) ∧ Ext W3 wr) (fun v _ => n + 1 + padZeros n - slLen v)
  case atStart => exact ⟨0, c2, A2, by omega, rfl, own2, hE9⟩
  case round =>
    obtain ⟨z, c', A', hz, rfl, own, hEz⟩ := hrel
    have hpz : (n + 1 + z) % 64 = 56 ↔ z = padZeros n := by
      unfold padZeros at *
      omega
    have Hpz := Lib.hid hpz
    clear hpz own2 hE9
    by_cases hlt : z = padZeros n
    · subst hlt
      have hb0 : ((((n : Int) + 1 + (padZeros n : Int)) % 64 != 56) = false) := by
        have h2 := Hpz.out.2 rfl
        rw [bne_eq_false_iff_eq]
        omega
      go_wp2_with fail
      clear hb0
      go_loopw [5, 6] (fun v i wr => ∃ (m c' : Nat) (A' : Option Addr), m ≤ 8 ∧ i = .int .i64 (7 - (m : Int)) ∧ v = .slice A' (n + 1 + padZeros n + m) c' ∧ OB wr W3.heap.size A' (n + 1 + padZeros n + m) c' (L ++ 0x80 :: (List.replicate (padZeros n) 0 ++ (be8 (n * 8)).take m)) ∧ Ext W3 wr) (fun _ i _ => (1 + intOf i).toNat)
      case atStart => exact ⟨0, c', A', by omega, rfl, rfl, by simpa using own, hEz⟩
      case round =>
        clear own hEz Hpz hz
        obtain ⟨m, c', A', hm, rfl, rfl, own, hEz⟩ := hrel
        by_cases hlt : m < 8
        · go_upto_region 9 with (fail)
          refine seq_ext (n := 9) (by kernel_rfl) [.is (.slice (A') (n + 1 + padZeros n + m) (c')), .is (.slice (A) (n) (c)), .is (.int .i64 ((n : Nat))), .is (.int .u64 ((n : Nat) : Int)), .is (.int .u64 ((n * 8 : Nat) : Int)), .is (.int .i64 (7 - (m : Int))), .is (.int .i64 ((8 : Int) * (7 - (m : Int)))), .is (.int .u64 ((n * 8 / 2 ^ (8 * (7 - m)) : Nat) : Int)), .is (.int .u8 (u8i (UInt8.ofNat (n * 8 / 2 ^ (8 * (7 - m))))))] rfl ⟨?_, ?_, ?_, ?_, ?_, ?_, ?_, ?_, ?_, trivial⟩ ?_
          · refine stepE rfl fun sdn sa sw sE sd sk => ?_
            have h5 : sa.eval (.tmp 5) = .slice (A') (n + 1 + padZeros n + m) (c') := sk.old 5 rfl
            exact Runs.move rfl h5 ⟨Ext.refl _, rfl⟩
          · refine stepE rfl fun sdn sa sw sE sd sk => ?_
            have h0 : sa.eval (.tmp 0) = .slice (A) (n) (c) := sk.old 0 rfl
            exact Runs.move rfl h0 ⟨Ext.refl _, rfl⟩
          · refine stepE rfl fun sdn sa sw sE sd sk => ?_
            have h29 : sa.eval (.tmp 29) = .slice (A) (n) (c) := sk.fact 1 29 rfl (sd 1 rfl)
            exact Runs.len Tryz.underlying26 rfl h29 ⟨Ext.refl _, rfl⟩
          · refine stepE rfl fun sdn sa sw sE sd sk => ?_
            have h30 : sa.eval (.tmp 30) = .int .i64 ((n : Nat)) := sk.fact 2 30 rfl (sd 2 rfl)
            exact Runs.conv rfl h30 (conv_i64_u64 Tryz.underlying3 Tryz.underlying105 _ n rfl (by omega)) ⟨Ext.refl _, rfl⟩
          · refine stepE rfl fun sdn sa sw sE sd sk => ?_
            have h31 : sa.eval (.tmp 31) = .int .u64 ((n : Nat) : Int) := sk.fact 3 31 rfl (sd 3 rfl)
            exact Runs.bin rfl h31 rfl (eqGuard_bin rfl) (bin_mulu64 _ _ _ (n * 8) (by omega) (by omega)) ⟨Ext.refl _, rfl⟩
          · refine stepE rfl fun sdn sa sw sE sd sk => ?_
            have h6 : sa.eval (.tmp 6) = .int .i64 (7 - (m : Int)) := sk.old 6 rfl
            exact Runs.move rfl h6 ⟨Ext.refl _, rfl⟩
          · refine stepE rfl fun sdn sa sw sE sd sk => ?_
            have h33 : sa.eval (.tmp 33) = .int .i64 (7 - (m : Int)) := sk.fact 5 33 rfl (sd 5 rfl)
            exact Runs.bin rfl rfl h33 (eqGuard_bin rfl) (bin_mul64 _ _ _ (by omega) (by omega)) ⟨Ext.refl _, rfl⟩
          · refine stepE rfl fun sdn sa sw sE sd sk => ?_
            have h32 : sa.eval (.tmp 32) = .int .u64 ((n * 8 : Nat) : Int) := sk.fact 4 32 rfl (sd 4 rfl)
            have h34 : sa.eval (.tmp 34) = .int .i64 ((8 : Int) * (7 - (m : Int))) := sk.fact 6 34 rfl (sd 6 rfl)
            exact Runs.bin rfl h32 (h34.trans (congrArg (Value.int .i64) (show (8 : Int) * (7 - (m : Int)) = ((8 * (7 - m) : Nat) : Int) by omega))) (eqGuard_bin rfl) (bin_shru64 _ _ (n * 8) (8 * (7 - m)) (by omega)) ⟨Ext.refl _, rfl⟩
          · refine stepE rfl fun sdn sa sw sE sd sk => ?_
            have h35 : sa.eval (.tmp 35) = .int .u64 ((n * 8 / 2 ^ (8 * (7 - m)) : Nat) : Int) := sk.fact 7 35 rfl (sd 7 rfl)
            exact Runs.conv rfl h35 (conv_u64_u8 Tryz.underlying105 Tryz.underlying5 _) ⟨Ext.refl _, rfl⟩
          intro vals W11 hE hv
          have e0 : vals 0 = .slice (A') (n + 1 + padZeros n + m) (c') := hv 0 (by omega) 28 rfl
          have e1 : vals 1 = .slice (A) (n) (c) := hv 1 (by omega) 29 rfl
          have e2 : vals 2 = .int .i64 ((n : Nat)) := hv 2 (by omega) 30 rfl
          have e3 : vals 3 = .int .u64 ((n : Nat) : Int) := hv 3 (by omega) 31 rfl
          have e4 : vals 4 = .int .u64 ((n * 8 : Nat) : Int) := hv 4 (by omega) 32 rfl
          have e5 : vals 5 = .int .i64 (7 - (m : Int)) := hv 5 (by omega) 33 rfl
          have e6 : vals 6 = .int .i64 ((8 : Int) * (7 - (m : Int))) := hv 6 (by omega) 34 rfl
          have e7 : vals 7 = .int .u64 ((n * 8 / 2 ^ (8 * (7 - m)) : Nat) : Int) := hv 7 (by omega) 35 rfl
          have e8 : vals 8 = .int .u8 (u8i (UInt8.ofNat (n * 8 / 2 ^ (8 * (7 - m))))) := hv 8 (by omega) 36 rfl
          simp only [putAll, Act.put, List.take_succ_cons, List.take_zero, List.drop_succ_cons, List.drop_zero, List.drop_nil, List.take_nil, Nat.reduceAdd, List.setIfInBounds_toArray, List.set_cons_succ, List.set_cons_zero, e0, e1, e2, e3, e4, e5, e6, e7, e8]
          clear hv e0 e1 e2 e3 e4 e5 e6 e7 e8
          have hEw := hEz.trans hE
          have rd1 := RB.lit W11 [UInt8.ofNat (n * 8 / 2 ^ (8 * (7 - m)))] (n := 1) rfl (small_maxLen (by decide))
          go_wp2_with (refine app_own (N := n + 1 + padZeros n + m + 1) (LM := L ++ 0x80 :: (List.replicate (padZeros n) 0 ++ (be8 (n * 8)).take (m + 1))) rfl rfl rfl rfl (hEw.alloc _) ((own.ext hE).ext (Ext.new W11 _)) rd1 rfl (by rw [be8_take _ _ hlt]; simp) (by omega) ?_; intro A3 c3 W12 own3 hE12)
          go_roundw
          case rel => exact ⟨m + 1, c3, A3, by omega, by go_num, by rw [Nat.add_assoc], own3.to_ (by omega) rfl, hE12⟩
          case measure => simp [intOf]; omega
        · obtain rfl : m = 8 := by omega
          have Hpad : Hid (L ++ 0x80 :: (List.replicate (padZeros n) 0 ++ (be8 (n * 8)).take 8) = padded L) := by
            show _ = _
            rw [List.take_of_length_le (by rw [be8_length]; omega), ← Hn.out]
            rfl
          obtain ⟨M, hM⟩ : ∃ M, M = padded L := ⟨_, rfl⟩
          rw [Hpad.out, ← hM] at own
          have hlen := own.len
          have HM := Lib.hid hM
          clear hM hlt hm Hpad
          obtain ⟨mm, hmm⟩ : ∃ mm, n + 1 + padZeros n + 8 = 64 * mm := ⟨(n + 1 + padZeros n + 8) / 64, by unfold padZeros; omega⟩
          have hmm1 : 1 ≤ mm := by omega
          have hmm2 : 64 * mm ≤ 140737488355328 := by omega
          rw [hmm] at own hlen ⊢
          have Hlen := Lib.hid hlen
          clear hmm hlen
          have c3 := b3'.ext hEz
          have ck := bk.ext hEz
          have hEr := hE03.trans hEz
          have rdM := own.rb
          obtain ⟨ad, rfl, _⟩ := rdM.cells (by omega)
          have hal := own.block_lt
          go_wp2_with fail
          refine (chunk_any (some ad) (64 * mm) c' wr).mono ?_
          rintro e W14 ⟨rfl, k1, k2, hE14⟩
          go_wp2_with fail
          refine nameA fun a0 ha0 => ?_
          have q1 := k1.lt
          have q2 := k2.lt
          have q3 : w.heap.size < W14.heap.size := Nat.lt_of_lt_of_le c3.lt hE14.size
          have q4 : gk < W14.heap.size := Nat.lt_of_lt_of_le ck.lt hE14.size
          have q5 : ad.block < W14.heap.size := Nat.lt_of_lt_of_le hal hE14.size
          have q6 := c3.lt
          have q7 := ck.lt
          refine (wpIn_wide (n := 5)).1 (wpIn_rangeFunc_ownF (n := 5) rfl (by decide) (gf := 101) (lb := #[.pointer (some ⟨wr.heap.size, 0, none⟩), .pointer (some ⟨wr.heap.size + 1, 0, none⟩)]) (by rw [ha0]; rfl) trivial ent101
            (chunk_stops (5 - 1) wr.heap.size (wr.heap.size + 1) mm c' ad W14 k1 k2 rdM.room (by omega)) (fun h k => ⟨fun x => k.1 (h.1 x), fun x => k.2 (h.2 x)⟩)
            (fun W l o o' hl h _ _ => ⟨fun x => x.grown (grownBy_putObj' W l o') (by intro e; injection e; omega), fun x => x.grown (grownBy_putObj' W l o') (by intro e; injection e; omega)⟩) (Below.refl _ _) (fun _ => rfl)
            (InvC w gk mm c' ad M) (fun _ _ _ => False) (InvC.own q3 q4 q5) (fun _ _ _ _ _ hs _ _ => hs) ⟨c3.ext hE14, ck.ext hE14, rdM.ext hE14, hEr.trans hE14⟩
            (fun x => { tmps := (a0.tmps.setIfInBounds 41 (.slice (some (ad.add (64 * x.val))) 64 64)).setIfInBounds 7 (.slice (some (ad.add (64 * x.val))) 64 64), defers := [] }) ?assign ?body ?done ?stop)
          case assign =>
            intro l x W K hK
            subst ha0
            unfold encC
            gi_wp2
            exact hK
          case body =>
            rintro l pre x W ⟨i1, i2, i3, i4⟩ _
            subst ha0
            have hx := x.isLt
            have hcell : ∀ j, j < 64 → W.cell? ((ad.add (64 * x.val)).add j) = some (.int .u8 (u8i (ub ((M.drop (64 * x.val)).take 64) j))) := by
              intro j hj
              obtain ⟨ad', e1, hc1⟩ := i3.cells (by omega)
              injection e1 with e1
              subst e1
              have h2 : 64 * x.val + j < 64 * mm := by
                have : (x.val + 1) * 64 ≤ mm * 64 := Nat.mul_le_mul_right 64 hx
                omega
              rw [Addr.add_add, hc1 _ h2, ub_take hj]
              simp [ub]
            have Hcell := Lib.hid hcell
            clear hcell
            have hdep : (1 : Nat) ≤ 5 - 1 - 1 := by decide
            simp only [List.setIfInBounds_toArray, List.set_cons_succ, List.set_cons_zero]
            have hcl : (compress (foldC M shaH pre) ((M.drop (64 * x.val)).take 64)).length = 8 := by rw [compress_length, foldC_length]; rfl
            have hfl : (foldC M shaH pre).length = 8 := by rw [foldC_length]; rfl
            have Hcl := Lib.hid hcl
            have Hfl := Lib.hid hfl
            clear hcl hfl
            gi_wp2_with (refine ldrow_lawIn rfl (fun _ => trivial) rfl rfl i1 Tryz.underlying100 row8_map Hfl.out ?_)
            refine ⟨trivial, (CallsIn.inRound l (callsIn_wide.2 (mix_any gk 64 (ad.add (64 * x.val)) (foldC M shaH pre) ((M.drop (64 * x.val)).take 64) W Hfl.out i2 Hcell.out (Nat.le_refl _) (small_maxLen (by decide))))).mono ?_⟩
            rintro e W15 ⟨rfl, hE15⟩
            gi_wp2_with (refine strow_lawIn (l' := compress (foldC M shaH pre) ((M.drop (64 * x.val)).take 64)) rfl (fun _ => trivial) rfl rfl rfl (i1.ext hE15) row8_eq (row8_size.trans Hcl.out.symm) (Hcl.out.trans Hfl.out.symm) ?_; intro W16 s16 g16 z16)
            have hK1 : KeepsOthers W W16 := (KeepsOthers.of_grownBy (hE15.grownBy none) (by intro j o e; cases e)).trans (KeepsOthers.of_grownBy g16 (fun j o e h => by
              injection e with e
              subst e
              have h2 : W15.heap[w.heap.size]? = some (.cells (uv (foldC M shaH pre)) 100 (0, 0)) := i1.ext hE15
              rw [h2] at h
              injection h with h
              subst h
              rfl))
            refine ⟨hK1, ⟨fun y => (y.ext hE15).grown g16 (by intro e; injection e; omega), fun y => (y.ext hE15).grown g16 (by intro e; injection e; omega)⟩, ?_, (i2.ext hE15).grown g16 (by intro e; injection e; omega), (i3.ext hE15).grown g16 ?_, (i4.trans hE15).then_grown g16 (by intro k hk; cases hk; exact Nat.le_refl _)⟩
            · rw [foldC_snoc]
              exact s16
            · intro _ e
              have h2 := (own.lt (k := ad.block) rfl).1
              have h3 : ad.block = w.heap.size := by injection e
              have h4 := b3'.lt
              omega
          case done =>
            rintro D ys W hD hys ⟨i1, i2, i3, i4⟩ hK
            subst ha0
            obtain ⟨hs, hhs⟩ : ∃ hs, hs = foldC M shaH ys := ⟨_, rfl⟩
            rw [← hhs] at i1
            have hsum : sha L = hs.flatMap bytesOf := by
              rw [hhs, foldC_all M shaH ys hys]
              unfold sha
              rw [← HM.out, Hlen.out, Nat.mul_div_cancel_left _ (by decide)]
            have hl8 : hs.length = 8 := by rw [hhs, foldC_length]; rfl
            have Hsum := Lib.hid hsum
            have HH := Lib.hid hl8
            have hDlt : D < W.heap.size := (Array.getElem?_eq_some_iff.1 hK).1
            have HK := Lib.hid hK
            clear hsum hl8 hhs hK HM Hlen own rdM k1 k2 c3 ck b3' bk
            go_wp2_with (first | (refine make0_law (k := 32) rfl rfl rfl rfl (by omega) ?_; intro W17 own17 hE17) | (refine ldrow_law rfl rfl rfl (i1.ext hE17) Tryz.underlying100 row8_map HH.out ?_))
            go_loopw [8, 47] (fun v k wr => ∃ (kk d : Nat) (B : Option Addr), kk ≤ 8 ∧ k = .int .i64 kk ∧ v = .slice B (4 * kk) d ∧ OB wr W.heap.size B (4 * kk) d ((hs.take kk).flatMap bytesOf) ∧ Ext W wr) (fun _ k _ => 8 - (intOf k).toNat)
            case atStart => exact ⟨0, 32, _, by omega, rfl, rfl, own17, hE17⟩
            case round =>
              clear own17 hE17
              obtain ⟨k, d, B, hk8, rfl, rfl, own, hE14⟩ := hrel
              by_cases hlt : k < 8
              · have e1 := fun w' : World => run_index_uv (P := Tryz.prog) (w := w') (d := .int .u32) Tryz.underlying100 inf100_eq inf100_size Tryz.underlying56 hs k HH.out (by rw [HH.out]; omega)
                go_upto_region 17 with (fail)
                clear e1
                refine seq_ext (n := 13) (by kernel_rfl) [.is (.slice (B) (4 * k) (d)), .is (.int .u32 (u32i (uw hs k))), .is (.int .u32 (u32i (shr (uw hs k) 24))), .is (.int .u8 (u8i ((shr (uw hs k) 24)).toUInt8)), .is (.int .u32 (u32i (uw hs k))), .is (.int .u32 (u32i (shr (uw hs k) 16))), .is (.int .u8 (u8i ((shr (uw hs k) 16)).toUInt8)), .is (.int .u32 (u32i (uw hs k))), .is (.int .u32 (u32i (shr (uw hs k) 8))), .is (.int .u8 (u8i ((shr (uw hs k) 8)).toUInt8)), .is (.int .u32 (u32i (uw hs k))), .is (.int .u8 (u8i ((uw hs k)).toUInt8)), .rb ([((shr (uw hs k) 24)).toUInt8, ((shr (uw hs k) 16)).toUInt8, ((shr (uw hs k) 8)).toUInt8, ((uw hs k)).toUInt8])] rfl ⟨?_, ?_, ?_, ?_, ?_, ?_, ?_, ?_, ?_, ?_, ?_, ?_, ?_, trivial⟩ ?_
                · refine stepE rfl fun sdn sa sw sE sd sk => ?_
                  have h8 : sa.eval (.tmp 8) = .slice (B) (4 * k) (d) := sk.old 8 rfl
                  exact Runs.move rfl h8 ⟨Ext.refl _, rfl⟩
                · refine stepE rfl fun sdn sa sw sE sd sk => ?_
                  have h10 : sa.eval (.tmp 10) = .int .u32 (u32i (uw hs k)) := sk.old 10 rfl
                  exact Runs.move rfl h10 ⟨Ext.refl _, rfl⟩
                · refine stepE rfl fun sdn sa sw sE sd sk => ?_
                  have h51 : sa.eval (.tmp 51) = .int .u32 (u32i (uw hs k)) := sk.fact 1 51 rfl (sd 1 rfl)
                  exact Runs.bin rfl h51 rfl (eqGuard_bin rfl) (bin_shr32 _ _ 24 _) ⟨Ext.refl _, rfl⟩
                · refine stepE rfl fun sdn sa sw sE sd sk => ?_
                  have h52 : sa.eval (.tmp 52) = .int .u32 (u32i (shr (uw hs k) 24)) := sk.fact 2 52 rfl (sd 2 rfl)
                  exact Runs.conv rfl h52 (conv_u32_u8 Tryz.underlying56 Tryz.underlying5 _) ⟨Ext.refl _, rfl⟩
                · refine stepE rfl fun sdn sa sw sE sd sk => ?_
                  have h10 : sa.eval (.tmp 10) = .int .u32 (u32i (uw hs k)) := sk.old 10 rfl
                  exact Runs.move rfl h10 ⟨Ext.refl _, rfl⟩
                · refine stepE rfl fun sdn sa sw sE sd sk => ?_
                  have h54 : sa.eval (.tmp 54) = .int .u32 (u32i (uw hs k)) := sk.fact 4 54 rfl (sd 4 rfl)
                  exact Runs.bin rfl h54 rfl (eqGuard_bin rfl) (bin_shr32 _ _ 16 _) ⟨Ext.refl _, rfl⟩
                · refine stepE rfl fun sdn sa sw sE sd sk => ?_
                  have h55 : sa.eval (.tmp 55) = .int .u32 (u32i (shr (uw hs k) 16)) := sk.fact 5 55 rfl (sd 5 rfl)
                  exact Runs.conv rfl h55 (conv_u32_u8 Tryz.underlying56 Tryz.underlying5 _) ⟨Ext.refl _, rfl⟩
                · refine stepE rfl fun sdn sa sw sE sd sk => ?_
                  have h10 : sa.eval (.tmp 10) = .int .u32 (u32i (uw hs k)) := sk.old 10 rfl
                  exact Runs.move rfl h10 ⟨Ext.refl _, rfl⟩
                · refine stepE rfl fun sdn sa sw sE sd sk => ?_
                  have h57 : sa.eval (.tmp 57) = .int .u32 (u32i (uw hs k)) := sk.fact 7 57 rfl (sd 7 rfl)
                  exact Runs.bin rfl h57 rfl (eqGuard_bin rfl) (bin_shr32 _ _ 8 _) ⟨Ext.refl _, rfl⟩
                · refine stepE rfl fun sdn sa sw sE sd sk => ?_
                  have h58 : sa.eval (.tmp 58) = .int .u32 (u32i (shr (uw hs k) 8)) := sk.fact 8 58 rfl (sd 8 rfl)
                  exact Runs.conv rfl h58 (conv_u32_u8 Tryz.underlying56 Tryz.underlying5 _) ⟨Ext.refl _, rfl⟩
                · refine stepE rfl fun sdn sa sw sE sd sk => ?_
                  have h10 : sa.eval (.tmp 10) = .int .u32 (u32i (uw hs k)) := sk.old 10 rfl
                  exact Runs.move rfl h10 ⟨Ext.refl _, rfl⟩
                · refine stepE rfl fun sdn sa sw sE sd sk => ?_
                  have h60 : sa.eval (.tmp 60) = .int .u32 (u32i (uw hs k)) := sk.fact 10 60 rfl (sd 10 rfl)
                  exact Runs.conv rfl h60 (conv_u32_u8 Tryz.underlying56 Tryz.underlying5 _) ⟨Ext.refl _, rfl⟩
                · refine stepE rfl fun sdn sa sw sE sd sk => ?_
                  have h53 : sa.eval (.tmp 53) = .int .u8 (u8i ((shr (uw hs k) 24)).toUInt8) := sk.fact 3 53 rfl (sd 3 rfl)
                  have h56 : sa.eval (.tmp 56) = .int .u8 (u8i ((shr (uw hs k) 16)).toUInt8) := sk.fact 6 56 rfl (sd 6 rfl)
                  have h59 : sa.eval (.tmp 59) = .int .u8 (u8i ((shr (uw hs k) 8)).toUInt8) := sk.fact 9 59 rfl (sd 9 rfl)
                  have h61 : sa.eval (.tmp 61) = .int .u8 (u8i ((uw hs k)).toUInt8) := sk.fact 11 61 rfl (sd 11 rfl)
                  exact Runs.lit4 rfl h53 h56 h59 h61 (fun w1 e1 o1 => ⟨e1, _, _, _, rfl, o1.rb⟩)
                intro vals W18 hE hv
                have e0 : vals 0 = .slice (B) (4 * k) (d) := hv 0 (by omega) 50 rfl
                have e1 : vals 1 = .int .u32 (u32i (uw hs k)) := hv 1 (by omega) 51 rfl
                have e2 : vals 2 = .int .u32 (u32i (shr (uw hs k) 24)) := hv 2 (by omega) 52 rfl
                have e3 : vals 3 = .int .u8 (u8i ((shr (uw hs k) 24)).toUInt8) := hv 3 (by omega) 53 rfl
                have e4 : vals 4 = .int .u32 (u32i (uw hs k)) := hv 4 (by omega) 54 rfl
                have e5 : vals 5 = .int .u32 (u32i (shr (uw hs k) 16)) := hv 5 (by omega) 55 rfl
                have e6 : vals 6 = .int .u8 (u8i ((shr (uw hs k) 16)).toUInt8) := hv 6 (by omega) 56 rfl
                have e7 : vals 7 = .int .u32 (u32i (uw hs k)) := hv 7 (by omega) 57 rfl
                have e8 : vals 8 = .int .u32 (u32i (shr (uw hs k) 8)) := hv 8 (by omega) 58 rfl
                have e9 : vals 9 = .int .u8 (u8i ((shr (uw hs k) 8)).toUInt8) := hv 9 (by omega) 59 rfl
                have e10 : vals 10 = .int .u32 (u32i (uw hs k)) := hv 10 (by omega) 60 rfl
                have e11 : vals 11 = .int .u8 (u8i ((uw hs k)).toUInt8) := hv 11 (by omega) 61 rfl
                obtain ⟨A62, n62, c62, e12, r62⟩ := hv 12 (by omega) 62 rfl
                simp only [putAll, Act.put, List.take_succ_cons, List.take_zero, List.drop_succ_cons, List.drop_zero, List.drop_nil, List.take_nil, Nat.reduceAdd, List.setIfInBounds_toArray, List.set_cons_succ, List.set_cons_zero, e0, e1, e2, e3, e4, e5, e6, e7, e8, e9, e10, e11, e12]
                clear hv e0 e1 e2 e3 e4 e5 e6 e7 e8 e9 e10 e11 e12
                have hEw := hE14.trans hE
                have rd1 : RB W18 A62 n62 c62 (bytesOf (uw hs k)) := r62
                obtain rfl : n62 = 4 := rd1.len.symm
                go_wp2_with (refine app_own (N := 4 * k + 4) (LM := (hs.take (k + 1)).flatMap bytesOf) rfl rfl rfl rfl hEw (own.ext hE) rd1 rfl (flatMap_take_succ hs k (by rw [HH.out]; exact hlt)).symm (by omega) ?_; intro A3 c3 W19 own3 hE16)
                go_roundw
                case rel => exact ⟨k + 1, c3, A3, by omega, by go_num, rfl, own3, hE16⟩
                case measure => simp [intOf]; omega
              · obtain rfl : k = 8 := by omega
                clear hlt
                rw [List.take_of_length_le (by rw [HH.out]; exact Nat.le_refl _), ← Hsum.out] at own
                go_wp2_with fail
                have hK2 := (hE14.block hDlt).trans HK.out
                refine ⟨by simp, .inl ⟨_, _, rfl, run_takeDeferred hK2, ?_⟩⟩
                have g := grownBy_putObj' wr D (.deferred none)
                exact ⟨_, results_tmp rfl _ _ _, B, d, rfl, (own.grown g (own.not_blk hDlt)).base i4.size, (i4.trans hE14).then_grown g (by intro k hk; cases hk; omega)⟩
          case stop =>
            rintro D c pre W _ _ h _
            exact h.elim
    · have hb0 : ((((n : Int) + 1 + (z : Int)) % 64 != 56) = true) := by
        have h2 : ¬ (n + 1 + z) % 64 = 56 := fun e => hlt (Hpz.out.1 e)
        rw [bne_iff_ne]
        omega
      go_wp2_with (refine app_own (N := n + 1 + z + 1) (LM := L ++ 0x80 :: List.replicate (z + 1) 0) rfl rfl rfl rfl (hEz.alloc _) (own.ext (Ext.new wr _)) (RB.lit wr [0] rfl (small_maxLen (by decide))) rfl (by rw [List.replicate_succ', List.append_assoc]; rfl) (by omega) ?_; intro A3 c3 W10 own3 hE10)
      clear hb0
      go_roundw
      case rel => exact ⟨z + 1, c3, A3, by omega, rfl, own3, hE10⟩
      case measure => simp only [slLen]; omega
end Go.Proofs.YtkndgpjamijbbaaGreat
namespace Go.Proofs.YtkndgpjamijbbaaGreat
set_option maxRecDepth 100000
open Go Go.RowKit
set_option maxHeartbeats 1000000 in
theorem htagged_any (t : UInt8) (A : Option Addr) (n c : Nat) (Ls : List (List UInt8)) (w : World) (hr : RBB w A n c Ls) (hn : Ls.flatten.length ≤ 140737488355199) :
    Calls Tryz.prog 68 #[.int .u8 (u8i t), .slice A n c] w fun e w' => ∃ A' c', e = .returned (.slice A' 32 c') ∧ OB w' w.heap.size A' 32 c' (tagged t Ls.flatten) ∧ Ext w w' := by
  have hln := hr.len
  have hroom := hr.room
  have hcap := hr.cap
  unfold maxLen at hcap
  have Hn := Lib.hid hln
  clear hln
  go_enter Tryz.func68, Tryz.ntmps68
  go_wp2_with fail
  go_loopw [5, 12] (fun v i wr => ∃ (k q d : Nat) (B : Option Addr), k ≤ n ∧ i = .int .i64 k ∧ v = .slice B q d ∧ OB wr w.heap.size B q d (t :: (Ls.take k).flatten) ∧ Ext w wr) (fun _ i _ => n - (intOf i).toNat)
  case atStart => exact ⟨0, 1, 1, _, by omega, rfl, rfl, OB.lit w [t] rfl (small_maxLen (by decide)), Ext.new w _⟩
  case round =>
    obtain ⟨k, q, d, B, hk, rfl, rfl, own, hEr⟩ := hrel
    by_cases hlt : k < n
    · obtain ⟨ad, rfl, hc⟩ := hr.cells (by omega)
      obtain ⟨B1, m1, d1, hcell, hrb⟩ := hc k hlt
      have hcell' := hEr.cell hcell
      have hrb' := hrb.ext hEr
      have hlq : q + m1 ≤ 140737488355328 := by
        have h1 := own.len
        have h2 := hrb.len
        have h3 := flatten_step_le Ls k (by rw [Hn.out]; exact hlt)
        simp only [List.length_cons] at h1
        omega
      clear hc hcell
      go_wp2_with (refine app_own (N := q + m1) (LM := t :: (Ls.take (k + 1)).flatten) rfl rfl rfl rfl hEr own hrb' rfl (by rw [flatten_take_succ Ls k (by rw [Hn.out]; exact hlt)]; rfl) hlq ?_; intro A3 c3 W3 own3 hE3)
      go_roundw
      case rel => exact ⟨k + 1, _, c3, A3, by omega, by go_num, rfl, own3, hE3⟩
      case measure => simp [intOf]; omega
    · obtain rfl : k = n := by omega
      rw [List.take_of_length_le (by rw [Hn.out]; exact Nat.le_refl _)] at own
      have hq : q ≤ 140737488355200 := by
        have h1 := own.len
        simp only [List.length_cons] at h1
        omega
      go_wp2_with fail
      refine (hsum_any B q d _ wr own.rb hq).mono ?_
      rintro e W4 ⟨A4, c4, rfl, own4, hE4⟩
      go_wp2_with fail
      go_ret
      exact ⟨A4, c4, rfl, own4.base hEr.size, hEr.trans hE4⟩
theorem hsame_any (A B : Option Addr) (n c m d : Nat) (L M : List UInt8) (w : World) (hr : RB w A n c L) (hs : RB w B m d M) :
    Calls Tryz.prog 40 #[.slice A n c, .slice B m d] w fun e w' => e = .returned (.bool (decide (L = M))) ∧ w = w' := by
  go_enter Tryz.func40, Tryz.ntmps40
  go_wp2_with fail
  refine (equal_any A B n c m d L M w hr hs).mono ?_
  rintro e w1 ⟨rfl, rfl⟩
  go_wp2_with fail
  go_ret
  exact ⟨rfl, rfl⟩
end Go.Proofs.YtkndgpjamijbbaaGreat
namespace Go.Proofs.YtkndgpjamijbbaaGreat
set_option maxRecDepth 100000
open Go Go.RowKit
theorem run_app_full (ty : TypeId) {w : World} {ad : Addr} {n c : Nat} {B : Option Addr} {m d : Nat} {L M : List UInt8} (hr : RB w (some ad) n c L) (hx : RB w B m d M) (hfull : c < n + m) (hnm : n + m ≤ 140737488355328) :
    ∃ A' c' w', (Builtin.append_ #[26, 26] ty #[.slice (some ad) n c, .slice B m d]).run Tryz.prog w = .ok (.slice A' (n + m) c') w' ∧ OB w' w.heap.size A' (n + m) c' (L ++ M) ∧ Ext w w' := by
  obtain ⟨i0, hi0, hz0, hz1, hz2⟩ := info_parts info_u8
  have hl := hr.len
  have hm := hx.len
  have hnc := hr.room
  obtain ⟨bd, rfl, hb⟩ := hx.cells (by omega)
  have ha : 0 < n → ∀ j, j < n → w.cell? (ad.add j) = some (.int .u8 (u8i (ub L j))) := by
    intro hn
    obtain ⟨ad', h1, h2⟩ := hr.cells hn
    injection h1 with h1
    subst h1
    exact h2
  have hcA : ∀ j u, (bv L)[j]? = some u → w.cell? (ad.add j) = some u := by
    intro j u hu
    have hj : j < (bv L).length := by
      rcases Nat.lt_or_ge j (bv L).length with h1 | h1
      · exact h1
      · rw [List.getElem?_eq_none h1] at hu; cases hu
    rw [bv_length, hl] at hj
    rw [bv_get (by omega)] at hu
    injection hu with hu
    rw [← hu]
    exact ha (by omega) j hj
  have hcB : ∀ j u, (bv M)[j]? = some u → w.cell? (bd.add j) = some u := by
    intro j u hu
    have hj : j < (bv M).length := by
      rcases Nat.lt_or_ge j (bv M).length with h1 | h1
      · exact h1
      · rw [List.getElem?_eq_none h1] at hu; cases hu
    rw [bv_length, hm] at hj
    rw [bv_get (by omega)] at hu
    injection hu with hu
    rw [← hu]
    exact hb j hj
  have hrun := run_append_grow (P := Tryz.prog) w 26 ty 5 i0 (.int .u8 0) Tryz.underlying26 hi0 hz0 ad n c (bv L) (by rw [bv_length, hz1]; omega) hcA bd m d (bv M) (by rw [bv_length, hz1]; omega) hcB hfull (by omega) (by rw [hz2]; exact growslice_fits hfull (by omega))
  have hge := grownCap_ge w (n + m) c 5
  have hcm : grownCap w (n + m) c 5 ≤ maxLen := grownCap_le_maxLen w (n + m) c 5 (by unfold maxLen; omega)
  refine ⟨_, _, _, hrun, ⟨by rw [bv_length, List.length_append]; omega, .inr ⟨w.heap.size, _, _, rfl, Nat.le_refl _, heap_alloc_new w.drew _, hge, hcm, ?_, ?_⟩⟩, ((Ext.refl w).drew).alloc _⟩
  · simp only [Array.size_append, List.size_toArray, size_zeroCells, bv_length]
    have : (Value.cells (.int .u8 0)).size = 1 := rfl
    rw [this]
    omega
  · simp only [Array.toList_append, List.append_assoc]
    rw [bv_append, ← List.append_assoc]
    exact List.take_left' (by rw [List.length_append, bv_length, bv_length]; omega)
theorem app_full {ops : Array Oper} {rest : List Oper} {o : Oper} {a : Act} {Q : Exit → Act → World → Prop} {w : World} {s x : Operand} {ad : Addr} {n c : Nat} {B : Option Addr} {m d : Nat} {L M : List UInt8} (hgd : o.guard = none) (ho : o.op = .call { callee := .builtin .append, args := #[s, x], argTypes := #[26, 26] })
    (hs : a.eval s = .slice (some ad) n c) (hx : a.eval x = .slice B m d) (hr : RB w (some ad) n c L) (hb : RB w B m d M) (hfull : c < n + m) (hnm : n + m ≤ 140737488355328)
    (h : ∀ A' c' w', OB w' w.heap.size A' (n + m) c' (L ++ M) → Ext w w' → wpList Tryz.prog ops Q rest (a.put o.dst (.slice A' (n + m) c')) w') : wpList Tryz.prog ops Q (o :: rest) a w := by
  obtain ⟨A', c', w', hrun, h2, h3⟩ := run_app_full o.type hr hb hfull hnm
  refine run_law hgd (v := .slice A' (n + m) c') (w' := w') ?_ (h A' c' w' h2 h3)
  unfold execOp
  simp only [ho, resolve, invoke, builtin, Sem.run_bind, Sem.run_pure, Result.andThen_ok, List.map_toArray, List.map_cons, List.map_nil, hs, hx, hrun]
end Go.Proofs.YtkndgpjamijbbaaGreat
