/-
  hash.mix, walked: a block is mixed into the state.
-/
import Derived.Test.YtkndgpjamijbbaaGreatLawNumbers22Q8
namespace Go.Proofs.YtkndgpjamijbbaaGreat
set_option maxRecDepth 100000
open Go Go.RowKit
theorem run_index_uv {P : Program} {w : World} {t e : TypeId} {N : Nat} {i0 : TypeInfo} {d : TypeDesc} (ht : P.underlying t = some (.array N e)) (hi : P.info? e = some i0) (hs : i0.size = 1) (he : P.underlying e = some (.int .u32)) (l : List UInt32) (j : Nat) (hN : l.length = N) (h : j < l.length) :
    (Instr.index t (.agg (uv l)) (.int .i64 (j : Int))).run P w = .ok (.int .u32 (u32i (uw l j))) w := by
  have h2 : (uv l)[j]? = some (.int .u32 (u32i (uw l j))) := by simp [uv, uw, h]
  have h3 : ((0 : Int) ≤ (j : Int) ∧ (j : Int) < (N : Int)) := by omega
  have hagg : (isAgg e).run P w = .ok false w := by
    unfold isAgg
    rw [Sem.run_bind, run_underlying he w]
    rfl
  simp [Instr.index, asIntOf, run_underlying ht, sizeOf, typeInfo, hi, hs, h3, part, hagg, h2]
  intro h5
  omega
theorem roundS_at (s : S8) (k w : UInt32) : (roundS s k w).list = [(roundT s k w + bigS0 s.a) + majF s.a s.b s.c, s.a, s.b, s.c, s.d + roundT s k w, s.e, s.f, s.g] := by
  simp only [S8.list, roundS, roundU, UInt32.add_assoc]
set_option maxHeartbeats 4000000 in
theorem mix_any (g4 c : Nat) (ad : Addr) (h : List UInt32) (L : List UInt8) (w : World) (hh : h.length = 8) (hk : Arr w g4 101 shaK) (hcell : ∀ j, j < 64 → w.cell? (ad.add j) = some (.int .u8 (u8i (ub L j)))) (hc : 64 ≤ c) (hc' : c ≤ maxLen) :
    Calls Tryz.prog 91 #[.agg (uv h), .slice (some ad) 64 c, .pointer (some ⟨g4, 0, none⟩)] w fun e w' => e = .returned (.agg (uv (compress h L))) ∧ Ext w w' := by
  have Hh := Lib.hid hh; clear hh
  go_enter Tryz.func91, Tryz.ntmps91
  go_upto_region 1 with (fail)
  have q2 : Arr ((w.alloc (.cells (uv h) 100)).alloc (.cells (uv (List.replicate 8 0)) 100)) w.heap.size 100 h := (Arr.new w 100 h).ext (Ext.new _ _)
  have q3 : Arr ((w.alloc (.cells (uv h) 100)).alloc (.cells (uv (List.replicate 8 0)) 100)) (w.heap.size + 1) 100 (List.replicate 8 0) := by
    have h := Arr.new (w.alloc (.cells (uv h) 100)) 100 (List.replicate 8 0)
    rw [World.size_alloc] at h
    exact h
  have q4 : ((w.alloc (.cells (uv h) 100)).alloc (.cells (uv (List.replicate 8 0)) 100)).heap.size = w.heap.size + 1 + 1 := by rw [World.size_alloc, World.size_alloc]
  refine genW (fun W => Arr W w.heap.size 100 h ∧ Arr W (w.heap.size + 1) 100 (List.replicate 8 0) ∧ Ext w W ∧ W.heap.size = w.heap.size + 1 + 1) ⟨q2, q3, ((Ext.refl w).alloc _).alloc _, q4⟩ ?_
  rintro W3 ⟨b3, b6, hE3, hsz⟩
  have Hsz := Lib.hid hsz
  clear hsz
  clear q2 q3 q4
  refine wp_region_lit ?_
  refine ldrow_law rfl rfl rfl b3 Tryz.underlying100 row8_map Hh.out ?_
  go_wp2_with (refine strow_law (l' := h) rfl rfl rfl rfl (Arr.new W3 100 (List.replicate 8 0)) row8_eq (row8_size.trans Hh.out.symm) (Hh.out.trans rfl) ?_; intro W4 s12 g12 z12)
  have hE4 : Ext W3 W4 := (Ext.new W3 _).then_grown g12 (by intro k hk; cases hk; exact Nat.le_refl _)
  rw [Hsz.out] at s12 ⊢
  have b3' := b3.ext hE4
  have b6' := b6.ext hE4
  have hE04 := hE3.trans hE4
  clear g12 z12 b3 b6 hE3 hE4
  refine (spread_any c ad L W4 (fun j hj => hE04.cell (hcell j hj)) hc hc').mono ?_
  rintro e W5 ⟨rfl, hE5⟩
  have b3 := b3'.ext hE5
  have b6 := b6'.ext hE5
  have b12 := s12.ext hE5
  have hE05 := hE04.trans hE5
  clear b3' b6' s12 hE04 hE5 hcell
  go_wp2_with fail
  go_loopw [19] (fun i wr => ∃ k : Nat, k ≤ 64 ∧ i = .int .i64 k ∧ Arr wr w.heap.size 100 h ∧ Arr wr (w.heap.size + 1) 100 (List.replicate 8 0) ∧ Arr wr (w.heap.size + 1 + 1) 100 (roundsS (S8.of h) (fillW L 64) k).list ∧ Ext w wr) (fun i _ => 64 - (intOf i).toNat)
  case atStart => exact ⟨0, by omega, rfl, b3, b6, by rw [show (roundsS (S8.of h) (fillW L 64) 0).list = h from S8.of_list h Hh.out]; exact b12, hE05⟩
  case round =>
    clear b3 b6 b12 hE05
    obtain ⟨k, hk64, rfl, c3, c6, c12, hEr⟩ := hrel
    by_cases hlt : k < 64
    · obtain ⟨s, hs⟩ : ∃ s, s = roundsS (S8.of h) (fillW L 64) k := ⟨_, rfl⟩
      rw [← hs] at c12
      have Hs := Lib.hid hs
      clear hs
      have e1 := fun w' : World => run_index_uv (P := Tryz.prog) (w := w') (d := .int .u32) Tryz.underlying101 inf101_eq inf101_size Tryz.underlying56 (fillW L 64) k (fillW_length _ _) (by rw [fillW_length]; omega)
      go_upto_region 5 with (fail)
      clear e1
      refine par_ext (n := 12) (by kernel_rfl) [.is (.pointer (some ⟨w.heap.size + 1 + 1, 4, none⟩)), .is (.int .u32 (u32i (s).e)), .is (.int .u32 (u32i (rotr (s).e 6))), .is (.pointer (some ⟨w.heap.size + 1 + 1, 4, none⟩)), .is (.int .u32 (u32i (s).e)), .is (.int .u32 (u32i (rotr (s).e 11))), .is (.int .u32 (u32i ((rotr (s).e 6) ^^^ (rotr (s).e 11)))), .is (.pointer (some ⟨w.heap.size + 1 + 1, 4, none⟩)), .is (.int .u32 (u32i (s).e)), .is (.int .u32 (u32i (rotr (s).e 25))), .is (.int .u32 (u32i (((rotr (s).e 6) ^^^ (rotr (s).e 11)) ^^^ (rotr (s).e 25)))), .is (.int .u32 (u32i (((rotr (s).e 6) ^^^ (rotr (s).e 11)) ^^^ (rotr (s).e 25))))] rfl ⟨?_, ?_, ?_, ?_, ?_, ?_, ?_, ?_, ?_, ?_, ?_, ?_, trivial⟩ ?_
      · refine stepE rfl fun sdn sa sw sE sd sk => ?_
        have h7 : sa.eval (.tmp 7) = .pointer (some ⟨w.heap.size + 1 + 1, 0, none⟩) := sk.old 7 rfl
        exact Runs.idx rfl h7 rfl (run_idx_arr1 Tryz.underlying100 inf100_eq inf100_size (4) (by omega) (by omega)) ⟨Ext.refl _, rfl⟩
      · refine stepE rfl fun sdn sa sw sE sd sk => ?_
        have h23 : sa.eval (.tmp 23) = .pointer (some ⟨w.heap.size + 1 + 1, 4, none⟩) := sk.fact 0 23 rfl (sd 0 rfl)
        exact Runs.load rfl h23 (run_load1 Tryz.underlying56 rfl ((c12.ext sE).cell (by rw [S8.list_length]; omega))) ⟨Ext.refl _, rfl⟩
      · refine stepE rfl fun sdn sa sw sE sd sk => ?_
        have h24 : sa.eval (.tmp 24) = .int .u32 (u32i (s).e) := sk.fact 1 24 rfl (sd 1 rfl)
        refine Runs.call (f := 103) (vs := [.int .u32 (u32i (s).e), .int .i64 ((6 : Int))]) rfl rfl rfl (by simp only [List.map_toArray, List.map_cons, List.map_nil, h24] <;> rfl) (ent103 _ _) ((right6_any (s).e sw).mono ?_); rintro e w' ⟨rfl, hx⟩; exact ⟨_, rfl, hx, rfl⟩
      · refine stepE rfl fun sdn sa sw sE sd sk => ?_
        have h7 : sa.eval (.tmp 7) = .pointer (some ⟨w.heap.size + 1 + 1, 0, none⟩) := sk.old 7 rfl
        exact Runs.idx rfl h7 rfl (run_idx_arr1 Tryz.underlying100 inf100_eq inf100_size (4) (by omega) (by omega)) ⟨Ext.refl _, rfl⟩
      · refine stepE rfl fun sdn sa sw sE sd sk => ?_
        have h26 : sa.eval (.tmp 26) = .pointer (some ⟨w.heap.size + 1 + 1, 4, none⟩) := sk.fact 3 26 rfl (sd 3 rfl)
        exact Runs.load rfl h26 (run_load1 Tryz.underlying56 rfl ((c12.ext sE).cell (by rw [S8.list_length]; omega))) ⟨Ext.refl _, rfl⟩
      · refine stepE rfl fun sdn sa sw sE sd sk => ?_
        have h27 : sa.eval (.tmp 27) = .int .u32 (u32i (s).e) := sk.fact 4 27 rfl (sd 4 rfl)
        refine Runs.call (f := 103) (vs := [.int .u32 (u32i (s).e), .int .i64 ((11 : Int))]) rfl rfl rfl (by simp only [List.map_toArray, List.map_cons, List.map_nil, h27] <;> rfl) (ent103 _ _) ((right11_any (s).e sw).mono ?_); rintro e w' ⟨rfl, hx⟩; exact ⟨_, rfl, hx, rfl⟩
      · refine stepE rfl fun sdn sa sw sE sd sk => ?_
        have h25 : sa.eval (.tmp 25) = .int .u32 (u32i (rotr (s).e 6)) := sk.fact 2 25 rfl (sd 2 rfl)
        have h28 : sa.eval (.tmp 28) = .int .u32 (u32i (rotr (s).e 11)) := sk.fact 5 28 rfl (sd 5 rfl)
        exact Runs.bin rfl h25 h28 (eqGuard_bin rfl) (bin_xor32 _ _ _) ⟨Ext.refl _, rfl⟩
      · refine stepE rfl fun sdn sa sw sE sd sk => ?_
        have h7 : sa.eval (.tmp 7) = .pointer (some ⟨w.heap.size + 1 + 1, 0, none⟩) := sk.old 7 rfl
        exact Runs.idx rfl h7 rfl (run_idx_arr1 Tryz.underlying100 inf100_eq inf100_size (4) (by omega) (by omega)) ⟨Ext.refl _, rfl⟩
      · refine stepE rfl fun sdn sa sw sE sd sk => ?_
        have h30 : sa.eval (.tmp 30) = .pointer (some ⟨w.heap.size + 1 + 1, 4, none⟩) := sk.fact 7 30 rfl (sd 7 rfl)
        exact Runs.load rfl h30 (run_load1 Tryz.underlying56 rfl ((c12.ext sE).cell (by rw [S8.list_length]; omega))) ⟨Ext.refl _, rfl⟩
      · refine stepE rfl fun sdn sa sw sE sd sk => ?_
        have h31 : sa.eval (.tmp 31) = .int .u32 (u32i (s).e) := sk.fact 8 31 rfl (sd 8 rfl)
        refine Runs.call (f := 103) (vs := [.int .u32 (u32i (s).e), .int .i64 ((25 : Int))]) rfl rfl rfl (by simp only [List.map_toArray, List.map_cons, List.map_nil, h31] <;> rfl) (ent103 _ _) ((right25_any (s).e sw).mono ?_); rintro e w' ⟨rfl, hx⟩; exact ⟨_, rfl, hx, rfl⟩
      · refine stepE rfl fun sdn sa sw sE sd sk => ?_
        have h29 : sa.eval (.tmp 29) = .int .u32 (u32i ((rotr (s).e 6) ^^^ (rotr (s).e 11))) := sk.fact 6 29 rfl (sd 6 rfl)
        have h32 : sa.eval (.tmp 32) = .int .u32 (u32i (rotr (s).e 25)) := sk.fact 9 32 rfl (sd 9 rfl)
        exact Runs.bin rfl h29 h32 (eqGuard_bin rfl) (bin_xor32 _ _ _) ⟨Ext.refl _, rfl⟩
      · refine stepE rfl fun sdn sa sw sE sd sk => ?_
        have h33 : sa.eval (.tmp 33) = .int .u32 (u32i (((rotr (s).e 6) ^^^ (rotr (s).e 11)) ^^^ (rotr (s).e 25))) := sk.fact 10 33 rfl (sd 10 rfl)
        exact Runs.assign rfl h33 ⟨Ext.refl _, rfl⟩
      ·
        intro vals W1 hE1 hv1
        have e0 : vals 0 = .pointer (some ⟨w.heap.size + 1 + 1, 4, none⟩) := hv1 0 (by omega) 23 rfl
        have e1 : vals 1 = .int .u32 (u32i (s).e) := hv1 1 (by omega) 24 rfl
        have e2 : vals 2 = .int .u32 (u32i (rotr (s).e 6)) := hv1 2 (by omega) 25 rfl
        have e3 : vals 3 = .pointer (some ⟨w.heap.size + 1 + 1, 4, none⟩) := hv1 3 (by omega) 26 rfl
        have e4 : vals 4 = .int .u32 (u32i (s).e) := hv1 4 (by omega) 27 rfl
        have e5 : vals 5 = .int .u32 (u32i (rotr (s).e 11)) := hv1 5 (by omega) 28 rfl
        have e6 : vals 6 = .int .u32 (u32i ((rotr (s).e 6) ^^^ (rotr (s).e 11))) := hv1 6 (by omega) 29 rfl
        have e7 : vals 7 = .pointer (some ⟨w.heap.size + 1 + 1, 4, none⟩) := hv1 7 (by omega) 30 rfl
        have e8 : vals 8 = .int .u32 (u32i (s).e) := hv1 8 (by omega) 31 rfl
        have e9 : vals 9 = .int .u32 (u32i (rotr (s).e 25)) := hv1 9 (by omega) 32 rfl
        have e10 : vals 10 = .int .u32 (u32i (((rotr (s).e 6) ^^^ (rotr (s).e 11)) ^^^ (rotr (s).e 25))) := hv1 10 (by omega) 33 rfl
        have e11 : vals 11 = .int .u32 (u32i (((rotr (s).e 6) ^^^ (rotr (s).e 11)) ^^^ (rotr (s).e 25))) := hv1 11 (by omega) 10 rfl
        simp only [putAll, Act.put, List.take_succ_cons, List.take_zero, List.drop_succ_cons, List.drop_zero, List.drop_nil, List.take_nil, Nat.reduceAdd, List.setIfInBounds_toArray, List.set_cons_succ, List.set_cons_zero, e0, e1, e2, e3, e4, e5, e6, e7, e8, e9, e10, e11]
        clear hv1 e0 e1 e2 e3 e4 e5 e6 e7 e8 e9 e10 e11
        go_upto_region 6 with (fail)
        refine seq_ext (n := 13) (by kernel_rfl) [.is (.pointer (some ⟨w.heap.size + 1 + 1, 4, none⟩)), .is (.int .u32 (u32i (s).e)), .is (.pointer (some ⟨w.heap.size + 1 + 1, 5, none⟩)), .is (.int .u32 (u32i (s).f)), .is (.int .u32 (u32i ((s).e &&& (s).f))), .is (.pointer (some ⟨w.heap.size + 1 + 1, 4, none⟩)), .is (.int .u32 (u32i (s).e)), .is (.int .u32 (u32i (~~~(s).e))), .is (.pointer (some ⟨w.heap.size + 1 + 1, 6, none⟩)), .is (.int .u32 (u32i (s).g)), .is (.int .u32 (u32i ((~~~(s).e) &&& (s).g))), .is (.int .u32 (u32i (((s).e &&& (s).f) ^^^ ((~~~(s).e) &&& (s).g)))), .is (.int .u32 (u32i (((s).e &&& (s).f) ^^^ ((~~~(s).e) &&& (s).g))))] rfl ⟨?_, ?_, ?_, ?_, ?_, ?_, ?_, ?_, ?_, ?_, ?_, ?_, ?_, trivial⟩ ?_
        · refine stepE rfl fun sdn sa sw sE sd sk => ?_
          have h7 : sa.eval (.tmp 7) = .pointer (some ⟨w.heap.size + 1 + 1, 0, none⟩) := sk.old 7 rfl
          exact Runs.idx rfl h7 rfl (run_idx_arr1 Tryz.underlying100 inf100_eq inf100_size (4) (by omega) (by omega)) ⟨Ext.refl _, rfl⟩
        · refine stepE rfl fun sdn sa sw sE sd sk => ?_
          have h34 : sa.eval (.tmp 34) = .pointer (some ⟨w.heap.size + 1 + 1, 4, none⟩) := sk.fact 0 34 rfl (sd 0 rfl)
          exact Runs.load rfl h34 (run_load1 Tryz.underlying56 rfl (((c12.ext hE1).ext sE).cell (by rw [S8.list_length]; omega))) ⟨Ext.refl _, rfl⟩
        · refine stepE rfl fun sdn sa sw sE sd sk => ?_
          have h7 : sa.eval (.tmp 7) = .pointer (some ⟨w.heap.size + 1 + 1, 0, none⟩) := sk.old 7 rfl
          exact Runs.idx rfl h7 rfl (run_idx_arr1 Tryz.underlying100 inf100_eq inf100_size (5) (by omega) (by omega)) ⟨Ext.refl _, rfl⟩
        · refine stepE rfl fun sdn sa sw sE sd sk => ?_
          have h36 : sa.eval (.tmp 36) = .pointer (some ⟨w.heap.size + 1 + 1, 5, none⟩) := sk.fact 2 36 rfl (sd 2 rfl)
          exact Runs.load rfl h36 (run_load1 Tryz.underlying56 rfl (((c12.ext hE1).ext sE).cell (by rw [S8.list_length]; omega))) ⟨Ext.refl _, rfl⟩
        · refine stepE rfl fun sdn sa sw sE sd sk => ?_
          have h35 : sa.eval (.tmp 35) = .int .u32 (u32i (s).e) := sk.fact 1 35 rfl (sd 1 rfl)
          have h37 : sa.eval (.tmp 37) = .int .u32 (u32i (s).f) := sk.fact 3 37 rfl (sd 3 rfl)
          exact Runs.bin rfl h35 h37 (eqGuard_bin rfl) (bin_and32 _ _ _) ⟨Ext.refl _, rfl⟩
        · refine stepE rfl fun sdn sa sw sE sd sk => ?_
          have h7 : sa.eval (.tmp 7) = .pointer (some ⟨w.heap.size + 1 + 1, 0, none⟩) := sk.old 7 rfl
          exact Runs.idx rfl h7 rfl (run_idx_arr1 Tryz.underlying100 inf100_eq inf100_size (4) (by omega) (by omega)) ⟨Ext.refl _, rfl⟩
        · refine stepE rfl fun sdn sa sw sE sd sk => ?_
          have h39 : sa.eval (.tmp 39) = .pointer (some ⟨w.heap.size + 1 + 1, 4, none⟩) := sk.fact 5 39 rfl (sd 5 rfl)
          exact Runs.load rfl h39 (run_load1 Tryz.underlying56 rfl (((c12.ext hE1).ext sE).cell (by rw [S8.list_length]; omega))) ⟨Ext.refl _, rfl⟩
        · refine stepE rfl fun sdn sa sw sE sd sk => ?_
          have h40 : sa.eval (.tmp 40) = .int .u32 (u32i (s).e) := sk.fact 6 40 rfl (sd 6 rfl)
          exact Runs.un rfl h40 (un_not32 _) ⟨Ext.refl _, rfl⟩
        · refine stepE rfl fun sdn sa sw sE sd sk => ?_
          have h7 : sa.eval (.tmp 7) = .pointer (some ⟨w.heap.size + 1 + 1, 0, none⟩) := sk.old 7 rfl
          exact Runs.idx rfl h7 rfl (run_idx_arr1 Tryz.underlying100 inf100_eq inf100_size (6) (by omega) (by omega)) ⟨Ext.refl _, rfl⟩
        · refine stepE rfl fun sdn sa sw sE sd sk => ?_
          have h42 : sa.eval (.tmp 42) = .pointer (some ⟨w.heap.size + 1 + 1, 6, none⟩) := sk.fact 8 42 rfl (sd 8 rfl)
          exact Runs.load rfl h42 (run_load1 Tryz.underlying56 rfl (((c12.ext hE1).ext sE).cell (by rw [S8.list_length]; omega))) ⟨Ext.refl _, rfl⟩
        · refine stepE rfl fun sdn sa sw sE sd sk => ?_
          have h41 : sa.eval (.tmp 41) = .int .u32 (u32i (~~~(s).e)) := sk.fact 7 41 rfl (sd 7 rfl)
          have h43 : sa.eval (.tmp 43) = .int .u32 (u32i (s).g) := sk.fact 9 43 rfl (sd 9 rfl)
          exact Runs.bin rfl h41 h43 (eqGuard_bin rfl) (bin_and32 _ _ _) ⟨Ext.refl _, rfl⟩
        · refine stepE rfl fun sdn sa sw sE sd sk => ?_
          have h38 : sa.eval (.tmp 38) = .int .u32 (u32i ((s).e &&& (s).f)) := sk.fact 4 38 rfl (sd 4 rfl)
          have h44 : sa.eval (.tmp 44) = .int .u32 (u32i ((~~~(s).e) &&& (s).g)) := sk.fact 10 44 rfl (sd 10 rfl)
          exact Runs.bin rfl h38 h44 (eqGuard_bin rfl) (bin_xor32 _ _ _) ⟨Ext.refl _, rfl⟩
        · refine stepE rfl fun sdn sa sw sE sd sk => ?_
          have h45 : sa.eval (.tmp 45) = .int .u32 (u32i (((s).e &&& (s).f) ^^^ ((~~~(s).e) &&& (s).g))) := sk.fact 11 45 rfl (sd 11 rfl)
          exact Runs.assign rfl h45 ⟨Ext.refl _, rfl⟩
        ·
          intro vals W6 hE2 hv2
          have e0 : vals 0 = .pointer (some ⟨w.heap.size + 1 + 1, 4, none⟩) := hv2 0 (by omega) 34 rfl
          have e1 : vals 1 = .int .u32 (u32i (s).e) := hv2 1 (by omega) 35 rfl
          have e2 : vals 2 = .pointer (some ⟨w.heap.size + 1 + 1, 5, none⟩) := hv2 2 (by omega) 36 rfl
          have e3 : vals 3 = .int .u32 (u32i (s).f) := hv2 3 (by omega) 37 rfl
          have e4 : vals 4 = .int .u32 (u32i ((s).e &&& (s).f)) := hv2 4 (by omega) 38 rfl
          have e5 : vals 5 = .pointer (some ⟨w.heap.size + 1 + 1, 4, none⟩) := hv2 5 (by omega) 39 rfl
          have e6 : vals 6 = .int .u32 (u32i (s).e) := hv2 6 (by omega) 40 rfl
          have e7 : vals 7 = .int .u32 (u32i (~~~(s).e)) := hv2 7 (by omega) 41 rfl
          have e8 : vals 8 = .pointer (some ⟨w.heap.size + 1 + 1, 6, none⟩) := hv2 8 (by omega) 42 rfl
          have e9 : vals 9 = .int .u32 (u32i (s).g) := hv2 9 (by omega) 43 rfl
          have e10 : vals 10 = .int .u32 (u32i ((~~~(s).e) &&& (s).g)) := hv2 10 (by omega) 44 rfl
          have e11 : vals 11 = .int .u32 (u32i (((s).e &&& (s).f) ^^^ ((~~~(s).e) &&& (s).g))) := hv2 11 (by omega) 45 rfl
          have e12 : vals 12 = .int .u32 (u32i (((s).e &&& (s).f) ^^^ ((~~~(s).e) &&& (s).g))) := hv2 12 (by omega) 11 rfl
          simp only [putAll, Act.put, List.take_succ_cons, List.take_zero, List.drop_succ_cons, List.drop_zero, List.drop_nil, List.take_nil, Nat.reduceAdd, List.setIfInBounds_toArray, List.set_cons_succ, List.set_cons_zero, e0, e1, e2, e3, e4, e5, e6, e7, e8, e9, e10, e11, e12]
          clear hv2 e0 e1 e2 e3 e4 e5 e6 e7 e8 e9 e10 e11 e12
          go_upto_region 7 with (fail)
          refine par_ext (n := 15) (by kernel_rfl) [.is (.pointer (some ⟨w.heap.size + 1 + 1, 7, none⟩)), .is (.int .u32 (u32i (s).h)), .is (.int .u32 (u32i ((rotr (s).e 6 ^^^ rotr (s).e 11) ^^^ rotr (s).e 25))), .is (.int .u32 (u32i ((s).h + ((rotr (s).e 6 ^^^ rotr (s).e 11) ^^^ rotr (s).e 25)))), .is (.int .u32 (u32i (((s).e &&& (s).f) ^^^ ((~~~(s).e) &&& (s).g)))), .is (.int .u32 (u32i (((s).h + ((rotr (s).e 6 ^^^ rotr (s).e 11) ^^^ rotr (s).e 25)) + (((s).e &&& (s).f) ^^^ ((~~~(s).e) &&& (s).g))))), .is (.pointer (some ⟨g4, 0, none⟩)), .is (.int .i64 ((k : Int))), .is (.pointer (some ⟨g4, 0, none⟩)), .is (.pointer (some ⟨g4, k, none⟩)), .is (.int .u32 (u32i (uw shaK k))), .is (.int .u32 (u32i ((((s).h + ((rotr (s).e 6 ^^^ rotr (s).e 11) ^^^ rotr (s).e 25)) + (((s).e &&& (s).f) ^^^ ((~~~(s).e) &&& (s).g))) + (uw shaK k)))), .is (.int .u32 (u32i (uw (fillW L 64) k))), .is (.int .u32 (u32i (((((s).h + ((rotr (s).e 6 ^^^ rotr (s).e 11) ^^^ rotr (s).e 25)) + (((s).e &&& (s).f) ^^^ ((~~~(s).e) &&& (s).g))) + (uw shaK k)) + (uw (fillW L 64) k)))), .is (.int .u32 (u32i (((((s).h + ((rotr (s).e 6 ^^^ rotr (s).e 11) ^^^ rotr (s).e 25)) + (((s).e &&& (s).f) ^^^ ((~~~(s).e) &&& (s).g))) + (uw shaK k)) + (uw (fillW L 64) k))))] rfl ⟨?_, ?_, ?_, ?_, ?_, ?_, ?_, ?_, ?_, ?_, ?_, ?_, ?_, ?_, ?_, trivial⟩ ?_
          · refine stepE rfl fun sdn sa sw sE sd sk => ?_
            have h7 : sa.eval (.tmp 7) = .pointer (some ⟨w.heap.size + 1 + 1, 0, none⟩) := sk.old 7 rfl
            exact Runs.idx rfl h7 rfl (run_idx_arr1 Tryz.underlying100 inf100_eq inf100_size (7) (by omega) (by omega)) ⟨Ext.refl _, rfl⟩
          · refine stepE rfl fun sdn sa sw sE sd sk => ?_
            have h46 : sa.eval (.tmp 46) = .pointer (some ⟨w.heap.size + 1 + 1, 7, none⟩) := sk.fact 0 46 rfl (sd 0 rfl)
            exact Runs.load rfl h46 (run_load1 Tryz.underlying56 rfl ((((c12.ext hE1).ext hE2).ext sE).cell (by rw [S8.list_length]; omega))) ⟨Ext.refl _, rfl⟩
          · refine stepE rfl fun sdn sa sw sE sd sk => ?_
            have h10 : sa.eval (.tmp 10) = .int .u32 (u32i ((rotr (s).e 6 ^^^ rotr (s).e 11) ^^^ rotr (s).e 25)) := sk.old 10 rfl
            exact Runs.move rfl h10 ⟨Ext.refl _, rfl⟩
          · refine stepE rfl fun sdn sa sw sE sd sk => ?_
            have h47 : sa.eval (.tmp 47) = .int .u32 (u32i (s).h) := sk.fact 1 47 rfl (sd 1 rfl)
            have h48 : sa.eval (.tmp 48) = .int .u32 (u32i ((rotr (s).e 6 ^^^ rotr (s).e 11) ^^^ rotr (s).e 25)) := sk.fact 2 48 rfl (sd 2 rfl)
            exact Runs.bin rfl h47 h48 (eqGuard_bin rfl) (bin_add32 _ _ _) ⟨Ext.refl _, rfl⟩
          · refine stepE rfl fun sdn sa sw sE sd sk => ?_
            have h11 : sa.eval (.tmp 11) = .int .u32 (u32i (((s).e &&& (s).f) ^^^ ((~~~(s).e) &&& (s).g))) := sk.old 11 rfl
            exact Runs.move rfl h11 ⟨Ext.refl _, rfl⟩
          · refine stepE rfl fun sdn sa sw sE sd sk => ?_
            have h49 : sa.eval (.tmp 49) = .int .u32 (u32i ((s).h + ((rotr (s).e 6 ^^^ rotr (s).e 11) ^^^ rotr (s).e 25))) := sk.fact 3 49 rfl (sd 3 rfl)
            have h50 : sa.eval (.tmp 50) = .int .u32 (u32i (((s).e &&& (s).f) ^^^ ((~~~(s).e) &&& (s).g))) := sk.fact 4 50 rfl (sd 4 rfl)
            exact Runs.bin rfl h49 h50 (eqGuard_bin rfl) (bin_add32 _ _ _) ⟨Ext.refl _, rfl⟩
          · refine stepE rfl fun sdn sa sw sE sd sk => ?_
            have h2 : sa.eval (.tmp 2) = .pointer (some ⟨g4, 0, none⟩) := sk.old 2 rfl
            exact Runs.move rfl h2 ⟨Ext.refl _, rfl⟩
          · refine stepE rfl fun sdn sa sw sE sd sk => ?_
            have h8 : sa.eval (.tmp 8) = .int .i64 ((k : Int)) := sk.old 8 rfl
            exact Runs.move rfl h8 ⟨Ext.refl _, rfl⟩
          · refine stepE rfl fun sdn sa sw sE sd sk => ?_
            have h52 : sa.eval (.tmp 52) = .pointer (some ⟨g4, 0, none⟩) := sk.fact 6 52 rfl (sd 6 rfl)
            exact Runs.nil_ rfl h52 ⟨Ext.refl _, rfl⟩
          · refine stepE rfl fun sdn sa sw sE sd sk => ?_
            have h54 : sa.eval (.tmp 54) = .pointer (some ⟨g4, 0, none⟩) := sk.fact 8 54 rfl (sd 8 rfl)
            have h53 : sa.eval (.tmp 53) = .int .i64 ((k : Int)) := sk.fact 7 53 rfl (sd 7 rfl)
            exact Runs.idx rfl h54 h53 (run_idx_arr1 Tryz.underlying101 inf101_eq inf101_size (k) (by omega) (by omega)) ⟨Ext.refl _, rfl⟩
          · refine stepE rfl fun sdn sa sw sE sd sk => ?_
            have h55 : sa.eval (.tmp 55) = .pointer (some ⟨g4, k, none⟩) := sk.fact 9 55 rfl (sd 9 rfl)
            exact Runs.load rfl h55 (run_load1 Tryz.underlying56 rfl (((((hk.ext hEr).ext hE1).ext hE2).ext sE).cell (by rw [shaK_length]; omega))) ⟨Ext.refl _, rfl⟩
          · refine stepE rfl fun sdn sa sw sE sd sk => ?_
            have h51 : sa.eval (.tmp 51) = .int .u32 (u32i (((s).h + ((rotr (s).e 6 ^^^ rotr (s).e 11) ^^^ rotr (s).e 25)) + (((s).e &&& (s).f) ^^^ ((~~~(s).e) &&& (s).g)))) := sk.fact 5 51 rfl (sd 5 rfl)
            have h56 : sa.eval (.tmp 56) = .int .u32 (u32i (uw shaK k)) := sk.fact 10 56 rfl (sd 10 rfl)
            exact Runs.bin rfl h51 h56 (eqGuard_bin rfl) (bin_add32 _ _ _) ⟨Ext.refl _, rfl⟩
          · refine stepE rfl fun sdn sa sw sE sd sk => ?_
            have h9 : sa.eval (.tmp 9) = .int .u32 (u32i (uw (fillW L 64) k)) := sk.old 9 rfl
            exact Runs.move rfl h9 ⟨Ext.refl _, rfl⟩
          · refine stepE rfl fun sdn sa sw sE sd sk => ?_
            have h57 : sa.eval (.tmp 57) = .int .u32 (u32i ((((s).h + ((rotr (s).e 6 ^^^ rotr (s).e 11) ^^^ rotr (s).e 25)) + (((s).e &&& (s).f) ^^^ ((~~~(s).e) &&& (s).g))) + (uw shaK k))) := sk.fact 11 57 rfl (sd 11 rfl)
            have h58 : sa.eval (.tmp 58) = .int .u32 (u32i (uw (fillW L 64) k)) := sk.fact 12 58 rfl (sd 12 rfl)
            exact Runs.bin rfl h57 h58 (eqGuard_bin rfl) (bin_add32 _ _ _) ⟨Ext.refl _, rfl⟩
          · refine stepE rfl fun sdn sa sw sE sd sk => ?_
            have h59 : sa.eval (.tmp 59) = .int .u32 (u32i (((((s).h + ((rotr (s).e 6 ^^^ rotr (s).e 11) ^^^ rotr (s).e 25)) + (((s).e &&& (s).f) ^^^ ((~~~(s).e) &&& (s).g))) + (uw shaK k)) + (uw (fillW L 64) k))) := sk.fact 13 59 rfl (sd 13 rfl)
            exact Runs.assign rfl h59 ⟨Ext.refl _, rfl⟩
          ·
            intro vals W7 hE3 hv3
            have e0 : vals 0 = .pointer (some ⟨w.heap.size + 1 + 1, 7, none⟩) := hv3 0 (by omega) 46 rfl
            have e1 : vals 1 = .int .u32 (u32i (s).h) := hv3 1 (by omega) 47 rfl
            have e2 : vals 2 = .int .u32 (u32i ((rotr (s).e 6 ^^^ rotr (s).e 11) ^^^ rotr (s).e 25)) := hv3 2 (by omega) 48 rfl
            have e3 : vals 3 = .int .u32 (u32i ((s).h + ((rotr (s).e 6 ^^^ rotr (s).e 11) ^^^ rotr (s).e 25))) := hv3 3 (by omega) 49 rfl
            have e4 : vals 4 = .int .u32 (u32i (((s).e &&& (s).f) ^^^ ((~~~(s).e) &&& (s).g))) := hv3 4 (by omega) 50 rfl
            have e5 : vals 5 = .int .u32 (u32i (((s).h + ((rotr (s).e 6 ^^^ rotr (s).e 11) ^^^ rotr (s).e 25)) + (((s).e &&& (s).f) ^^^ ((~~~(s).e) &&& (s).g)))) := hv3 5 (by omega) 51 rfl
            have e6 : vals 6 = .pointer (some ⟨g4, 0, none⟩) := hv3 6 (by omega) 52 rfl
            have e7 : vals 7 = .int .i64 ((k : Int)) := hv3 7 (by omega) 53 rfl
            have e8 : vals 8 = .pointer (some ⟨g4, 0, none⟩) := hv3 8 (by omega) 54 rfl
            have e9 : vals 9 = .pointer (some ⟨g4, k, none⟩) := hv3 9 (by omega) 55 rfl
            have e10 : vals 10 = .int .u32 (u32i (uw shaK k)) := hv3 10 (by omega) 56 rfl
            have e11 : vals 11 = .int .u32 (u32i ((((s).h + ((rotr (s).e 6 ^^^ rotr (s).e 11) ^^^ rotr (s).e 25)) + (((s).e &&& (s).f) ^^^ ((~~~(s).e) &&& (s).g))) + (uw shaK k))) := hv3 11 (by omega) 57 rfl
            have e12 : vals 12 = .int .u32 (u32i (uw (fillW L 64) k)) := hv3 12 (by omega) 58 rfl
            have e13 : vals 13 = .int .u32 (u32i (((((s).h + ((rotr (s).e 6 ^^^ rotr (s).e 11) ^^^ rotr (s).e 25)) + (((s).e &&& (s).f) ^^^ ((~~~(s).e) &&& (s).g))) + (uw shaK k)) + (uw (fillW L 64) k))) := hv3 13 (by omega) 59 rfl
            have e14 : vals 14 = .int .u32 (u32i (((((s).h + ((rotr (s).e 6 ^^^ rotr (s).e 11) ^^^ rotr (s).e 25)) + (((s).e &&& (s).f) ^^^ ((~~~(s).e) &&& (s).g))) + (uw shaK k)) + (uw (fillW L 64) k))) := hv3 14 (by omega) 12 rfl
            simp only [putAll, Act.put, List.take_succ_cons, List.take_zero, List.drop_succ_cons, List.drop_zero, List.drop_nil, List.take_nil, Nat.reduceAdd, List.setIfInBounds_toArray, List.set_cons_succ, List.set_cons_zero, e0, e1, e2, e3, e4, e5, e6, e7, e8, e9, e10, e11, e12, e13, e14]
            clear hv3 e0 e1 e2 e3 e4 e5 e6 e7 e8 e9 e10 e11 e12 e13 e14
            rw [show ((((s).h + ((rotr (s).e 6 ^^^ rotr (s).e 11) ^^^ rotr (s).e 25)) + (((s).e &&& (s).f) ^^^ ((~~~(s).e) &&& (s).g)) + (uw shaK k)) + (uw (fillW L 64) k)) = roundT s (uw shaK k) (uw (fillW L 64) k) from rfl]
            go_upto_region 8 with (fail)
            refine par_ext (n := 12) (by kernel_rfl) [.is (.pointer (some ⟨w.heap.size + 1 + 1, 0, none⟩)), .is (.int .u32 (u32i (s).a)), .is (.int .u32 (u32i (rotr (s).a 2))), .is (.pointer (some ⟨w.heap.size + 1 + 1, 0, none⟩)), .is (.int .u32 (u32i (s).a)), .is (.int .u32 (u32i (rotr (s).a 13))), .is (.int .u32 (u32i ((rotr (s).a 2) ^^^ (rotr (s).a 13)))), .is (.pointer (some ⟨w.heap.size + 1 + 1, 0, none⟩)), .is (.int .u32 (u32i (s).a)), .is (.int .u32 (u32i (rotr (s).a 22))), .is (.int .u32 (u32i (((rotr (s).a 2) ^^^ (rotr (s).a 13)) ^^^ (rotr (s).a 22)))), .is (.int .u32 (u32i (((rotr (s).a 2) ^^^ (rotr (s).a 13)) ^^^ (rotr (s).a 22))))] rfl ⟨?_, ?_, ?_, ?_, ?_, ?_, ?_, ?_, ?_, ?_, ?_, ?_, trivial⟩ ?_
            · refine stepE rfl fun sdn sa sw sE sd sk => ?_
              have h7 : sa.eval (.tmp 7) = .pointer (some ⟨w.heap.size + 1 + 1, 0, none⟩) := sk.old 7 rfl
              exact Runs.idx rfl h7 rfl (run_idx_arr1 Tryz.underlying100 inf100_eq inf100_size (0) (by omega) (by omega)) ⟨Ext.refl _, rfl⟩
            · refine stepE rfl fun sdn sa sw sE sd sk => ?_
              have h60 : sa.eval (.tmp 60) = .pointer (some ⟨w.heap.size + 1 + 1, 0, none⟩) := sk.fact 0 60 rfl (sd 0 rfl)
              exact Runs.load rfl h60 (run_load1 Tryz.underlying56 rfl (((((c12.ext hE1).ext hE2).ext hE3).ext sE).cell (by rw [S8.list_length]; omega))) ⟨Ext.refl _, rfl⟩
            · refine stepE rfl fun sdn sa sw sE sd sk => ?_
              have h61 : sa.eval (.tmp 61) = .int .u32 (u32i (s).a) := sk.fact 1 61 rfl (sd 1 rfl)
              refine Runs.call (f := 103) (vs := [.int .u32 (u32i (s).a), .int .i64 ((2 : Int))]) rfl rfl rfl (by simp only [List.map_toArray, List.map_cons, List.map_nil, h61] <;> rfl) (ent103 _ _) ((right2_any (s).a sw).mono ?_); rintro e w' ⟨rfl, hx⟩; exact ⟨_, rfl, hx, rfl⟩
            · refine stepE rfl fun sdn sa sw sE sd sk => ?_
              have h7 : sa.eval (.tmp 7) = .pointer (some ⟨w.heap.size + 1 + 1, 0, none⟩) := sk.old 7 rfl
              exact Runs.idx rfl h7 rfl (run_idx_arr1 Tryz.underlying100 inf100_eq inf100_size (0) (by omega) (by omega)) ⟨Ext.refl _, rfl⟩
            · refine stepE rfl fun sdn sa sw sE sd sk => ?_
              have h63 : sa.eval (.tmp 63) = .pointer (some ⟨w.heap.size + 1 + 1, 0, none⟩) := sk.fact 3 63 rfl (sd 3 rfl)
              exact Runs.load rfl h63 (run_load1 Tryz.underlying56 rfl (((((c12.ext hE1).ext hE2).ext hE3).ext sE).cell (by rw [S8.list_length]; omega))) ⟨Ext.refl _, rfl⟩
            · refine stepE rfl fun sdn sa sw sE sd sk => ?_
              have h64 : sa.eval (.tmp 64) = .int .u32 (u32i (s).a) := sk.fact 4 64 rfl (sd 4 rfl)
              refine Runs.call (f := 103) (vs := [.int .u32 (u32i (s).a), .int .i64 ((13 : Int))]) rfl rfl rfl (by simp only [List.map_toArray, List.map_cons, List.map_nil, h64] <;> rfl) (ent103 _ _) ((right13_any (s).a sw).mono ?_); rintro e w' ⟨rfl, hx⟩; exact ⟨_, rfl, hx, rfl⟩
            · refine stepE rfl fun sdn sa sw sE sd sk => ?_
              have h62 : sa.eval (.tmp 62) = .int .u32 (u32i (rotr (s).a 2)) := sk.fact 2 62 rfl (sd 2 rfl)
              have h65 : sa.eval (.tmp 65) = .int .u32 (u32i (rotr (s).a 13)) := sk.fact 5 65 rfl (sd 5 rfl)
              exact Runs.bin rfl h62 h65 (eqGuard_bin rfl) (bin_xor32 _ _ _) ⟨Ext.refl _, rfl⟩
            · refine stepE rfl fun sdn sa sw sE sd sk => ?_
              have h7 : sa.eval (.tmp 7) = .pointer (some ⟨w.heap.size + 1 + 1, 0, none⟩) := sk.old 7 rfl
              exact Runs.idx rfl h7 rfl (run_idx_arr1 Tryz.underlying100 inf100_eq inf100_size (0) (by omega) (by omega)) ⟨Ext.refl _, rfl⟩
            · refine stepE rfl fun sdn sa sw sE sd sk => ?_
              have h67 : sa.eval (.tmp 67) = .pointer (some ⟨w.heap.size + 1 + 1, 0, none⟩) := sk.fact 7 67 rfl (sd 7 rfl)
              exact Runs.load rfl h67 (run_load1 Tryz.underlying56 rfl (((((c12.ext hE1).ext hE2).ext hE3).ext sE).cell (by rw [S8.list_length]; omega))) ⟨Ext.refl _, rfl⟩
            · refine stepE rfl fun sdn sa sw sE sd sk => ?_
              have h68 : sa.eval (.tmp 68) = .int .u32 (u32i (s).a) := sk.fact 8 68 rfl (sd 8 rfl)
              refine Runs.call (f := 103) (vs := [.int .u32 (u32i (s).a), .int .i64 ((22 : Int))]) rfl rfl rfl (by simp only [List.map_toArray, List.map_cons, List.map_nil, h68] <;> rfl) (ent103 _ _) ((right22_any (s).a sw).mono ?_); rintro e w' ⟨rfl, hx⟩; exact ⟨_, rfl, hx, rfl⟩
            · refine stepE rfl fun sdn sa sw sE sd sk => ?_
              have h66 : sa.eval (.tmp 66) = .int .u32 (u32i ((rotr (s).a 2) ^^^ (rotr (s).a 13))) := sk.fact 6 66 rfl (sd 6 rfl)
              have h69 : sa.eval (.tmp 69) = .int .u32 (u32i (rotr (s).a 22)) := sk.fact 9 69 rfl (sd 9 rfl)
              exact Runs.bin rfl h66 h69 (eqGuard_bin rfl) (bin_xor32 _ _ _) ⟨Ext.refl _, rfl⟩
            · refine stepE rfl fun sdn sa sw sE sd sk => ?_
              have h70 : sa.eval (.tmp 70) = .int .u32 (u32i (((rotr (s).a 2) ^^^ (rotr (s).a 13)) ^^^ (rotr (s).a 22))) := sk.fact 10 70 rfl (sd 10 rfl)
              exact Runs.assign rfl h70 ⟨Ext.refl _, rfl⟩
            ·
              intro vals W8 hE4 hv4
              have e0 : vals 0 = .pointer (some ⟨w.heap.size + 1 + 1, 0, none⟩) := hv4 0 (by omega) 60 rfl
              have e1 : vals 1 = .int .u32 (u32i (s).a) := hv4 1 (by omega) 61 rfl
              have e2 : vals 2 = .int .u32 (u32i (rotr (s).a 2)) := hv4 2 (by omega) 62 rfl
              have e3 : vals 3 = .pointer (some ⟨w.heap.size + 1 + 1, 0, none⟩) := hv4 3 (by omega) 63 rfl
              have e4 : vals 4 = .int .u32 (u32i (s).a) := hv4 4 (by omega) 64 rfl
              have e5 : vals 5 = .int .u32 (u32i (rotr (s).a 13)) := hv4 5 (by omega) 65 rfl
              have e6 : vals 6 = .int .u32 (u32i ((rotr (s).a 2) ^^^ (rotr (s).a 13))) := hv4 6 (by omega) 66 rfl
              have e7 : vals 7 = .pointer (some ⟨w.heap.size + 1 + 1, 0, none⟩) := hv4 7 (by omega) 67 rfl
              have e8 : vals 8 = .int .u32 (u32i (s).a) := hv4 8 (by omega) 68 rfl
              have e9 : vals 9 = .int .u32 (u32i (rotr (s).a 22)) := hv4 9 (by omega) 69 rfl
              have e10 : vals 10 = .int .u32 (u32i (((rotr (s).a 2) ^^^ (rotr (s).a 13)) ^^^ (rotr (s).a 22))) := hv4 10 (by omega) 70 rfl
              have e11 : vals 11 = .int .u32 (u32i (((rotr (s).a 2) ^^^ (rotr (s).a 13)) ^^^ (rotr (s).a 22))) := hv4 11 (by omega) 13 rfl
              simp only [putAll, Act.put, List.take_succ_cons, List.take_zero, List.drop_succ_cons, List.drop_zero, List.drop_nil, List.take_nil, Nat.reduceAdd, List.setIfInBounds_toArray, List.set_cons_succ, List.set_cons_zero, e0, e1, e2, e3, e4, e5, e6, e7, e8, e9, e10, e11]
              clear hv4 e0 e1 e2 e3 e4 e5 e6 e7 e8 e9 e10 e11
              rw [show ((rotr (s).a 2 ^^^ rotr (s).a 13) ^^^ rotr (s).a 22) = bigS0 (s).a from rfl]
              go_upto_region 9 with (fail)
              refine seq_ext (n := 18) (by kernel_rfl) [.is (.pointer (some ⟨w.heap.size + 1 + 1, 0, none⟩)), .is (.int .u32 (u32i (s).a)), .is (.pointer (some ⟨w.heap.size + 1 + 1, 1, none⟩)), .is (.int .u32 (u32i (s).b)), .is (.int .u32 (u32i ((s).a &&& (s).b))), .is (.pointer (some ⟨w.heap.size + 1 + 1, 0, none⟩)), .is (.int .u32 (u32i (s).a)), .is (.pointer (some ⟨w.heap.size + 1 + 1, 2, none⟩)), .is (.int .u32 (u32i (s).c)), .is (.int .u32 (u32i ((s).a &&& (s).c))), .is (.int .u32 (u32i (((s).a &&& (s).b) ^^^ ((s).a &&& (s).c)))), .is (.pointer (some ⟨w.heap.size + 1 + 1, 1, none⟩)), .is (.int .u32 (u32i (s).b)), .is (.pointer (some ⟨w.heap.size + 1 + 1, 2, none⟩)), .is (.int .u32 (u32i (s).c)), .is (.int .u32 (u32i ((s).b &&& (s).c))), .is (.int .u32 (u32i ((((s).a &&& (s).b) ^^^ ((s).a &&& (s).c)) ^^^ ((s).b &&& (s).c)))), .is (.int .u32 (u32i ((((s).a &&& (s).b) ^^^ ((s).a &&& (s).c)) ^^^ ((s).b &&& (s).c))))] rfl ⟨?_, ?_, ?_, ?_, ?_, ?_, ?_, ?_, ?_, ?_, ?_, ?_, ?_, ?_, ?_, ?_, ?_, ?_, trivial⟩ ?_
              · refine stepE rfl fun sdn sa sw sE sd sk => ?_
                have h7 : sa.eval (.tmp 7) = .pointer (some ⟨w.heap.size + 1 + 1, 0, none⟩) := sk.old 7 rfl
                exact Runs.idx rfl h7 rfl (run_idx_arr1 Tryz.underlying100 inf100_eq inf100_size (0) (by omega) (by omega)) ⟨Ext.refl _, rfl⟩
              · refine stepE rfl fun sdn sa sw sE sd sk => ?_
                have h71 : sa.eval (.tmp 71) = .pointer (some ⟨w.heap.size + 1 + 1, 0, none⟩) := sk.fact 0 71 rfl (sd 0 rfl)
                exact Runs.load rfl h71 (run_load1 Tryz.underlying56 rfl ((((((c12.ext hE1).ext hE2).ext hE3).ext hE4).ext sE).cell (by rw [S8.list_length]; omega))) ⟨Ext.refl _, rfl⟩
              · refine stepE rfl fun sdn sa sw sE sd sk => ?_
                have h7 : sa.eval (.tmp 7) = .pointer (some ⟨w.heap.size + 1 + 1, 0, none⟩) := sk.old 7 rfl
                exact Runs.idx rfl h7 rfl (run_idx_arr1 Tryz.underlying100 inf100_eq inf100_size (1) (by omega) (by omega)) ⟨Ext.refl _, rfl⟩
              · refine stepE rfl fun sdn sa sw sE sd sk => ?_
                have h73 : sa.eval (.tmp 73) = .pointer (some ⟨w.heap.size + 1 + 1, 1, none⟩) := sk.fact 2 73 rfl (sd 2 rfl)
                exact Runs.load rfl h73 (run_load1 Tryz.underlying56 rfl ((((((c12.ext hE1).ext hE2).ext hE3).ext hE4).ext sE).cell (by rw [S8.list_length]; omega))) ⟨Ext.refl _, rfl⟩
              · refine stepE rfl fun sdn sa sw sE sd sk => ?_
                have h72 : sa.eval (.tmp 72) = .int .u32 (u32i (s).a) := sk.fact 1 72 rfl (sd 1 rfl)
                have h74 : sa.eval (.tmp 74) = .int .u32 (u32i (s).b) := sk.fact 3 74 rfl (sd 3 rfl)
                exact Runs.bin rfl h72 h74 (eqGuard_bin rfl) (bin_and32 _ _ _) ⟨Ext.refl _, rfl⟩
              · refine stepE rfl fun sdn sa sw sE sd sk => ?_
                have h7 : sa.eval (.tmp 7) = .pointer (some ⟨w.heap.size + 1 + 1, 0, none⟩) := sk.old 7 rfl
                exact Runs.idx rfl h7 rfl (run_idx_arr1 Tryz.underlying100 inf100_eq inf100_size (0) (by omega) (by omega)) ⟨Ext.refl _, rfl⟩
              · refine stepE rfl fun sdn sa sw sE sd sk => ?_
                have h76 : sa.eval (.tmp 76) = .pointer (some ⟨w.heap.size + 1 + 1, 0, none⟩) := sk.fact 5 76 rfl (sd 5 rfl)
                exact Runs.load rfl h76 (run_load1 Tryz.underlying56 rfl ((((((c12.ext hE1).ext hE2).ext hE3).ext hE4).ext sE).cell (by rw [S8.list_length]; omega))) ⟨Ext.refl _, rfl⟩
              · refine stepE rfl fun sdn sa sw sE sd sk => ?_
                have h7 : sa.eval (.tmp 7) = .pointer (some ⟨w.heap.size + 1 + 1, 0, none⟩) := sk.old 7 rfl
                exact Runs.idx rfl h7 rfl (run_idx_arr1 Tryz.underlying100 inf100_eq inf100_size (2) (by omega) (by omega)) ⟨Ext.refl _, rfl⟩
              · refine stepE rfl fun sdn sa sw sE sd sk => ?_
                have h78 : sa.eval (.tmp 78) = .pointer (some ⟨w.heap.size + 1 + 1, 2, none⟩) := sk.fact 7 78 rfl (sd 7 rfl)
                exact Runs.load rfl h78 (run_load1 Tryz.underlying56 rfl ((((((c12.ext hE1).ext hE2).ext hE3).ext hE4).ext sE).cell (by rw [S8.list_length]; omega))) ⟨Ext.refl _, rfl⟩
              · refine stepE rfl fun sdn sa sw sE sd sk => ?_
                have h77 : sa.eval (.tmp 77) = .int .u32 (u32i (s).a) := sk.fact 6 77 rfl (sd 6 rfl)
                have h79 : sa.eval (.tmp 79) = .int .u32 (u32i (s).c) := sk.fact 8 79 rfl (sd 8 rfl)
                exact Runs.bin rfl h77 h79 (eqGuard_bin rfl) (bin_and32 _ _ _) ⟨Ext.refl _, rfl⟩
              · refine stepE rfl fun sdn sa sw sE sd sk => ?_
                have h75 : sa.eval (.tmp 75) = .int .u32 (u32i ((s).a &&& (s).b)) := sk.fact 4 75 rfl (sd 4 rfl)
                have h80 : sa.eval (.tmp 80) = .int .u32 (u32i ((s).a &&& (s).c)) := sk.fact 9 80 rfl (sd 9 rfl)
                exact Runs.bin rfl h75 h80 (eqGuard_bin rfl) (bin_xor32 _ _ _) ⟨Ext.refl _, rfl⟩
              · refine stepE rfl fun sdn sa sw sE sd sk => ?_
                have h7 : sa.eval (.tmp 7) = .pointer (some ⟨w.heap.size + 1 + 1, 0, none⟩) := sk.old 7 rfl
                exact Runs.idx rfl h7 rfl (run_idx_arr1 Tryz.underlying100 inf100_eq inf100_size (1) (by omega) (by omega)) ⟨Ext.refl _, rfl⟩
              · refine stepE rfl fun sdn sa sw sE sd sk => ?_
                have h82 : sa.eval (.tmp 82) = .pointer (some ⟨w.heap.size + 1 + 1, 1, none⟩) := sk.fact 11 82 rfl (sd 11 rfl)
                exact Runs.load rfl h82 (run_load1 Tryz.underlying56 rfl ((((((c12.ext hE1).ext hE2).ext hE3).ext hE4).ext sE).cell (by rw [S8.list_length]; omega))) ⟨Ext.refl _, rfl⟩
              · refine stepE rfl fun sdn sa sw sE sd sk => ?_
                have h7 : sa.eval (.tmp 7) = .pointer (some ⟨w.heap.size + 1 + 1, 0, none⟩) := sk.old 7 rfl
                exact Runs.idx rfl h7 rfl (run_idx_arr1 Tryz.underlying100 inf100_eq inf100_size (2) (by omega) (by omega)) ⟨Ext.refl _, rfl⟩
              · refine stepE rfl fun sdn sa sw sE sd sk => ?_
                have h84 : sa.eval (.tmp 84) = .pointer (some ⟨w.heap.size + 1 + 1, 2, none⟩) := sk.fact 13 84 rfl (sd 13 rfl)
                exact Runs.load rfl h84 (run_load1 Tryz.underlying56 rfl ((((((c12.ext hE1).ext hE2).ext hE3).ext hE4).ext sE).cell (by rw [S8.list_length]; omega))) ⟨Ext.refl _, rfl⟩
              · refine stepE rfl fun sdn sa sw sE sd sk => ?_
                have h83 : sa.eval (.tmp 83) = .int .u32 (u32i (s).b) := sk.fact 12 83 rfl (sd 12 rfl)
                have h85 : sa.eval (.tmp 85) = .int .u32 (u32i (s).c) := sk.fact 14 85 rfl (sd 14 rfl)
                exact Runs.bin rfl h83 h85 (eqGuard_bin rfl) (bin_and32 _ _ _) ⟨Ext.refl _, rfl⟩
              · refine stepE rfl fun sdn sa sw sE sd sk => ?_
                have h81 : sa.eval (.tmp 81) = .int .u32 (u32i (((s).a &&& (s).b) ^^^ ((s).a &&& (s).c))) := sk.fact 10 81 rfl (sd 10 rfl)
                have h86 : sa.eval (.tmp 86) = .int .u32 (u32i ((s).b &&& (s).c)) := sk.fact 15 86 rfl (sd 15 rfl)
                exact Runs.bin rfl h81 h86 (eqGuard_bin rfl) (bin_xor32 _ _ _) ⟨Ext.refl _, rfl⟩
              · refine stepE rfl fun sdn sa sw sE sd sk => ?_
                have h87 : sa.eval (.tmp 87) = .int .u32 (u32i ((((s).a &&& (s).b) ^^^ ((s).a &&& (s).c)) ^^^ ((s).b &&& (s).c))) := sk.fact 16 87 rfl (sd 16 rfl)
                exact Runs.assign rfl h87 ⟨Ext.refl _, rfl⟩
              ·
                intro vals W9 hE5 hv5
                have e0 : vals 0 = .pointer (some ⟨w.heap.size + 1 + 1, 0, none⟩) := hv5 0 (by omega) 71 rfl
                have e1 : vals 1 = .int .u32 (u32i (s).a) := hv5 1 (by omega) 72 rfl
                have e2 : vals 2 = .pointer (some ⟨w.heap.size + 1 + 1, 1, none⟩) := hv5 2 (by omega) 73 rfl
                have e3 : vals 3 = .int .u32 (u32i (s).b) := hv5 3 (by omega) 74 rfl
                have e4 : vals 4 = .int .u32 (u32i ((s).a &&& (s).b)) := hv5 4 (by omega) 75 rfl
                have e5 : vals 5 = .pointer (some ⟨w.heap.size + 1 + 1, 0, none⟩) := hv5 5 (by omega) 76 rfl
                have e6 : vals 6 = .int .u32 (u32i (s).a) := hv5 6 (by omega) 77 rfl
                have e7 : vals 7 = .pointer (some ⟨w.heap.size + 1 + 1, 2, none⟩) := hv5 7 (by omega) 78 rfl
                have e8 : vals 8 = .int .u32 (u32i (s).c) := hv5 8 (by omega) 79 rfl
                have e9 : vals 9 = .int .u32 (u32i ((s).a &&& (s).c)) := hv5 9 (by omega) 80 rfl
                have e10 : vals 10 = .int .u32 (u32i (((s).a &&& (s).b) ^^^ ((s).a &&& (s).c))) := hv5 10 (by omega) 81 rfl
                have e11 : vals 11 = .pointer (some ⟨w.heap.size + 1 + 1, 1, none⟩) := hv5 11 (by omega) 82 rfl
                have e12 : vals 12 = .int .u32 (u32i (s).b) := hv5 12 (by omega) 83 rfl
                have e13 : vals 13 = .pointer (some ⟨w.heap.size + 1 + 1, 2, none⟩) := hv5 13 (by omega) 84 rfl
                have e14 : vals 14 = .int .u32 (u32i (s).c) := hv5 14 (by omega) 85 rfl
                have e15 : vals 15 = .int .u32 (u32i ((s).b &&& (s).c)) := hv5 15 (by omega) 86 rfl
                have e16 : vals 16 = .int .u32 (u32i ((((s).a &&& (s).b) ^^^ ((s).a &&& (s).c)) ^^^ ((s).b &&& (s).c))) := hv5 16 (by omega) 87 rfl
                have e17 : vals 17 = .int .u32 (u32i ((((s).a &&& (s).b) ^^^ ((s).a &&& (s).c)) ^^^ ((s).b &&& (s).c))) := hv5 17 (by omega) 14 rfl
                simp only [putAll, Act.put, List.take_succ_cons, List.take_zero, List.drop_succ_cons, List.drop_zero, List.drop_nil, List.take_nil, Nat.reduceAdd, List.setIfInBounds_toArray, List.set_cons_succ, List.set_cons_zero, e0, e1, e2, e3, e4, e5, e6, e7, e8, e9, e10, e11, e12, e13, e14, e15, e16, e17]
                clear hv5 e0 e1 e2 e3 e4 e5 e6 e7 e8 e9 e10 e11 e12 e13 e14 e15 e16 e17
                rw [show ((((s).a &&& (s).b) ^^^ ((s).a &&& (s).c)) ^^^ ((s).b &&& (s).c)) = majF (s).a (s).b (s).c from rfl]
                go_upto_region 10 with (fail)
                refine seq_ext (n := 21) (by kernel_rfl) [.is (.int .u32 (u32i (roundT s (uw shaK k) (uw (fillW L 64) k)))), .is (.int .u32 (u32i (bigS0 (s).a))), .is (.int .u32 (u32i ((roundT s (uw shaK k) (uw (fillW L 64) k)) + (bigS0 (s).a)))), .is (.int .u32 (u32i (majF (s).a (s).b (s).c))), .is (.int .u32 (u32i (((roundT s (uw shaK k) (uw (fillW L 64) k)) + (bigS0 (s).a)) + (majF (s).a (s).b (s).c)))), .is (.pointer (some ⟨w.heap.size + 1 + 1, 0, none⟩)), .is (.int .u32 (u32i (s).a)), .is (.pointer (some ⟨w.heap.size + 1 + 1, 1, none⟩)), .is (.int .u32 (u32i (s).b)), .is (.pointer (some ⟨w.heap.size + 1 + 1, 2, none⟩)), .is (.int .u32 (u32i (s).c)), .is (.pointer (some ⟨w.heap.size + 1 + 1, 3, none⟩)), .is (.int .u32 (u32i (s).d)), .is (.int .u32 (u32i (roundT s (uw shaK k) (uw (fillW L 64) k)))), .is (.int .u32 (u32i ((s).d + (roundT s (uw shaK k) (uw (fillW L 64) k))))), .is (.pointer (some ⟨w.heap.size + 1 + 1, 4, none⟩)), .is (.int .u32 (u32i (s).e)), .is (.pointer (some ⟨w.heap.size + 1 + 1, 5, none⟩)), .is (.int .u32 (u32i (s).f)), .is (.pointer (some ⟨w.heap.size + 1 + 1, 6, none⟩)), .is (.int .u32 (u32i (s).g))] rfl ⟨?_, ?_, ?_, ?_, ?_, ?_, ?_, ?_, ?_, ?_, ?_, ?_, ?_, ?_, ?_, ?_, ?_, ?_, ?_, ?_, ?_, trivial⟩ ?_
                · refine stepE rfl fun sdn sa sw sE sd sk => ?_
                  have h12 : sa.eval (.tmp 12) = .int .u32 (u32i (roundT s (uw shaK k) (uw (fillW L 64) k))) := sk.old 12 rfl
                  exact Runs.move rfl h12 ⟨Ext.refl _, rfl⟩
                · refine stepE rfl fun sdn sa sw sE sd sk => ?_
                  have h13 : sa.eval (.tmp 13) = .int .u32 (u32i (bigS0 (s).a)) := sk.old 13 rfl
                  exact Runs.move rfl h13 ⟨Ext.refl _, rfl⟩
                · refine stepE rfl fun sdn sa sw sE sd sk => ?_
                  have h88 : sa.eval (.tmp 88) = .int .u32 (u32i (roundT s (uw shaK k) (uw (fillW L 64) k))) := sk.fact 0 88 rfl (sd 0 rfl)
                  have h89 : sa.eval (.tmp 89) = .int .u32 (u32i (bigS0 (s).a)) := sk.fact 1 89 rfl (sd 1 rfl)
                  exact Runs.bin rfl h88 h89 (eqGuard_bin rfl) (bin_add32 _ _ _) ⟨Ext.refl _, rfl⟩
                · refine stepE rfl fun sdn sa sw sE sd sk => ?_
                  have h14 : sa.eval (.tmp 14) = .int .u32 (u32i (majF (s).a (s).b (s).c)) := sk.old 14 rfl
                  exact Runs.move rfl h14 ⟨Ext.refl _, rfl⟩
                · refine stepE rfl fun sdn sa sw sE sd sk => ?_
                  have h90 : sa.eval (.tmp 90) = .int .u32 (u32i ((roundT s (uw shaK k) (uw (fillW L 64) k)) + (bigS0 (s).a))) := sk.fact 2 90 rfl (sd 2 rfl)
                  have h91 : sa.eval (.tmp 91) = .int .u32 (u32i (majF (s).a (s).b (s).c)) := sk.fact 3 91 rfl (sd 3 rfl)
                  exact Runs.bin rfl h90 h91 (eqGuard_bin rfl) (bin_add32 _ _ _) ⟨Ext.refl _, rfl⟩
                · refine stepE rfl fun sdn sa sw sE sd sk => ?_
                  have h7 : sa.eval (.tmp 7) = .pointer (some ⟨w.heap.size + 1 + 1, 0, none⟩) := sk.old 7 rfl
                  exact Runs.idx rfl h7 rfl (run_idx_arr1 Tryz.underlying100 inf100_eq inf100_size (0) (by omega) (by omega)) ⟨Ext.refl _, rfl⟩
                · refine stepE rfl fun sdn sa sw sE sd sk => ?_
                  have h93 : sa.eval (.tmp 93) = .pointer (some ⟨w.heap.size + 1 + 1, 0, none⟩) := sk.fact 5 93 rfl (sd 5 rfl)
                  exact Runs.load rfl h93 (run_load1 Tryz.underlying56 rfl (((((((c12.ext hE1).ext hE2).ext hE3).ext hE4).ext hE5).ext sE).cell (by rw [S8.list_length]; omega))) ⟨Ext.refl _, rfl⟩
                · refine stepE rfl fun sdn sa sw sE sd sk => ?_
                  have h7 : sa.eval (.tmp 7) = .pointer (some ⟨w.heap.size + 1 + 1, 0, none⟩) := sk.old 7 rfl
                  exact Runs.idx rfl h7 rfl (run_idx_arr1 Tryz.underlying100 inf100_eq inf100_size (1) (by omega) (by omega)) ⟨Ext.refl _, rfl⟩
                · refine stepE rfl fun sdn sa sw sE sd sk => ?_
                  have h95 : sa.eval (.tmp 95) = .pointer (some ⟨w.heap.size + 1 + 1, 1, none⟩) := sk.fact 7 95 rfl (sd 7 rfl)
                  exact Runs.load rfl h95 (run_load1 Tryz.underlying56 rfl (((((((c12.ext hE1).ext hE2).ext hE3).ext hE4).ext hE5).ext sE).cell (by rw [S8.list_length]; omega))) ⟨Ext.refl _, rfl⟩
                · refine stepE rfl fun sdn sa sw sE sd sk => ?_
                  have h7 : sa.eval (.tmp 7) = .pointer (some ⟨w.heap.size + 1 + 1, 0, none⟩) := sk.old 7 rfl
                  exact Runs.idx rfl h7 rfl (run_idx_arr1 Tryz.underlying100 inf100_eq inf100_size (2) (by omega) (by omega)) ⟨Ext.refl _, rfl⟩
                · refine stepE rfl fun sdn sa sw sE sd sk => ?_
                  have h97 : sa.eval (.tmp 97) = .pointer (some ⟨w.heap.size + 1 + 1, 2, none⟩) := sk.fact 9 97 rfl (sd 9 rfl)
                  exact Runs.load rfl h97 (run_load1 Tryz.underlying56 rfl (((((((c12.ext hE1).ext hE2).ext hE3).ext hE4).ext hE5).ext sE).cell (by rw [S8.list_length]; omega))) ⟨Ext.refl _, rfl⟩
                · refine stepE rfl fun sdn sa sw sE sd sk => ?_
                  have h7 : sa.eval (.tmp 7) = .pointer (some ⟨w.heap.size + 1 + 1, 0, none⟩) := sk.old 7 rfl
                  exact Runs.idx rfl h7 rfl (run_idx_arr1 Tryz.underlying100 inf100_eq inf100_size (3) (by omega) (by omega)) ⟨Ext.refl _, rfl⟩
                · refine stepE rfl fun sdn sa sw sE sd sk => ?_
                  have h99 : sa.eval (.tmp 99) = .pointer (some ⟨w.heap.size + 1 + 1, 3, none⟩) := sk.fact 11 99 rfl (sd 11 rfl)
                  exact Runs.load rfl h99 (run_load1 Tryz.underlying56 rfl (((((((c12.ext hE1).ext hE2).ext hE3).ext hE4).ext hE5).ext sE).cell (by rw [S8.list_length]; omega))) ⟨Ext.refl _, rfl⟩
                · refine stepE rfl fun sdn sa sw sE sd sk => ?_
                  have h12 : sa.eval (.tmp 12) = .int .u32 (u32i (roundT s (uw shaK k) (uw (fillW L 64) k))) := sk.old 12 rfl
                  exact Runs.move rfl h12 ⟨Ext.refl _, rfl⟩
                · refine stepE rfl fun sdn sa sw sE sd sk => ?_
                  have h100 : sa.eval (.tmp 100) = .int .u32 (u32i (s).d) := sk.fact 12 100 rfl (sd 12 rfl)
                  have h101 : sa.eval (.tmp 101) = .int .u32 (u32i (roundT s (uw shaK k) (uw (fillW L 64) k))) := sk.fact 13 101 rfl (sd 13 rfl)
                  exact Runs.bin rfl h100 h101 (eqGuard_bin rfl) (bin_add32 _ _ _) ⟨Ext.refl _, rfl⟩
                · refine stepE rfl fun sdn sa sw sE sd sk => ?_
                  have h7 : sa.eval (.tmp 7) = .pointer (some ⟨w.heap.size + 1 + 1, 0, none⟩) := sk.old 7 rfl
                  exact Runs.idx rfl h7 rfl (run_idx_arr1 Tryz.underlying100 inf100_eq inf100_size (4) (by omega) (by omega)) ⟨Ext.refl _, rfl⟩
                · refine stepE rfl fun sdn sa sw sE sd sk => ?_
                  have h103 : sa.eval (.tmp 103) = .pointer (some ⟨w.heap.size + 1 + 1, 4, none⟩) := sk.fact 15 103 rfl (sd 15 rfl)
                  exact Runs.load rfl h103 (run_load1 Tryz.underlying56 rfl (((((((c12.ext hE1).ext hE2).ext hE3).ext hE4).ext hE5).ext sE).cell (by rw [S8.list_length]; omega))) ⟨Ext.refl _, rfl⟩
                · refine stepE rfl fun sdn sa sw sE sd sk => ?_
                  have h7 : sa.eval (.tmp 7) = .pointer (some ⟨w.heap.size + 1 + 1, 0, none⟩) := sk.old 7 rfl
                  exact Runs.idx rfl h7 rfl (run_idx_arr1 Tryz.underlying100 inf100_eq inf100_size (5) (by omega) (by omega)) ⟨Ext.refl _, rfl⟩
                · refine stepE rfl fun sdn sa sw sE sd sk => ?_
                  have h105 : sa.eval (.tmp 105) = .pointer (some ⟨w.heap.size + 1 + 1, 5, none⟩) := sk.fact 17 105 rfl (sd 17 rfl)
                  exact Runs.load rfl h105 (run_load1 Tryz.underlying56 rfl (((((((c12.ext hE1).ext hE2).ext hE3).ext hE4).ext hE5).ext sE).cell (by rw [S8.list_length]; omega))) ⟨Ext.refl _, rfl⟩
                · refine stepE rfl fun sdn sa sw sE sd sk => ?_
                  have h7 : sa.eval (.tmp 7) = .pointer (some ⟨w.heap.size + 1 + 1, 0, none⟩) := sk.old 7 rfl
                  exact Runs.idx rfl h7 rfl (run_idx_arr1 Tryz.underlying100 inf100_eq inf100_size (6) (by omega) (by omega)) ⟨Ext.refl _, rfl⟩
                · refine stepE rfl fun sdn sa sw sE sd sk => ?_
                  have h107 : sa.eval (.tmp 107) = .pointer (some ⟨w.heap.size + 1 + 1, 6, none⟩) := sk.fact 19 107 rfl (sd 19 rfl)
                  exact Runs.load rfl h107 (run_load1 Tryz.underlying56 rfl (((((((c12.ext hE1).ext hE2).ext hE3).ext hE4).ext hE5).ext sE).cell (by rw [S8.list_length]; omega))) ⟨Ext.refl _, rfl⟩
                ·
                  intro vals W10 hE6 hv6
                  have e0 : vals 0 = .int .u32 (u32i (roundT s (uw shaK k) (uw (fillW L 64) k))) := hv6 0 (by omega) 88 rfl
                  have e1 : vals 1 = .int .u32 (u32i (bigS0 (s).a)) := hv6 1 (by omega) 89 rfl
                  have e2 : vals 2 = .int .u32 (u32i ((roundT s (uw shaK k) (uw (fillW L 64) k)) + (bigS0 (s).a))) := hv6 2 (by omega) 90 rfl
                  have e3 : vals 3 = .int .u32 (u32i (majF (s).a (s).b (s).c)) := hv6 3 (by omega) 91 rfl
                  have e4 : vals 4 = .int .u32 (u32i (((roundT s (uw shaK k) (uw (fillW L 64) k)) + (bigS0 (s).a)) + (majF (s).a (s).b (s).c))) := hv6 4 (by omega) 92 rfl
                  have e5 : vals 5 = .pointer (some ⟨w.heap.size + 1 + 1, 0, none⟩) := hv6 5 (by omega) 93 rfl
                  have e6 : vals 6 = .int .u32 (u32i (s).a) := hv6 6 (by omega) 94 rfl
                  have e7 : vals 7 = .pointer (some ⟨w.heap.size + 1 + 1, 1, none⟩) := hv6 7 (by omega) 95 rfl
                  have e8 : vals 8 = .int .u32 (u32i (s).b) := hv6 8 (by omega) 96 rfl
                  have e9 : vals 9 = .pointer (some ⟨w.heap.size + 1 + 1, 2, none⟩) := hv6 9 (by omega) 97 rfl
                  have e10 : vals 10 = .int .u32 (u32i (s).c) := hv6 10 (by omega) 98 rfl
                  have e11 : vals 11 = .pointer (some ⟨w.heap.size + 1 + 1, 3, none⟩) := hv6 11 (by omega) 99 rfl
                  have e12 : vals 12 = .int .u32 (u32i (s).d) := hv6 12 (by omega) 100 rfl
                  have e13 : vals 13 = .int .u32 (u32i (roundT s (uw shaK k) (uw (fillW L 64) k))) := hv6 13 (by omega) 101 rfl
                  have e14 : vals 14 = .int .u32 (u32i ((s).d + (roundT s (uw shaK k) (uw (fillW L 64) k)))) := hv6 14 (by omega) 102 rfl
                  have e15 : vals 15 = .pointer (some ⟨w.heap.size + 1 + 1, 4, none⟩) := hv6 15 (by omega) 103 rfl
                  have e16 : vals 16 = .int .u32 (u32i (s).e) := hv6 16 (by omega) 104 rfl
                  have e17 : vals 17 = .pointer (some ⟨w.heap.size + 1 + 1, 5, none⟩) := hv6 17 (by omega) 105 rfl
                  have e18 : vals 18 = .int .u32 (u32i (s).f) := hv6 18 (by omega) 106 rfl
                  have e19 : vals 19 = .pointer (some ⟨w.heap.size + 1 + 1, 6, none⟩) := hv6 19 (by omega) 107 rfl
                  have e20 : vals 20 = .int .u32 (u32i (s).g) := hv6 20 (by omega) 108 rfl
                  simp only [putAll, Act.put, List.take_succ_cons, List.take_zero, List.drop_succ_cons, List.drop_zero, List.drop_nil, List.take_nil, Nat.reduceAdd, List.setIfInBounds_toArray, List.set_cons_succ, List.set_cons_zero, e0, e1, e2, e3, e4, e5, e6, e7, e8, e9, e10, e11, e12, e13, e14, e15, e16, e17, e18, e19, e20]
                  clear hv6 e0 e1 e2 e3 e4 e5 e6 e7 e8 e9 e10 e11 e12 e13 e14 e15 e16 e17 e18 e19 e20
                  have hEE := ((((hE1.trans hE2).trans hE3).trans hE4).trans hE5).trans hE6
                  go_wp2_with (refine strow_law (l' := (roundS s (uw shaK k) (uw (fillW L 64) k)).list) rfl rfl rfl (by rw [roundS_at]; rfl) (c12.ext hEE) row8_eq (row8_size.trans (S8.list_length _).symm) ((S8.list_length _).trans (S8.list_length _).symm) ?_; intro W11 s7 g7 z7)
                  go_roundw
                  case rel =>
                    refine ⟨k + 1, by omega, by go_num, (c3.ext hEE).grown g7 (by simp; omega), (c6.ext hEE).grown g7 (by simp), ?_, (hEr.trans hEE).then_grown g7 (by intro j hj; cases hj; omega)⟩
                    simp only [roundsS, ← Hs.out]
                    exact s7
                  case measure => simp [intOf]; omega
    · obtain rfl : k = 64 := by omega
      clear hlt hk64
      obtain ⟨t, ht⟩ : ∃ s, s = roundsS (S8.of h) (fillW L 64) 64 := ⟨_, rfl⟩
      rw [← ht] at c12
      have Ht := Lib.hid ht
      clear ht
      go_wp2_with fail
      go_loopw [111] (fun i wr => ∃ k : Nat, k ≤ 8 ∧ i = .int .i64 k ∧ Arr wr w.heap.size 100 (addTo h t.list k) ∧ Arr wr (w.heap.size + 1) 100 (List.replicate 8 0) ∧ Arr wr (w.heap.size + 1 + 1) 100 t.list ∧ Ext w wr) (fun i _ => 8 - (intOf i).toNat)
      case atStart => exact ⟨0, by omega, rfl, c3, c6, c12, hEr⟩
      case round =>
        clear c3 c6 c12 hEr
        obtain ⟨k, hk8, rfl, c3, c6, c12, hEr⟩ := hrel
        by_cases hlt : k < 8
        · go_upto_region 15 with (fail)
          refine par_ext (n := 7) (by kernel_rfl) [.is (.int .i64 ((k : Int))), .is (.pointer (some ⟨w.heap.size, k, none⟩)), .is (.int .u32 (u32i (uw (addTo h t.list k) k))), .is (.int .i64 ((k : Int))), .is (.pointer (some ⟨w.heap.size + 1 + 1, k, none⟩)), .is (.int .u32 (u32i (uw (t).list k))), .is (.int .u32 (u32i ((uw (addTo h t.list k) k) + (uw (t).list k))))] rfl ⟨?_, ?_, ?_, ?_, ?_, ?_, ?_, trivial⟩ ?_
          · refine stepE rfl fun sdn sa sw sE sd sk => ?_
            have h15 : sa.eval (.tmp 15) = .int .i64 ((k : Int)) := sk.old 15 rfl
            exact Runs.move rfl h15 ⟨Ext.refl _, rfl⟩
          · refine stepE rfl fun sdn sa sw sE sd sk => ?_
            have h3 : sa.eval (.tmp 3) = .pointer (some ⟨w.heap.size, 0, none⟩) := sk.old 3 rfl
            have h114 : sa.eval (.tmp 114) = .int .i64 ((k : Int)) := sk.fact 0 114 rfl (sd 0 rfl)
            exact Runs.idx rfl h3 h114 (run_idx_arr1 Tryz.underlying100 inf100_eq inf100_size (k) (by omega) (by omega)) ⟨Ext.refl _, rfl⟩
          · refine stepE rfl fun sdn sa sw sE sd sk => ?_
            have h115 : sa.eval (.tmp 115) = .pointer (some ⟨w.heap.size, k, none⟩) := sk.fact 1 115 rfl (sd 1 rfl)
            exact Runs.load rfl h115 (run_load1 Tryz.underlying56 rfl ((c3.ext sE).cell (by rw [addTo_length, Hh.out]; omega))) ⟨Ext.refl _, rfl⟩
          · refine stepE rfl fun sdn sa sw sE sd sk => ?_
            have h15 : sa.eval (.tmp 15) = .int .i64 ((k : Int)) := sk.old 15 rfl
            exact Runs.move rfl h15 ⟨Ext.refl _, rfl⟩
          · refine stepE rfl fun sdn sa sw sE sd sk => ?_
            have h7 : sa.eval (.tmp 7) = .pointer (some ⟨w.heap.size + 1 + 1, 0, none⟩) := sk.old 7 rfl
            have h117 : sa.eval (.tmp 117) = .int .i64 ((k : Int)) := sk.fact 3 117 rfl (sd 3 rfl)
            exact Runs.idx rfl h7 h117 (run_idx_arr1 Tryz.underlying100 inf100_eq inf100_size (k) (by omega) (by omega)) ⟨Ext.refl _, rfl⟩
          · refine stepE rfl fun sdn sa sw sE sd sk => ?_
            have h118 : sa.eval (.tmp 118) = .pointer (some ⟨w.heap.size + 1 + 1, k, none⟩) := sk.fact 4 118 rfl (sd 4 rfl)
            exact Runs.load rfl h118 (run_load1 Tryz.underlying56 rfl ((c12.ext sE).cell (by rw [S8.list_length]; omega))) ⟨Ext.refl _, rfl⟩
          · refine stepE rfl fun sdn sa sw sE sd sk => ?_
            have h116 : sa.eval (.tmp 116) = .int .u32 (u32i (uw (addTo h t.list k) k)) := sk.fact 2 116 rfl (sd 2 rfl)
            have h119 : sa.eval (.tmp 119) = .int .u32 (u32i (uw (t).list k)) := sk.fact 5 119 rfl (sd 5 rfl)
            exact Runs.bin rfl h116 h119 (eqGuard_bin rfl) (bin_add32 _ _ _) ⟨Ext.refl _, rfl⟩
          ·
            intro vals W1 hE1 hv1
            have e0 : vals 0 = .int .i64 ((k : Int)) := hv1 0 (by omega) 114 rfl
            have e1 : vals 1 = .pointer (some ⟨w.heap.size, k, none⟩) := hv1 1 (by omega) 115 rfl
            have e2 : vals 2 = .int .u32 (u32i (uw (addTo h t.list k) k)) := hv1 2 (by omega) 116 rfl
            have e3 : vals 3 = .int .i64 ((k : Int)) := hv1 3 (by omega) 117 rfl
            have e4 : vals 4 = .pointer (some ⟨w.heap.size + 1 + 1, k, none⟩) := hv1 4 (by omega) 118 rfl
            have e5 : vals 5 = .int .u32 (u32i (uw (t).list k)) := hv1 5 (by omega) 119 rfl
            have e6 : vals 6 = .int .u32 (u32i ((uw (addTo h t.list k) k) + (uw (t).list k))) := hv1 6 (by omega) 120 rfl
            simp only [putAll, Act.put, List.take_succ_cons, List.take_zero, List.drop_succ_cons, List.drop_zero, List.drop_nil, List.take_nil, Nat.reduceAdd, List.setIfInBounds_toArray, List.set_cons_succ, List.set_cons_zero, e0, e1, e2, e3, e4, e5, e6]
            clear hv1 e0 e1 e2 e3 e4 e5 e6
            have y1 := (c3.ext hE1).cell (i := k) (by rw [addTo_length, Hh.out]; omega)
            have y2 := (c3.ext hE1).frozen k
            go_wp2_with fail
            go_roundw
            case rel =>
              refine ⟨k + 1, by omega, by go_num, ?_, (c6.ext hE1).far (by dsimp only; omega) _, (c12.ext hE1).far (by dsimp only; omega) _, (hEr.trans hE1).set (by dsimp only; omega) _⟩
              have y3 := (c3.ext hE1).set k (uw (addTo h t.list k) k + uw t.list k)
              simp only [addTo]
              exact y3
            case measure => simp [intOf]; omega
        · obtain rfl : k = 8 := by omega
          clear hlt hk8
          go_upto_region 17 with (fail)
          refine wp_region_lit ?_
          refine ldrow_law rfl rfl rfl c3 Tryz.underlying100 row8_map ((addTo_length _ _ _).trans Hh.out) ?_
          go_wp2_with (refine strow_law (l' := addTo h t.list 8) rfl rfl rfl rfl c6 row8_eq (row8_size.trans ((addTo_length _ _ _).trans Hh.out).symm) ((addTo_length _ _ _).trans Hh.out) ?_; intro W12 s8 g8 z8)
          refine bodyPost_ret (v := .agg (uv (compress h L))) ?_ rfl ⟨rfl, hEr.then_grown g8 (by intro j hj; cases hj; omega)⟩
          have e : compress h L = addTo h t.list 8 := by rw [Ht.out]; rfl
          rw [e]
          exact results_cell_row (fn := Tryz.f91) (p := 6) (ty := 100) rfl _ W12 (w.heap.size + 1) 100 (uv (addTo h t.list 8)) (0, 0) _ rfl s8 Tryz.underlying100 rfl (by rw [row8_map, uv_size, addTo_length, Hh.out])
end Go.Proofs.YtkndgpjamijbbaaGreat
