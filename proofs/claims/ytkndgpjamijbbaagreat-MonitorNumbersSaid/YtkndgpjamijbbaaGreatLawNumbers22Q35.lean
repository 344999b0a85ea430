/-
  The reference's Name, Right and Decode of manifests, walked.
-/
import Derived.Test.YtkndgpjamijbbaaGreatLawNumbers22Q25
namespace Go.Proofs.YtkndgpjamijbbaaGreat
set_option maxRecDepth 100000
open Go Go.RowKit
set_option maxHeartbeats 1000000 in
theorem r9name_any (s : List UInt8) (w : World) (hs : s.length ≤ 9223372036854775807) :
    Calls Tryz.prog 70 #[.string (str s)] w fun e w' => e = .returned (.bool (nameOK s)) ∧ w = w' := by
  have hsz : (str s).size = s.length := str_size s
  have hall : nameOK s = (decide (1 ≤ s.length) && decide (s.length ≤ 20) && s.all letter) := rfl
  have Hall := Lib.hid hall
  clear hall
  obtain ⟨r, hr⟩ : ∃ r, r = nameOK s := ⟨_, rfl⟩
  rw [← hr]
  have Hr := Lib.hid (hr.trans Hall.out)
  clear hr Hall
  go_enter Tryz.func70, Tryz.ntmps70
  go_wp2_with fail
  go_loop [3] (fun i => ∃ k : Nat, k ≤ s.length ∧ i = .int .i64 k ∧ Go.RowKit.Hid ((s.take k).all letter = true)) (fun i => s.length - (intOf i).toNat)
  case atStart => exact ⟨0, Nat.zero_le _, rfl, Lib.hid rfl⟩
  case round =>
    obtain ⟨k, hk, rfl, Hall⟩ := hrel
    by_cases hlt : k < s.length
    · have e1 := fun w' : World => run_index_str (P := Tryz.prog) (w := w') (k := .i64) Tryz.underlying9 s k hlt
      by_cases a1 : decide (u8i (ub s k) < 97) = true
      · obtain rfl : r = false := by rw [Hr.out, all_no hlt (letter_lo a1), Bool.and_false]
        go_wp2_with fail
        go_ret
        exact ⟨rfl, rfl⟩
      · have a1' : decide (u8i (ub s k) < 97) = false := by simpa using a1
        clear a1
        by_cases a2 : decide (122 < u8i (ub s k)) = true
        · obtain rfl : r = false := by rw [Hr.out, all_no hlt (letter_hi a2), Bool.and_false]
          go_wp2_with fail
          go_ret
          exact ⟨rfl, rfl⟩
        · have a2' : decide (122 < u8i (ub s k)) = false := by simpa using a2
          clear a2
          go_wp2_with fail
          go_round
          case rel => exact ⟨k + 1, by omega, by go_num, Lib.hid (by rw [all_take_succ s k hlt, Hall.out, letter_yes a1' a2']; rfl)⟩
          case measure => simp [intOf]; omega
    · obtain rfl : k = s.length := by omega
      have hall := Hall.out
      rw [List.take_length] at hall
      have hr2 : r = (decide (1 ≤ s.length) && decide (s.length ≤ 20)) := by rw [Hr.out, hall, Bool.and_true]
      clear hall Hr Hall
      by_cases h1 : 1 ≤ s.length
      · have d1 : decide ((1 : Int) ≤ (s.length : Int)) = true := by simp; omega
        by_cases h2 : s.length ≤ 20
        · have d2 : decide ((s.length : Int) ≤ 20) = true := by simp; omega
          obtain rfl : r = true := by rw [hr2, decide_eq_true h1, decide_eq_true h2]; rfl
          clear hr2
          go_wp2_with fail
          go_ret
          exact ⟨rfl, rfl⟩
        · have d2 : decide ((s.length : Int) ≤ 20) = false := by simp; omega
          obtain rfl : r = false := by rw [hr2, decide_eq_false h2, Bool.and_false]
          clear hr2
          go_wp2_with fail
          go_ret
          exact ⟨rfl, rfl⟩
      · have d1 : decide ((1 : Int) ≤ (s.length : Int)) = false := by simp; omega
        obtain rfl : r = false := by rw [hr2, decide_eq_false h1, Bool.false_and]
        clear hr2
        go_wp2_with fail
        go_ret
        exact ⟨rfl, rfl⟩
set_option maxHeartbeats 1000000 in
theorem r9right_any (m : Man) (F N : Option Addr) (nf cf nn cn : Nat) (w : World) (hs : m.name.length ≤ 9223372036854775807) (hf : m.fw.length = nf) (hn : m.notes.length = nn) :
    Calls Tryz.prog 49 #[manV m F nf cf N nn cn] w fun e w' => e = .returned (.bool (rightM m)) ∧ Ext w w' := by
  have hR : rightM m = (nameOK m.name && decide (0 < u32i m.ver) && decide (nf = 32) && decide (nn ≤ 64)) := by rw [← hf, ← hn]; rfl
  rw [hR]
  clear hR hf hn
  unfold manV
  cases h1 : nameOK m.name with
  | false =>
    go_enter Tryz.func49, Tryz.ntmps49
    go_wp2_with fail
    refine (r9name_any m.name _ hs).mono ?_
    rintro e w1 ⟨rfl, rfl⟩
    rw [h1]
    go_wp2_with fail
    go_ret
    exact ⟨rfl, Ext.new w _⟩
  | true =>
    cases h2 : decide (0 < u32i m.ver) with
    | false =>
      go_enter Tryz.func49, Tryz.ntmps49
      go_wp2_with fail
      refine (r9name_any m.name _ hs).mono ?_
      rintro e w1 ⟨rfl, rfl⟩
      rw [h1]
      go_wp2_with fail
      go_ret
      exact ⟨rfl, Ext.new w _⟩
    | true =>
      by_cases h3 : nf = 32
      · subst h3
        by_cases h4 : nn ≤ 64
        · have d4 : decide ((nn : Int) ≤ 64) = true := by simp; omega
          rw [decide_eq_true h4]
          go_enter Tryz.func49, Tryz.ntmps49
          go_wp2_with fail
          refine (r9name_any m.name _ hs).mono ?_
          rintro e w1 ⟨rfl, rfl⟩
          rw [h1]
          go_wp2_with fail
          go_ret
          exact ⟨rfl, Ext.new w _⟩
        · have d4 : decide ((nn : Int) ≤ 64) = false := by simp; omega
          rw [decide_eq_false h4]
          go_enter Tryz.func49, Tryz.ntmps49
          go_wp2_with fail
          refine (r9name_any m.name _ hs).mono ?_
          rintro e w1 ⟨rfl, rfl⟩
          rw [h1]
          go_wp2_with fail
          go_ret
          exact ⟨rfl, Ext.new w _⟩
      · have d3 : ((nf : Int) == 32) = false := by rw [beq_eq_false_iff_ne]; omega
        rw [decide_eq_false h3]
        go_enter Tryz.func49, Tryz.ntmps49
        go_wp2_with fail
        refine (r9name_any m.name _ hs).mono ?_
        rintro e w1 ⟨rfl, rfl⟩
        rw [h1]
        go_wp2_with fail
        go_ret
        exact ⟨rfl, Ext.new w _⟩

theorem RR.grown {w w' : World} {base q b : Nat} {L : List UInt8} {bad : Bool} {t : TypeId} {cs : Array Value} (h : RR w base q L bad) (g : w.grownBy w' (some b)) (hb : Blk w b t cs) (hno : ∀ (i : Nat) (y : Int), cs[i]? ≠ some (.int .u8 y)) (hne : q ≠ b) : RR w' base q L bad := by
  obtain ⟨A, n, c, At, B, h1, h2, h3⟩ := h
  exact ⟨A, n, c, At, B, h1.grown g (by intro e; injection e with e; exact hne e), h2.grown g (h2.apart hb hno), h3⟩
def decR (b q : Nat) (T : Nat → List UInt8 × Bool) (k : Nat) (w : World) : Prop := RR w b q (T k).1 (T k).2
theorem first_eq (b : List UInt8) : (beNum (rtake b false 1).1).toUInt8 = 77 ↔ u32i (beNum (rtake b false 1).1) = 77 := by
  have h : (rtake b false 1).1 = [] ∨ ∃ x, (rtake b false 1).1 = [x] := by
    unfold rtake
    split
    · exact .inl rfl
    · cases b with
      | nil => exact .inl rfl
      | cons x b => exact .inr ⟨x, by simp⟩
  rcases h with h | ⟨x, h⟩
  · rw [h]
    decide
  · rw [h]
    have e : beNum [x] = x.toUInt32 := by
      have h2 : shl 0 8 = 0 := by decide
      simp [beNum, h2]
    rw [e]
    have h3 : x.toUInt32.toUInt8 = x := by simp
    rw [h3]
    have h4 : u32i x.toUInt32 = (x.toNat : Int) := by unfold u32i; simp
    rw [h4]
    constructor
    · intro h; rw [h]; rfl
    · intro h
      apply UInt8.toNat_inj.1
      have : (77 : UInt8).toNat = 77 := rfl
      omega
set_option maxHeartbeats 4000000 in
theorem r9dec_any (A : Option Addr) (n c : Nat) (b : List UInt8) (w : World) (hr : RB w A n c b) (hn : n ≤ 140737488355328) :
    Calls Tryz.prog 20 #[.slice A n c] w fun e w' =>
      (decOK b = true → ∃ F nf cf N nn cn, e = .returned (.tuple #[manV (readM b).man F nf cf N nn cn, .bool true]) ∧ RB w' F nf cf (readM b).man.fw ∧ RB w' N nn cn (readM b).man.notes) ∧
      (decOK b = false → e = .returned (.tuple #[.agg #[.string ⟨#[]⟩, .int .u32 0, .slice none 0 0, .slice none 0 0], .bool false])) ∧ Ext w w' := by
  have hfst := first_eq b
  have Hfst := Lib.hid hfst
  clear hfst
  go_enter Tryz.func20, Tryz.ntmps20
  go_upto_region 2 with (fail)
  obtain ⟨wI, hwI⟩ : ∃ wI, wI = w.alloc (.cells #[.string ⟨#[]⟩, .int .u32 0, .slice none 0 0, .slice none 0 0] 58) := ⟨_, rfl⟩
  have hB0 : Blk wI w.heap.size 58 #[.string ⟨#[]⟩, .int .u32 0, .slice none 0 0, .slice none 0 0] := by rw [hwI]; exact Blk.new w _ _
  have hEw : Ext w wI := by rw [hwI]; exact Ext.new w _
  have hsz : wI.heap.size = w.heap.size + 1 := by rw [hwI]; simp
  rw [← hwI]
  try rw [← hsz]
  clear hwI hsz
  obtain ⟨q, hq⟩ : ∃ q, q = wI.heap.size := ⟨_, rfl⟩
  obtain ⟨w1, hw1⟩ : ∃ w1, w1 = wI.alloc (.cells #[.slice A n c, .int .i64 0, .bool false] 85) := ⟨_, rfl⟩
  have hE1 : Ext wI w1 := by rw [hw1]; exact Ext.new wI _
  have hR1 : RR w1 wI.heap.size q b false := ⟨A, n, c, 0, b, by rw [hw1, hq]; exact Blk.new wI _ _, (hr.ext hEw).ext hE1, Nat.zero_le _, hn, Nat.le_of_eq hq.symm, fun _ => rfl, (fun h => by cases h), fun hn' k hk => Nat.lt_of_lt_of_le (hr.blk_lt hn' k hk) hEw.size⟩
  rw [← hw1, ← hq]
  have hqI : wI.heap.size ≤ q := Nat.le_of_eq hq.symm
  clear hw1 hq
  go_wp2_with fail
  obtain ⟨t1, ht1⟩ : ∃ t1, t1 = rtake b false 1 := ⟨_, rfl⟩
  obtain ⟨t2, ht2⟩ : ∃ t2, t2 = rbytes t1.2.1 t1.2.2 20 := ⟨_, rfl⟩
  obtain ⟨t3, ht3⟩ : ∃ t3, t3 = rtake t2.2.1 t2.2.2 4 := ⟨_, rfl⟩
  obtain ⟨t4, ht4⟩ : ∃ t4, t4 = rtake t3.2.1 t3.2.2 32 := ⟨_, rfl⟩
  obtain ⟨t5, ht5⟩ : ∃ t5, t5 = rbytes t4.2.1 t4.2.2 64 := ⟨_, rfl⟩
  have hread : readM b = { first := (beNum t1.1).toUInt8, man := ⟨t2.1, beNum t3.1, t4.1, t5.1⟩, left := t5.2.1, bad := t5.2.2 } := by rw [ht5, ht4, ht3, ht2, ht1]; rfl
  have Hread := Lib.hid hread
  clear hread
  have hfst := Hfst.out
  rw [← ht1] at hfst
  have Hfst := Lib.hid hfst
  clear hfst
  refine (r1number_any w1 wI.heap.size q b false 1 hR1).mono ?_
  rintro e w0 ⟨rfl, hR0, hG0⟩
  rw [← ht1] at hR0 ⊢
  have hEI : Ext wI w0 := hE1.then_grown hG0 (by intro k hk; cases hk; exact hqI)
  have hq0 : q < w0.heap.size := hR0.lt
  have Ht2 := Lib.hid ht2
  have Ht3 := Lib.hid ht3
  have Ht4 := Lib.hid ht4
  have Ht5 := Lib.hid ht5
  clear ht1 ht2 ht3 ht4 ht5 hR1 hG0
  go_upto_region 3 with (fail)
  have hS0 : decR wI.heap.size q (decT t1.2 t2.2 t3.2 t4.2 t5.2) 0 w0.drew := RR.later hR0 (Ext.refl w0).drew
  have hSx : ∀ k w w', Ext w w' → decR wI.heap.size q (decT t1.2 t2.2 t3.2 t4.2 t5.2) k w → decR wI.heap.size q (decT t1.2 t2.2 t3.2 t4.2 t5.2) k w' := fun k w w' e h => RR.later h e
  have hStay : StaysQL q [.is (.pointer (some ⟨q, 0, none⟩)), .rbn (q) (t2.1), .is (.string (str (t2.1))), .is (.pointer (some ⟨q, 0, none⟩)), .is (.int .u32 (u32i (beNum t3.1))), .is (.pointer (some ⟨q, 0, none⟩)), .rbn (q) (t4.1), .is (.pointer (some ⟨q, 0, none⟩)), .rbn (q) (t5.1), .man q ⟨t2.1, beNum t3.1, t4.1, t5.1⟩, .blkn q 58 #[.string ⟨#[]⟩, .int .u32 0, .slice none 0 0, .slice none 0 0] w0.heap.size] := ⟨staysq_is _ _, staysq_rbn _ _, staysq_is _ _, staysq_is _ _, staysq_is _ _, staysq_is _ _, staysq_rbn _ _, staysq_is _ _, staysq_rbn _ _, staysq_man _ _, staysq_blkn _ _ _ _, trivial⟩
  refine par_chain (n := 11) (q := q) [1, 4, 6, 8] (decR wI.heap.size q (decT t1.2 t2.2 t3.2 t4.2 t5.2)) hEI hS0 (by kernel_rfl) [.is (.pointer (some ⟨q, 0, none⟩)), .rbn (q) (t2.1), .is (.string (str (t2.1))), .is (.pointer (some ⟨q, 0, none⟩)), .is (.int .u32 (u32i (beNum t3.1))), .is (.pointer (some ⟨q, 0, none⟩)), .rbn (q) (t4.1), .is (.pointer (some ⟨q, 0, none⟩)), .rbn (q) (t5.1), .man q ⟨t2.1, beNum t3.1, t4.1, t5.1⟩, .blkn q 58 #[.string ⟨#[]⟩, .int .u32 0, .slice none 0 0, .slice none 0 0] w0.heap.size] rfl rfl ⟨?_, ?_, ?_, ?_, ?_, ?_, ?_, ?_, ?_, ?_, ?_, trivial⟩ ?_
  · refine stepEC rfl rfl hSx fun sdn sa sw sG sE sd sk => ?_
    have h4 : sa.eval (.tmp 4) = .pointer (some ⟨q, 0, none⟩) := sk.old 4 rfl
    exact Runs.move rfl h4 ⟨Ext.refl _, rfl⟩
  · refine stepCC (j := 0) rfl rfl (by decide) (.inl rfl) hStay hqI fun sdn sa sw sG sE sS sd sk => ?_
    have h12 : sa.eval (.tmp 12) = .pointer (some ⟨q, 0, none⟩) := sk.fact 0 12 rfl (sd 0 rfl)
    have hcon := r1rbytes_any sw wI.heap.size q t1.2.1 t1.2.2 20 sS (by omega) (by omega)
    rw [← Ht2.out] at hcon
    refine Runs.call (f := 46) (vs := [.pointer (some ⟨q, 0, none⟩), .int .i64 (20 : Int)]) rfl rfl rfl (by simp only [List.map_toArray, List.map_cons, List.map_nil, h12] <;> rfl) (ent46 _ _) (hcon.mono ?_); rintro e w' ⟨⟨B, m, d, rfl, own⟩, h3, h4⟩; exact ⟨_, rfl, h4, h3, B, m, d, rfl, own.rb, fun hm e => by have := (own.lt e).1; have := sG.size; omega⟩
  · refine stepEC rfl rfl hSx fun sdn sa sw sG sE sd sk => ?_
    obtain ⟨A13, n13, c13, h13, r13, q13⟩ := sk.fact 1 13 rfl (sd 1 rfl)
    exact Runs.conv rfl h13 (run_str r13) ⟨Ext.refl _, rfl⟩
  · refine stepEC rfl rfl hSx fun sdn sa sw sG sE sd sk => ?_
    have h4 : sa.eval (.tmp 4) = .pointer (some ⟨q, 0, none⟩) := sk.old 4 rfl
    exact Runs.move rfl h4 ⟨Ext.refl _, rfl⟩
  · refine stepCC (j := 1) rfl rfl (by decide) (.inr ⟨1, rfl, rfl⟩) hStay hqI fun sdn sa sw sG sE sS sd sk => ?_
    have h15 : sa.eval (.tmp 15) = .pointer (some ⟨q, 0, none⟩) := sk.fact 3 15 rfl (sd 3 rfl)
    have hcon := r1number_any sw wI.heap.size q t2.2.1 t2.2.2 4 sS
    rw [← Ht3.out] at hcon
    refine Runs.call (f := 45) (vs := [.pointer (some ⟨q, 0, none⟩), .int .i64 (4 : Int)]) rfl rfl rfl (by simp only [List.map_toArray, List.map_cons, List.map_nil, h15] <;> rfl) (ent45 _ _) (hcon.mono ?_); rintro e w' ⟨rfl, h3, h4⟩; exact ⟨_, rfl, h4, h3, rfl⟩
  · refine stepEC rfl rfl hSx fun sdn sa sw sG sE sd sk => ?_
    have h4 : sa.eval (.tmp 4) = .pointer (some ⟨q, 0, none⟩) := sk.old 4 rfl
    exact Runs.move rfl h4 ⟨Ext.refl _, rfl⟩
  · refine stepCC (j := 2) rfl rfl (by decide) (.inr ⟨4, rfl, rfl⟩) hStay hqI fun sdn sa sw sG sE sS sd sk => ?_
    have h17 : sa.eval (.tmp 17) = .pointer (some ⟨q, 0, none⟩) := sk.fact 5 17 rfl (sd 5 rfl)
    have hcon := r1raw_any sw wI.heap.size q t3.2.1 t3.2.2 32 sS
    rw [← Ht4.out] at hcon
    refine Runs.call (f := 47) (vs := [.pointer (some ⟨q, 0, none⟩), .int .i64 (32 : Int)]) rfl rfl rfl (by simp only [List.map_toArray, List.map_cons, List.map_nil, h17] <;> rfl) (ent47 _ _) (hcon.mono ?_); rintro e w' ⟨⟨B, m, d, rfl, own⟩, h3, h4⟩; exact ⟨_, rfl, h4, h3, B, m, d, rfl, own.rb, fun hm e => by have := (own.lt e).1; have := sG.size; omega⟩
  · refine stepEC rfl rfl hSx fun sdn sa sw sG sE sd sk => ?_
    have h4 : sa.eval (.tmp 4) = .pointer (some ⟨q, 0, none⟩) := sk.old 4 rfl
    exact Runs.move rfl h4 ⟨Ext.refl _, rfl⟩
  · refine stepCC (j := 3) rfl rfl (by decide) (.inr ⟨6, rfl, rfl⟩) hStay hqI fun sdn sa sw sG sE sS sd sk => ?_
    have h19 : sa.eval (.tmp 19) = .pointer (some ⟨q, 0, none⟩) := sk.fact 7 19 rfl (sd 7 rfl)
    have hcon := r1rbytes_any sw wI.heap.size q t4.2.1 t4.2.2 64 sS (by omega) (by omega)
    rw [← Ht5.out] at hcon
    refine Runs.call (f := 46) (vs := [.pointer (some ⟨q, 0, none⟩), .int .i64 (64 : Int)]) rfl rfl rfl (by simp only [List.map_toArray, List.map_cons, List.map_nil, h19] <;> rfl) (ent46 _ _) (hcon.mono ?_); rintro e w' ⟨⟨B, m, d, rfl, own⟩, h3, h4⟩; exact ⟨_, rfl, h4, h3, B, m, d, rfl, own.rb, fun hm e => by have := (own.lt e).1; have := sG.size; omega⟩
  · refine stepEC rfl rfl hSx fun sdn sa sw sG sE sd sk => ?_
    have h14 : sa.eval (.tmp 14) = .string (str (t2.1)) := sk.fact 2 14 rfl (sd 2 rfl)
    have h16 : sa.eval (.tmp 16) = .int .u32 (u32i (beNum t3.1)) := sk.fact 4 16 rfl (sd 4 rfl)
    obtain ⟨A18, n18, c18, h18, r18, q18⟩ := sk.fact 6 18 rfl (sd 6 rfl)
    obtain ⟨A20, n20, c20, h20, r20, q20⟩ := sk.fact 8 20 rfl (sd 8 rfl)
    refine Runs.of_run (r := manV ⟨t2.1, beNum t3.1, t4.1, t5.1⟩ A18 n18 c18 A20 n20 c20) (w' := sw) ?_ ⟨Ext.refl _, _, _, _, _, _, _, rfl, r18, r20, q18, q20⟩
    unfold execOp manV
    simp only [List.map_toArray, List.map_cons, List.map_nil, h14, h16, h18, h20]
    go_simp
  · refine stepEC rfl rfl hSx fun sdn sa sw sG sE sd sk => ?_
    refine Runs.of_run (r := .pointer (some ⟨sw.heap.size, 0, none⟩)) (w' := sw.alloc (.cells #[.string ⟨#[]⟩, .int .u32 0, .slice none 0 0, .slice none 0 0] 58)) ?_ ⟨Ext.new _ _, _, rfl, Blk.new _ _ _, (by have := sG.size; omega), (by have := sG.size; omega)⟩
    unfold execOp
    go_simp
  intro vals W1 hG hE hS hv
  have e0 : vals 0 = .pointer (some ⟨q, 0, none⟩) := hv 0 (by omega) 12 rfl
  obtain ⟨A13, n13, c13, e1, r13, q13⟩ := hv 1 (by omega) 13 rfl
  have e2 : vals 2 = .string (str (t2.1)) := hv 2 (by omega) 14 rfl
  have e3 : vals 3 = .pointer (some ⟨q, 0, none⟩) := hv 3 (by omega) 15 rfl
  have e4 : vals 4 = .int .u32 (u32i (beNum t3.1)) := hv 4 (by omega) 16 rfl
  have e5 : vals 5 = .pointer (some ⟨q, 0, none⟩) := hv 5 (by omega) 17 rfl
  obtain ⟨A18, n18, c18, e6, r18, q18⟩ := hv 6 (by omega) 18 rfl
  have e7 : vals 7 = .pointer (some ⟨q, 0, none⟩) := hv 7 (by omega) 19 rfl
  obtain ⟨A20, n20, c20, e8, r20, q20⟩ := hv 8 (by omega) 20 rfl
  obtain ⟨F21, f21, g21, N21, n21, k21, e9, r21, u21, x21, y21⟩ := hv 9 (by omega) 21 rfl
  obtain ⟨b6, e10, r6, q6, x6⟩ := hv 10 (by omega) 6 rfl
  simp only [putAll, Act.put, List.take_succ_cons, List.take_zero, List.drop_succ_cons, List.drop_zero, List.drop_nil, List.take_nil, Nat.reduceAdd, List.setIfInBounds_toArray, List.set_cons_succ, List.set_cons_zero, e0, e1, e2, e3, e4, e5, e6, e7, e8, e9, e10]
  clear hv e0 e1 e2 e3 e4 e5 e6 e7 e8 e9 e10
  have hS' : RR W1 wI.heap.size q t5.2.1 t5.2.2 := hS
  have hEw1 : Ext w W1 := hEw.trans hE
  have hb2 := hB0.ext hE
  have z0 := r6.frozen 0
  have z1 := r6.frozen 1
  have z2 := r6.frozen 2
  have z3 := r6.frozen 3
  have y0 := r6.cell (i := 0) rfl
  have y1 := r6.cell (i := 1) rfl
  have y2 := r6.cell (i := 2) rfl
  have y3 := r6.cell (i := 3) rfl
  have y4 := hb2.cell (i := 0) rfl
  have y5 := hb2.cell (i := 1) rfl
  have y6 := hb2.cell (i := 2) rfl
  have y7 := hb2.cell (i := 3) rfl
  have z4 := hb2.frozen 0
  have z5 := hb2.frozen 1
  have z6 := hb2.frozen 2
  have z7 := hb2.frozen 3
  have hwI : w.heap.size < wI.heap.size := hB0.lt
  have hne : b6 ≠ w.heap.size := by have := hEI.size; omega
  clear hS hStay hS0 hSx hR0
  by_cases hf : u32i (beNum t1.1) = 77
  · have d1 : (u32i (beNum t1.1) != 77) = false := by rw [hf]; rfl
    have Hf := Lib.hid (Hfst.out.2 hf)
    clear hf
    unfold manV
    go_wp2_with fail
    obtain ⟨s1, s2⟩ := set4 r6 (.string (str t2.1)) (.int .u32 (u32i (beNum t3.1))) (.slice F21 f21 g21) (.slice N21 n21 k21)
    generalize World.setCell _ _ _ = W2 at s1 s2 ⊢
    have hS2 := hS'.grown s2 r6 (man_no _ _ _ _ _ _ _ _) (fun e => q6 e.symm)
    have hF2 := r21.grown s2 (r21.apart r6 (man_no _ _ _ _ _ _ _ _))
    have hN2 := u21.grown s2 (u21.apart r6 (man_no _ _ _ _ _ _ _ _))
    have hnm : t2.1.length ≤ 9223372036854775807 := by have h1 := r13.len; have h2 := r13.room; have h3 := r13.cap; unfold maxLen at h3; omega
    have hEw2 : Ext w W2 := hEw1.then_grown s2 (by intro k hk; cases hk; omega)
    have hb3 := hb2.grown s2 (by intro e; cases e; exact hne rfl)
    clear hb2 r13 r18 r20 q18 q20 q13 x21 y21 y0 y1 y2 y3 y4 y5 y6 y7 z0 z1 z2 z3 z4 z5 z6 z7 s2 r6 x6 hG hE hEI hq0 hE1 hEw hB0 hEw1
    refine (r1end_any W2 wI.heap.size q _ _ hS2).mono ?_
    rintro e W5 ⟨rfl, hE5⟩
    have s1 := s1.ext hE5
    have hF2 := hF2.ext hE5
    have hN2 := hN2.ext hE5
    have hEw2 := hEw2.trans hE5
    have hb3 := hb3.ext hE5
    clear hS2 hS' hE5
    have y0 := s1.cell (i := 0) rfl
    have y1 := s1.cell (i := 1) rfl
    have y2 := s1.cell (i := 2) rfl
    have y3 := s1.cell (i := 3) rfl
    cases hx : (!t5.2.2 && t5.2.1.isEmpty) with
    | false =>
      have y4 := hb3.cell (i := 0) rfl
      have y5 := hb3.cell (i := 1) rfl
      have y6 := hb3.cell (i := 2) rfl
      have y7 := hb3.cell (i := 3) rfl
      have z4 := hb3.frozen 0
      have z5 := hb3.frozen 1
      have z6 := hb3.frozen 2
      have z7 := hb3.frozen 3
      go_wp2_with fail
      have hno : decOK b = false := by unfold decOK; rw [Hread.out]; simp only [hx]; simp
      obtain ⟨s3, s4⟩ := set4 hb3 (.string ⟨#[]⟩) (.int .u32 0) (.slice none 0 0) (.slice none 0 0)
      refine bodyPost_ret (results_ct rfl _ _ w.heap.size _ _ _ rfl s3 Tryz.underlying58 rfl rfl) rfl ?_
      exact ⟨fun h => by rw [hno] at h; exact absurd h (by simp), fun _ => rfl, hEw2.then_grown s4 (by intro k hk; cases hk; exact Nat.le_refl _)⟩
    | true =>
      go_wp2_with fail
      refine (r9right_any ⟨t2.1, beNum t3.1, t4.1, t5.1⟩ F21 N21 f21 g21 n21 k21 W5 hnm hF2.len hN2.len).mono ?_
      rintro e w3 ⟨rfl, hE3⟩
      have hb4 := hb3.ext hE3
      have s5 := s1.ext hE3
      have y0 := s5.cell (i := 0) rfl
      have y1 := s5.cell (i := 1) rfl
      have y2 := s5.cell (i := 2) rfl
      have y3 := s5.cell (i := 3) rfl
      have y4 := hb4.cell (i := 0) rfl
      have y5 := hb4.cell (i := 1) rfl
      have y6 := hb4.cell (i := 2) rfl
      have y7 := hb4.cell (i := 3) rfl
      have z4 := hb4.frozen 0
      have z5 := hb4.frozen 1
      have z6 := hb4.frozen 2
      have z7 := hb4.frozen 3
      cases hr : rightM ⟨t2.1, beNum t3.1, t4.1, t5.1⟩ with
      | false =>
        go_wp2_with fail
        have hno : decOK b = false := by unfold decOK; rw [Hread.out]; simp only [hr]; simp
        obtain ⟨s3, s4⟩ := set4 hb4 (.string ⟨#[]⟩) (.int .u32 0) (.slice none 0 0) (.slice none 0 0)
        refine bodyPost_ret (results_ct rfl _ _ w.heap.size _ _ _ rfl s3 Tryz.underlying58 rfl rfl) rfl ?_
        exact ⟨fun h => by rw [hno] at h; exact absurd h (by simp), fun _ => rfl, (hEw2.trans hE3).then_grown s4 (by intro k hk; cases hk; exact Nat.le_refl _)⟩
      | true =>
        go_wp2_with fail
        have hok : decOK b = true := by unfold decOK; rw [Hread.out]; simp only [hr, hx, Hf.out]; rfl
        obtain ⟨s3, s4⟩ := set4 hb4 (.string (str t2.1)) (.int .u32 (u32i (beNum t3.1))) (.slice F21 f21 g21) (.slice N21 n21 k21)
        have hF4 := (hF2.ext hE3).grown s4 ((hF2.ext hE3).apart hb4 (man_no _ _ _ _ _ _ _ _))
        have hN4 := (hN2.ext hE3).grown s4 ((hN2.ext hE3).apart hb4 (man_no _ _ _ _ _ _ _ _))
        refine bodyPost_ret (results_ct rfl _ _ w.heap.size _ _ _ rfl s3 Tryz.underlying58 rfl rfl) rfl ?_
        refine ⟨fun _ => ⟨F21, f21, g21, N21, n21, k21, ?_, ?_, ?_⟩, fun h => by rw [hok] at h; exact absurd h (by simp), (hEw2.trans hE3).then_grown s4 (by intro k hk; cases hk; exact Nat.le_refl _)⟩
        · rw [Hread.out]; rfl
        · rw [Hread.out]; exact hF4
        · rw [Hread.out]; exact hN4
  · have d1 : (u32i (beNum t1.1) != 77) = true := by rw [bne_iff_ne]; exact hf
    have hnf : ¬ (beNum t1.1).toUInt8 = 77 := fun h => hf (Hfst.out.1 h)
    have Hf := Lib.hid hnf
    clear hf hnf
    unfold manV
    go_wp2_with fail
    have hno : decOK b = false := by unfold decOK; rw [Hread.out]; simp [Hf.out]
    obtain ⟨s1, s2⟩ := set4 r6 (.string (str t2.1)) (.int .u32 (u32i (beNum t3.1))) (.slice F21 f21 g21) (.slice N21 n21 k21)
    obtain ⟨s3, s4⟩ := set4 (hb2.grown s2 (by intro e; cases e; exact hne rfl)) (.string ⟨#[]⟩) (.int .u32 0) (.slice none 0 0) (.slice none 0 0)
    refine bodyPost_ret (results_ct rfl _ _ w.heap.size _ _ _ rfl s3 Tryz.underlying58 rfl rfl) rfl ?_
    exact ⟨fun h => by rw [hno] at h; exact absurd h (by simp), fun _ => rfl, (hEw1.then_grown s2 (by intro k hk; cases hk; omega)).then_grown s4 (by intro k hk; cases hk; exact Nat.le_refl _)⟩
end Go.Proofs.YtkndgpjamijbbaaGreat
