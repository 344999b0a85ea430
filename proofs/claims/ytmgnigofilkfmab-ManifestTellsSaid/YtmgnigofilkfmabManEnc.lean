/-
  manifest.Encode, walked.
-/
import Derived.Test.YtmgnigofilkfmabMan
namespace Go.Proofs.Ytmgnigofilkfmab
set_option maxRecDepth 100000
open Go Go.RowKit
theorem run_conv_bytes (w : World) (s : List UInt8) (hs : s.length ≤ 1000000) : ∃ c w', (convert 9 22 (.string (str s))).run Try.prog w = .ok (.slice (some ⟨w.heap.size, 0, none⟩) s.length c) w' ∧ RB w' (some ⟨w.heap.size, 0, none⟩) s.length c s ∧ Ext w w' ∧ w'.heap.size = w.heap.size + 1 := by
  have h := Lib.run_convert_string_bytes (P := Try.prog) w 9 22 5 (str s) Try.underlying9 Try.underlying22 Try.underlying5
  have hz : (str s).size = s.length := str_size s
  rw [hz] at h
  refine ⟨_, _, h, ⟨rfl, grownCap_ge _ _ _ _, grownCap_le_maxLen _ _ _ _ (small_maxLen hs), fun hn => ⟨_, rfl, fun j hj => ?_⟩⟩, ⟨rfl, rfl, rfl, by rw [Lib.bytesWorld_size]; omega, fun k hk => Lib.bytesWorld_at_old w _ _ k hk⟩, Lib.bytesWorld_size _ _ _⟩
  rw [add_plain, Lib.bytesWorld_cell w _ _ j (by rw [hz]; exact hj)]
  rfl
theorem cb_law {ops : Array Oper} {rest : List Oper} {o : Oper} {a : Act} {Q : Exit → Act → World → Prop} {w : World} (hgd : o.guard = none) {x : Operand} (ho : o.op = .convert 9 22 x) {s : List UInt8} (hx : a.eval x = .string (str s)) (hs : s.length ≤ 1000000)
    (h : ∀ c w', RB w' (some ⟨w.heap.size, 0, none⟩) s.length c s → Ext w w' → wpList Try.prog ops Q rest (a.put o.dst (.slice (some ⟨w.heap.size, 0, none⟩) s.length c)) w') : wpList Try.prog ops Q (o :: rest) a w := by
  obtain ⟨c, w', hr, h1, h2, _⟩ := run_conv_bytes w s hs
  refine wpList_plain hgd fun K hK => ?_
  unfold Oper.wp execOp
  simp only [ho, hx, Sem.run_bind, hr, Result.andThen_ok, Sem.run_pure]
  exact hK _ _ (h c w' h1 h2)
theorem Blk.chg {w w' : World} {g : Nat} {t : TypeId} {cs : Array Value} {p : Nat} {A : Option Addr} (h : Blk w g t cs) (k : Chg w w' p A) (h1 : g ≠ p) (h2 : blk A ≠ some g) : Blk w' g t cs := (k.block g h.lt h1 h2).trans h
theorem right_small {m : Man} (h : rightM m = true) : m.name.length ≤ 20 ∧ m.fw.length = 32 ∧ m.notes.length ≤ 64 := by
  simp only [rightM, nameOK, Bool.and_eq_true, decide_eq_true_eq] at h
  omega
set_option maxHeartbeats 2000000 in
theorem menc_no (m : Man) (F N : Option Addr) (nf cf nn cn : Nat) (w : World) (hs : m.name.length ≤ 9223372036854775807) (hf : m.fw.length = nf) (hn : m.notes.length = nn) (hno : rightM m = false) :
    Calls Try.prog 22 #[manV m F nf cf N nn cn] w fun e w' => e = .returned (.tuple #[.slice none 0 0, .int .i64 12]) ∧ Ext w w' := by
  unfold manV
  go_enter Try.func22, Try.ntmps22
  go_wp2_with fail
  refine (right_any m F N nf cf nn cn _ hs hf hn).mono ?_
  rintro e w1 ⟨rfl, hE⟩
  rw [hno]
  go_wp2_with fail
  go_ret2
  exact ⟨rfl, (Ext.new w _).trans hE⟩
set_option maxHeartbeats 2000000 in
theorem menc_yes (m : Man) (F N : Option Addr) (nf cf nn cn : Nat) (w : World) (hF : RB w F nf cf m.fw) (hN : RB w N nn cn m.notes) (hyes : rightM m = true) :
    Calls Try.prog 22 #[manV m F nf cf N nn cn] w fun e w' => ∃ B k d, e = .returned (.tuple #[.slice B k d, .int .i64 0]) ∧ OB w' w.heap.size B k d (encM m) ∧ Ext w w' := by
  obtain ⟨hs, hf32, hn64⟩ := right_small hyes
  have hnf := hF.len
  have hnn := hN.len
  have Hnf := Lib.hid hnf
  have Hnn := Lib.hid hnn
  have Hf32 := Lib.hid hf32
  have hnn64 : nn ≤ 64 := by omega
  have hnf32 : nf ≤ 32 := by omega
  clear hnf hnn hf32
  unfold manV
  go_enter Try.func22, Try.ntmps22
  go_wp2_with fail
  refine (right_any m F N nf cf nn cn _ (by omega) Hnf.out Hnn.out).mono ?_
  rintro e w1 ⟨rfl, hE1⟩
  rw [hyes]
  have hB : Blk w1 w.heap.size 27 #[.string (str m.name), .int .u32 (u32i m.ver), .slice F nf cf, .slice N nn cn] := (Blk.new w _ _).ext hE1
  have hE := (Ext.new w (.cells #[.string (str m.name), .int .u32 (u32i m.ver), .slice F nf cf, .slice N nn cn] 27)).trans hE1
  clear hE1
  go_wp2_with fail
  refine (wnew_any w1).mono ?_
  rintro e w2 ⟨p, rfl, hW2, hE2⟩
  have hB2 := hB.ext hE2
  have hgp : w.heap.size < w1.heap.size := hB.lt
  have hE02 := hE.trans hE2
  go_wp2_with fail
  refine (wbyte_any w1 w2 p 0 0 none [] 77 hE2 hW2 (by omega)).mono ?_
  rintro e w3 ⟨rfl, A3, c3, hW3, hC3, hL3⟩
  have hE3 := hW2.chg_ext hE2 hC3
  have y0 := (hB.ext hE3).cell (i := 0) rfl
  go_wp2_with (refine cb_law rfl rfl rfl (by omega) ?_; intro c4 w4 rb4 hE4)
  refine (wbytes_any w1 w4 p _ _ _ _ _ _ _ m.name (hE3.trans hE4) ⟨hW3.blk.ext hE4, hW3.own.ext hE4, hW3.ne, hW3.base⟩ rb4 ?_ (by omega) (by omega)).mono ?_
  · intro _ k hk
    obtain rfl : w3.heap.size = k := by simpa [blk] using hk
    refine ⟨?_, ?_⟩
    · have := hW3.blk.lt; omega
    · intro e; have := (hW3.own.lt e).2; omega
  rintro e w5 ⟨rfl, A5, c5, hW5, hC5, hL5⟩
  have hW4 : Wtr w4 w1.heap.size p A3 (0 + 1) c3 ([] ++ [77]) := ⟨hW3.blk.ext hE4, hW3.own.ext hE4, hW3.ne, hW3.base⟩
  have hE5 := hW4.chg_ext (hE3.trans hE4) hC5
  have y1 := (hB.ext hE5).cell (i := 1) rfl
  clear y0 rb4
  go_wp2_with fail
  refine (wnum_any w1 w5 p _ _ _ _ m.ver hE5 hW5 (by omega)).mono ?_
  rintro e w6 ⟨rfl, A6, c6, hW6, hC6, hL6⟩
  have hE6 := hW5.chg_ext hE5 hC6
  have y2 := (hB.ext hE6).cell (i := 2) rfl
  clear y1
  go_wp2_with fail
  refine (wraw_any w1 w6 p _ _ _ _ _ _ _ m.fw hE6 hW6 (hF.ext (hE.trans hE6)) (by omega)).mono ?_
  rintro e w7 ⟨rfl, A7, c7, hW7, hC7, hL7⟩
  have hE7 := hW6.chg_ext hE6 hC7
  have y3 := (hB.ext hE7).cell (i := 3) rfl
  clear y2
  go_wp2_with fail
  refine (wbytes_any w1 w7 p _ _ _ _ _ _ _ m.notes hE7 hW7 (hN.ext (hE.trans hE7)) (hW7.away (hN.ext hE)) (by omega) (by omega)).mono ?_
  rintro e w8 ⟨rfl, A8, c8, hW8, hC8, hL8⟩
  have hE8 := hW7.chg_ext hE7 hC8
  clear y3
  go_wp2_with fail
  refine (wdone_any w8 w1.heap.size p _ _ _ _ hW8 (by omega)).mono ?_
  rintro e w9 ⟨B, d, rfl, own9, hE9⟩
  go_wp2_with fail
  go_ret2
  refine ⟨_, _, _, rfl, ?_, (hE.trans hE8).trans hE9⟩
  have h1 := own9.base (hE.trans hE8).size
  rw [← Hnn.out] at h1
  simpa [encM, List.append_assoc, Hnn.out] using h1
end Go.Proofs.Ytmgnigofilkfmab
