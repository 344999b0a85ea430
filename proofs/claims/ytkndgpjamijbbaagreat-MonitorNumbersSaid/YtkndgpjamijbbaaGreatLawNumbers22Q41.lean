/-
  MonitorNumbers, walked (under way).
-/
import Derived.Test.YtkndgpjamijbbaaGreatLawNumbers22Q40
namespace Go.Proofs.YtkndgpjamijbbaaGreat
set_option maxRecDepth 100000
open Go Go.RowKit
def isAsk (v : Value) : Prop := (∃ x, v = .int .i64 x) ∨ ∃ b, v = .bool b
theorem kAsks : OwK isAsk 27 29 5 40 (.agg #[.int .i64 0, .int .i64 0, .int .i64 0, .int .i64 0, .bool false]) := ⟨Tryz.underlying27, by kernel_rfl, rfl, by omega, fun u hu => by
  simp [Value.cells] at hu
  rcases hu with rfl | rfl
  · exact .inl ⟨0, rfl⟩
  · exact .inr ⟨false, rfl⟩, by omega⟩
/-- asks, cell by cell -/
def AskL (p : Nat) (xs : List Value) : Prop := ∀ j, j < p → ∃ (k sz fr nn : Int) (bad : Bool), xs[j * 5]? = some (.int .i64 k) ∧ xs[j * 5 + 1]? = some (.int .i64 sz) ∧ xs[j * 5 + 2]? = some (.int .i64 fr) ∧ xs[j * 5 + 3]? = some (.int .i64 nn) ∧ xs[j * 5 + 4]? = some (.bool bad) ∧ inR k ∧ inR sz ∧ inR fr ∧ inR nn
theorem AskL.rak {w : World} {base n c : Nat} {A : Option Addr} {xs : List Value} (h : OwP isAsk 29 5 w base A n c xs) (hx : AskL n xs) : RAk w A n c := by
  refine ⟨h.room.1, h.room.2, fun hn => ?_⟩
  obtain ⟨g, rfl, hc⟩ := h.at_ hn (by decide)
  refine ⟨⟨g, 0, none⟩, rfl, fun j hj => ?_⟩
  obtain ⟨k, sz, fr, nn, bad, k1, k2, k3, k4, k5, k6⟩ := hx j hj
  refine ⟨k, sz, fr, nn, bad, ?_, ?_, ?_, ?_, ?_, k6⟩
  · rw [add_plain]
    exact hc _ _ k1
  · rw [add_plain]
    exact hc _ _ k2
  · rw [add_plain]
    exact hc _ _ k3
  · rw [add_plain]
    exact hc _ _ k4
  · rw [add_plain]
    exact hc _ _ k5
theorem AskL.snoc {p : Nat} {xs : List Value} (h : AskL p xs) (hl : xs.length = p * 5) (k sz fr nn : Int) (bad : Bool) (r1 : inR k) (r2 : inR sz) (r3 : inR fr) (r4 : inR nn) : AskL (p + 1) (xs ++ [.int .i64 k, .int .i64 sz, .int .i64 fr, .int .i64 nn, .bool bad]) := by
  intro j hj
  by_cases hjp : j < p
  · obtain ⟨k', sz', fr', nn', bad', k1, k2, k3, k4, k5, k6⟩ := h j hjp
    exact ⟨k', sz', fr', nn', bad', by rw [List.getElem?_append_left (by omega)]; exact k1, by rw [List.getElem?_append_left (by omega)]; exact k2, by rw [List.getElem?_append_left (by omega)]; exact k3, by rw [List.getElem?_append_left (by omega)]; exact k4, by rw [List.getElem?_append_left (by omega)]; exact k5, k6⟩
  · obtain rfl : j = p := by omega
    refine ⟨k, sz, fr, nn, bad, ?_, ?_, ?_, ?_, ?_, r1, r2, r3, r4⟩
    · rw [List.getElem?_append_right (by omega), show j * 5 - xs.length = 0 by omega]; rfl
    · rw [List.getElem?_append_right (by omega), show j * 5 + 1 - xs.length = 1 by omega]; rfl
    · rw [List.getElem?_append_right (by omega), show j * 5 + 2 - xs.length = 2 by omega]; rfl
    · rw [List.getElem?_append_right (by omega), show j * 5 + 3 - xs.length = 3 by omega]; rfl
    · rw [List.getElem?_append_right (by omega), show j * 5 + 4 - xs.length = 4 by omega]; rfl
def asks11 : List Value := [.int .i64 1, .int .i64 5, .int .i64 0, .int .i64 0, .bool false, .int .i64 2, .int .i64 3, .int .i64 0, .int .i64 0, .bool false, .int .i64 1, .int .i64 3, .int .i64 0, .int .i64 0, .bool false, .int .i64 4, .int .i64 3, .int .i64 1, .int .i64 0, .bool false, .int .i64 2, .int .i64 9, .int .i64 0, .int .i64 0, .bool false, .int .i64 1, .int .i64 9, .int .i64 0, .int .i64 0, .bool false, .int .i64 3, .int .i64 0, .int .i64 0, .int .i64 0, .bool false, .int .i64 3, .int .i64 0, .int .i64 1, .int .i64 0, .bool false, .int .i64 3, .int .i64 0, .int .i64 0, .int .i64 2, .bool false, .int .i64 1, .int .i64 0, .int .i64 0, .int .i64 0, .bool false, .int .i64 2, .int .i64 0, .int .i64 0, .int .i64 0, .bool false]
theorem asks11_ok : AskL 11 asks11 := by
  intro j hj
  have hj2 : j = 0 ∨ j = 1 ∨ j = 2 ∨ j = 3 ∨ j = 4 ∨ j = 5 ∨ j = 6 ∨ j = 7 ∨ j = 8 ∨ j = 9 ∨ j = 10 := by omega
  rcases hj2 with rfl | rfl | rfl | rfl | rfl | rfl | rfl | rfl | rfl | rfl | rfl
  all_goals exact ⟨_, _, _, _, _, rfl, rfl, rfl, rfl, rfl, ⟨by omega, by omega⟩, ⟨by omega, by omega⟩, ⟨by omega, by omega⟩, ⟨by omega, by omega⟩⟩
theorem asks11_row (w : World) : RAk (w.alloc (.cells asks11.toArray 29)) (some ⟨w.heap.size, 0, none⟩) 11 11 := by
  refine AskL.rak (base := w.heap.size) (xs := asks11) ⟨rfl, .inr ⟨w.heap.size, asks11.toArray, rfl, Nat.le_refl _, Blk.new _ _ _, Nat.le_refl _, small_maxLen (by decide), rfl, ?_, ?_⟩⟩ asks11_ok
  · intro u hu
    have hall : ∀ v ∈ asks11, isAsk v := by
      unfold asks11
      iterate 55 (rw [List.forall_mem_cons]; refine ⟨by first | exact .inl ⟨_, rfl⟩ | exact .inr ⟨_, rfl⟩, ?_⟩)
      intro v hv
      simp at hv
    exact hall u hu
  · exact List.take_of_length_le (Nat.le_refl _)
def NmI (w : World) (l i : Value) (wr : World) : Prop :=
  ∃ (p : Nat) (A : Option Addr) (c : Nat) (xs : List Value), p ≤ 14 ∧ i = .int .i64 p ∧ l = .slice A p c ∧ OwP isAsk 29 5 wr w.heap.size A p c xs ∧ AskL p xs ∧ Ext w wr
set_option maxHeartbeats 16000000 in
theorem numbers22_any (w : World) : Calls Tryz.prog 3 #[] w fun e w' => e = .returned (.bool true) ∧ Ext w w' := by
  go_enter Tryz.func3, Tryz.ntmps3
  go_wp2_with (refine make_law (k := 31) rfl rfl rfl rfl (by omega) ?_; intro w1 own1 hE1)
  refine (mnew_no _ 31 31 _ (by decide)).mono ?_
  rintro e _ ⟨rfl, rfl⟩
  dsimp only
  clear own1
  go_wp2_with fail
  go_loopw [3, 4] (fun l i wr => NmI w l i wr) (fun _ i _ => 14 - (intOf i).toNat)
  case atStart => exact ⟨0, none, 0, [], by omega, rfl, rfl, OwP.none_ _ _, fun j hj => absurd hj (Nat.not_lt_zero _), hE1⟩
  case round =>
    obtain ⟨p, A, c, xs, hp, rfl, rfl, own, hx, hEr⟩ := hrel
    by_cases hlt : p < 14
    · have e1 : (p : Int) < 14 := by omega
      obtain ⟨k4, hk4, hk4b⟩ : ∃ k4 : Nat, (p : Int).tmod 4 = (k4 : Int) ∧ k4 < 4 := ⟨p % 4, (Int.ofNat_tmod p 4).symm, Nat.mod_lt _ (by decide)⟩
      obtain ⟨k9, hk9, hk9b⟩ : ∃ k9 : Nat, ((p : Int) * 5).tmod 9 = (k9 : Int) ∧ k9 < 9 := ⟨(p * 5) % 9, by
        rw [show ((p : Int) * 5) = ((p * 5 : Nat) : Int) by push_cast; rfl]
        exact (Int.ofNat_tmod (p * 5) 9).symm, Nat.mod_lt _ (by decide)⟩
      have hEl := Ext.new wr (.cells #[.int .i64 (1 + (k4 : Int)), .int .i64 (k9 : Int), .int .i64 (p : Int), .int .i64 ((p : Int) - 1), .bool ((p : Int) == 9)] 29)
      have hBl := Blk.new wr 29 #[.int .i64 (1 + (k4 : Int)), .int .i64 (k9 : Int), .int .i64 (p : Int), .int .i64 ((p : Int) - 1), .bool ((p : Int) == 9)]
      have own4 := own.ext hEl
      have hn9 : ∀ (j : Nat) (u : Value), ([.int .i64 (1 + (k4 : Int)), .int .i64 (k9 : Int), .int .i64 (p : Int), .int .i64 ((p : Int) - 1), .bool ((p : Int) == 9)] : List Value)[j]? = some u → (wr.alloc (.cells #[.int .i64 (1 + (k4 : Int)), .int .i64 (k9 : Int), .int .i64 (p : Int), .int .i64 ((p : Int) - 1), .bool ((p : Int) == 9)] 29)).cell? ((⟨wr.heap.size, 0, none⟩ : Addr).add j) = some u := fun j u hu => by
        rw [add_plain]
        exact hBl.cell (i := j) (by rw [← hu]; exact List.getElem?_toArray)
      have hone : ∀ u ∈ ([.int .i64 (1 + (k4 : Int)), .int .i64 (k9 : Int), .int .i64 (p : Int), .int .i64 ((p : Int) - 1), .bool ((p : Int) == 9)] : List Value), u.oneCell' = true := by
        intro u hu
        simp at hu
        rcases hu with rfl | rfl | rfl | rfl | rfl <;> rfl
      have hask : ∀ u ∈ ([.int .i64 (1 + (k4 : Int)), .int .i64 (k9 : Int), .int .i64 (p : Int), .int .i64 ((p : Int) - 1), .bool ((p : Int) == 9)] : List Value), isAsk u := by
        intro u hu
        simp at hu
        rcases hu with rfl | rfl | rfl | rfl | rfl
        · exact .inl ⟨_, rfl⟩
        · exact .inl ⟨_, rfl⟩
        · exact .inl ⟨_, rfl⟩
        · exact .inl ⟨_, rfl⟩
        · exact .inr ⟨_, rfl⟩
      have hbz := (hEr.trans hEl).size
      have Hx := Lib.hid hx
      clear hx own hBl
      go_wp2_with (refine appp_law kAsks rfl rfl rfl rfl own4 rfl hn9 hone hask (by omega) hbz (by omega) ?_; intro A5 c5 w5 own5 g5 b5)
      go_roundw
      case rel =>
        have hl := own4.1
        exact ⟨p + 1, A5, c5, _, by omega, by go_num, rfl, own5, Hx.out.snoc hl _ _ _ _ _ ⟨by omega, by omega⟩ ⟨by omega, by omega⟩ ⟨by omega, by omega⟩ ⟨by omega, by omega⟩, (hEr.trans hEl).then_grown g5 (fun b hb => (own4.lt hb).1)⟩
      case measure => simp [intOf]; omega
    · obtain rfl : p = 14 := by omega
      have hp1 := play22_any A 14 c wr (AskL.rak own hx)
      have Hp1 := Lib.hid hp1
      clear hp1 hx own
      go_wp2_with fail
      refine Hp1.out.mono ?_
      rintro e w6 ⟨rfl, hE⟩
      dsimp only
      replace hEr := hEr.trans hE
      clear hE Hp1
      have hp2 := play22_any _ 11 11 _ (asks11_row w6)
      have hE3 := Ext.new w6 (.cells asks11.toArray 29)
      have Hp2 := Lib.hid hp2
      clear hp2
      go_wp2_with fail
      refine Hp2.out.mono ?_
      rintro e w7 ⟨rfl, hE⟩
      dsimp only
      go_wp2_with fail
      refine (known22_any w7).mono ?_
      rintro e w8 ⟨rfl, hE4⟩
      dsimp only
      go_wp2_with fail
      go_ret
      exact ⟨rfl, ((hEr.trans hE3).trans hE).trans hE4⟩
end Go.Proofs.YtkndgpjamijbbaaGreat
