/-
  Package manifest, walked: name, Right, Encode.
-/
import Derived.Test.YtmgnigofilkfmabManPure
namespace Go.Proofs.Ytmgnigofilkfmab
set_option maxRecDepth 100000
open Go Go.RowKit
theorem run_index_str {P : Program} {w : World} {t : TypeId} {k : IntKind} (ht : P.underlying t = some .string) (L : List UInt8) (j : Nat) (h : j < L.length) : (Instr.index t (.string (str L)) (.int k (j : Int))).run P w = .ok (.int .u8 (u8i (ub L j))) w := by
  have h1 : (str L)[j]? = some (ub L j) := by
    have hs : j < (str L).size := by rw [str_size]; exact h
    rw [getElem?_pos (str L) j hs]
    congr 1
    show L.toArray[j]'(by simpa using h) = _
    rw [List.getElem_toArray]
    simp [ub, h]
  simp [Instr.index, asIntOf, run_underlying ht, h1, u8i]
theorem all_take_succ (s : List UInt8) (k : Nat) (hk : k < s.length) : (s.take (k + 1)).all letter = ((s.take k).all letter && letter (ub s k)) := by
  rw [take_snoc_ub s k hk]
  simp
theorem all_no {s : List UInt8} {k : Nat} (hk : k < s.length) (h : letter (ub s k) = false) : s.all letter = false := by
  rw [List.all_eq_false]
  refine ⟨s[k], List.getElem_mem hk, ?_⟩
  have e : ub s k = s[k] := by simp [ub, hk]
  rw [← e, h]
  simp
theorem letter_lo {c : UInt8} (h : decide (u8i c < 97) = true) : letter c = false := by
  rw [decide_eq_true_iff] at h
  simp [letter]
  omega
theorem letter_hi {c : UInt8} (h : decide (122 < u8i c) = true) : letter c = false := by
  rw [decide_eq_true_iff] at h
  simp [letter]
  omega
theorem letter_yes {c : UInt8} (h1 : decide (u8i c < 97) = false) (h2 : decide (122 < u8i c) = false) : letter c = true := by
  rw [decide_eq_false_iff_not] at h1 h2
  simp [letter]
  omega
set_option maxHeartbeats 1000000 in
theorem name_any (s : List UInt8) (w : World) (hs : s.length ≤ 9223372036854775807) :
    Calls Try.prog 90 #[.string (str s)] w fun e w' => e = .returned (.bool (nameOK s)) ∧ w = w' := by
  have hsz : (str s).size = s.length := str_size s
  by_cases h1 : s.length < 1
  · have hno : nameOK s = false := by simp [nameOK]; omega
    have d1 : decide ((s.length : Int) < 1) = true := by simp; omega
    rw [hno]
    go_enter Try.func90, Try.ntmps90
    go_wp2_with fail
    go_ret
    exact ⟨rfl, rfl⟩
  · have d1 : decide ((s.length : Int) < 1) = false := by simp; omega
    by_cases h2 : 20 < s.length
    · have hno : nameOK s = false := by simp [nameOK]; omega
      have d2 : decide (20 < (s.length : Int)) = true := by simp; omega
      rw [hno]
      go_enter Try.func90, Try.ntmps90
      go_wp2_with fail
      go_ret
      exact ⟨rfl, rfl⟩
    · have d2 : decide (20 < (s.length : Int)) = false := by simp; omega
      have hall : nameOK s = s.all letter := by
        have a1 : decide (1 ≤ s.length) = true := by simp; omega
        have a2 : decide (s.length ≤ 20) = true := by simp; omega
        simp [nameOK, a1, a2]
      rw [hall]
      clear hall
      go_enter Try.func90, Try.ntmps90
      go_wp2_with fail
      go_loop [14] (fun i => ∃ k : Nat, k ≤ s.length ∧ i = .int .i64 k ∧ (s.take k).all letter = true) (fun i => s.length - (intOf i).toNat)
      case atStart => exact ⟨0, Nat.zero_le _, rfl, rfl⟩
      case round =>
        obtain ⟨k, hk, rfl, hall⟩ := hrel
        have Hall := Lib.hid hall
        clear hall
        by_cases hlt : k < s.length
        · have e1 := fun w' : World => run_index_str (P := Try.prog) (w := w') (k := .i64) Try.underlying9 s k hlt
          by_cases a1 : decide (u8i (ub s k) < 97) = true
          · go_wp2_with fail
            go_ret
            exact ⟨by rw [all_no hlt (letter_lo a1)]; rfl, rfl⟩
          · have a1' : decide (u8i (ub s k) < 97) = false := by simpa using a1
            clear a1
            by_cases a2 : decide (122 < u8i (ub s k)) = true
            · go_wp2_with fail
              go_ret
              exact ⟨by rw [all_no hlt (letter_hi a2)]; rfl, rfl⟩
            · have a2' : decide (122 < u8i (ub s k)) = false := by simpa using a2
              clear a2
              go_wp2_with fail
              go_round
              case rel => exact ⟨k + 1, by omega, by go_num, by rw [all_take_succ s k hlt, Hall.out, letter_yes a1' a2']; rfl⟩
              case measure => simp [intOf]; omega
        · obtain rfl : k = s.length := by omega
          have hall := Hall.out
          rw [List.take_length] at hall
          have Hall2 := Lib.hid hall
          clear hall
          go_wp2_with fail
          go_ret
          exact ⟨by rw [Hall2.out]; rfl, rfl⟩
/-- a manifest's value, as it is handed on -/
def manV (m : Man) (F : Option Addr) (nf cf : Nat) (N : Option Addr) (nn cn : Nat) : Value := .agg #[.string (str m.name), .int .u32 (u32i m.ver), .slice F nf cf, .slice N nn cn]
set_option maxHeartbeats 1000000 in
theorem right_any (m : Man) (F N : Option Addr) (nf cf nn cn : Nat) (w : World) (hs : m.name.length ≤ 9223372036854775807) (hf : m.fw.length = nf) (hn : m.notes.length = nn) :
    Calls Try.prog 53 #[manV m F nf cf N nn cn] w fun e w' => e = .returned (.bool (rightM m)) ∧ Ext w w' := by
  have hR : rightM m = (nameOK m.name && decide (0 < u32i m.ver) && decide (nf = 32) && decide (nn ≤ 64)) := by rw [← hf, ← hn]; rfl
  rw [hR]
  clear hR hf hn
  unfold manV
  cases h1 : nameOK m.name with
  | false =>
    go_enter Try.func53, Try.ntmps53
    go_wp2_with fail
    refine (name_any m.name _ hs).mono ?_
    rintro e w1 ⟨rfl, rfl⟩
    rw [h1]
    go_wp2_with fail
    go_ret
    exact ⟨rfl, Ext.new w _⟩
  | true =>
    cases h2 : decide (0 < u32i m.ver) with
    | false =>
      go_enter Try.func53, Try.ntmps53
      go_wp2_with fail
      refine (name_any m.name _ hs).mono ?_
      rintro e w1 ⟨rfl, rfl⟩
      rw [h1]
      go_wp2_with fail
      go_ret
      exact ⟨rfl, Ext.new w _⟩
    | true =>
      by_cases h3 : nf = 32
      · subst h3
        by_cases h4 : nn ≤ 64
        · have d4 : decide ((nn : Int) ≤ 64) = true := by simp; omega
          rw [decide_eq_true h4]
          go_enter Try.func53, Try.ntmps53
          go_wp2_with fail
          refine (name_any m.name _ hs).mono ?_
          rintro e w1 ⟨rfl, rfl⟩
          rw [h1]
          go_wp2_with fail
          go_ret
          exact ⟨rfl, Ext.new w _⟩
        · have d4 : decide ((nn : Int) ≤ 64) = false := by simp; omega
          rw [decide_eq_false h4]
          go_enter Try.func53, Try.ntmps53
          go_wp2_with fail
          refine (name_any m.name _ hs).mono ?_
          rintro e w1 ⟨rfl, rfl⟩
          rw [h1]
          go_wp2_with fail
          go_ret
          exact ⟨rfl, Ext.new w _⟩
      · have d3 : ((nf : Int) == 32) = false := by rw [beq_eq_false_iff_ne]; omega
        rw [decide_eq_false h3]
        go_enter Try.func53, Try.ntmps53
        go_wp2_with fail
        refine (name_any m.name _ hs).mono ?_
        rintro e w1 ⟨rfl, rfl⟩
        rw [h1]
        go_wp2_with fail
        go_ret
        exact ⟨rfl, Ext.new w _⟩
end Go.Proofs.Ytmgnigofilkfmab
