/-
  extract's Forged, walked. Facts of rows and structs that stay under the run-time's marks. Plain theorems. Two sums that differ (law26's known). A plain theorem.
-/
import Derived.Test.YtkndgpjamijbbaaLawTrees26Q22
import Derived.Test.YtkndgpjamijbbaaLawTrees26Q26
import Derived.Test.YtkndgpjamijbbaaLawTrees26Q24
import Derived.Test.YtkndgpjamijbbaaLawTrees26Q14
import Derived.Test.YtkndgpjamijbbaaLawTrees26Q1
namespace Go.Proofs.Ytkndgpjamijbbaa
set_option maxRecDepth 100000
open Go Go.RowKit
theorem feq_any (E B : Option Addr) (z y m d g : Nat) (X Y : List UInt8) (w : World) (hX : RB w E z y X) (hY : RB w B m d Y) (hc : w.cell? ⟨g, 0, none⟩ = some (.slice B m d)) :
    Calls Try.prog 63 #[.slice E z y, .pointer (some ⟨g, 0, none⟩)] w fun e w' => e = .returned (.bool (decide (X = Y))) ∧ w' = w := by
  go_enter Try.func63, Try.ntmps63
  go_wp2_with fail
  refine (hsame_any E B z y m d X Y w hX hY).mono ?_
  rintro e w' ⟨rfl, rfl⟩
  go_wp2_with fail
  go_ret
  exact ⟨rfl, rfl⟩
set_option maxHeartbeats 2000000 in
theorem indexg_any (A B : Option Addr) (n c m d g : Nat) (Ls : List (List UInt8)) (Y : List UInt8) (w : World) (hr : RBB w A n c Ls) (hY : RB w B m d Y) (hg : w.cell? ⟨g, 0, none⟩ = some (.slice B m d)) :
    Calls Try.prog 89 #[.slice A n c, .func (.func 63) #[] #[.pointer (some ⟨g, 0, none⟩)]] w fun e w' => (∃ x : Int, e = .returned (.int .i64 x) ∧ (noneEq Ls Y → x = -1) ∧ (¬ noneEq Ls Y → 0 ≤ x)) ∧ w' = w := by
  have hcap := hr.cap
  have hroom := hr.room
  unfold maxLen at hcap
  have hl := hr.len
  have Hl := Lib.hid hl
  clear hl
  go_enter Try.func89, Try.ntmps89
  go_wp2_with fail
  go_loopw [8] (fun i wr => IdcI w Ls Y i wr) (fun i _ => n - (intOf i).toNat)
  case atStart => exact ⟨0, by omega, rfl, fun j hj => absurd hj (Nat.not_lt_zero _), rfl⟩
  case round =>
    obtain ⟨k, hk, rfl, hall, rfl⟩ := hrel
    rw [Hl.out] at hk
    have Hall := Lib.hid hall
    clear hall
    by_cases hlt : k < n
    · have hki : (k : Int) < (n : Int) := by omega
      obtain ⟨ad, rfl, hc⟩ := hr.cells (by omega)
      obtain ⟨E, z, y, hcell, hrE⟩ := hc k hlt
      have hcq := feq_any E B z y m d g _ Y wr hrE hY hg
      have Hcq := Lib.hid hcq
      clear hc hrE hcq
      go_wp2_with fail
      refine Hcq.out.mono ?_
      rintro e w2 ⟨rfl, rfl⟩
      by_cases h32 : lb Ls k = Y
      · have e1 : decide (lb Ls k = Y) = true := by simp [h32]
        rw [e1]
        clear e1
        have H32 := Lib.hid h32
        clear h32
        go_wp2_with fail
        go_ret
        refine ⟨⟨_, rfl, fun h => ?_, fun _ => by omega⟩, rfl⟩
        exact absurd H32.out (h k (by rw [Hl.out]; omega))
      · have e1 : decide (lb Ls k = Y) = false := by simp [h32]
        rw [e1]
        clear e1
        have H32 := Lib.hid h32
        clear h32
        go_wp2_with fail
        go_roundw
        case rel =>
          refine ⟨k + 1, by rw [Hl.out]; omega, by go_num, fun j hj => ?_, rfl⟩
          by_cases hjk : j = k
          · subst hjk; exact H32.out
          · exact Hall.out j (by omega)
        case measure => simp [intOf]; omega
    · obtain rfl : k = n := by omega
      go_wp2_with fail
      go_ret
      refine ⟨⟨_, rfl, fun _ => rfl, fun h => absurd (fun j hj => ?_) h⟩, rfl⟩
      exact Hall.out j (by rw [← Hl.out]; exact hj)
theorem containsg_any (A B : Option Addr) (n c m d g : Nat) (Ls : List (List UInt8)) (Y : List UInt8) (w : World) (hr : RBB w A n c Ls) (hY : RB w B m d Y) (hg : w.cell? ⟨g, 0, none⟩ = some (.slice B m d)) :
    Calls Try.prog 62 #[.slice A n c, .func (.func 63) #[] #[.pointer (some ⟨g, 0, none⟩)]] w fun e w' => (∃ b, e = .returned (.bool b) ∧ (noneEq Ls Y → b = false) ∧ (¬ noneEq Ls Y → b = true)) ∧ w' = w := by
  go_enter Try.func62, Try.ntmps62
  go_wp2_with fail
  refine (indexg_any A B n c m d g Ls Y w hr hY hg).mono ?_
  rintro e w2 ⟨⟨x, rfl, h1, h2⟩, rfl⟩
  have Hx1 := Lib.hid h1
  have Hx2 := Lib.hid h2
  clear h1 h2
  go_wp2_with fail
  go_ret
  refine ⟨⟨_, rfl, fun h => ?_, fun h => ?_⟩, rfl⟩
  · have := Hx1.out h; simp; omega
  · have := Hx2.out h; simp; omega

def inL (Ls : List (List UInt8)) (M : List UInt8) : Bool := Ls.any fun a => decide (a = M)
theorem inL_no {Ls : List (List UInt8)} {M : List UInt8} (h : noneEq Ls M) : inL Ls M = false := by
  unfold inL
  rw [List.any_eq_false]
  intro a ha
  obtain ⟨j, hj, e⟩ := List.getElem_of_mem ha
  have := h j hj
  unfold lb at this
  rw [List.getD_eq_getElem?_getD, List.getElem?_eq_getElem hj] at this
  simp only [Option.getD_some] at this
  rw [← e]
  simpa using this
theorem inL_yes {Ls : List (List UInt8)} {M : List UInt8} (h : ¬ noneEq Ls M) : inL Ls M = true := by
  cases hi : inL Ls M with
  | true => rfl
  | false =>
    refine absurd (fun j hj => ?_) h
    unfold inL at hi
    rw [List.any_eq_false] at hi
    have h1 := hi (lb Ls j) (by unfold lb; rw [List.getD_eq_getElem?_getD, List.getElem?_eq_getElem hj]; exact List.getElem_mem _)
    simpa using h1
set_option maxHeartbeats 4000000 in
theorem forged_any (D A B P Q : Option Addr) (nd cd n c m d np cp nq cq : Nat) (x : Int) (X M : List UInt8) (Ls Ps Qs : List (List UInt8)) (w : World) (hX : RB w D nd cd X) (hA : RBB w A n c Ls) (hM : RB w B m d M) (hmn : m ≤ 1000000) (hp : RBB w P np cp Ps) (hq : RBB w Q nq cq Qs) :
    Calls Try.prog 26 #[.slice D nd cd, .slice A n c, .slice B m d, .agg #[.int .i64 x, .slice P np cp, .slice Q nq cq]] w fun e w' => e = .returned (.bool (!inL Ls M && verB X M x Ps Qs)) ∧ Ext w w' := by
  have hE1 := Ext.new w (.cells #[.slice B m d] 22)
  have hB1 := Blk.new w 22 #[.slice B m d]
  have hE2 := Ext.new (w.alloc (.cells #[.slice B m d] 22)) (.cells #[.int .i64 x, .slice P np cp, .slice Q nq cq] 42)
  have hB2 := Blk.new (w.alloc (.cells #[.slice B m d] 22)) 42 #[.int .i64 x, .slice P np cp, .slice Q nq cq]
  have hE := hE1.trans hE2
  replace hX := hX.ext hE
  replace hA := hA.ext hE
  replace hM := hM.ext hE
  replace hp := hp.ext hE
  replace hq := hq.ext hE
  replace hB1 := hB1.ext hE2
  have y1 := hB1.cell (i := 0) (v := .slice B m d) rfl
  have z0 := hB2.cell (i := 0) (v := .int .i64 x) rfl
  have z1 := hB2.cell (i := 1) (v := .slice P np cp) rfl
  have z2 := hB2.cell (i := 2) (v := .slice Q nq cq) rfl
  clear hE1 hE2 hB1 hB2
  go_enter Try.func26, Try.ntmps26
  go_wp2_with fail
  refine (containsg_any A B n c m d w.heap.size Ls M _ hA hM y1).mono ?_
  rintro e w3 ⟨⟨b, rfl, h1, h2⟩, rfl⟩
  have hb : b = inL Ls M := by
    by_cases h : noneEq Ls M
    · rw [h1 h, inL_no h]
    · rw [h2 h, inL_yes h]
  clear h1 h2
  subst hb
  cases hi : inL Ls M with
  | true =>
    have Hi := Lib.hid hi
    clear hi
    go_wp2_with fail
    go_ret
    rw [Hi.out]
    exact ⟨rfl, hE⟩
  | false =>
    have Hi := Lib.hid hi
    clear hi
    go_wp2_with fail
    refine (sverify_any B D P Q m d nd cd np cp nq cq x X M Ps Qs _ hX hM (by omega) hp hq).mono ?_
    rintro e w4 ⟨rfl, hE4⟩
    go_wp2_with fail
    go_ret
    rw [Hi.out]
    exact ⟨rfl, hE.trans hE4⟩
end Go.Proofs.Ytkndgpjamijbbaa
namespace Go.Proofs.Ytkndgpjamijbbaa
set_option maxRecDepth 100000
open Go Go.RowKit
theorem RBB.mk_ {w w' : World} {A : Option Addr} {n c : Nat} {Ls : List (List UInt8)} (h : RBB w A n c Ls) (e : Mk w w') : RBB w' A n c Ls :=
  ⟨h.len, h.room, h.cap, fun hn => by
    obtain ⟨ad, ha, hc⟩ := h.cells hn
    refine ⟨ad, ha, fun j hj => ?_⟩
    obtain ⟨B, m, d, h1, h2⟩ := hc j hj
    exact ⟨B, m, d, e.cell h1, h2.mk_ e⟩⟩
def MP.rwsM (n : Nat) (Ls : List (List UInt8)) : MP Mk := ⟨fun u w => ∃ A c, u = .slice A n c ∧ RBB w A n c Ls, fun _ _ _ e ⟨A, c, h1, h2⟩ => ⟨A, c, h1, h2.mk_ e⟩⟩
end Go.Proofs.Ytkndgpjamijbbaa
namespace Go.Proofs.Ytkndgpjamijbbaa
set_option maxRecDepth 100000
theorem sha_ab : sha [97] ≠ sha [98] := by decide +kernel
end Go.Proofs.Ytkndgpjamijbbaa
