/-
  The first two texts that are unlike and of one hash: plain Lean, no program in sight. extract's Pair, walked. extract's Forged, walked. Facts of rows and structs that stay under the run-time's marks. Plain theorems. Two sums that differ (law26's known). A plain theorem.
-/
import Derived.Test.YtkndgpjamijbbaaLawCom26Q9
import Derived.Test.YtkndgpjamijbbaaLawCom26Q34
import Derived.Test.YtkndgpjamijbbaaLawCom26Q21
import Derived.Test.YtkndgpjamijbbaaLawCom26Q20
import Derived.Test.YtkndgpjamijbbaaLawCom26Q17
import Derived.Test.YtkndgpjamijbbaaLawCom26Q1
namespace Go.Proofs.Ytkndgpjamijbbaa
set_option maxRecDepth 100000
/-- pairs of places, the later one first, in the order in which they are looked at -/
def pairsN (n : Nat) : List (Nat × Nat) := (List.range n).flatMap fun i => (List.range i).map fun k => (i, k)
def clashB (Ls : List (List UInt8)) (p : Nat × Nat) : Bool := decide (sha (lb Ls p.2) = sha (lb Ls p.1)) && decide (lb Ls p.2 ≠ lb Ls p.1)
def pairL (Ls : List (List UInt8)) : Option (Nat × Nat) := (pairsN Ls.length).find? (clashB Ls)
/-- nothing among what was looked at ahead of (i, k) -/
def noneTo (Ls : List (List UInt8)) (i k : Nat) : Prop := (pairsN i ++ (List.range k).map fun k => (i, k)).find? (clashB Ls) = none
theorem pairsN_succ (i : Nat) : pairsN (i + 1) = pairsN i ++ (List.range i).map fun k => (i, k) := by
  unfold pairsN
  rw [List.range_succ, List.flatMap_append]
  simp
theorem noneTo_zero (Ls : List (List UInt8)) : noneTo Ls 0 0 := rfl
theorem noneTo_next {Ls : List (List UInt8)} {i : Nat} (h : noneTo Ls i i) : noneTo Ls (i + 1) 0 := by
  unfold noneTo at h ⊢
  rw [pairsN_succ]
  simpa using h
theorem noneTo_step {Ls : List (List UInt8)} {i k : Nat} (h : noneTo Ls i k) (hc : clashB Ls (i, k) = false) : noneTo Ls i (k + 1) := by
  unfold noneTo at h ⊢
  rw [List.range_succ, List.map_append, ← List.append_assoc, List.find?_append, h]
  simp [hc]
theorem noneTo_all {Ls : List (List UInt8)} {n : Nat} (hn : Ls.length = n) (h : noneTo Ls n 0) : pairL Ls = none := by
  unfold noneTo at h
  unfold pairL
  rw [hn]
  simpa using h
theorem pairsN_split {n i : Nat} (hi : i < n) : ∃ r, pairsN n = pairsN (i + 1) ++ r := by
  induction n with
  | zero => omega
  | succ n ih =>
    by_cases h : i = n
    · subst h
      exact ⟨[], by simp⟩
    · obtain ⟨r, hr⟩ := ih (by omega)
      exact ⟨r ++ (List.range n).map fun k => (n, k), by rw [pairsN_succ, hr, List.append_assoc]⟩
theorem range_split {i k : Nat} (h : k < i) : ∃ r, List.range i = List.range k ++ k :: r := by
  induction i with
  | zero => omega
  | succ i ih =>
    by_cases e : k = i
    · subst e
      exact ⟨[], by rw [List.range_succ]⟩
    · obtain ⟨r, hr⟩ := ih (by omega)
      exact ⟨r ++ [i], by rw [List.range_succ, hr]; simp⟩
theorem found_at {Ls : List (List UInt8)} {n i k : Nat} (hn : Ls.length = n) (hi : i < n) (hk : k < i) (h : noneTo Ls i k) (hc : clashB Ls (i, k) = true) : pairL Ls = some (i, k) := by
  obtain ⟨r, hr⟩ := pairsN_split hi
  obtain ⟨s, hs⟩ := range_split hk
  unfold noneTo at h
  unfold pairL
  rw [hn, hr, pairsN_succ, hs, List.map_append, ← List.append_assoc, List.append_assoc, List.find?_append, h]
  simp [hc]
end Go.Proofs.Ytkndgpjamijbbaa
namespace Go.Proofs.Ytkndgpjamijbbaa
set_option maxRecDepth 100000
open Go Go.RowKit
def pairA (Ls : List (List UInt8)) : List UInt8 := match pairL Ls with | some p => lb Ls p.2 | none => []
def pairB (Ls : List (List UInt8)) : List UInt8 := match pairL Ls with | some p => lb Ls p.1 | none => []
def PairI (w : World) (Ls : List (List UInt8)) (v i : Value) (wr : World) : Prop :=
  ∃ (p d : Nat) (P : Option Addr), p ≤ Ls.length ∧ i = .int .i64 p ∧ v = .slice P p d ∧ OBC wr w.heap.size P p d ((Ls.take p).map sha) ∧ noneTo Ls p 0 ∧ Ext w wr
def PairJ (w : World) (Ls : List (List UInt8)) (p : Nat) (i : Value) (wr : World) : Prop :=
  ∃ k : Nat, k ≤ p ∧ i = .int .i64 k ∧ noneTo Ls p k ∧ wr = w
theorem sha_snoc (Ls : List (List UInt8)) {p : Nat} (hp : p < Ls.length) : (Ls.take (p + 1)).map sha = (Ls.take p).map sha ++ [sha (lb Ls p)] := by
  rw [List.take_succ_eq_append_getElem hp, List.map_append]
  simp [lb, hp]
theorem sha_at (Ls : List (List UInt8)) {p k : Nat} (hk : k < p) (hp : p ≤ Ls.length) : lb ((Ls.take p).map sha) k = sha (lb Ls k) := by
  unfold lb
  rw [List.getD_eq_getElem?_getD, List.getElem?_map, List.getElem?_take_of_lt hk, List.getD_eq_getElem?_getD, List.getElem?_eq_getElem (by omega)]
  rfl
set_option maxHeartbeats 8000000 in
theorem pair_any (A : Option Addr) (n c : Nat) (Ls : List (List UInt8)) (w : World) (hr : RBB w A n c Ls) (hn : n ≤ 100000) (hb : ∀ a ∈ Ls, a.length ≤ 1000000) :
    Calls Try.prog 13 #[.slice A n c] w fun e w' => ∃ P np cp Q nq cq, e = .returned (.tuple #[.slice P np cp, .slice Q nq cq, .bool (pairL Ls).isSome]) ∧ RB w' P np cp (pairA Ls) ∧ RB w' Q nq cq (pairB Ls) ∧ Ext w w' := by
  have hl := hr.len
  have Hl := Lib.hid hl
  clear hl
  have hcap := hr.cap
  have hroom := hr.room
  unfold maxLen at hcap
  go_enter Try.func13, Try.ntmps13
  go_wp2_with fail
  go_loopw [5, 13] (fun v i wr => PairI w Ls v i wr) (fun _ i _ => n - (intOf i).toNat)
  case atStart => exact ⟨0, 0, none, by omega, rfl, rfl, OBC.none_ _ _, noneTo_zero _, Ext.refl _⟩
  case round =>
    obtain ⟨p, d, P, hp, rfl, rfl, own, hno, hEr⟩ := hrel
    rw [Hl.out] at hp
    have Hno := Lib.hid hno
    clear hno
    by_cases hlt : p < n
    · have hpn : (p : Int) < (n : Int) := by omega
      obtain ⟨ad, rfl, hc⟩ := hr.cells (by omega)
      obtain ⟨E, z, y, hcell, hrE⟩ := hc p (by omega)
      have y1 := hEr.cell hcell
      have rE := hrE.ext hEr
      have hz : z ≤ 1000000 := by
        have h1 := hrE.len
        have h2 := hb (lb Ls p) (by unfold lb; rw [List.getD_eq_getElem?_getD, List.getElem?_eq_getElem (by rw [Hl.out]; omega)]; exact List.getElem_mem _)
        omega
      have hcu := hsum_any E z y _ wr rE (by omega)
      have Hcu := Lib.hid hcu
      clear hcu hcell
      go_wp2_with fail
      refine Hcu.out.mono ?_
      rintro e w2 ⟨E1, z1, rfl, ownC, hE2⟩
      clear Hcu
      have own2 := own.ext hE2
      have hEr2 := hEr.trans hE2
      have rS := own2.rbb
      have rE2 := rE.ext hE2
      have hpi : ¬ (p : Int) < 0 := by omega
      go_wp2_with fail
      obtain ⟨wo, rfl⟩ : ∃ wo, wo = wr := ⟨_, rfl⟩
      go_loopw [24] (fun i wr => PairJ w2 Ls p i wr) (fun i _ => p - (intOf i).toNat)
      case atStart => exact ⟨0, by omega, rfl, Hno.out, rfl⟩
      case round =>
        obtain ⟨k, hk, rfl, hno, rfl⟩ := hrel
        have Hno2 := Lib.hid hno
        clear hno
        by_cases hlk : k < p
        · have hki : (k : Int) < (p : Int) := by omega
          obtain ⟨sd, rfl, hsc⟩ := rS.cells (by omega)
          obtain ⟨F, zf, yf, hcf, rF⟩ := hsc k hlk
          rw [sha_at Ls hlk (by rw [Hl.out]; omega)] at rF
          obtain ⟨G, zg, yg, hcg, rG0⟩ := hc k (by omega)
          have rG := rG0.ext hEr2
          have hcg2 := hEr2.cell hcg
          have hzg : zg ≤ 1000000 := by
            have h1 := rG.len
            have h2 := hb (lb Ls k) (by unfold lb; rw [List.getD_eq_getElem?_getD, List.getElem?_eq_getElem (by rw [Hl.out]; omega)]; exact List.getElem_mem _)
            omega
          have h1 := hsame_any F E1 zf yf 32 z1 _ _ wr rF ownC.rb
          have H1 := Lib.hid h1
          have h2 := hsame_any G E zg yg z y _ _ wr rG rE2
          have H2 := Lib.hid h2
          have hcl : clashB Ls (p, k) = (decide (sha (lb Ls k) = sha (lb Ls p)) && !decide (lb Ls k = lb Ls p)) := by unfold clashB; simp
          have Hcl := Lib.hid hcl
          clear h1 h2 hcl hcg hsc
          go_wp2_with fail
          refine H1.out.mono ?_
          rintro e w3 ⟨rfl, rfl⟩
          by_cases hs : sha (lb Ls k) = sha (lb Ls p)
          · rw [decide_eq_true hs] at Hcl ⊢
            clear hs
            go_wp2_with fail
            refine H2.out.mono ?_
            rintro e w3 ⟨rfl, rfl⟩
            by_cases he : lb Ls k = lb Ls p
            · rw [decide_eq_true he] at Hcl ⊢
              clear he
              go_wp2_with fail
              go_roundw
              case rel => exact ⟨k + 1, by omega, by go_num, noneTo_step Hno2.out (by rw [Hcl.out]; rfl), rfl⟩
              case measure => simp [intOf]; omega
            · rw [decide_eq_false he] at Hcl ⊢
              have hfound := found_at Hl.out hlt hlk Hno2.out (by rw [Hcl.out]; rfl)
              have Hf := Lib.hid hfound
              clear he hfound
              go_wp2_with fail
              refine (clone_any G zg yg _ wr rG (by omega)).mono ?_
              rintro e w4 ⟨U, cu, rfl, oU, hE4⟩
              go_wp2_with fail
              refine (clone_any E z y _ w4 (rE2.ext hE4) (by omega)).mono ?_
              rintro e w5 ⟨V, cv, rfl, oV, hE5⟩
              go_wp2_with fail
              go_ret3
              have e1 : pairA Ls = lb Ls k := by unfold pairA; rw [Hf.out]
              have e2 : pairB Ls = lb Ls p := by unfold pairB; rw [Hf.out]
              rw [e1, e2, Hf.out]
              exact ⟨_, _, _, _, _, _, rfl, oU.rb.ext hE5, oV.rb, (hEr2.trans hE4).trans hE5⟩
          · rw [decide_eq_false hs] at Hcl ⊢
            clear hs
            go_wp2_with fail
            go_roundw
            case rel => exact ⟨k + 1, by omega, by go_num, noneTo_step Hno2.out (by rw [Hcl.out]; rfl), rfl⟩
            case measure => simp [intOf]; omega
        · obtain rfl : k = p := by omega
          have hki : ¬ (k : Int) < (k : Int) := by omega
          have hEa := Ext.new wr (.cells #[.slice E1 32 z1] 22)
          have hBa := Blk.new wr 22 #[.slice E1 32 z1]
          have own4 := own2.ext hEa
          have hne : 0 < 32 → blk E1 ≠ blk P := by
            intro hz e
            obtain ⟨b, hb⟩ : ∃ b, blk E1 = some b := by
              obtain ⟨ad', h1, _⟩ := ownC.rb.cells (by omega)
              rw [h1]
              exact ⟨_, rfl⟩
            have h1 := ownC.lt hb
            have h2 := own.lt (e.symm.trans hb)
            omega
          go_wp2_with (refine appbc_law (base := w.heap.size) (Y := sha (lb Ls k)) rfl rfl rfl rfl (by rw [add_plain]; exact hBa.cell (i := 0) rfl) own4 (ownC.rb.ext hEa) hne (hEr2.trans hEa).size (by omega) ?_; intro P5 d5 w5 own5 g5)
          go_roundw
          case rel =>
            rw [← sha_snoc Ls (by rw [Hl.out]; omega)] at own5
            exact ⟨k + 1, d5, P5, by rw [Hl.out]; omega, by go_num, rfl, own5, noneTo_next Hno2.out, (hEr2.trans hEa).then_grown g5 (fun b hb => (own4.lt hb).1)⟩
          case measure => simp [intOf]; omega
    · obtain rfl : p = n := by omega
      have hpn : ¬ (p : Int) < (p : Int) := by omega
      have hnone := noneTo_all Hl.out Hno.out
      have Hnn := Lib.hid hnone
      clear hnone
      go_wp2_with fail
      go_ret3
      have e1 : pairA Ls = [] := by unfold pairA; rw [Hnn.out]
      have e2 : pairB Ls = [] := by unfold pairB; rw [Hnn.out]
      rw [e1, e2, Hnn.out]
      exact ⟨none, 0, 0, none, 0, 0, rfl, RB.nil_ _, RB.nil_ _, hEr⟩
end Go.Proofs.Ytkndgpjamijbbaa
namespace Go.Proofs.Ytkndgpjamijbbaa
set_option maxRecDepth 100000
open Go Go.RowKit
theorem feq_any (E B : Option Addr) (z y m d g : Nat) (X Y : List UInt8) (w : World) (hX : RB w E z y X) (hY : RB w B m d Y) (hc : w.cell? ⟨g, 0, none⟩ = some (.slice B m d)) :
    Calls Try.prog 63 #[.slice E z y, .pointer (some ⟨g, 0, none⟩)] w fun e w' => e = .returned (.bool (decide (X = Y))) ∧ w' = w := by
  go_enter Try.func63, Try.ntmps63
  go_wp2_with fail
  refine (hsame_any E B z y m d X Y w hX hY).mono ?_
  rintro e w' ⟨rfl, rfl⟩
  go_wp2_with fail
  go_ret
  exact ⟨rfl, rfl⟩
set_option maxHeartbeats 2000000 in
theorem indexg_any (A B : Option Addr) (n c m d g : Nat) (Ls : List (List UInt8)) (Y : List UInt8) (w : World) (hr : RBB w A n c Ls) (hY : RB w B m d Y) (hg : w.cell? ⟨g, 0, none⟩ = some (.slice B m d)) :
    Calls Try.prog 89 #[.slice A n c, .func (.func 63) #[] #[.pointer (some ⟨g, 0, none⟩)]] w fun e w' => (∃ x : Int, e = .returned (.int .i64 x) ∧ (noneEq Ls Y → x = -1) ∧ (¬ noneEq Ls Y → 0 ≤ x)) ∧ w' = w := by
  have hcap := hr.cap
  have hroom := hr.room
  unfold maxLen at hcap
  have hl := hr.len
  have Hl := Lib.hid hl
  clear hl
  go_enter Try.func89, Try.ntmps89
  go_wp2_with fail
  go_loopw [8] (fun i wr => IdcI w Ls Y i wr) (fun i _ => n - (intOf i).toNat)
  case atStart => exact ⟨0, by omega, rfl, fun j hj => absurd hj (Nat.not_lt_zero _), rfl⟩
  case round =>
    obtain ⟨k, hk, rfl, hall, rfl⟩ := hrel
    rw [Hl.out] at hk
    have Hall := Lib.hid hall
    clear hall
    by_cases hlt : k < n
    · have hki : (k : Int) < (n : Int) := by omega
      obtain ⟨ad, rfl, hc⟩ := hr.cells (by omega)
      obtain ⟨E, z, y, hcell, hrE⟩ := hc k hlt
      have hcq := feq_any E B z y m d g _ Y wr hrE hY hg
      have Hcq := Lib.hid hcq
      clear hc hrE hcq
      go_wp2_with fail
      refine Hcq.out.mono ?_
      rintro e w2 ⟨rfl, rfl⟩
      by_cases h32 : lb Ls k = Y
      · have e1 : decide (lb Ls k = Y) = true := by simp [h32]
        rw [e1]
        clear e1
        have H32 := Lib.hid h32
        clear h32
        go_wp2_with fail
        go_ret
        refine ⟨⟨_, rfl, fun h => ?_, fun _ => by omega⟩, rfl⟩
        exact absurd H32.out (h k (by rw [Hl.out]; omega))
      · have e1 : decide (lb Ls k = Y) = false := by simp [h32]
        rw [e1]
        clear e1
        have H32 := Lib.hid h32
        clear h32
        go_wp2_with fail
        go_roundw
        case rel =>
          refine ⟨k + 1, by rw [Hl.out]; omega, by go_num, fun j hj => ?_, rfl⟩
          by_cases hjk : j = k
          · subst hjk; exact H32.out
          · exact Hall.out j (by omega)
        case measure => simp [intOf]; omega
    · obtain rfl : k = n := by omega
      go_wp2_with fail
      go_ret
      refine ⟨⟨_, rfl, fun _ => rfl, fun h => absurd (fun j hj => ?_) h⟩, rfl⟩
      exact Hall.out j (by rw [← Hl.out]; exact hj)
theorem containsg_any (A B : Option Addr) (n c m d g : Nat) (Ls : List (List UInt8)) (Y : List UInt8) (w : World) (hr : RBB w A n c Ls) (hY : RB w B m d Y) (hg : w.cell? ⟨g, 0, none⟩ = some (.slice B m d)) :
    Calls Try.prog 62 #[.slice A n c, .func (.func 63) #[] #[.pointer (some ⟨g, 0, none⟩)]] w fun e w' => (∃ b, e = .returned (.bool b) ∧ (noneEq Ls Y → b = false) ∧ (¬ noneEq Ls Y → b = true)) ∧ w' = w := by
  go_enter Try.func62, Try.ntmps62
  go_wp2_with fail
  refine (indexg_any A B n c m d g Ls Y w hr hY hg).mono ?_
  rintro e w2 ⟨⟨x, rfl, h1, h2⟩, rfl⟩
  have Hx1 := Lib.hid h1
  have Hx2 := Lib.hid h2
  clear h1 h2
  go_wp2_with fail
  go_ret
  refine ⟨⟨_, rfl, fun h => ?_, fun h => ?_⟩, rfl⟩
  · have := Hx1.out h; simp; omega
  · have := Hx2.out h; simp; omega

def inL (Ls : List (List UInt8)) (M : List UInt8) : Bool := Ls.any fun a => decide (a = M)
theorem inL_no {Ls : List (List UInt8)} {M : List UInt8} (h : noneEq Ls M) : inL Ls M = false := by
  unfold inL
  rw [List.any_eq_false]
  intro a ha
  obtain ⟨j, hj, e⟩ := List.getElem_of_mem ha
  have := h j hj
  unfold lb at this
  rw [List.getD_eq_getElem?_getD, List.getElem?_eq_getElem hj] at this
  simp only [Option.getD_some] at this
  rw [← e]
  simpa using this
theorem inL_yes {Ls : List (List UInt8)} {M : List UInt8} (h : ¬ noneEq Ls M) : inL Ls M = true := by
  cases hi : inL Ls M with
  | true => rfl
  | false =>
    refine absurd (fun j hj => ?_) h
    unfold inL at hi
    rw [List.any_eq_false] at hi
    have h1 := hi (lb Ls j) (by unfold lb; rw [List.getD_eq_getElem?_getD, List.getElem?_eq_getElem hj]; exact List.getElem_mem _)
    simpa using h1
set_option maxHeartbeats 4000000 in
theorem forged_any (D A B P Q : Option Addr) (nd cd n c m d np cp nq cq : Nat) (x : Int) (X M : List UInt8) (Ls Ps Qs : List (List UInt8)) (w : World) (hX : RB w D nd cd X) (hA : RBB w A n c Ls) (hM : RB w B m d M) (hmn : m ≤ 1000000) (hp : RBB w P np cp Ps) (hq : RBB w Q nq cq Qs) :
    Calls Try.prog 26 #[.slice D nd cd, .slice A n c, .slice B m d, .agg #[.int .i64 x, .slice P np cp, .slice Q nq cq]] w fun e w' => e = .returned (.bool (!inL Ls M && verB X M x Ps Qs)) ∧ Ext w w' := by
  have hE1 := Ext.new w (.cells #[.slice B m d] 22)
  have hB1 := Blk.new w 22 #[.slice B m d]
  have hE2 := Ext.new (w.alloc (.cells #[.slice B m d] 22)) (.cells #[.int .i64 x, .slice P np cp, .slice Q nq cq] 42)
  have hB2 := Blk.new (w.alloc (.cells #[.slice B m d] 22)) 42 #[.int .i64 x, .slice P np cp, .slice Q nq cq]
  have hE := hE1.trans hE2
  replace hX := hX.ext hE
  replace hA := hA.ext hE
  replace hM := hM.ext hE
  replace hp := hp.ext hE
  replace hq := hq.ext hE
  replace hB1 := hB1.ext hE2
  have y1 := hB1.cell (i := 0) (v := .slice B m d) rfl
  have z0 := hB2.cell (i := 0) (v := .int .i64 x) rfl
  have z1 := hB2.cell (i := 1) (v := .slice P np cp) rfl
  have z2 := hB2.cell (i := 2) (v := .slice Q nq cq) rfl
  clear hE1 hE2 hB1 hB2
  go_enter Try.func26, Try.ntmps26
  go_wp2_with fail
  refine (containsg_any A B n c m d w.heap.size Ls M _ hA hM y1).mono ?_
  rintro e w3 ⟨⟨b, rfl, h1, h2⟩, rfl⟩
  have hb : b = inL Ls M := by
    by_cases h : noneEq Ls M
    · rw [h1 h, inL_no h]
    · rw [h2 h, inL_yes h]
  clear h1 h2
  subst hb
  cases hi : inL Ls M with
  | true =>
    have Hi := Lib.hid hi
    clear hi
    go_wp2_with fail
    go_ret
    rw [Hi.out]
    exact ⟨rfl, hE⟩
  | false =>
    have Hi := Lib.hid hi
    clear hi
    go_wp2_with fail
    refine (sverify_any B D P Q m d nd cd np cp nq cq x X M Ps Qs _ hX hM (by omega) hp hq).mono ?_
    rintro e w4 ⟨rfl, hE4⟩
    go_wp2_with fail
    go_ret
    rw [Hi.out]
    exact ⟨rfl, hE.trans hE4⟩
end Go.Proofs.Ytkndgpjamijbbaa
namespace Go.Proofs.Ytkndgpjamijbbaa
set_option maxRecDepth 100000
open Go Go.RowKit
theorem RBB.mk_ {w w' : World} {A : Option Addr} {n c : Nat} {Ls : List (List UInt8)} (h : RBB w A n c Ls) (e : Mk w w') : RBB w' A n c Ls :=
  ⟨h.len, h.room, h.cap, fun hn => by
    obtain ⟨ad, ha, hc⟩ := h.cells hn
    refine ⟨ad, ha, fun j hj => ?_⟩
    obtain ⟨B, m, d, h1, h2⟩ := hc j hj
    exact ⟨B, m, d, e.cell h1, h2.mk_ e⟩⟩
def MP.rwsM (n : Nat) (Ls : List (List UInt8)) : MP Mk := ⟨fun u w => ∃ A c, u = .slice A n c ∧ RBB w A n c Ls, fun _ _ _ e ⟨A, c, h1, h2⟩ => ⟨A, c, h1, h2.mk_ e⟩⟩
end Go.Proofs.Ytkndgpjamijbbaa
namespace Go.Proofs.Ytkndgpjamijbbaa
set_option maxRecDepth 100000
theorem sha_ab : sha [97] ≠ sha [98] := by decide +kernel
end Go.Proofs.Ytkndgpjamijbbaa
