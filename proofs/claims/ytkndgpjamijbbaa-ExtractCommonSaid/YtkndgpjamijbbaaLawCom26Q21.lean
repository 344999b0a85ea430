/-
  check.Decode; ref10's Get, walked. The statements' helpers, walked: Hash, Manifest, Item. law10.known, law10.equal, law10.signed, walked. hash.Hex and the statements' own hex, walked: two signs a byte. cosign.Right, cosign.Body; ref10's Policy, walked.
-/
import Derived.Test.YtkndgpjamijbbaaLawCom26Q20
import Derived.Test.YtkndgpjamijbbaaLawCom26Q11
import Derived.Test.YtkndgpjamijbbaaLawCom26Q12
import Derived.Test.YtkndgpjamijbbaaLawCom26Q18
import Derived.Test.YtkndgpjamijbbaaLawCom26Q10
import Derived.Test.YtkndgpjamijbbaaLawCom26Q1
import Derived.Test.YtkndgpjamijbbaaLawCom26Q4
import Derived.Laws.CopyOwn
namespace Go.Proofs.Ytkndgpjamijbbaa
set_option maxRecDepth 100000
open Go Go.RowKit
theorem RBB.away {w w' : World} {A : Option Addr} {n c : Nat} {Ls : List (List UInt8)} (h : RBB w A n c Ls) {k : Nat} {t : TypeId} {cs : Array Value} (hb : Blk w k t cs) (hno : ∀ (i : Nat) (x : Int), cs[i]? ≠ some (.int .u8 x)) (g : w.grownBy w' (some k)) (hA : 0 < n → blk A ≠ some k) : RBB w' A n c Ls :=
  ⟨h.len, h.room, h.cap, fun hn => by
    obtain ⟨ad, rfl, hc⟩ := h.cells hn
    refine ⟨ad, rfl, fun j hj => ?_⟩
    obtain ⟨B, m, d, h1, h2⟩ := hc j hj
    exact ⟨B, m, d, g.cell h1 (by rw [block_of_add]; exact hA hn), h2.grown g (h2.apart5 hb hno)⟩⟩
theorem RBB.apart3 {w : World} {A : Option Addr} {n c : Nat} {Ls : List (List UInt8)} (h : RBB w A n c Ls) {g : Nat} {t : TypeId} {cs : Array Value} (hB : Blk w g t cs) (hno : ∀ (i : Nat) (a b c : Value), cs[i]? = some a → cs[i + 1]? = some b → cs[i + 2]? = some c → ¬ (isSl (some a) = true ∧ isSl (some b) = true ∧ isSl (some c) = true)) (hn : 3 ≤ n) : blk A ≠ some g := by
  obtain ⟨ad, rfl, hc⟩ := h.cells (by omega)
  intro e
  have e2 : ad.block = g := by
    have e3 : some ad.block = some g := e
    injection e3
  unfold Blk at hB
  have key : ∀ j v, w.cell? (ad.add j) = some v → cs[ad.off + j]? = some v := by
    intro j v h1
    unfold World.cell? at h1
    have h3 : (ad.add j).block = g := by rw [block_of_add, e2]
    have h4 : (ad.add j).off = ad.off + j := by
      unfold Addr.add
      by_cases hj : j = 0
      · rw [if_pos hj, hj]; rfl
      · rw [if_neg hj]
    rw [h3, hB] at h1
    by_cases hs : (ad.add j).spot.isSome = true
    · simp [hs] at h1
    · simp only [hs] at h1
      rw [h4] at h1
      exact h1
  obtain ⟨B0, m0, d0, h0, _⟩ := hc 0 (by omega)
  obtain ⟨B1, m1, d1, h1, _⟩ := hc 1 (by omega)
  obtain ⟨B2, m2, d2, h2, _⟩ := hc 2 (by omega)
  exact hno _ _ _ _ (key _ _ h0) (key _ _ h1) (key _ _ h2) ⟨rfl, rfl, rfl⟩
end Go.Proofs.Ytkndgpjamijbbaa
namespace Go.Proofs.Ytkndgpjamijbbaa
set_option maxRecDepth 100000
open Go Go.RowKit
def u8of (x : Int) : UInt8 := UInt8.ofNat (x % 256).toNat
def khash (x : Int) : List UInt8 := tagged 98 [u8of (within x 0 100000)]
theorem conv_i64_u8x {P : Program} {w : World} {s t : TypeId} (hs : P.underlying s = some (.int .i64)) (ht : P.underlying t = some (.int .u8)) (x : Int) : (convert s t (.int .i64 x)).run P w = .ok (.int .u8 (u8i (u8of x))) w := by
  have e : IntKind.u8.wrap x = u8i (u8of x) := by
    unfold u8i u8of
    rw [IntKind.wrap_u8, UInt8.toNat_ofNat']
    omega
  simp [convert, run_underlying hs, run_underlying ht, Conv.intToInt, e]
theorem RBB.lit1 {w : World} {B : Option Addr} {m d : Nat} {L : List UInt8} (h : RB w B m d L) (t : TypeId) : RBB (w.alloc (.cells #[.slice B m d] t)) (some ⟨w.heap.size, 0, none⟩) 1 1 [L] :=
  ⟨rfl, Nat.le_refl _, small_maxLen (by decide), fun _ => ⟨_, rfl, fun j hj => by
    obtain rfl : j = 0 := by omega
    refine ⟨B, m, d, ?_, h.ext (Ext.new w _)⟩
    have e : (⟨w.heap.size, 0, none⟩ : Addr).add 0 = ⟨w.heap.size, 0, none⟩ := add_plain _ 0
    rw [e]
    exact (Blk.new w t _).cell rfl⟩⟩
set_option maxHeartbeats 1000000 in
theorem hash_any (x : Int) (w : World) (hx0 : -9223372036854775808 ≤ x) (hx1 : x ≤ 9223372036854775807) :
    Calls Try.prog 29 #[.int .i64 x] w fun e w' => ∃ A' c', e = .returned (.slice A' 32 c') ∧ OB w' w.heap.size A' 32 c' (khash x) ∧ Ext w w' := by
  have hc := fun w' : World => conv_i64_u8x (P := Try.prog) (w := w') Try.underlying3 Try.underlying5 (within x 0 100000)
  unfold khash
  obtain ⟨z, hz⟩ : ∃ z, z = within x 0 100000 := ⟨_, rfl⟩
  rw [← hz] at hc ⊢
  have Hz := Lib.hid hz
  clear hz
  go_enter Try.func29, Try.ntmps29
  go_wp2_with fail
  refine (within_any x 0 100000 w hx0 hx1 (by omega) (by omega) (by omega)).mono ?_
  rintro e w1 ⟨rfl, rfl⟩
  rw [← Hz.out]
  go_wp2_with fail
  have hb : RB (w.alloc (.cells #[.int .u8 (u8i (u8of z))] 5)) (some ⟨w.heap.size, 0, none⟩) 1 1 [u8of z] := RB.lit w [u8of z] rfl (small_maxLen (by simp))
  have hr := RBB.lit1 hb 22
  have hsz : (w.alloc (.cells #[.int .u8 (u8i (u8of z))] 5)).heap.size = w.heap.size + 1 := by
    show (w.heap.push _).size = _
    rw [Array.size_push]
  have hcon := rtagged_any 98 _ 1 1 [[u8of z]] _ hr (by simp)
  have e98 : u8i 98 = 98 := rfl
  rw [hsz, e98] at hcon
  refine hcon.mono ?_
  rintro e w2 ⟨A', c', rfl, own, hE⟩
  go_wp2_with fail
  go_ret
  have hE0 := ((Ext.refl w).alloc (.cells (bv [u8of z]).toArray 5)).alloc (.cells #[.slice (some ⟨w.heap.size, 0, none⟩) 1 1] 22)
  exact ⟨A', c', rfl, own.base hE0.size, hE0.trans hE⟩
end Go.Proofs.Ytkndgpjamijbbaa
namespace Go.Proofs.Ytkndgpjamijbbaa
set_option maxRecDepth 100000
open Go Go.RowKit
theorem rsign_len (B : Option Addr) (g b m e' k : Nat) (S M : List UInt8) (w : World) (ho : OwnR w b g S) (hm : RB w B m e' M) (hmn : M.length ≤ 1000000) (hk : k < 16) :
    Calls Try.prog 25 #[.pointer (some ⟨g, 0, none⟩), .int .i64 (k : Int), .slice B m e'] w fun e w' => ∃ P d Q d', e = .returned (.agg #[.int .i64 (k : Int), .slice P 64 d, .slice Q 4 d']) ∧ RBB w' P 64 d (sigP S M k) ∧ RBB w' Q 4 d' (pathL S k) ∧ Ext w w' :=
  rsign_any B g b m e' k S M w ho hm (by have := hm.len; omega) hk
end Go.Proofs.Ytkndgpjamijbbaa
namespace Go.Proofs.Ytkndgpjamijbbaa
set_option maxRecDepth 100000
open Go Go.RowKit
theorem Runs.index {P : Program} {o : Oper} {ρ : Operand → Value} {w : World} {G : Value → World → Prop} {t : TypeId} {x i : Operand} {u v r : Value} (ho : o.op = .index t x i) (hx : ρ x = u) (hi : ρ i = v) (hr : (Instr.index t u v).run P w = .ok r w) (h : G r w) : Runs P o ρ w G := by
  refine Runs.of_run (r := r) (w' := w) ?_ h
  unfold execOp
  simp only [ho, hx, hi, Sem.run_bind, hr, Result.andThen_ok, Sem.run_pure]
end Go.Proofs.Ytkndgpjamijbbaa
namespace Go.Proofs.Ytkndgpjamijbbaa
set_option maxRecDepth 100000
open Go Go.RowKit
def noneEq (Ls : List (List UInt8)) (Y : List UInt8) : Prop := ∀ j, j < Ls.length → lb Ls j ≠ Y
/-- the witnesses' keys may be: each of 32 bytes, no two the same, as far as the first k -/
def okW (Ws : List (List UInt8)) (k : Nat) : Prop := ∀ i, i < k → (lb Ws i).length = 32 ∧ ∀ j, j < i → lb Ws j ≠ lb Ws i
open Classical in
noncomputable def polB (LG : List UInt8) (Ws : List (List UInt8)) (q : Int) : Bool := decide (LG.length = 32 ∧ 1 ≤ Ws.length ∧ Ws.length ≤ 4 ∧ 1 ≤ q ∧ q ≤ (Ws.length : Int)) && decide (okW Ws Ws.length)
theorem polB_no {LG : List UInt8} {Ws : List (List UInt8)} {q : Int} (h : ¬ (LG.length = 32 ∧ 1 ≤ Ws.length ∧ Ws.length ≤ 4 ∧ 1 ≤ q ∧ q ≤ (Ws.length : Int))) : polB LG Ws q = false := by
  unfold polB
  simp only [h, decide_false, Bool.false_and]
theorem polB_noW {LG : List UInt8} {Ws : List (List UInt8)} {q : Int} (h : ¬ okW Ws Ws.length) : polB LG Ws q = false := by
  unfold polB
  simp [h]
theorem polB_yes {LG : List UInt8} {Ws : List (List UInt8)} {q : Int} (h : LG.length = 32 ∧ 1 ≤ Ws.length ∧ Ws.length ≤ 4 ∧ 1 ≤ q ∧ q ≤ (Ws.length : Int)) (h2 : okW Ws Ws.length) : polB LG Ws q = true := by
  unfold polB
  simp only [h, h2, and_self, decide_true, Bool.and_self]
theorem ckey_any (B : Option Addr) (m d : Nat) (w : World) : Calls Try.prog 132 #[.slice B m d] w fun e w' => e = .returned (.bool (decide (m = 32))) ∧ w' = w := by
  have e : decide ((m : Int) = 32) = decide (m = 32) := by
    apply decide_eq_decide.2
    omega
  go_enter Try.func132, Try.ntmps132
  go_wp2_with fail
  go_ret
  refine ⟨?_, rfl⟩
  rw [← e]
  by_cases h : (m : Int) = 32 <;> simp [h]
theorem ceq_any (E B : Option Addr) (z y m d g : Nat) (X Y : List UInt8) (w : World) (hX : RB w E z y X) (hY : RB w B m d Y) (hc : w.cell? ⟨g, 0, none⟩ = some (.slice B m d)) :
    Calls Try.prog 133 #[.slice E z y, .pointer (some ⟨g, 0, none⟩)] w fun e w' => e = .returned (.bool (decide (X = Y))) ∧ w' = w := by
  go_enter Try.func133, Try.ntmps133
  go_wp2_with fail
  refine (hsame_any E B z y m d X Y w hX hY).mono ?_
  rintro e w' ⟨rfl, rfl⟩
  go_wp2_with fail
  go_ret
  exact ⟨rfl, rfl⟩
def IdcI (w : World) (Ls : List (List UInt8)) (Y : List UInt8) (i : Value) (wr : World) : Prop :=
  ∃ k : Nat, k ≤ Ls.length ∧ i = .int .i64 k ∧ (∀ j, j < k → lb Ls j ≠ Y) ∧ wr = w
set_option maxHeartbeats 2000000 in
theorem indexc_any (A B : Option Addr) (n c m d g : Nat) (Ls : List (List UInt8)) (Y : List UInt8) (w : World) (hr : RBB w A n c Ls) (hY : RB w B m d Y) (hg : w.cell? ⟨g, 0, none⟩ = some (.slice B m d)) :
    Calls Try.prog 89 #[.slice A n c, .func (.func 133) #[] #[.pointer (some ⟨g, 0, none⟩)]] w fun e w' => (∃ x : Int, e = .returned (.int .i64 x) ∧ (noneEq Ls Y → x = -1) ∧ (¬ noneEq Ls Y → 0 ≤ x)) ∧ w' = w := by
  have hcap := hr.cap
  have hroom := hr.room
  unfold maxLen at hcap
  have hl := hr.len
  have Hl := Lib.hid hl
  clear hl
  go_enter Try.func89, Try.ntmps89
  go_wp2_with fail
  go_loopw [8] (fun i wr => IdcI w Ls Y i wr) (fun i _ => n - (intOf i).toNat)
  case atStart => exact ⟨0, by omega, rfl, fun j hj => absurd hj (Nat.not_lt_zero _), rfl⟩
  case round =>
    obtain ⟨k, hk, rfl, hall, rfl⟩ := hrel
    rw [Hl.out] at hk
    have Hall := Lib.hid hall
    clear hall
    by_cases hlt : k < n
    · have hki : (k : Int) < (n : Int) := by omega
      obtain ⟨ad, rfl, hc⟩ := hr.cells (by omega)
      obtain ⟨E, z, y, hcell, hrE⟩ := hc k hlt
      have hcq := ceq_any E B z y m d g _ Y wr hrE hY hg
      have Hcq := Lib.hid hcq
      clear hc hrE hcq
      go_wp2_with fail
      refine Hcq.out.mono ?_
      rintro e w2 ⟨rfl, rfl⟩
      by_cases h32 : lb Ls k = Y
      · have e1 : decide (lb Ls k = Y) = true := by simp [h32]
        rw [e1]
        clear e1
        have H32 := Lib.hid h32
        clear h32
        go_wp2_with fail
        go_ret
        refine ⟨⟨_, rfl, fun h => ?_, fun _ => by omega⟩, rfl⟩
        exact absurd H32.out (h k (by rw [Hl.out]; omega))
      · have e1 : decide (lb Ls k = Y) = false := by simp [h32]
        rw [e1]
        clear e1
        have H32 := Lib.hid h32
        clear h32
        go_wp2_with fail
        go_roundw
        case rel =>
          refine ⟨k + 1, by rw [Hl.out]; omega, by go_num, fun j hj => ?_, rfl⟩
          by_cases hjk : j = k
          · subst hjk; exact H32.out
          · exact Hall.out j (by omega)
        case measure => simp [intOf]; omega
    · obtain rfl : k = n := by omega
      go_wp2_with fail
      go_ret
      refine ⟨⟨_, rfl, fun _ => rfl, fun h => absurd (fun j hj => ?_) h⟩, rfl⟩
      exact Hall.out j (by rw [← Hl.out]; exact hj)
theorem containsc_any (A B : Option Addr) (n c m d g : Nat) (Ls : List (List UInt8)) (Y : List UInt8) (w : World) (hr : RBB w A n c Ls) (hY : RB w B m d Y) (hg : w.cell? ⟨g, 0, none⟩ = some (.slice B m d)) :
    Calls Try.prog 62 #[.slice A n c, .func (.func 133) #[] #[.pointer (some ⟨g, 0, none⟩)]] w fun e w' => (∃ b, e = .returned (.bool b) ∧ (noneEq Ls Y → b = false) ∧ (¬ noneEq Ls Y → b = true)) ∧ w' = w := by
  go_enter Try.func62, Try.ntmps62
  go_wp2_with fail
  refine (indexc_any A B n c m d g Ls Y w hr hY hg).mono ?_
  rintro e w2 ⟨⟨x, rfl, h1, h2⟩, rfl⟩
  have Hx1 := Lib.hid h1
  have Hx2 := Lib.hid h2
  clear h1 h2
  go_wp2_with fail
  go_ret
  refine ⟨⟨_, rfl, fun h => ?_, fun h => ?_⟩, rfl⟩
  · have := Hx1.out h; simp; omega
  · have := Hx2.out h; simp; omega
theorem RBB.take_ {w : World} {A : Option Addr} {n c : Nat} {Ls : List (List UInt8)} (h : RBB w A n c Ls) {k : Nat} (hk : k ≤ n) : RBB w A k c (Ls.take k) := by
  have hl := h.len
  refine ⟨by simp; omega, Nat.le_trans hk h.room, h.cap, fun h0 => ?_⟩
  obtain ⟨ad, ha, hc⟩ := h.cells (by omega)
  refine ⟨ad, ha, fun j hj => ?_⟩
  have e : lb (Ls.take k) j = lb Ls j := by unfold lb; simp [List.getElem?_take_of_lt hj]
  rw [e]
  exact hc j (by omega)
def CRI (w1 : World) (Ws : List (List UInt8)) (i : Value) (wr : World) : Prop := ∃ k : Nat, k ≤ Ws.length ∧ i = .int .i64 k ∧ okW Ws k ∧ Ext w1 wr
set_option maxHeartbeats 8000000 in
theorem cosright_any (G A : Option Addr) (ng cg n c : Nat) (q : Int) (LG : List UInt8) (Ws : List (List UInt8)) (w : World) (rG : RB w G ng cg LG) (rW : RBB w A n c Ws) :
    Calls Try.prog 117 #[.agg #[.slice G ng cg, .slice A n c, .int .i64 q]] w fun e w' => e = .returned (.bool (polB LG Ws q)) ∧ Ext w w' := by
  have hEa := Ext.new w (.cells #[.slice G ng cg, .slice A n c, .int .i64 q] 52)
  have hB := Blk.new w 52 #[.slice G ng cg, .slice A n c, .int .i64 q]
  have hlg := rG.len
  have hlw := rW.len
  have hcap := rW.cap
  have hroom := rW.room
  unfold maxLen at hcap
  go_enter Try.func117, Try.ntmps117
  go_wp2_with fail
  refine (ckey_any G ng cg _).mono ?_
  rintro e w2 ⟨rfl, rfl⟩
  by_cases hA : ng = 32 ∧ 1 ≤ n ∧ n ≤ 4 ∧ 1 ≤ q ∧ q ≤ (n : Int)
  · obtain ⟨a1, a2, a3, a4, a5⟩ := hA
    subst a1
    have e1 : decide ((32 : Nat) = 32) = true := by simp
    rw [e1]
    have hpol : okW Ws Ws.length → polB LG Ws q = true := polB_yes ⟨by omega, by omega, by omega, a4, by omega⟩
    have hnol : ¬ okW Ws Ws.length → polB LG Ws q = false := polB_noW
    have Hpol := Lib.hid hpol
    have Hnol := Lib.hid hnol
    have Hlw := Lib.hid hlw
    have b1 : ¬ ((n : Int) < 1) := by omega
    have b2 : ¬ ((4 : Int) < (n : Int)) := by omega
    have b3 : ¬ (q < 1) := by omega
    have b4 : ¬ ((n : Int) < q) := by omega
    clear hpol hnol hlw hlg e1
    go_wp2_with fail
    generalize w.alloc (.cells #[.slice G 32 cg, .slice A n c, .int .i64 q] 52) = w1 at *
    obtain ⟨gp, hgp⟩ : ∃ gp, gp = w.heap.size := ⟨_, rfl⟩
    rw [← hgp] at hB ⊢
    clear hgp b1 b2 b3 b4
    replace rW := rW.ext hEa
    clear rG
    go_loopw [36] (fun i wr => CRI w1 Ws i wr) (fun i _ => n - (intOf i).toNat)
    case atStart => exact ⟨0, by omega, rfl, fun i hi => absurd hi (Nat.not_lt_zero _), Ext.refl _⟩
    case round =>
      obtain ⟨k, hk, rfl, hok, hEr⟩ := hrel
      rw [Hlw.out] at hk
      have Hok := Lib.hid hok
      replace hB := hB.ext hEr
      replace rW := rW.ext hEr
      replace hEa := hEa.trans hEr
      clear hok
      by_cases hlt : k < n
      · have hki : (k : Int) < (n : Int) := by omega
        have rT := rW.take_ (k := k) (by omega)
        obtain ⟨ad, rfl, hc⟩ := rW.cells (by omega)
        obtain ⟨E, z, y, hcell, hrE⟩ := hc k hlt
        have hz := Lib.hid hrE.len
        have hEn := Ext.new wr (.cells #[.slice E z y] 22)
        have hB5 := Blk.new wr 22 #[.slice E z y]
        have y1 := (hB.ext hEn).cell (i := 1) (v := .slice (some ad) n c) rfl
        have y5 := hB5.cell (i := 0) (v := .slice E z y) rfl
        have hct := containsc_any (some ad) E k c z y wr.heap.size _ _ _ (rT.ext hEn) (hrE.ext hEn) y5
        have Hct := Lib.hid hct
        replace hEr := hEr.trans hEn
        replace hEa := hEa.trans hEn
        clear hct hEn hB5 hc hrE rT
        go_wp2_with fail
        refine (ckey_any E z y _).mono ?_
        rintro e w3 ⟨rfl, rfl⟩
        by_cases h32 : z = 32
        · subst h32
          have e1 : decide ((32 : Nat) = 32) = true := by simp
          rw [e1]
          clear e1
          go_wp2_with fail
          refine Hct.out.mono ?_
          rintro e w3 ⟨⟨b, rfl, hb1, hb2⟩, rfl⟩
          by_cases hne : noneEq (Ws.take k) (lb Ws k)
          · rw [hb1 hne]
            have hok1 : okW Ws (k + 1) := by
              intro i hi
              by_cases hik : i = k
              · subst hik
                refine ⟨hz.out, fun j hj => ?_⟩
                have h1 := hne j (by simp [Hlw.out]; omega)
                have e : lb (Ws.take i) j = lb Ws j := by unfold lb; simp [List.getElem?_take_of_lt hj]
                rwa [e] at h1
              · exact Hok.out i (by omega)
            have Hok1 := Lib.hid hok1
            clear hb1 hb2 hne hok1
            go_wp2_with fail
            go_roundw
            case rel => exact ⟨k + 1, by rw [Hlw.out]; omega, by go_num, Hok1.out, hEr⟩
            case measure => simp [intOf]; omega
          · rw [hb2 hne]
            have hno : ¬ okW Ws Ws.length := by
              intro h
              refine hne fun j hj => ?_
              have hj2 : j < k := by simp at hj; omega
              have e : lb (Ws.take k) j = lb Ws j := by unfold lb; simp [List.getElem?_take_of_lt hj2]
              rw [e]
              exact (h k (by rw [Hlw.out]; exact hlt)).2 j hj2
            have Hno := Lib.hid hno
            clear hb1 hb2 hne hno
            go_wp2_with fail
            go_ret
            exact ⟨by rw [Hnol.out Hno.out]; rfl, hEa⟩
        · have e1 : decide (z = 32) = false := by simp [h32]
          rw [e1]
          have hno : ¬ okW Ws Ws.length := by
            intro h
            have h1 := (h k (by rw [Hlw.out]; exact hlt)).1
            rw [hz.out] at h1
            exact h32 h1
          have Hno := Lib.hid hno
          clear e1 hno
          go_wp2_with fail
          go_ret
          exact ⟨by rw [Hnol.out Hno.out]; rfl, hEa⟩
      · obtain rfl : k = n := by omega
        go_wp2_with fail
        go_ret
        exact ⟨by rw [Hpol.out (by rw [Hlw.out]; exact Hok.out)]; rfl, hEa⟩
  · have hno : polB LG Ws q = false := polB_no (fun h => hA ⟨by omega, by omega, by omega, h.2.2.2.1, by omega⟩)
    have Hno := Lib.hid hno
    clear hno hlg hlw
    by_cases a1 : ng = 32
    · subst a1
      have e1 : decide ((32 : Nat) = 32) = true := by simp
      rw [e1]
      clear e1
      by_cases a2 : (n : Int) < 1
      · clear hA
        go_wp2_with fail
        go_ret
        exact ⟨by rw [Hno.out]; rfl, hEa⟩
      · by_cases a3 : (4 : Int) < (n : Int)
        · clear hA
          go_wp2_with fail
          go_ret
          exact ⟨by rw [Hno.out]; rfl, hEa⟩
        · by_cases a4 : q < 1
          · clear hA
            go_wp2_with fail
            go_ret
            exact ⟨by rw [Hno.out]; rfl, hEa⟩
          · have a5 : (n : Int) < q := by
              by_cases h : (n : Int) < q
              · exact h
              · exact absurd ⟨rfl, by omega, by omega, by omega, by omega⟩ hA
            clear hA
            go_wp2_with fail
            go_ret
            exact ⟨by rw [Hno.out]; rfl, hEa⟩
    · have e1 : decide (ng = 32) = false := by simp [a1]
      rw [e1]
      clear e1 hA
      go_wp2_with fail
      go_ret
      exact ⟨by rw [Hno.out]; rfl, hEa⟩
end Go.Proofs.Ytkndgpjamijbbaa
