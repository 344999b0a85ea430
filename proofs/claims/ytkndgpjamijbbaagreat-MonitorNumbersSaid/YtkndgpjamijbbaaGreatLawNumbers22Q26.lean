/-
  check.Get, check.Decode, walked. A region that draws its order and ends by storing the first part of a tuple and handing on the second: the second part may be taken out before or behind the store. Plain theorems. check.Decode; ref10's Get, walked. The statements' helpers, walked: Hash, Manifest, Item. law10.known, law10.equal, law10.signed, walked. hash.Hex and the statements' own hex, walked: two signs a byte. cosign.count, Count, Met; ref10's Count, walked. cosign.Sign, walked. law11's owners, walked: a row of owners. law11's policy, walked.
-/
import Derived.Test.YtkndgpjamijbbaaGreatLawNumbers22Q21
import Derived.Test.YtkndgpjamijbbaaGreatLawNumbers22Q22
import Derived.Test.YtkndgpjamijbbaaGreatLawNumbers22Q25
import Derived.Test.YtkndgpjamijbbaaGreatLawNumbers22Q23
import Derived.Test.YtkndgpjamijbbaaGreatLawNumbers22Q4
import Derived.Test.YtkndgpjamijbbaaGreatLawNumbers22Q19
import Derived.Deep.MidRow
import Derived.Test.YtkndgpjamijbbaaGreatLawNumbers22Q12
import Derived.Test.YtkndgpjamijbbaaGreatLawNumbers22Q24
import Derived.Test.YtkndgpjamijbbaaGreatLawNumbers22Q11
import Derived.Test.YtkndgpjamijbbaaGreatLawNumbers22Q1
namespace Go.Proofs.YtkndgpjamijbbaaGreat
set_option maxRecDepth 100000
open Go Go.RowKit
theorem RdrS.away {w w' : World} {base q : Nat} {L : List UInt8} {bad : Bool} (h : RdrS w base q L bad) {k : Nat} {t : TypeId} {cs : Array Value} (hb : Blk w k t cs) (ht : t ≠ 126) (hno : ∀ (i : Nat) (x : Int), cs[i]? ≠ some (.int .u8 x)) (g : w.grownBy w' (some k)) : RdrS w' base q L bad := by
  obtain ⟨A', n', c', hn, hR⟩ := h
  have hbA : 0 < n' → blk A' ≠ some k := hR.rb.apart5 hb hno
  refine ⟨A', n', c', hn, hR.blk.grown g (fun e => ?_), hR.rb.grown g hbA, hR.ne, hR.base, fun h0 k' hk => ?_⟩
  · injection e with e
    subst e
    have h1 := hR.blk
    unfold Blk at h1 hb
    rw [h1] at hb
    injection hb with hb
    injection hb with _ hb
    exact ht hb.symm
  · obtain ⟨cs', fr, h1⟩ := hR.ty h0 k' hk
    exact ⟨cs', fr, (g.block k' (Array.getElem?_eq_some_iff.1 h1).1 (fun e => hbA h0 (by rw [hk, e]))).trans h1⟩
theorem RdrS.set5 {w : World} {base q : Nat} {L : List UInt8} {bad : Bool} (h : RdrS w base q L bad) {g : Nat} {t : TypeId} (ht : t ≠ 126) {x k : Int} {A0 P Q : Option Addr} {n0 c0 np cp nq cq : Nat} (hB : Blk w g t (sgdC x A0 n0 c0 k P np cp Q nq cq))
    (x' k' : Int) (A1 P1 Q1 : Option Addr) (n1 c1 np1 cp1 nq1 cq1 : Nat) : RdrS (((((w.setCell ⟨g, 0, none⟩ (.int .i64 x')).setCell ⟨g, 1, none⟩ (.slice A1 n1 c1)).setCell ⟨g, 2, none⟩ (.int .i64 k')).setCell ⟨g, 3, none⟩ (.slice P1 np1 cp1)).setCell ⟨g, 4, none⟩ (.slice Q1 nq1 cq1)) base q L bad := by
  have b0 : Blk (w.setCell ⟨g, 0, none⟩ (.int .i64 x')) g t (sgdC x' A0 n0 c0 k P np cp Q nq cq) := hB.set 0 _
  have b1 : Blk _ g t (sgdC x' A1 n1 c1 k P np cp Q nq cq) := b0.set 1 (.slice A1 n1 c1)
  have b2 : Blk _ g t (sgdC x' A1 n1 c1 k' P np cp Q nq cq) := b1.set 2 (.int .i64 k')
  have b3 : Blk _ g t (sgdC x' A1 n1 c1 k' P1 np1 cp1 Q nq cq) := b2.set 3 (.slice P1 np1 cp1)
  exact ((((h.away hB ht (sgd_no _ _ _ _ _ _ _ _ _ _ _) (grown_set w ⟨g, 0, none⟩ (.int .i64 x'))).away b0 ht (sgd_no _ _ _ _ _ _ _ _ _ _ _) (grown_set _ ⟨g, 1, none⟩ (.slice A1 n1 c1))).away b1 ht (sgd_no _ _ _ _ _ _ _ _ _ _ _) (grown_set _ ⟨g, 2, none⟩ (.int .i64 k'))).away b2 ht (sgd_no _ _ _ _ _ _ _ _ _ _ _) (grown_set _ ⟨g, 3, none⟩ (.slice P1 np1 cp1))).away b3 ht (sgd_no _ _ _ _ _ _ _ _ _ _ _) (grown_set _ ⟨g, 4, none⟩ (.slice Q1 nq1 cq1))
end Go.Proofs.YtkndgpjamijbbaaGreat
namespace Go.Proofs.YtkndgpjamijbbaaGreat
set_option maxRecDepth 100000
open Go Go.RowKit
def isSl : Option Value → Bool
  | some (.slice _ _ _) => true
  | _ => false
end Go.Proofs.YtkndgpjamijbbaaGreat
namespace Go.Proofs.YtkndgpjamijbbaaGreat
set_option maxRecDepth 100000
open Go Go.RowKit
theorem RBB.away {w w' : World} {A : Option Addr} {n c : Nat} {Ls : List (List UInt8)} (h : RBB w A n c Ls) {k : Nat} {t : TypeId} {cs : Array Value} (hb : Blk w k t cs) (hno : ∀ (i : Nat) (x : Int), cs[i]? ≠ some (.int .u8 x)) (g : w.grownBy w' (some k)) (hA : 0 < n → blk A ≠ some k) : RBB w' A n c Ls :=
  ⟨h.len, h.room, h.cap, fun hn => by
    obtain ⟨ad, rfl, hc⟩ := h.cells hn
    refine ⟨ad, rfl, fun j hj => ?_⟩
    obtain ⟨B, m, d, h1, h2⟩ := hc j hj
    exact ⟨B, m, d, g.cell h1 (by rw [block_of_add]; exact hA hn), h2.grown g (h2.apart5 hb hno)⟩⟩
theorem RBB.apart_sgd {w : World} {A : Option Addr} {n c : Nat} {Ls : List (List UInt8)} (h : RBB w A n c Ls) (hn : 3 ≤ n) {g : Nat} {t : TypeId} {x k : Int} {A0 P Q : Option Addr} {n0 c0 np cp nq cq : Nat} (hB : Blk w g t (sgdC x A0 n0 c0 k P np cp Q nq cq)) : blk A ≠ some g := by
  obtain ⟨ad, rfl, hc⟩ := h.cells (by omega)
  intro e
  have e2 : ad.block = g := by
    have e3 : some ad.block = some g := e
    injection e3
  unfold Blk at hB
  have key : ∀ j v, w.cell? (ad.add j) = some v → (sgdC x A0 n0 c0 k P np cp Q nq cq)[ad.off + j]? = some v := by
    intro j v h1
    unfold World.cell? at h1
    have h3 : (ad.add j).block = g := by rw [block_of_add, e2]
    have h4 : (ad.add j).off = ad.off + j := by
      unfold Addr.add
      by_cases hj : j = 0
      · rw [if_pos hj, hj]; rfl
      · rw [if_neg hj]
    rw [h3, hB] at h1
    by_cases hs : (ad.add j).spot.isSome = true
    · simp [hs] at h1
    · simp only [hs] at h1
      rw [h4] at h1
      exact h1
  obtain ⟨B0, m0, d0, h0, _⟩ := hc 0 (by omega)
  obtain ⟨B1, m1, d1, h1, _⟩ := hc 1 (by omega)
  obtain ⟨B2, m2, d2, h2, _⟩ := hc 2 (by omega)
  have k0 := key _ _ h0
  have k1 := key _ _ h1
  have k2 := key _ _ h2
  unfold sgdC at k0 k1 k2
  generalize ad.off = o at *
  rcases o with _ | _ | _ | _ | _ | o <;> simp at k0 k1 k2
theorem RBB.apart3 {w : World} {A : Option Addr} {n c : Nat} {Ls : List (List UInt8)} (h : RBB w A n c Ls) {g : Nat} {t : TypeId} {cs : Array Value} (hB : Blk w g t cs) (hno : ∀ (i : Nat) (a b c : Value), cs[i]? = some a → cs[i + 1]? = some b → cs[i + 2]? = some c → ¬ (isSl (some a) = true ∧ isSl (some b) = true ∧ isSl (some c) = true)) (hn : 3 ≤ n) : blk A ≠ some g := by
  obtain ⟨ad, rfl, hc⟩ := h.cells (by omega)
  intro e
  have e2 : ad.block = g := by
    have e3 : some ad.block = some g := e
    injection e3
  unfold Blk at hB
  have key : ∀ j v, w.cell? (ad.add j) = some v → cs[ad.off + j]? = some v := by
    intro j v h1
    unfold World.cell? at h1
    have h3 : (ad.add j).block = g := by rw [block_of_add, e2]
    have h4 : (ad.add j).off = ad.off + j := by
      unfold Addr.add
      by_cases hj : j = 0
      · rw [if_pos hj, hj]; rfl
      · rw [if_neg hj]
    rw [h3, hB] at h1
    by_cases hs : (ad.add j).spot.isSome = true
    · simp [hs] at h1
    · simp only [hs] at h1
      rw [h4] at h1
      exact h1
  obtain ⟨B0, m0, d0, h0, _⟩ := hc 0 (by omega)
  obtain ⟨B1, m1, d1, h1, _⟩ := hc 1 (by omega)
  obtain ⟨B2, m2, d2, h2, _⟩ := hc 2 (by omega)
  exact hno _ _ _ _ (key _ _ h0) (key _ _ h1) (key _ _ h2) ⟨rfl, rfl, rfl⟩
theorem RBB.set5 {w : World} {A : Option Addr} {n c : Nat} {L : List (List UInt8)} (h : RBB w A n c L) (hn : 3 ≤ n) {g : Nat} {t : TypeId} {x k : Int} {A0 P Q : Option Addr} {n0 c0 np cp nq cq : Nat} (hB : Blk w g t (sgdC x A0 n0 c0 k P np cp Q nq cq))
    (x' k' : Int) (A1 P1 Q1 : Option Addr) (n1 c1 np1 cp1 nq1 cq1 : Nat) : RBB (((((w.setCell ⟨g, 0, none⟩ (.int .i64 x')).setCell ⟨g, 1, none⟩ (.slice A1 n1 c1)).setCell ⟨g, 2, none⟩ (.int .i64 k')).setCell ⟨g, 3, none⟩ (.slice P1 np1 cp1)).setCell ⟨g, 4, none⟩ (.slice Q1 nq1 cq1)) A n c L := by
  have b0 : Blk (w.setCell ⟨g, 0, none⟩ (.int .i64 x')) g t (sgdC x' A0 n0 c0 k P np cp Q nq cq) := hB.set 0 _
  have b1 : Blk _ g t (sgdC x' A1 n1 c1 k P np cp Q nq cq) := b0.set 1 (.slice A1 n1 c1)
  have b2 : Blk _ g t (sgdC x' A1 n1 c1 k' P np cp Q nq cq) := b1.set 2 (.int .i64 k')
  have b3 : Blk _ g t (sgdC x' A1 n1 c1 k' P1 np1 cp1 Q nq cq) := b2.set 3 (.slice P1 np1 cp1)
  have hA : 0 < n → blk A ≠ some g := fun _ => h.apart_sgd hn hB
  exact ((((h.away hB (sgd_no _ _ _ _ _ _ _ _ _ _ _) (grown_set w ⟨g, 0, none⟩ (.int .i64 x')) hA).away b0 (sgd_no _ _ _ _ _ _ _ _ _ _ _) (grown_set _ ⟨g, 1, none⟩ (.slice A1 n1 c1)) hA).away b1 (sgd_no _ _ _ _ _ _ _ _ _ _ _) (grown_set _ ⟨g, 2, none⟩ (.int .i64 k')) hA).away b2 (sgd_no _ _ _ _ _ _ _ _ _ _ _) (grown_set _ ⟨g, 3, none⟩ (.slice P1 np1 cp1)) hA).away b3 (sgd_no _ _ _ _ _ _ _ _ _ _ _) (grown_set _ ⟨g, 4, none⟩ (.slice Q1 nq1 cq1)) hA
theorem RR.away {w w' : World} {base q : Nat} {L : List UInt8} {bad : Bool} (h : RR w base q L bad) {k : Nat} {t : TypeId} {cs : Array Value} (hb : Blk w k t cs) (ht : t ≠ 85) (hno : ∀ (i : Nat) (x : Int), cs[i]? ≠ some (.int .u8 x)) (g : w.grownBy w' (some k)) : RR w' base q L bad := by
  obtain ⟨A, n', c', At, B, h1, h2, h3⟩ := h
  refine ⟨A, n', c', At, B, h1.grown g (fun e => ?_), h2.grown g (h2.apart5 hb hno), h3⟩
  injection e with e
  subst e
  unfold Blk at h1 hb
  rw [h1] at hb
  injection hb with hb
  injection hb with _ hb
  exact ht hb.symm
theorem RR.set5 {w : World} {base q : Nat} {L : List UInt8} {bad : Bool} (h : RR w base q L bad) {g : Nat} {t : TypeId} (ht : t ≠ 85) {x k : Int} {A0 P Q : Option Addr} {n0 c0 np cp nq cq : Nat} (hB : Blk w g t (sgdC x A0 n0 c0 k P np cp Q nq cq))
    (x' k' : Int) (A1 P1 Q1 : Option Addr) (n1 c1 np1 cp1 nq1 cq1 : Nat) : RR (((((w.setCell ⟨g, 0, none⟩ (.int .i64 x')).setCell ⟨g, 1, none⟩ (.slice A1 n1 c1)).setCell ⟨g, 2, none⟩ (.int .i64 k')).setCell ⟨g, 3, none⟩ (.slice P1 np1 cp1)).setCell ⟨g, 4, none⟩ (.slice Q1 nq1 cq1)) base q L bad := by
  have b0 : Blk (w.setCell ⟨g, 0, none⟩ (.int .i64 x')) g t (sgdC x' A0 n0 c0 k P np cp Q nq cq) := hB.set 0 _
  have b1 : Blk _ g t (sgdC x' A1 n1 c1 k P np cp Q nq cq) := b0.set 1 (.slice A1 n1 c1)
  have b2 : Blk _ g t (sgdC x' A1 n1 c1 k' P np cp Q nq cq) := b1.set 2 (.int .i64 k')
  have b3 : Blk _ g t (sgdC x' A1 n1 c1 k' P1 np1 cp1 Q nq cq) := b2.set 3 (.slice P1 np1 cp1)
  exact ((((h.away hB ht (sgd_no _ _ _ _ _ _ _ _ _ _ _) (grown_set w ⟨g, 0, none⟩ (.int .i64 x'))).away b0 ht (sgd_no _ _ _ _ _ _ _ _ _ _ _) (grown_set _ ⟨g, 1, none⟩ (.slice A1 n1 c1))).away b1 ht (sgd_no _ _ _ _ _ _ _ _ _ _ _) (grown_set _ ⟨g, 2, none⟩ (.int .i64 k'))).away b2 ht (sgd_no _ _ _ _ _ _ _ _ _ _ _) (grown_set _ ⟨g, 3, none⟩ (.slice P1 np1 cp1))).away b3 ht (sgd_no _ _ _ _ _ _ _ _ _ _ _) (grown_set _ ⟨g, 4, none⟩ (.slice Q1 nq1 cq1))
end Go.Proofs.YtkndgpjamijbbaaGreat
namespace Go.Proofs.YtkndgpjamijbbaaGreat
set_option maxRecDepth 100000
open Go Go.RowKit
def u8of (x : Int) : UInt8 := UInt8.ofNat (x % 256).toNat
def khash (x : Int) : List UInt8 := tagged 98 [u8of (within x 0 100000)]
def verOf (k : Nat) : UInt32 := UInt32.ofNat (1 + k % 9)
def nm3 : List UInt8 := [103, 97, 117, 103, 101, 111, 102, 116, 104, 101, 108, 111, 110, 103, 101, 115, 116, 110, 97, 109]
def nmOf : Nat → List UInt8
  | 0 => [112, 117, 109, 112]
  | 1 => [118, 97, 108, 118, 101]
  | 2 => [97]
  | _ => nm3
def kman (a v f : Int) : Man := ⟨nmOf ((within a 0 1000).toNat % 4), verOf (within v 0 100000).toNat, khash (f.tmod 4), [u8of f]⟩
theorem kman_right (a v f : Int) : rightM (kman a v f) = true := by
  have h1 : ∀ k, nameOK (nmOf (k % 4)) = true := by
    intro k
    have : k % 4 = 0 ∨ k % 4 = 1 ∨ k % 4 = 2 ∨ k % 4 = 3 := by omega
    rcases this with e | e | e | e <;> rw [e] <;> decide
  have h2 : 0 < u32i (verOf (within v 0 100000).toNat) := by
    unfold u32i verOf
    rw [UInt32.toNat_ofNat']
    omega
  have h3 : (khash (f.tmod 4)).length = 32 := tagged_length _ _
  simp [rightM, kman, h1, h2, h3]
theorem conv_i64_u8x {P : Program} {w : World} {s t : TypeId} (hs : P.underlying s = some (.int .i64)) (ht : P.underlying t = some (.int .u8)) (x : Int) : (convert s t (.int .i64 x)).run P w = .ok (.int .u8 (u8i (u8of x))) w := by
  have e : IntKind.u8.wrap x = u8i (u8of x) := by
    unfold u8i u8of
    rw [IntKind.wrap_u8, UInt8.toNat_ofNat']
    omega
  simp [convert, run_underlying hs, run_underlying ht, Conv.intToInt, e]
theorem bin_remi {P : Program} {w : World} (t : TypeId) (x d : Int) (hd : 0 < d) (hd1 : d ≤ 1000000) : (binOp .rem t (.int .i64 x) (.int .i64 d)).run P w = .ok (.int .i64 (x.tmod d)) w := by
  have h1 : d ≠ 0 := by omega
  have h2 : d ≠ -1 := by omega
  have h3 := Int.tmod_lt_of_pos x hd
  have h4 := (tmod_is x d hd).2.1
  simp [binOp, Op.intDiv, h1]
theorem bin_remn {P : Program} {w : World} (t : TypeId) (x d : Nat) (hd : 0 < d) (hd1 : d ≤ 1000000) : (binOp .rem t (.int .i64 (x : Int)) (.int .i64 (d : Int))).run P w = .ok (.int .i64 ((x % d : Nat) : Int)) w := by
  rw [bin_remi t (x : Int) (d : Int) (by omega) (by omega)]
  rfl
theorem bin_addn {P : Program} {w : World} (t : TypeId) (x y : Nat) (h : x + y ≤ 1000000) : (binOp .add t (.int .i64 (x : Int)) (.int .i64 (y : Int))).run P w = .ok (.int .i64 ((x + y : Nat) : Int)) w := by
  rw [bin_add64 t (x : Int) (y : Int) (by omega) (by omega)]
  rfl
def nameCells : Array Value := #[.string ⟨#[112, 117, 109, 112]⟩, .string ⟨#[118, 97, 108, 118, 101]⟩, .string ⟨#[97]⟩, .string (str nm3)]
theorem run_names (w : World) : (Instr.buildSlice 113 4 #[(0, .string ⟨#[112, 117, 109, 112]⟩), (1, .string ⟨#[118, 97, 108, 118, 101]⟩), (2, .string ⟨#[97]⟩), (3, .string (str nm3))]).run Tryz.prog w = .ok (.slice (some ⟨w.heap.size, 0, none⟩) 4 4) (w.alloc (.cells nameCells 9)) := by
  unfold nameCells
  go_simp
def MP.names : MP Ext := ⟨fun u w => ∃ g, u = .slice (some ⟨g, 0, none⟩) 4 4 ∧ Blk w g 9 nameCells, fun _ _ _ e ⟨g, h1, h2⟩ => ⟨g, h1, h2.ext e⟩⟩
def MP.nameAt (k : Nat) : MP Ext := ⟨fun u w => ∃ p, u = .pointer (some p) ∧ w.cell? p = some (.string (str (nmOf k))), fun _ _ _ e ⟨p, h1, h2⟩ => ⟨p, h1, e.cell h2⟩⟩
def MP.mann (m : Man) : MP Ext := ⟨fun u w => ∃ F nf cf N nn cn, u = manV m F nf cf N nn cn ∧ RB w F nf cf m.fw ∧ RB w N nn cn m.notes, fun _ _ _ e ⟨F, nf, cf, N, nn, cn, h1, h2, h3⟩ => ⟨F, nf, cf, N, nn, cn, h1, h2.ext e, h3.ext e⟩⟩
theorem names_cell {w : World} {g k : Nat} (h : Blk w g 9 nameCells) (hk : k < 4) : w.cell? ((⟨g, 0, none⟩ : Addr).add k) = some (.string (str (nmOf k))) := by
  have e : (⟨g, 0, none⟩ : Addr).add k = ⟨g, k, none⟩ := add_plain g k
  rw [e]
  refine h.cell ?_
  match k, hk with
  | 0, _ => rfl
  | 1, _ => rfl
  | 2, _ => rfl
  | 3, _ => rfl
noncomputable def infs : TypeInfo := (Tryz.prog.info? 9).getD default
theorem infs_eq : Tryz.prog.info? 9 = some infs := by kernel_rfl
theorem infs_size : infs.size = 1 := by kernel_rfl
theorem RBB.lit1 {w : World} {B : Option Addr} {m d : Nat} {L : List UInt8} (h : RB w B m d L) (t : TypeId) : RBB (w.alloc (.cells #[.slice B m d] t)) (some ⟨w.heap.size, 0, none⟩) 1 1 [L] :=
  ⟨rfl, Nat.le_refl _, small_maxLen (by decide), fun _ => ⟨_, rfl, fun j hj => by
    obtain rfl : j = 0 := by omega
    refine ⟨B, m, d, ?_, h.ext (Ext.new w _)⟩
    have e : (⟨w.heap.size, 0, none⟩ : Addr).add 0 = ⟨w.heap.size, 0, none⟩ := add_plain _ 0
    rw [e]
    exact (Blk.new w t _).cell rfl⟩⟩
set_option maxHeartbeats 1000000 in
theorem hash_any (x : Int) (w : World) (hx0 : -9223372036854775808 ≤ x) (hx1 : x ≤ 9223372036854775807) :
    Calls Tryz.prog 19 #[.int .i64 x] w fun e w' => ∃ A' c', e = .returned (.slice A' 32 c') ∧ OB w' w.heap.size A' 32 c' (khash x) ∧ Ext w w' := by
  have hc := fun w' : World => conv_i64_u8x (P := Tryz.prog) (w := w') Tryz.underlying3 Tryz.underlying5 (within x 0 100000)
  unfold khash
  obtain ⟨z, hz⟩ : ∃ z, z = within x 0 100000 := ⟨_, rfl⟩
  rw [← hz] at hc ⊢
  have Hz := Lib.hid hz
  clear hz
  go_enter Tryz.func19, Tryz.ntmps19
  go_wp2_with fail
  refine (within_any x 0 100000 w hx0 hx1 (by omega) (by omega) (by omega)).mono ?_
  rintro e w1 ⟨rfl, rfl⟩
  rw [← Hz.out]
  go_wp2_with fail
  have hb : RB (w.alloc (.cells #[.int .u8 (u8i (u8of z))] 5)) (some ⟨w.heap.size, 0, none⟩) 1 1 [u8of z] := RB.lit w [u8of z] rfl (small_maxLen (by simp))
  have hr := RBB.lit1 hb 26
  have hsz : (w.alloc (.cells #[.int .u8 (u8i (u8of z))] 5)).heap.size = w.heap.size + 1 := by
    show (w.heap.push _).size = _
    rw [Array.size_push]
  have hcon := rtagged_any 98 _ 1 1 [[u8of z]] _ hr (by simp)
  have e98 : u8i 98 = 98 := rfl
  rw [hsz, e98] at hcon
  refine hcon.mono ?_
  rintro e w2 ⟨A', c', rfl, own, hE⟩
  go_wp2_with fail
  go_ret
  have hE0 := ((Ext.refl w).alloc (.cells (bv [u8of z]).toArray 5)).alloc (.cells #[.slice (some ⟨w.heap.size, 0, none⟩) 1 1] 26)
  exact ⟨A', c', rfl, own.base hE0.size, hE0.trans hE⟩
set_option maxHeartbeats 4000000 in
theorem kman_any (a v f : Int) (w : World) (ha0 : -9223372036854775808 ≤ a) (ha1 : a ≤ 9223372036854775807) (hv0 : -9223372036854775808 ≤ v) (hv1 : v ≤ 9223372036854775807) (hf0 : -9223372036854775808 ≤ f) (hf1 : f ≤ 9223372036854775807) :
    Calls Tryz.prog 54 #[.int .i64 a, .int .i64 v, .int .i64 f] w fun e w' => ∃ F nf cf N nn cn, e = .returned (manV (kman a v f) F nf cf N nn cn) ∧ RB w' F nf cf (kman a v f).fw ∧ RB w' N nn cn (kman a v f).notes ∧ Ext w w' := by
  obtain ⟨ka, hka⟩ : ∃ ka : Nat, within a 0 1000 = ka := ⟨_, (Int.toNat_of_nonneg (within_in a 0 1000 (by omega)).1).symm⟩
  obtain ⟨kv, hkv⟩ : ∃ kv : Nat, within v 0 100000 = kv := ⟨_, (Int.toNat_of_nonneg (within_in v 0 100000 (by omega)).1).symm⟩
  have hk : kman a v f = ⟨nmOf (ka % 4), verOf kv, khash (f.tmod 4), [u8of f]⟩ := by unfold kman; rw [hka, hkv]; rfl
  rw [hk]
  have ht := tmod_is f 4 (by omega)
  have ht1 := ht.2.1
  have ht2 := ht.2.2
  clear ht hk
  go_enter Tryz.func54, Tryz.ntmps54
  go_upto_region 1 with (fail)
  obtain ⟨w0, hw0⟩ : ∃ w0, w0 = w.alloc (.cells #[.string ⟨#[]⟩, .int .u32 0, .slice none 0 0, .slice none 0 0] 58) := ⟨_, rfl⟩
  have hB : Blk w0 w.heap.size 58 #[.string ⟨#[]⟩, .int .u32 0, .slice none 0 0, .slice none 0 0] := by rw [hw0]; exact Blk.new w _ _
  have hE0 : Ext w w0 := by rw [hw0]; exact Ext.new w _
  rw [← hw0]
  clear hw0
  refine par_ext (n := 19) (by kernel_rfl) [.is (.string (str (nm3))), .names, .is (.int .i64 (a)), .is (.int .i64 (((ka : Nat) : Int))), .is (.int .i64 (((ka % 4 : Nat) : Int))), .nameAt (ka % 4), .is (.string (str (nmOf (ka % 4)))), .is (.int .i64 (v)), .is (.int .i64 (((kv : Nat) : Int))), .is (.int .i64 (((kv % 9 : Nat) : Int))), .is (.int .i64 (((1 + kv % 9 : Nat) : Int))), .is (.int .u32 (u32i (verOf kv))), .is (.int .i64 (f)), .is (.int .i64 (f.tmod 4)), .rb (khash (f.tmod 4)), .is (.int .i64 (f)), .is (.int .u8 (u8i (u8of f))), .rb ([(u8of f)]), .mann ⟨nmOf (ka % 4), verOf kv, khash (f.tmod 4), [u8of f]⟩] rfl ⟨?_, ?_, ?_, ?_, ?_, ?_, ?_, ?_, ?_, ?_, ?_, ?_, ?_, ?_, ?_, ?_, ?_, ?_, ?_, trivial⟩ ?_
  · refine stepE rfl fun sdn sa sw sE sd sk => ?_
    exact Runs.of_run (r := .string (str nm3)) (w' := sw) (by kernel_rfl) ⟨Ext.refl _, rfl⟩
  · refine stepE rfl fun sdn sa sw sE sd sk => ?_
    have h7 : sa.eval (.tmp 7) = .string (str (nm3)) := sk.fact 0 7 rfl (sd 0 rfl)
    refine Runs.of_run (r := .slice (some ⟨sw.heap.size, 0, none⟩) 4 4) (w' := sw.alloc (.cells nameCells 9)) ?_ ⟨Ext.new _ _, _, rfl, Blk.new _ _ _⟩
    unfold execOp
    simp only [List.map_toArray, List.map_cons, List.map_nil, h7, Sem.run_bind]
    show ((Instr.buildSlice 113 4 #[(0, .string ⟨#[112, 117, 109, 112]⟩), (1, .string ⟨#[118, 97, 108, 118, 101]⟩), (2, .string ⟨#[97]⟩), (3, .string (str nm3))]).run Tryz.prog sw).andThen _ = _
    rw [run_names]
    rfl
  · refine stepE rfl fun sdn sa sw sE sd sk => ?_
    have h0 : sa.eval (.tmp 0) = .int .i64 (a) := sk.old 0 rfl
    exact Runs.move rfl h0 ⟨Ext.refl _, rfl⟩
  · refine stepE rfl fun sdn sa sw sE sd sk => ?_
    have h9 : sa.eval (.tmp 9) = .int .i64 (a) := sk.fact 2 9 rfl (sd 2 rfl)
    have hcon := within_any a 0 1000 sw (by omega) (by omega) (by omega) (by omega) (by omega)
    rw [hka] at hcon
    refine Runs.call (f := 12) (vs := [.int .i64 a, .int .i64 0, .int .i64 1000]) rfl rfl rfl (by simp only [List.map_toArray, List.map_cons, List.map_nil, h9] <;> rfl) (ent12 _ _) (hcon.mono ?_); rintro e w' ⟨rfl, rfl⟩; exact ⟨_, rfl, Ext.refl _, rfl⟩
  · refine stepE rfl fun sdn sa sw sE sd sk => ?_
    have h10 : sa.eval (.tmp 10) = .int .i64 (((ka : Nat) : Int)) := sk.fact 3 10 rfl (sd 3 rfl)
    exact Runs.bin rfl h10 rfl (eqGuard_bin rfl) (bin_remn _ ka 4 (by omega) (by omega)) ⟨Ext.refl _, rfl⟩
  · refine stepE rfl fun sdn sa sw sE sd sk => ?_
    obtain ⟨g8, h8, r8⟩ := sk.fact 1 8 rfl (sd 1 rfl)
    have h11 : sa.eval (.tmp 11) = .int .i64 (((ka % 4 : Nat) : Int)) := sk.fact 4 11 rfl (sd 4 rfl)
    exact Runs.idx rfl h8 h11 (run_idx_sl1 Tryz.underlying113 infs_eq infs_size (ka % 4) (by omega) (by omega)) ⟨Ext.refl _, _, rfl, names_cell r8 (by omega)⟩
  · refine stepE rfl fun sdn sa sw sE sd sk => ?_
    obtain ⟨p12, h12, r12⟩ := sk.fact 5 12 rfl (sd 5 rfl)
    exact Runs.load rfl h12 (run_load1 Tryz.underlying9 rfl r12) ⟨Ext.refl _, rfl⟩
  · refine stepE rfl fun sdn sa sw sE sd sk => ?_
    have h1 : sa.eval (.tmp 1) = .int .i64 (v) := sk.old 1 rfl
    exact Runs.move rfl h1 ⟨Ext.refl _, rfl⟩
  · refine stepE rfl fun sdn sa sw sE sd sk => ?_
    have h14 : sa.eval (.tmp 14) = .int .i64 (v) := sk.fact 7 14 rfl (sd 7 rfl)
    have hcon := within_any v 0 100000 sw (by omega) (by omega) (by omega) (by omega) (by omega)
    rw [hkv] at hcon
    refine Runs.call (f := 12) (vs := [.int .i64 v, .int .i64 0, .int .i64 100000]) rfl rfl rfl (by simp only [List.map_toArray, List.map_cons, List.map_nil, h14] <;> rfl) (ent12 _ _) (hcon.mono ?_); rintro e w' ⟨rfl, rfl⟩; exact ⟨_, rfl, Ext.refl _, rfl⟩
  · refine stepE rfl fun sdn sa sw sE sd sk => ?_
    have h15 : sa.eval (.tmp 15) = .int .i64 (((kv : Nat) : Int)) := sk.fact 8 15 rfl (sd 8 rfl)
    exact Runs.bin rfl h15 rfl (eqGuard_bin rfl) (bin_remn _ kv 9 (by omega) (by omega)) ⟨Ext.refl _, rfl⟩
  · refine stepE rfl fun sdn sa sw sE sd sk => ?_
    have h16 : sa.eval (.tmp 16) = .int .i64 (((kv % 9 : Nat) : Int)) := sk.fact 9 16 rfl (sd 9 rfl)
    exact Runs.bin rfl rfl h16 (eqGuard_bin rfl) (bin_addn _ 1 (kv % 9) (by omega)) ⟨Ext.refl _, rfl⟩
  · refine stepE rfl fun sdn sa sw sE sd sk => ?_
    have h17 : sa.eval (.tmp 17) = .int .i64 (((1 + kv % 9 : Nat) : Int)) := sk.fact 10 17 rfl (sd 10 rfl)
    exact Runs.conv rfl h17 (conv_i64_u32 Tryz.underlying3 Tryz.underlying56 (1 + kv % 9)) ⟨Ext.refl _, rfl⟩
  · refine stepE rfl fun sdn sa sw sE sd sk => ?_
    have h2 : sa.eval (.tmp 2) = .int .i64 (f) := sk.old 2 rfl
    exact Runs.move rfl h2 ⟨Ext.refl _, rfl⟩
  · refine stepE rfl fun sdn sa sw sE sd sk => ?_
    have h19 : sa.eval (.tmp 19) = .int .i64 (f) := sk.fact 12 19 rfl (sd 12 rfl)
    exact Runs.bin rfl h19 rfl (eqGuard_bin rfl) (bin_remi _ f 4 (by omega) (by omega)) ⟨Ext.refl _, rfl⟩
  · refine stepE rfl fun sdn sa sw sE sd sk => ?_
    have h20 : sa.eval (.tmp 20) = .int .i64 (f.tmod 4) := sk.fact 13 20 rfl (sd 13 rfl)
    refine Runs.call (f := 19) (vs := [.int .i64 (f.tmod 4)]) rfl rfl rfl (by simp only [List.map_toArray, List.map_cons, List.map_nil, h20] <;> rfl) (ent19 _ _) ((hash_any (f.tmod 4) sw (by omega) (by omega)).mono ?_); rintro e w' ⟨A', c', rfl, o1, e1⟩; exact ⟨_, rfl, e1, _, _, _, rfl, o1.rb⟩
  · refine stepE rfl fun sdn sa sw sE sd sk => ?_
    have h2 : sa.eval (.tmp 2) = .int .i64 (f) := sk.old 2 rfl
    exact Runs.move rfl h2 ⟨Ext.refl _, rfl⟩
  · refine stepE rfl fun sdn sa sw sE sd sk => ?_
    have h22 : sa.eval (.tmp 22) = .int .i64 (f) := sk.fact 15 22 rfl (sd 15 rfl)
    exact Runs.conv rfl h22 (conv_i64_u8x Tryz.underlying3 Tryz.underlying5 f) ⟨Ext.refl _, rfl⟩
  · refine stepE rfl fun sdn sa sw sE sd sk => ?_
    have h23 : sa.eval (.tmp 23) = .int .u8 (u8i (u8of f)) := sk.fact 16 23 rfl (sd 16 rfl)
    exact Runs.lit1 rfl h23 (fun w1 e1 o1 => ⟨e1, _, _, _, rfl, o1.rb⟩)
  · refine stepE rfl fun sdn sa sw sE sd sk => ?_
    have h13 : sa.eval (.tmp 13) = .string (str (nmOf (ka % 4))) := sk.fact 6 13 rfl (sd 6 rfl)
    have h18 : sa.eval (.tmp 18) = .int .u32 (u32i (verOf kv)) := sk.fact 11 18 rfl (sd 11 rfl)
    obtain ⟨A21, n21, c21, h21, r21⟩ := sk.fact 14 21 rfl (sd 14 rfl)
    obtain ⟨A24, n24, c24, h24, r24⟩ := sk.fact 17 24 rfl (sd 17 rfl)
    refine Runs.of_run (r := manV ⟨nmOf (ka % 4), verOf kv, khash (f.tmod 4), [u8of f]⟩ A21 n21 c21 A24 n24 c24) (w' := sw) ?_ ⟨Ext.refl _, _, _, _, _, _, _, rfl, r21, r24⟩
    unfold execOp manV
    simp only [List.map_toArray, List.map_cons, List.map_nil, h13, h18, h21, h24]
    go_simp
  intro vals W1 hE hv
  have e0 : vals 0 = .string (str (nm3)) := hv 0 (by omega) 7 rfl
  obtain ⟨g8, e1, r8⟩ := hv 1 (by omega) 8 rfl
  have e2 : vals 2 = .int .i64 (a) := hv 2 (by omega) 9 rfl
  have e3 : vals 3 = .int .i64 (((ka : Nat) : Int)) := hv 3 (by omega) 10 rfl
  have e4 : vals 4 = .int .i64 (((ka % 4 : Nat) : Int)) := hv 4 (by omega) 11 rfl
  obtain ⟨p12, e5, r12⟩ := hv 5 (by omega) 12 rfl
  have e6 : vals 6 = .string (str (nmOf (ka % 4))) := hv 6 (by omega) 13 rfl
  have e7 : vals 7 = .int .i64 (v) := hv 7 (by omega) 14 rfl
  have e8 : vals 8 = .int .i64 (((kv : Nat) : Int)) := hv 8 (by omega) 15 rfl
  have e9 : vals 9 = .int .i64 (((kv % 9 : Nat) : Int)) := hv 9 (by omega) 16 rfl
  have e10 : vals 10 = .int .i64 (((1 + kv % 9 : Nat) : Int)) := hv 10 (by omega) 17 rfl
  have e11 : vals 11 = .int .u32 (u32i (verOf kv)) := hv 11 (by omega) 18 rfl
  have e12 : vals 12 = .int .i64 (f) := hv 12 (by omega) 19 rfl
  have e13 : vals 13 = .int .i64 (f.tmod 4) := hv 13 (by omega) 20 rfl
  obtain ⟨A21, n21, c21, e14, r21⟩ := hv 14 (by omega) 21 rfl
  have e15 : vals 15 = .int .i64 (f) := hv 15 (by omega) 22 rfl
  have e16 : vals 16 = .int .u8 (u8i (u8of f)) := hv 16 (by omega) 23 rfl
  obtain ⟨A24, n24, c24, e17, r24⟩ := hv 17 (by omega) 24 rfl
  obtain ⟨F25, f25, g25, N25, n25, k25, e18, r25, u25⟩ := hv 18 (by omega) 25 rfl
  simp only [putAll, Act.put, List.take_succ_cons, List.take_zero, List.drop_succ_cons, List.drop_zero, List.drop_nil, List.take_nil, Nat.reduceAdd, List.setIfInBounds_toArray, List.set_cons_succ, List.set_cons_zero, e0, e1, e2, e3, e4, e5, e6, e7, e8, e9, e10, e11, e12, e13, e14, e15, e16, e17, e18]
  clear hv e0 e1 e2 e3 e4 e5 e6 e7 e8 e9 e10 e11 e12 e13 e14 e15 e16 e17 e18
  have hb2 := hB.ext hE
  have y0 := hb2.cell (i := 0) rfl
  have y1 := hb2.cell (i := 1) rfl
  have y2 := hb2.cell (i := 2) rfl
  have y3 := hb2.cell (i := 3) rfl
  have z0 := hb2.frozen 0
  have z1 := hb2.frozen 1
  have z2 := hb2.frozen 2
  have z3 := hb2.frozen 3
  unfold manV
  go_wp2_with fail
  obtain ⟨s3, s4⟩ := set4 hb2 (.string (str (nmOf (ka % 4)))) (.int .u32 (u32i (verOf kv))) (.slice F25 f25 g25) (.slice N25 n25 k25)
  have hF4 := r25.grown s4 (r25.apart hb2 (man_no _ _ _ _ _ _ _ _))
  have hN4 := u25.grown s4 (u25.apart hb2 (man_no _ _ _ _ _ _ _ _))
  refine bodyPost_ret (results_cell_row rfl _ _ w.heap.size _ _ (0, 0) _ rfl s3 Tryz.underlying58 rfl rfl) rfl ?_
  exact ⟨F25, f25, g25, N25, n25, k25, rfl, hF4, hN4, (hE0.trans hE).then_grown s4 (by intro k hk; cases hk; exact Nat.le_refl _)⟩
end Go.Proofs.YtkndgpjamijbbaaGreat
namespace Go.Proofs.YtkndgpjamijbbaaGreat
set_option maxRecDepth 100000
open Go Go.RowKit
theorem rightC_nat {k : Nat} {R : List UInt8} (hk : k ≤ 256) (hR : R.length = 32) : rightC (k : Int) R = true := by
  unfold rightC
  simp [hR]
  omega
theorem cverB_own (S R : List UInt8) (x : Int) (k : Nat) (hk : k < 16) (hc : rightC x R = true) : cverB (ownP S) x R (k : Int) (sigP S (bodyC checkL x R) k) (pathL S k) = true := by
  unfold cverB
  rw [hc, Bool.true_and]
  exact verB_own S _ k hk
end Go.Proofs.YtkndgpjamijbbaaGreat
namespace Go.Proofs.YtkndgpjamijbbaaGreat
set_option maxRecDepth 100000
open Go Go.RowKit
def signs : List UInt8 := [48, 49, 50, 51, 52, 53, 54, 55, 56, 57, 97, 98, 99, 100, 101, 102]
theorem Runs.index {P : Program} {o : Oper} {ρ : Operand → Value} {w : World} {G : Value → World → Prop} {t : TypeId} {x i : Operand} {u v r : Value} (ho : o.op = .index t x i) (hx : ρ x = u) (hi : ρ i = v) (hr : (Instr.index t u v).run P w = .ok r w) (h : G r w) : Runs P o ρ w G := by
  refine Runs.of_run (r := r) (w' := w) ?_ h
  unfold execOp
  simp only [ho, hx, hi, Sem.run_bind, hr, Result.andThen_ok, Sem.run_pure]
end Go.Proofs.YtkndgpjamijbbaaGreat
namespace Go.Proofs.YtkndgpjamijbbaaGreat
set_option maxRecDepth 100000
open Go Go.RowKit
/-- a cosignature -/
structure CSig where
  wn : Int
  k : Int
  ps : List (List UInt8)
  qs : List (List UInt8)
def cz : CSig := ⟨0, 0, [], []⟩
def cg_ (gs : List CSig) (j : Nat) : CSig := gs.getD j cz
/-- a slice of cosignatures that is read -/
structure RCS (w : World) (A : Option Addr) (n c : Nat) (gs : List CSig) : Prop where
  len : gs.length = n
  room : n ≤ c
  cap : c ≤ maxLen
  cells : 0 < n → ∃ ad, A = some ad ∧ ∀ j, j < n → ∃ P np cp Q nq cq, w.cell? (ad.add (j * 4)) = some (.int .i64 (cg_ gs j).wn) ∧ w.cell? ((ad.add (j * 4)).add 1) = some (.int .i64 (cg_ gs j).k) ∧
    w.cell? ((ad.add (j * 4)).add 2) = some (.slice P np cp) ∧ w.cell? ((ad.add (j * 4)).add 3) = some (.slice Q nq cq) ∧ RBB w P np cp (cg_ gs j).ps ∧ RBB w Q nq cq (cg_ gs j).qs
theorem RCS.ext {w w' : World} {A : Option Addr} {n c : Nat} {gs : List CSig} (h : RCS w A n c gs) (e : Ext w w') : RCS w' A n c gs :=
  ⟨h.len, h.room, h.cap, fun hn => by
    obtain ⟨ad, ha, hc⟩ := h.cells hn
    refine ⟨ad, ha, fun j hj => ?_⟩
    obtain ⟨P, np, cp, Q, nq, cq, h1, h2, h3, h4, h5, h6⟩ := hc j hj
    exact ⟨P, np, cp, Q, nq, cq, e.cell h1, e.cell h2, e.cell h3, e.cell h4, h5.ext e, h6.ext e⟩⟩
end Go.Proofs.YtkndgpjamijbbaaGreat
namespace Go.Proofs.YtkndgpjamijbbaaGreat
set_option maxRecDepth 100000
open Go Go.RowKit
/-- the cells of a cosignature -/
def cosC (x k : Int) (P : Option Addr) (np cp : Nat) (Q : Option Addr) (nq cq : Nat) : Array Value := #[.int .i64 x, .int .i64 k, .slice P np cp, .slice Q nq cq]
theorem cos_no (x k : Int) (P : Option Addr) (np cp : Nat) (Q : Option Addr) (nq cq i : Nat) (y : Int) : (cosC x k P np cp Q nq cq)[i]? ≠ some (.int .u8 y) := by
  unfold cosC
  rcases i with _ | _ | _ | _ | i <;> simp
theorem OBC.set4 {w : World} {base : Nat} {A : Option Addr} {n c : Nat} {L : List (List UInt8)} (h : OBC w base A n c L) {g : Nat} {t : TypeId} (ht : t ≠ 26) {x k : Int} {P Q : Option Addr} {np cp nq cq : Nat} (hB : Blk w g t (cosC x k P np cp Q nq cq))
    (x' k' : Int) (P1 Q1 : Option Addr) (np1 cp1 nq1 cq1 : Nat) : OBC ((((w.setCell ⟨g, 0, none⟩ (.int .i64 x')).setCell ⟨g, 1, none⟩ (.int .i64 k')).setCell ⟨g, 2, none⟩ (.slice P1 np1 cp1)).setCell ⟨g, 3, none⟩ (.slice Q1 nq1 cq1)) base A n c L := by
  have b0 : Blk (w.setCell ⟨g, 0, none⟩ (.int .i64 x')) g t (cosC x' k P np cp Q nq cq) := hB.set 0 _
  have b1 : Blk _ g t (cosC x' k' P np cp Q nq cq) := b0.set 1 (.int .i64 k')
  have b2 : Blk _ g t (cosC x' k' P1 np1 cp1 Q nq cq) := b1.set 2 (.slice P1 np1 cp1)
  exact (((h.far hB ht (cos_no _ _ _ _ _ _ _ _) (grown_set w ⟨g, 0, none⟩ (.int .i64 x'))).far b0 ht (cos_no _ _ _ _ _ _ _ _) (grown_set _ ⟨g, 1, none⟩ (.int .i64 k'))).far b1 ht (cos_no _ _ _ _ _ _ _ _) (grown_set _ ⟨g, 2, none⟩ (.slice P1 np1 cp1))).far b2 ht (cos_no _ _ _ _ _ _ _ _) (grown_set _ ⟨g, 3, none⟩ (.slice Q1 nq1 cq1))
end Go.Proofs.YtkndgpjamijbbaaGreat
namespace Go.Proofs.YtkndgpjamijbbaaGreat
set_option maxRecDepth 100000
open Go Go.RowKit
/-- an owner, with where its seed lies -/
def OwnS (w : World) (b g : Nat) (A : Option Addr) (S : List UInt8) : Prop :=
  ∃ c LA lc, RB w A 32 c S ∧ Blk w g 71 #[.slice A 32 c, .slice LA 5 lc] ∧ LevO w b LA 5 lc S
theorem OwnS.own {w : World} {b g : Nat} {A : Option Addr} {S : List UInt8} (h : OwnS w b g A S) : OwnR w b g S := by
  obtain ⟨c, LA, lc, h1, h2, h3⟩ := h
  exact ⟨A, c, LA, lc, h1, h2, h3⟩
theorem OwnS.ext {w w' : World} {b g : Nat} {A : Option Addr} {S : List UInt8} (h : OwnS w b g A S) (e : Ext w w') : OwnS w' b g A S := by
  obtain ⟨c, LA, lc, h1, h2, h3⟩ := h
  exact ⟨c, LA, lc, h1.ext e, h2.ext e, h3.ext e⟩
theorem OwnS.grown {w w' : World} {b g : Nat} {A : Option Addr} {S : List UInt8} {row : Option Nat} (h : OwnS w b g A S) (hb : ∀ k, row = some k → ∃ cs, Blk w k 43 cs) (hne : blk A ≠ row) (e : w.grownBy w' row) : OwnS w' b g A S := by
  cases row with
  | none => exact h.ext ((Ext.refl w).then_grown e (fun b hb => by cases hb))
  | some k =>
    obtain ⟨cs, hk⟩ := hb k rfl
    obtain ⟨c, LA, lc, h1, h2, h3⟩ := h
    refine ⟨c, LA, lc, h1.grown e (fun _ => hne), h2.grown e (fun e' => ?_), h3.far hk (by decide) (by decide) (by decide) e⟩
    injection e' with e'
    subst e'
    unfold Blk at h2 hk
    rw [h2] at hk
    injection hk with hk
    injection hk with _ hk
    revert hk
    decide
theorem OwnS.blk_lt {w : World} {b g : Nat} {A : Option Addr} {S : List UInt8} (h : OwnS w b g A S) {k : Nat} (hk : blk A = some k) : k < w.heap.size := by
  obtain ⟨c, LA, lc, h1, _⟩ := h
  exact rb_blk_lt h1 (by omega) k hk
/-- a row of owners of the call's own -/
def OwO (w : World) (base : Nat) (A : Option Addr) (n c : Nat) (Ss : List (List UInt8)) : Prop :=
  ∃ vs : List Value, w.ownsRow base 43 1 (.slice A n c) n vs ∧ Ss.length = n ∧ ∀ j, j < n → ∃ g b B, vs[j]? = some (.pointer (some ⟨g, 0, none⟩)) ∧ OwnS w b g B (lb Ss j) ∧ blk B ≠ blk A
theorem OwO.none_ (w : World) (base : Nat) : OwO w base none 0 0 [] := ⟨[], World.ownsRow_nil w _ _ _, rfl, fun j hj => absurd hj (Nat.not_lt_zero _)⟩
theorem OwO.ext {w w' : World} {base : Nat} {A : Option Addr} {n c : Nat} {Ss : List (List UInt8)} (h : OwO w base A n c Ss) (e : Ext w w') : OwO w' base A n c Ss := by
  obtain ⟨vs, h1, h2, h3⟩ := h
  refine ⟨vs, World.ownsRow.kept h1 (e.grownBy none) ?_, h2, fun j hj => ?_⟩
  · cases hb : Value.ownBlock (.slice A n c) <;> simp
  · obtain ⟨g, b, B, h4, h5, h6⟩ := h3 j hj
    exact ⟨g, b, B, h4, h5.ext e, h6⟩
theorem OwO.lt {w : World} {base n c : Nat} {A : Option Addr} {Ss : List (List UInt8)} (h : OwO w base A n c Ss) {k : Nat} (hk : blk A = some k) : base ≤ k ∧ k < w.heap.size := by
  obtain ⟨vs, h1, _⟩ := h
  exact World.ownsRow.lt h1 k (by rw [ownBlock_slice]; exact hk)
theorem OwO.cell {w : World} {base n c : Nat} {A : Option Addr} {Ss : List (List UInt8)} (h : OwO w base A n c Ss) {j : Nat} (hj : j < n) :
    ∃ gA g b B, A = some ⟨gA, 0, none⟩ ∧ w.cell? ⟨gA, j, none⟩ = some (.pointer (some ⟨g, 0, none⟩)) ∧ OwnS w b g B (lb Ss j) := by
  obtain ⟨vs, h1, h2, h3⟩ := h
  obtain ⟨g, b, B, h4, h5, _⟩ := h3 j hj
  have hr := h1.2
  rcases hr with ⟨_, hn⟩ | ⟨gA, cap, cur, hv, hb, hg, hnc, hcm, hcs, ht⟩
  · omega
  · injection hv with e1 e2 e3
    subst e1
    have hc := World.ownsRow.cells h1 (g := gA) rfl j _ h4
    rw [add_plain] at hc
    exact ⟨gA, g, b, B, rfl, hc, h5⟩
end Go.Proofs.YtkndgpjamijbbaaGreat
namespace Go.Proofs.YtkndgpjamijbbaaGreat
set_option maxRecDepth 100000
open Go Go.RowKit
theorem OwO.room {w : World} {base n c : Nat} {A : Option Addr} {Ss : List (List UInt8)} (h : OwO w base A n c Ss) : n ≤ c := by
  obtain ⟨vs, h1, _⟩ := h
  rcases h1.2 with ⟨hv, hn⟩ | ⟨g, cap, cur, hv, hb, hg, hnc, hcm, hcs, ht⟩
  · omega
  · injection hv with e1 e2 e3
    omega
theorem OB.apart {w : World} {b b' n c n' c' : Nat} {A : Option Addr} {L : List UInt8} {B : Option Addr} {Ls : List (List UInt8)} (h : OB w b A n c L) (h' : OBC w b' B n' c' Ls) : blk A = none ∨ blk A ≠ blk B := by
  cases hA : blk A with
  | none => exact .inl rfl
  | some k =>
    refine .inr fun e => ?_
    obtain ⟨cs, hcs⟩ := row_type h (k := k) (by rw [ownBlock_slice]; exact hA)
    obtain ⟨vs, r1, _⟩ := h'
    exact row_ne r1 hcs (by decide) (by rw [ownBlock_slice]; exact e.symm)
theorem OB.apart_blk {w : World} {b n c g : Nat} {A : Option Addr} {L : List UInt8} {t : TypeId} {cs : Array Value} (h : OB w b A n c L) (hb : Blk w g t cs) (ht : t ≠ 5) : blk A = none ∨ blk A ≠ some g := by
  refine .inr fun e => ?_
  exact row_ne h hb ht (by rw [ownBlock_slice]; exact e)
theorem OBC.apart_blk {w : World} {b n c g : Nat} {A : Option Addr} {Ls : List (List UInt8)} {t : TypeId} {cs : Array Value} (h : OBC w b A n c Ls) (hb : Blk w g t cs) (ht : t ≠ 26) : some g ≠ blk A := by
  intro e
  obtain ⟨vs, r1, _⟩ := h
  exact row_ne r1 hb ht (by rw [ownBlock_slice]; exact e.symm)
end Go.Proofs.YtkndgpjamijbbaaGreat
