/-
  check.Right, check.Body, check.Same; ref10's Right, Body, Same, walked. Structs in regions that draw their order: a part of a block is loaded at once; a value whose slices are known by what they read. Plain theorems. check.Sign, check.Verify; ref10's Verify, walked. check.Put, check.Encode; ref10's Put, walked. sign.Decode, walked. A row of byte slices of the call's own, each of its own block, all unlike. Plain theorems. law5.turned, walked. Package manifest, walked: name, Right, Encode. manifest.Encode, walked. A region whose calls turn one object of the call's own, one behind the other, with other operations between in any order. Plain theorems. manifest.Decode, walked. check.Get, check.Decode, walked. A region that draws its order and ends by storing the first part of a tuple and handing on the second: the second part may be taken out before or behind the store. Plain theorems.
-/
import Derived.Test.YtkndgpjamijbbaaLawCom26Q18
import Derived.Test.YtkndgpjamijbbaaLawCom26Q19
import Derived.Test.YtkndgpjamijbbaaLawCom26Q17
import Derived.Test.YtkndgpjamijbbaaLawCom26Q11
import Derived.Test.YtkndgpjamijbbaaLawCom26Q1
import Derived.Deep.MidRow
import Derived.Test.YtkndgpjamijbbaaLawCom26Q15
import Derived.Lib.AppendZerosOnto
import Derived.Laws.CopyOwn
import Derived.Test.YtkndgpjamijbbaaLawCom26Q14
import Derived.Test.YtkndgpjamijbbaaLawCom26Q9
namespace Go.Proofs.Ytkndgpjamijbbaa
set_option maxRecDepth 100000
open Go Go.RowKit
def rightC (x : Int) (R : List UInt8) : Bool := decide (0 ≤ x) && decide (x ≤ 256) && decide (R.length = 32)
def bodyC (t : List UInt8) (x : Int) (R : List UInt8) : List UInt8 := if rightC x R = true then t ++ (bytesOf (keyW x) ++ R) else []
def cosignL : List UInt8 := [98, 114, 111, 97, 100, 115, 104, 101, 101, 116, 32, 99, 111, 115, 105, 103, 110]
theorem rightC_true {x : Int} {R : List UInt8} (h : rightC x R = true) : 0 ≤ x ∧ x ≤ 256 ∧ R.length = 32 := by
  simpa [rightC, and_assoc] using h
theorem bodyC_yes {t : List UInt8} {x : Int} {R : List UInt8} (h : rightC x R = true) : bodyC t x R = t ++ (bytesOf (keyW x) ++ R) := by unfold bodyC; rw [if_pos h]
theorem bodyC_no {t : List UInt8} {x : Int} {R : List UInt8} (h : rightC x R = false) : bodyC t x R = [] := by unfold bodyC; rw [h]; rfl
set_option maxHeartbeats 2000000 in
theorem cright_any (x : Int) (A : Option Addr) (n c : Nat) (R : List UInt8) (w : World) (hr : RB w A n c R) :
    Calls Try.prog 98 #[.agg #[.int .i64 x, .slice A n c]] w fun e w' => e = .returned (.bool (rightC x R)) ∧ Ext w w' := by
  have hE1 := Ext.new w (.cells #[.int .i64 x, .slice A n c] 54)
  have hl := hr.len
  have hv : rightC x R = (decide (0 ≤ x) && decide (x ≤ 256) && decide (n = 32)) := by unfold rightC; rw [hl]
  rw [hv]
  clear hl hv
  go_enter Try.func98, Try.ntmps98
  by_cases h0 : 0 ≤ x
  · by_cases h1 : x ≤ 256
    · by_cases h2 : n = 32
      · subst h2
        go_wp2_with fail
        go_ret
        exact ⟨by simp [h0, h1], hE1⟩
      · have h3 : ¬ ((n : Int) = 32) := by omega
        go_wp2_with fail
        go_ret
        exact ⟨by simp [h2, h3], hE1⟩
    · go_wp2_with fail
      go_ret
      exact ⟨by simp [h0]; intros; omega, hE1⟩
  · go_wp2_with fail
    go_ret
    exact ⟨by simp; intros; omega, hE1⟩
set_option maxHeartbeats 2000000 in
theorem rcright_any (x : Int) (A : Option Addr) (n c : Nat) (R : List UInt8) (w : World) (hr : RB w A n c R) :
    Calls Try.prog 94 #[.agg #[.int .i64 x, .slice A n c]] w fun e w' => e = .returned (.bool (rightC x R)) ∧ Ext w w' := by
  have hE1 := Ext.new w (.cells #[.int .i64 x, .slice A n c] 54)
  have hl := hr.len
  have hv : rightC x R = (decide (0 ≤ x) && decide (x ≤ 256) && decide (n = 32)) := by unfold rightC; rw [hl]
  rw [hv]
  clear hl hv
  go_enter Try.func94, Try.ntmps94
  by_cases h0 : 0 ≤ x
  · by_cases h1 : x ≤ 256
    · by_cases h2 : n = 32
      · subst h2
        go_wp2_with fail
        go_ret
        exact ⟨by simp [h0, h1], hE1⟩
      · have h3 : ¬ ((n : Int) = 32) := by omega
        go_wp2_with fail
        go_ret
        exact ⟨by simp [h2, h3], hE1⟩
    · go_wp2_with fail
      go_ret
      exact ⟨by simp [h0]; intros; omega, hE1⟩
  · go_wp2_with fail
    go_ret
    exact ⟨by simp; intros; omega, hE1⟩
set_option maxHeartbeats 4000000 in
theorem rbody_gen (t : List UInt8) (x : Int) (A : Option Addr) (n c : Nat) (R : List UInt8) (w : World) (ht : t.length ≤ 100) (hr : RB w A n c R) :
    Calls Try.prog 75 #[.string (str t), .agg #[.int .i64 x, .slice A n c]] w fun e w' => ∃ B m d, e = .returned (.slice B m d) ∧ RB w' B m d (bodyC t x R) ∧ Ext w w' := by
  have hck := fun w' => conv_key (P := Try.prog) (w := w') Try.underlying3 Try.underlying84 x
  have hE1 := Ext.new w (.cells #[.int .i64 x, .slice A n c] 54)
  have hB1 := Blk.new w 54 #[.int .i64 x, .slice A n c]
  go_enter Try.func75, Try.ntmps75
  go_wp2_with fail
  refine (rcright_any x A n c R _ (hr.ext hE1)).mono ?_
  rintro e w2 ⟨rfl, hE2⟩
  have hE12 := hE1.trans hE2
  have hB2 := hB1.ext hE2
  clear hB1
  cases hc : rightC x R with
  | false =>
    go_wp2_with fail
    go_ret
    exact ⟨none, 0, 0, rfl, by rw [bodyC_no hc]; exact RB.nil_ _, hE12⟩
  | true =>
    obtain ⟨_, _, h32⟩ := rightC_true hc
    obtain rfl : n = 32 := hr.len.symm.trans h32
    have Hc := Lib.hid hc
    clear hc h32
    have rR := hr.ext hE12
    go_upto_region 3 with (fail)
    have hSt5 : ∀ zj zm, ([.is (.string (str (t))), .om (w2.heap.size) (t.length) (t), .is (.pointer (some ⟨w.heap.size, 0, none⟩)), .is (.int .i64 (x)), .is (.int .u32 (u32i (keyW x))), .om (w2.heap.size) (t.length + 4) (t ++ beBytes (keyW x) 4), .is (.pointer (some ⟨w.heap.size, 1, none⟩)), .is (.slice (A) (32) (c))] : List (MP Ext))[zj]? = some zm → zj ≠ 5 → ([] : List (Nat × Nat)).contains (zj, 5) = false → ApOK w2.heap.size t.length zm := by
      intro j m hm h7 h12
      rcases j with _ | _ | _ | _ | _ | _ | _ | _ | j
      · injection hm with hm; subst hm; exact apok_is _ _ _
      · injection hm with hm; subst hm; exact apok_om (Nat.le_refl _) _
      · injection hm with hm; subst hm; exact apok_is _ _ _
      · injection hm with hm; subst hm; exact apok_is _ _ _
      · injection hm with hm; subst hm; exact apok_is _ _ _
      · exact absurd rfl h7
      · injection hm with hm; subst hm; exact apok_is _ _ _
      · injection hm with hm; subst hm; exact apok_is _ _ _
      · simp at hm
    refine par_ap (n := 8) [] (by kernel_rfl) [.is (.string (str (t))), .om (w2.heap.size) (t.length) (t), .is (.pointer (some ⟨w.heap.size, 0, none⟩)), .is (.int .i64 (x)), .is (.int .u32 (u32i (keyW x))), .om (w2.heap.size) (t.length + 4) (t ++ beBytes (keyW x) 4), .is (.pointer (some ⟨w.heap.size, 1, none⟩)), .is (.slice (A) (32) (c))] rfl ⟨?_, ?_, ?_, ?_, ?_, ?_, ?_, ?_, trivial⟩ ?_
    · refine stepEP rfl (by decide) fun sdn sa sw sE sd sk => ?_
      have h0 : sa.eval (.tmp 0) = .string (str (t)) := sk.old 0 rfl
      exact Runs.move rfl h0 ⟨Ext.refl _, rfl⟩
    · refine stepEP rfl (by decide) fun sdn sa sw sE sd sk => ?_
      have h8 : sa.eval (.tmp 8) = .string (str (t)) := sk.fact 0 8 rfl (sd 0 rfl)
      obtain ⟨c1, w1, hr1, h1, e1⟩ := OM.conv sw t (by omega); exact Runs.conv_w rfl h8 hr1 ⟨e1, _, _, rfl, h1.base sE.size⟩
    · refine stepEP rfl (by decide) fun sdn sa sw sE sd sk => ?_
      have h3 : sa.eval (.tmp 3) = .pointer (some ⟨w.heap.size, 0, none⟩) := sk.old 3 rfl
      refine Runs.of_run (r := .pointer (some ⟨w.heap.size, 0, none⟩)) (w' := sw) ?_ ⟨Ext.refl _, rfl⟩
      unfold execOp
      simp only [h3]
      go_simp
    · refine stepEP rfl (by decide) fun sdn sa sw sE sd sk => ?_
      have h10 : sa.eval (.tmp 10) = .pointer (some ⟨w.heap.size, 0, none⟩) := sk.fact 2 10 rfl (sd 2 rfl)
      exact Runs.load rfl h10 (run_load1 Try.underlying3 rfl ((hB2.ext sE).cell (i := 0) rfl)) ⟨Ext.refl _, rfl⟩
    · refine stepEP rfl (by decide) fun sdn sa sw sE sd sk => ?_
      have h11 : sa.eval (.tmp 11) = .int .i64 (x) := sk.fact 3 11 rfl (sd 3 rfl)
      exact Runs.conv rfl h11 (conv_key Try.underlying3 Try.underlying84 x) ⟨Ext.refl _, rfl⟩
    · refine stepAP (n := t.length) rfl (by decide) hSt5 fun sdn sa sw sE sd sk => ?_
      obtain ⟨A9, c9, h9, o9⟩ := sk.fact 1 9 rfl (sd 1 rfl)
      have h12 : sa.eval (.tmp 12) = .int .u32 (u32i (keyW x)) := sk.fact 4 12 rfl (sd 4 rfl)
      refine Runs.call (f := 101) (vs := [.slice (A9) (t.length) (c9), .int .u32 (u32i (keyW x))]) rfl rfl rfl (by simp only [List.map_toArray, List.map_cons, List.map_nil, h9, h12] <;> rfl) (ent101 _ _) ((r1num_m w2 sw _ _ _ t (keyW x) sE o9 (by omega)).mono ?_); rintro e w' ⟨A', c', rfl, om, hx, ha⟩; exact ⟨_, rfl, ha, A', c', rfl, om⟩
    · refine stepEP rfl (by decide) fun sdn sa sw sE sd sk => ?_
      have h3 : sa.eval (.tmp 3) = .pointer (some ⟨w.heap.size, 0, none⟩) := sk.old 3 rfl
      refine Runs.of_run (r := .pointer (some ⟨w.heap.size, 1, none⟩)) (w' := sw) ?_ ⟨Ext.refl _, rfl⟩
      unfold execOp
      simp only [h3]
      go_simp
    · refine stepEP rfl (by decide) fun sdn sa sw sE sd sk => ?_
      have h14 : sa.eval (.tmp 14) = .pointer (some ⟨w.heap.size, 1, none⟩) := sk.fact 6 14 rfl (sd 6 rfl)
      exact Runs.load rfl h14 (run_load1 Try.underlying22 rfl ((hB2.ext sE).cell (i := 1) rfl)) ⟨Ext.refl _, rfl⟩
    intro vals w5 hE hv
    have e0 : vals 0 = .string (str (t)) := hv 0 (by omega) 8 rfl
    obtain ⟨A9, c9, e1, o9⟩ := hv 1 (by omega) 9 rfl
    have e2 : vals 2 = .pointer (some ⟨w.heap.size, 0, none⟩) := hv 2 (by omega) 10 rfl
    have e3 : vals 3 = .int .i64 (x) := hv 3 (by omega) 11 rfl
    have e4 : vals 4 = .int .u32 (u32i (keyW x)) := hv 4 (by omega) 12 rfl
    obtain ⟨A13, c13, e5, o13⟩ := hv 5 (by omega) 13 rfl
    have e6 : vals 6 = .pointer (some ⟨w.heap.size, 1, none⟩) := hv 6 (by omega) 14 rfl
    have e7 : vals 7 = .slice (A) (32) (c) := hv 7 (by omega) 15 rfl
    simp only [putAll, Act.put, List.take_succ_cons, List.take_zero, List.drop_succ_cons, List.drop_zero, List.drop_nil, List.take_nil, Nat.reduceAdd, List.setIfInBounds_toArray, List.set_cons_succ, List.set_cons_zero, e0, e1, e2, e3, e4, e5, e6, e7]
    clear hv e0 e1 e2 e3 e4 e5 e6 e7
    go_wp2_with (refine appm_law (N := t.length + 4 + 32) (LM := bodyC t x R) rfl rfl rfl rfl hE o13 (rR.ext hE) (by omega) rfl (by rw [bodyC_yes Hc.out, beBytes_four, List.append_assoc]) (by omega) ?_; intro A6 c6 w6 own6 hE6 hg6)
    go_ret
    exact ⟨A6, _, c6, rfl, own6.rb, hE12.trans hE6⟩
theorem rcos_any (x : Int) (A : Option Addr) (n c : Nat) (R : List UInt8) (w : World) (hr : RB w A n c R) :
    Calls Try.prog 67 #[.agg #[.int .i64 x, .slice A n c]] w fun e w' => ∃ B m d, e = .returned (.slice B m d) ∧ RB w' B m d (bodyC cosignL x R) ∧ Ext w w' := by
  have hE1 := Ext.new w (.cells #[.int .i64 x, .slice A n c] 54)
  have h := rbody_gen cosignL x A n c R _ (by decide) (hr.ext hE1)
  have e : str cosignL = ⟨#[98, 114, 111, 97, 100, 115, 104, 101, 101, 116, 32, 99, 111, 115, 105, 103, 110]⟩ := rfl
  rw [e] at h
  go_enter Try.func67, Try.ntmps67
  go_wp2_with fail
  refine h.mono ?_
  rintro e w2 ⟨B, m, d, rfl, hb, hE2⟩
  go_wp2_with fail
  go_ret
  exact ⟨B, m, d, rfl, hb, hE1.trans hE2⟩
end Go.Proofs.Ytkndgpjamijbbaa
namespace Go.Proofs.Ytkndgpjamijbbaa
set_option maxRecDepth 100000
open Go Go.RowKit
/-- a cell of a struct's value: one that is known, bytes that are read, rows of bytes that are read -/
inductive Sh where
  | val (v : Value)
  | b8 (n : Nat) (L : List UInt8)
  | bb (n : Nat) (Ls : List (List UInt8))
def Sh.all : List Sh → (List Value → Prop) → World → Prop
  | [], k, _ => k []
  | .val v :: r, k, w => Sh.all r (fun vs => k (v :: vs)) w
  | .b8 n L :: r, k, w => ∃ A c, RB w A n c L ∧ Sh.all r (fun vs => k (.slice A n c :: vs)) w
  | .bb n Ls :: r, k, w => ∃ A c, RBB w A n c Ls ∧ Sh.all r (fun vs => k (.slice A n c :: vs)) w
theorem Sh.all_ext {w w' : World} (e : Ext w w') : ∀ (l : List Sh) (k : List Value → Prop), Sh.all l k w → Sh.all l k w'
  | [], _, h => h
  | .val v :: r, k, h => Sh.all_ext e r _ h
  | .b8 n L :: r, k, h => by
    obtain ⟨A, c, h1, h2⟩ := h
    exact ⟨A, c, h1.ext e, Sh.all_ext e r _ h2⟩
  | .bb n Ls :: r, k, h => by
    obtain ⟨A, c, h1, h2⟩ := h
    exact ⟨A, c, h1.ext e, Sh.all_ext e r _ h2⟩
def MP.ag (l : List Sh) : MP Ext := ⟨fun u w => Sh.all l (fun vs => u = .agg vs.toArray) w, fun _ _ _ e h => Sh.all_ext e _ _ h⟩
def MP.rk (n : Nat) (L : List UInt8) : MP Ext := ⟨fun u w => ∃ A c, u = .slice A n c ∧ RB w A n c L, fun _ _ _ e ⟨A, c, h1, h2⟩ => ⟨A, c, h1, h2.ext e⟩⟩
def MP.rws (n : Nat) (Ls : List (List UInt8)) : MP Ext := ⟨fun u w => ∃ A c, u = .slice A n c ∧ RBB w A n c Ls, fun _ _ _ e ⟨A, c, h1, h2⟩ => ⟨A, c, h1, h2.ext e⟩⟩
def MP.bk (b : Nat) (t : TypeId) (cs : Array Value) : MP Ext := ⟨fun u w => ∃ g, u = .pointer (some ⟨g, 0, none⟩) ∧ Blk w g t cs ∧ b ≤ g, fun _ _ _ e ⟨g, h1, h2, h3⟩ => ⟨g, h1, h2.ext e, h3⟩⟩
/-- a part of a block, loaded at once -/
theorem load_part {P : Program} {w : World} {g : Nat} {t : TypeId} {cs : Array Value} (hB : Blk w g t cs) (o : Nat) {ty : TypeId} {vs : List Value} {d : TypeDesc} (hv : ((cs.toList.drop o).take vs.length) = vs) (hu : P.underlying ty = some d) (hd : d.isRow = true)
    (hi : (P.info? ty).map (·.size) = some vs.length) : (Instr.loadAt ty (.pointer (some ⟨g, o, none⟩))).run P w = .ok (.agg vs.toArray) w := by
  refine run_loadAt_mid w g o ty vs d (fun j v h => ?_) hu hd hi
  refine hB.cell ?_
  have h1 : ((cs.toList.drop o).take vs.length)[j]? = some v := by rw [hv]; exact h
  have hj : j < vs.length := by
    rcases Nat.lt_or_ge j vs.length with h2 | h2
    · exact h2
    · rw [List.getElem?_eq_none h2] at h; cases h
  rw [List.getElem?_take_of_lt hj, List.getElem?_drop] at h1
  simpa using h1
end Go.Proofs.Ytkndgpjamijbbaa
namespace Go.Proofs.Ytkndgpjamijbbaa
set_option maxRecDepth 100000
open Go Go.RowKit
theorem bodyC_len (t : List UInt8) (x : Int) (R : List UInt8) : (bodyC t x R).length ≤ t.length + 36 := by
  unfold bodyC
  split
  · rename_i h
    have := (rightC_true h).2.2
    have h4 : (bytesOf (keyW x)).length = 4 := rfl
    simp only [List.length_append, h4]
    omega
  · simp
theorem sverify_len (B D P Q : Option Addr) (m e' nd cd np cp nq cq : Nat) (x : Int) (X M : List UInt8) (Ps Qs : List (List UInt8)) (w : World) (hX : RB w D nd cd X) (hM : RB w B m e' M) (hmn : M.length ≤ 1000000) (hp : RBB w P np cp Ps) (hq : RBB w Q nq cq Qs) :
    Calls Try.prog 64 #[.slice D nd cd, .slice B m e', .agg #[.int .i64 x, .slice P np cp, .slice Q nq cq]] w fun e w' => e = .returned (.bool (verB X M x Ps Qs)) ∧ Ext w w' :=
  sverify_any B D P Q m e' nd cd np cp nq cq x X M Ps Qs w hX hM (by have := hM.len; omega) hp hq
theorem rverify_len (B D P Q : Option Addr) (m e' nd cd np cp nq cq : Nat) (x : Int) (X M : List UInt8) (Ps Qs : List (List UInt8)) (w : World) (hX : RB w D nd cd X) (hM : RB w B m e' M) (hmn : M.length ≤ 1000000) (hp : RBB w P np cp Ps) (hq : RBB w Q nq cq Qs) :
    Calls Try.prog 28 #[.slice D nd cd, .slice B m e', .agg #[.int .i64 x, .slice P np cp, .slice Q nq cq]] w fun e w' => e = .returned (.bool (verB X M x Ps Qs)) ∧ Ext w w' :=
  rverify_any B D P Q m e' nd cd np cp nq cq x X M Ps Qs w hX hM (by have := hM.len; omega) hp hq
theorem lenV {t : List UInt8} {x : Int} {R : List UInt8} (ht : t.length ≤ 100 := by decide) : (bodyC t x R).length ≤ 1000000 := Nat.le_trans (bodyC_len _ _ _) (by omega)
/-- what a key of an owner shows of a message -/
def sigP (S M : List UInt8) (k : Nat) : List (List UInt8) := (List.range 64).map (partS (digestW M) S (k : Int))
end Go.Proofs.Ytkndgpjamijbbaa
namespace Go.Proofs.Ytkndgpjamijbbaa
set_option maxRecDepth 100000
open Go Go.RowKit
theorem Wtr.ext_ {w w' : World} {base p n c : Nat} {A : Option Addr} {L : List UInt8} (h : Wtr w base p A n c L) (e : Ext w w') : Wtr w' base p A n c L := ⟨h.blk.ext e, h.own.ext e, h.ne, h.base⟩
theorem Wtr.ext {w w' : World} {base p n c : Nat} {A : Option Addr} {L : List UInt8} (h : Wtr w base p A n c L) (e : Ext w w') : Wtr w' base p A n c L := h.ext_ e
theorem WP.of_ext {wI w w' : World} {p n c : Nat} {A : Option Addr} {L : List UInt8} (h : Wtr w wI.heap.size p A n c L) (e : Ext w w') : WP wI w p A n L w' := ⟨A, c, h.ext_ e, e.chg _ _, Later.refl _ _⟩
theorem WP.pre {wI w w1 w2 : World} {p N : Nat} {A : Option Addr} {M : List UInt8} (e : Ext w w1) (h : WP wI w1 p A N M w2) : WP wI w p A N M w2 := by
  obtain ⟨A', c', k1, k2, k3⟩ := h
  refine ⟨A', c', k1, (e.chg p A).trans (Later.refl _ _) k2, ?_⟩
  rcases k3 with k | k | ⟨q, k, hq⟩
  · exact .inl k
  · exact .inr (.inl k)
  · exact .inr (.inr ⟨q, k, Nat.le_trans e.size hq⟩)
end Go.Proofs.Ytkndgpjamijbbaa
namespace Go.Proofs.Ytkndgpjamijbbaa
set_option maxRecDepth 100000
open Go Go.RowKit
theorem RdrS.row {w w' : World} {base q : Nat} {L : List UInt8} {bad : Bool} (h : RdrS w base q L bad) {b : Nat} {A : Option Addr} {n c : Nat} {vs : List Value} (own : w.ownsRow b 22 1 (.slice A n c) n vs) (g : w.grownBy w' (blk A)) : RdrS w' base q L bad := by
  obtain ⟨A', n', c', hn, hR⟩ := h
  have hne : ∀ k, blk A = some k → ∀ cs t fr, w.heap[k]? = some (.cells cs t fr) → t = 22 := by
    intro k hk cs t fr hc
    obtain ⟨cs', h1⟩ := row_type own (k := k) (by rw [ownBlock_slice]; exact hk)
    rw [h1] at hc
    injection hc with hc
    injection hc with _ hc
    exact hc.symm
  have hbA : 0 < n' → blk A' ≠ blk A := by
    intro h0 e
    cases hA : blk A with
    | none =>
      rw [hA] at e
      obtain ⟨ad, h1, _⟩ := hR.rb.cells h0
      rw [h1] at e
      cases e
    | some k =>
      rw [hA] at e
      obtain ⟨cs, fr, h1⟩ := hR.ty h0 k e
      have := hne k hA cs _ fr h1
      revert this
      decide
  refine ⟨A', n', c', hn, hR.blk.grown g ?_, hR.rb.grown g hbA, hR.ne, hR.base, fun h0 k hk => ?_⟩
  · intro e
    have := hne q e.symm _ _ _ hR.blk
    revert this
    decide
  · obtain ⟨cs, fr, h1⟩ := hR.ty h0 k hk
    exact ⟨cs, fr, (g.block k (Array.getElem?_eq_some_iff.1 h1).1 (fun e => hbA h0 (by rw [hk, e]))).trans h1⟩
theorem RdrS.blk_ {w : World} {base q : Nat} {L : List UInt8} {bad : Bool} (h : RdrS w base q L bad) : base ≤ q ∧ ∃ cs, Blk w q 151 cs ∧ ∀ (i : Nat) (x : Int), cs[i]? ≠ some (.int .u8 x) := by
  obtain ⟨A', n', c', hn, hR⟩ := h
  refine ⟨hR.base, _, hR.blk, fun i x => ?_⟩
  rcases i with _ | _ | i <;> simp
/-- a row of byte slices of the call's own, all of them of blocks at or beyond b -/
def OBE (w : World) (b : Nat) (A : Option Addr) (n c : Nat) (Ls : List (List UInt8)) : Prop :=
  ∃ vs : List Value, w.ownsRow b 22 1 (.slice A n c) n vs ∧ Ls.length = n ∧ ∀ j, j < n → ∃ B m d, vs[j]? = some (.slice B m d) ∧ RB w B m d (lb Ls j) ∧ (0 < m → blk B ≠ blk A ∧ ∀ k, blk B = some k → b ≤ k)
section
variable {w w' : World} {b n c : Nat} {A : Option Addr} {Ls : List (List UInt8)}
theorem OBE.none_ (w : World) (b : Nat) : OBE w b none 0 0 [] := ⟨[], World.ownsRow_nil w _ _ _, rfl, fun j hj => absurd hj (Nat.not_lt_zero _)⟩
theorem OBE.obc (h : OBE w b A n c Ls) : OBC w b A n c Ls := by
  obtain ⟨vs, h1, h2, h3⟩ := h
  refine ⟨vs, h1, h2, fun j hj => ?_⟩
  obtain ⟨B, m, d, h4, h5, h6⟩ := h3 j hj
  exact ⟨B, m, d, h4, h5, fun hm => (h6 hm).1⟩
theorem OBE.lt (h : OBE w b A n c Ls) {k : Nat} (hk : blk A = some k) : b ≤ k ∧ k < w.heap.size := h.obc.lt hk
theorem OBE.ext (h : OBE w b A n c Ls) (e : Ext w w') : OBE w' b A n c Ls := by
  obtain ⟨vs, h1, h2, h3⟩ := h
  refine ⟨vs, World.ownsRow.kept h1 (e.grownBy none) ?_, h2, fun j hj => ?_⟩
  · cases hb : Value.ownBlock (.slice A n c) <;> simp
  · obtain ⟨B, m, d, h4, h5, h6⟩ := h3 j hj
    exact ⟨B, m, d, h4, h5.ext e, h6⟩
theorem OBE.base {b' : Nat} (h : OBE w b A n c Ls) (hb : b' ≤ b) : OBE w b' A n c Ls := by
  obtain ⟨vs, h1, h2, h3⟩ := h
  refine ⟨vs, ownsRow_base h1 hb, h2, fun j hj => ?_⟩
  obtain ⟨B, m, d, h4, h5, h6⟩ := h3 j hj
  exact ⟨B, m, d, h4, h5, fun hm => ⟨(h6 hm).1, fun k hk => Nat.le_trans hb ((h6 hm).2 k hk)⟩⟩
theorem OBE.far (h : OBE w b A n c Ls) {g : Nat} {t : TypeId} {cs : Array Value} (hb : Blk w g t cs) (ht : t ≠ 22) (hno : ∀ (i : Nat) (x : Int), cs[i]? ≠ some (.int .u8 x)) (e : w.grownBy w' (some g)) : OBE w' b A n c Ls := by
  obtain ⟨vs, h1, h2, h3⟩ := h
  refine ⟨vs, World.ownsRow.kept h1 e (.inr (row_ne h1 hb ht)), h2, fun j hj => ?_⟩
  obtain ⟨B, m, d, h4, h5, h6⟩ := h3 j hj
  exact ⟨B, m, d, h4, h5.grown e (h5.apart5 hb hno), h6⟩
end
end Go.Proofs.Ytkndgpjamijbbaa
namespace Go.Proofs.Ytkndgpjamijbbaa
set_option maxRecDepth 100000
open Go Go.RowKit
/-- blocks of b and beyond, below u; the elements' ones rise -/
def OBX (w : World) (b u : Nat) (A : Option Addr) (n c : Nat) (Ls : List (List UInt8)) : Prop :=
  ∃ (vs : List Value) (f d : Nat → Nat), w.ownsRow b 22 1 (.slice A n c) n vs ∧ Ls.length = n ∧ (∀ j, j < n → vs[j]? = some (.slice (some ⟨f j, 0, none⟩) 32 (d j)) ∧ OB w b (some ⟨f j, 0, none⟩) 32 (d j) (lb Ls j) ∧ f j < u) ∧ (∀ i j, i < j → j < n → f i < f j) ∧ ∀ k, blk A = some k → k < u
section
variable {w w' : World} {b u n c : Nat} {A : Option Addr} {Ls : List (List UInt8)}
theorem OBX.none_ (w : World) (b u : Nat) : OBX w b u none 0 0 [] := ⟨[], fun _ => 0, fun _ => 0, World.ownsRow_nil w _ _ _, rfl, fun j hj => absurd hj (Nat.not_lt_zero _), fun i j _ hj => absurd hj (Nat.not_lt_zero _), fun k hk => by cases hk⟩
theorem OBX.len (h : OBX w b u A n c Ls) : Ls.length = n := by
  obtain ⟨vs, f, d, h1, h2, _⟩ := h
  exact h2
theorem OBX.lt (h : OBX w b u A n c Ls) {k : Nat} (hk : blk A = some k) : b ≤ k ∧ k < w.heap.size := by
  obtain ⟨vs, f, d, h1, _⟩ := h
  exact World.ownsRow.lt h1 k (by rw [ownBlock_slice]; exact hk)
theorem OBX.kept (h : OBX w b u A n c Ls) {row : Option Nat} (e : w.grownBy w' row) (h1' : ∀ k, row = some k → blk A ≠ some k) (h2' : ∀ (k g m d : Nat) (Y : List UInt8), row = some k → OB w b (some ⟨g, 0, none⟩) m d Y → g < u → g ≠ k) : OBX w' b u A n c Ls := by
  obtain ⟨vs, f, d, h1, h2, h3, h4, h5⟩ := h
  refine ⟨vs, f, d, World.ownsRow.kept h1 e ?_, h2, fun j hj => ⟨(h3 j hj).1, (h3 j hj).2.1.grown e ?_, (h3 j hj).2.2⟩, h4, h5⟩
  · cases row with
    | none => cases hb : Value.ownBlock (.slice A n c) <;> simp
    | some k => exact .inr (by rw [ownBlock_slice]; exact h1' k rfl)
  · cases row with
    | none => exact .inr (by intro e; cases e)
    | some k => exact .inr (fun e => by
        have e2 : some (f j) = some k := e
        injection e2 with e2
        exact h2' k (f j) _ _ _ rfl (h3 j hj).2.1 (h3 j hj).2.2 e2)
theorem OBX.ext (h : OBX w b u A n c Ls) (e : Ext w w') : OBX w' b u A n c Ls := h.kept (e.grownBy none) (fun k hk => by cases hk) (fun k _ _ _ _ hk => by cases hk)
theorem OBX.far (h : OBX w b u A n c Ls) {row : Option Nat} (e : w.grownBy w' row) (hr : ∀ k, row = some k → Other w k) : OBX w' b u A n c Ls := by
  refine h.kept e (fun k hk e => ?_) (fun k g _ _ _ hk ho _ e => ho.other (hr k hk) (by rw [e]))
  obtain ⟨cs, t, fr, g1, g2, g3⟩ := hr k hk
  obtain ⟨vs, f, d, h1, _⟩ := h
  exact row_ne h1 g1 g2 (by rw [ownBlock_slice]; exact e)
theorem OBX.plain (h : OBX w b u A n c Ls) (hn : 0 < n) : ∃ g, A = some ⟨g, 0, none⟩ := by
  obtain ⟨vs, f, d, h1, _⟩ := h
  rcases h1.2 with ⟨_, h0⟩ | ⟨g, cap, cur, e, _⟩
  · omega
  · injection e with e1
    exact ⟨g, e1⟩
theorem OBX.ne_blk {g k : Nat} {t : TypeId} {cs : Array Value} (h : OBX w b u (some ⟨g, 0, none⟩) n c Ls) (hb : Blk w k t cs) (ht : t ≠ 22) : k ≠ g := by
  obtain ⟨vs, f, d, h1, _⟩ := h
  intro e
  exact row_ne h1 hb ht (by rw [ownBlock_slice, e]; rfl)
theorem OB.ne_blk {g k : Nat} {t : TypeId} {cs : Array Value} {L : List UInt8} (h : OB w b (some ⟨g, 0, none⟩) n c L) (hb : Blk w k t cs) (ht : t ≠ 5) : k ≠ g := by
  intro e
  exact row_ne h hb ht (by rw [ownBlock_slice, e]; rfl)
theorem OBX.obc (h : OBX w b u A n c Ls) : OBC w b A n c Ls := by
  obtain ⟨vs, f, d, h1, h2, h3, h4, h5⟩ := h
  refine ⟨vs, h1, h2, fun j hj => ?_⟩
  obtain ⟨g1, g2, g3⟩ := h3 j hj
  refine ⟨_, _, _, g1, g2.rb, fun _ e => ?_⟩
  obtain ⟨cs, hcs⟩ := row_type g2 (k := f j) (by rw [ownBlock_slice]; rfl)
  exact row_ne h1 hcs (by decide) (by rw [ownBlock_slice]; exact e.symm)
/-- an element, opened to be turned -/
theorem OBX.at_ {g : Nat} (h : OBX w b u (some ⟨g, 0, none⟩) n c Ls) {i : Nat} (hi : i < n) :
    ∃ g' d', w.cell? ⟨g, i, none⟩ = some (.slice (some ⟨g', 0, none⟩) 32 d') ∧ OB w b (some ⟨g', 0, none⟩) 32 d' (lb Ls i) ∧ g' < u ∧ g' ≠ g ∧
      ∀ (q : Nat) (x : UInt8), OBX (w.setCell ⟨g', q, none⟩ (.int .u8 (u8i x))) b u (some ⟨g, 0, none⟩) n c (Ls.set i ((lb Ls i).set q x)) := by
  obtain ⟨vs, f, d, h1, h2, h3, h4, h5⟩ := h
  obtain ⟨g1, g2, g3⟩ := h3 i hi
  have hne : f i ≠ g := by
    intro e
    obtain ⟨cs, hcs⟩ := row_type g2 (k := f i) (by rw [ownBlock_slice]; rfl)
    exact row_ne h1 hcs (by decide) (by rw [ownBlock_slice, e]; rfl)
  have hc := World.ownsRow.cells h1 (g := g) (by rw [ownBlock_slice]; rfl) i _ g1
  rw [add_plain] at hc
  refine ⟨f i, d i, hc, g2, g3, hne, fun q x => ?_⟩
  have gs := grown_set w ⟨f i, q, none⟩ (.int .u8 (u8i x))
  refine ⟨vs, f, d, World.ownsRow.kept h1 gs (.inr (by rw [ownBlock_slice]; intro e; injection e with e; exact hne e.symm)), by rw [List.length_set]; exact h2, fun j hj => ?_, h4, h5⟩
  obtain ⟨k1, k2, k3⟩ := h3 j hj
  refine ⟨k1, ?_, k3⟩
  rw [lb_set (by omega)]
  by_cases hji : j = i
  · subst hji
    rw [if_pos rfl]
    exact (g2.set q x).1
  · rw [if_neg hji]
    refine k2.grown gs (.inr fun e => ?_)
    have e2 : f j = f i := by
      have e3 : some (f j) = some (f i) := e
      injection e3
    rcases Nat.lt_or_ge j i with h6 | h6
    · have := h4 j i h6 hi; omega
    · have := h4 i j (by omega) hj; omega
end
end Go.Proofs.Ytkndgpjamijbbaa
namespace Go.Proofs.Ytkndgpjamijbbaa
set_option maxRecDepth 100000
open Go Go.RowKit
def TurnPost (w : World) (x how : Int) (i : Nat) (t : UInt8) (Ps Qs : List (List UInt8)) (e : Ending) (w' : World) : Prop :=
  ∃ x' P' n c Q' m d Ps' Qs', e = .returned (.agg #[.int .i64 x', .slice P' n c, .slice Q' m d]) ∧ RBB w' P' n c Ps' ∧ RBB w' Q' m d Qs' ∧ (how = 1 → x' = x ∧ Qs' = Qs ∧ Ps' = Ps.set i ((lb Ps i).set 0 (ub (lb Ps i) 0 ^^^ t))) ∧ Ext w w'
theorem TurnPost.mk {w : World} {x how : Int} {i : Nat} {t : UInt8} {Ps Qs : List (List UInt8)} {e : Ending} {w' : World} (h : ∃ x' P' n c Q' m d Ps' Qs', e = .returned (.agg #[.int .i64 x', .slice P' n c, .slice Q' m d]) ∧ RBB w' P' n c Ps' ∧ RBB w' Q' m d Qs' ∧ (how = 1 → x' = x ∧ Qs' = Qs ∧ Ps' = Ps.set i ((lb Ps i).set 0 (ub (lb Ps i) 0 ^^^ t))) ∧ Ext w w') : TurnPost w x how i t Ps Qs e w' := h
end Go.Proofs.Ytkndgpjamijbbaa
namespace Go.Proofs.Ytkndgpjamijbbaa
set_option maxRecDepth 100000
open Go Go.RowKit
/-- a manifest's value, as it is handed on -/
def manV (m : Man) (F : Option Addr) (nf cf : Nat) (N : Option Addr) (nn cn : Nat) : Value := .agg #[.string (str m.name), .int .u32 (u32i m.ver), .slice F nf cf, .slice N nn cn]
end Go.Proofs.Ytkndgpjamijbbaa
namespace Go.Proofs.Ytkndgpjamijbbaa
set_option maxRecDepth 100000
open Go Go.RowKit
theorem Blk.chg {w w' : World} {g : Nat} {t : TypeId} {cs : Array Value} {p : Nat} {A : Option Addr} (h : Blk w g t cs) (k : Chg w w' p A) (h1 : g ≠ p) (h2 : blk A ≠ some g) : Blk w' g t cs := (k.block g h.lt h1 h2).trans h
end Go.Proofs.Ytkndgpjamijbbaa
namespace Go.Proofs.Ytkndgpjamijbbaa
set_option maxRecDepth 100000
open Go Go.RowKit
def StaysQ (q : Nat) (m : MP Ext) : Prop := ∀ u w w', w.grownBy w' (some q) → m.p u w → m.p u w'
def StaysQL (q : Nat) : List (MP Ext) → Prop
  | [] => True
  | m :: l => StaysQ q m ∧ StaysQL q l
theorem StaysQL.at_ {q : Nat} {F : List (MP Ext)} : ∀ {j : Nat} {m : MP Ext}, StaysQL q F → F[j]? = some m → StaysQ q m := by
  induction F with
  | nil => intro j m _ h; simp at h
  | cons x l ih =>
    intro j m h hj
    cases j with
    | zero =>
      simp only [List.getElem?_cons_zero, Option.some.injEq] at hj
      subst hj
      exact h.1
    | succ j => exact ih (j := j) h.2 (by simpa only [List.getElem?_cons_succ] using hj)
section
variable {ops : Array Oper} {H : List Tmp} {F : List (MP Ext)} {a0 : Act} {w0 wI : World} {q : Nat} {cs : List Nat} {S : Nat → World → Prop} {i : Nat} {o : Oper}
end
end Go.Proofs.Ytkndgpjamijbbaa
namespace Go.Proofs.Ytkndgpjamijbbaa
set_option maxRecDepth 100000
open Go Go.RowKit
def MP.man (q : Nat) (m : Man) : MP Ext := ⟨fun u w => ∃ F nf cf N nn cn, u = manV m F nf cf N nn cn ∧ RB w F nf cf m.fw ∧ RB w N nn cn m.notes ∧ (0 < nf → blk F ≠ some q) ∧ (0 < nn → blk N ≠ some q),
  fun _ _ _ e ⟨F, nf, cf, N, nn, cn, h1, h2, h3, h4, h5⟩ => ⟨F, nf, cf, N, nn, cn, h1, h2.ext e, h3.ext e, h4, h5⟩⟩
theorem RB.apart {w : World} {A : Option Addr} {n c : Nat} {L : List UInt8} (h : RB w A n c L) {g : Nat} {t : TypeId} {cs : Array Value} (hb : Blk w g t cs) (hno : ∀ (i : Nat) (x : Int), cs[i]? ≠ some (.int .u8 x)) : 0 < n → blk A ≠ some g := by
  intro hn e
  obtain ⟨ad, rfl, hc⟩ := h.cells hn
  have h1 := hc 0 hn
  have h2 : ad.block = g := by simpa [blk] using e
  unfold World.cell? at h1
  have h3 : (ad.add 0).block = ad.block := rfl
  rw [h3, h2, show w.heap[g]? = _ from hb] at h1
  by_cases hs : (ad.add 0).spot.isSome = true
  · simp [hs] at h1
  · simp only [hs] at h1
    exact hno _ _ h1
theorem set4 {w : World} {g : Nat} {t : TypeId} {a0 a1 a2 a3 : Value} (h : Blk w g t #[a0, a1, a2, a3]) (b0 b1 b2 b3 : Value) :
    Blk ((((w.setCell ⟨g, 0, none⟩ b0).setCell ⟨g, 1, none⟩ b1).setCell ⟨g, 2, none⟩ b2).setCell ⟨g, 3, none⟩ b3) g t #[b0, b1, b2, b3] ∧ w.grownBy ((((w.setCell ⟨g, 0, none⟩ b0).setCell ⟨g, 1, none⟩ b1).setCell ⟨g, 2, none⟩ b2).setCell ⟨g, 3, none⟩ b3) (some g) :=
  ⟨(((h.set 0 b0).set 1 b1).set 2 b2).set 3 b3, (((grownBy_setCell w ⟨g, 0, none⟩ _).trans (grownBy_setCell _ ⟨g, 1, none⟩ _)).trans (grownBy_setCell _ ⟨g, 2, none⟩ _)).trans (grownBy_setCell _ ⟨g, 3, none⟩ _)⟩
end Go.Proofs.Ytkndgpjamijbbaa
namespace Go.Proofs.Ytkndgpjamijbbaa
set_option maxRecDepth 100000
open Go Go.RowKit
theorem RdrS.away {w w' : World} {base q : Nat} {L : List UInt8} {bad : Bool} (h : RdrS w base q L bad) {k : Nat} {t : TypeId} {cs : Array Value} (hb : Blk w k t cs) (ht : t ≠ 151) (hno : ∀ (i : Nat) (x : Int), cs[i]? ≠ some (.int .u8 x)) (g : w.grownBy w' (some k)) : RdrS w' base q L bad := by
  obtain ⟨A', n', c', hn, hR⟩ := h
  have hbA : 0 < n' → blk A' ≠ some k := hR.rb.apart5 hb hno
  refine ⟨A', n', c', hn, hR.blk.grown g (fun e => ?_), hR.rb.grown g hbA, hR.ne, hR.base, fun h0 k' hk => ?_⟩
  · injection e with e
    subst e
    have h1 := hR.blk
    unfold Blk at h1 hb
    rw [h1] at hb
    injection hb with hb
    injection hb with _ hb
    exact ht hb.symm
  · obtain ⟨cs', fr, h1⟩ := hR.ty h0 k' hk
    exact ⟨cs', fr, (g.block k' (Array.getElem?_eq_some_iff.1 h1).1 (fun e => hbA h0 (by rw [hk, e]))).trans h1⟩
end Go.Proofs.Ytkndgpjamijbbaa
namespace Go.Proofs.Ytkndgpjamijbbaa
set_option maxRecDepth 100000
open Go Go.RowKit
def noU8 (cs : Array Value) : Bool := cs.toList.all fun v => match v with | .int .u8 _ => false | _ => true
theorem nou8 {cs : Array Value} (h : noU8 cs = true) (i : Nat) (x : Int) : cs[i]? ≠ some (.int .u8 x) := by
  intro e
  have h1 := List.all_eq_true.1 h _ (Array.mem_toList_iff.2 (Array.mem_of_getElem? e))
  simp at h1
def isSl : Option Value → Bool
  | some (.slice _ _ _) => true
  | _ => false
def no3B (cs : Array Value) : Bool := (List.range cs.size).all fun i => !(isSl cs[i]? && isSl cs[i + 1]? && isSl cs[i + 2]?)
theorem no3 {cs : Array Value} (h : no3B cs = true) (i : Nat) (a b c : Value) (ha : cs[i]? = some a) (hb : cs[i + 1]? = some b) (hc : cs[i + 2]? = some c) : ¬ (isSl (some a) = true ∧ isSl (some b) = true ∧ isSl (some c) = true) := by
  have hi : i < cs.size := (Array.getElem?_eq_some_iff.1 ha).1
  have h1 := List.all_eq_true.1 h i (List.mem_range.2 hi)
  rw [ha, hb, hc] at h1
  rintro ⟨k1, k2, k3⟩
  rw [k1, k2, k3] at h1
  cases h1
end Go.Proofs.Ytkndgpjamijbbaa
