/-
  RFC 6962's tree hash, and what two trees of one root show: plain Lean, no program in sight. Cuts of slices of byte slices. Plain theorems. tree.Leaf, Node, Root; ref6's, walked. ref6's Split and Root, walked. tree.Split, Root, walked (under way). keep.Few, walked; a slice is stored in a row of the call's own.
-/
import Derived.Test.YtkndgpjamijbbaaLawForg26Q5
import Derived.Test.YtkndgpjamijbbaaLawForg26Q12
import Derived.Test.YtkndgpjamijbbaaLawForg26Q14
import Derived.Test.YtkndgpjamijbbaaLawForg26Q22
import Derived.Test.YtkndgpjamijbbaaLawForg26Q17
import Derived.Test.YtkndgpjamijbbaaLawForg26Q16
namespace Go.Proofs.Ytkndgpjamijbbaa
set_option maxRecDepth 100000
/-- the greatest power of two below a number -/
def splitN (n : Nat) : Nat := if n < 2 then 0 else 2 ^ Nat.log2 (n - 1)
theorem splitN_small {n : Nat} (h : n < 2) : splitN n = 0 := by unfold splitN; rw [if_pos h]
theorem splitN_in {n : Nat} (h : 2 ≤ n) : 0 < splitN n ∧ splitN n < n := by
  unfold splitN
  rw [if_neg (by omega)]
  refine ⟨Nat.pow_pos (by omega), ?_⟩
  have := Nat.log2_self_le (n := n - 1) (by omega)
  omega
def leafH (b : List UInt8) : List UInt8 := tagged 0 b
def nodeH (l r : List UInt8) : List UInt8 := tagged 1 (l ++ r)
/-- the hash of leaves -/
def rootL (l : List (List UInt8)) : List UInt8 :=
  if h : l.length < 2 then (match l with | [] => sha [] | a :: _ => a) else nodeH (rootL (l.take (splitN l.length))) (rootL (l.drop (splitN l.length)))
termination_by l.length
decreasing_by
  · have := splitN_in (n := l.length) (by omega)
    rw [List.length_take]
    omega
  · have := splitN_in (n := l.length) (by omega)
    rw [List.length_drop]
    omega
theorem rootL_nil : rootL [] = sha [] := by
  unfold rootL
  rfl
theorem rootL_one (a : List UInt8) : rootL [a] = a := by
  unfold rootL
  rfl
theorem rootL_more {l : List (List UInt8)} (h : 2 ≤ l.length) : rootL l = nodeH (rootL (l.take (splitN l.length))) (rootL (l.drop (splitN l.length))) := by
  rw [rootL]
  rw [dif_neg (by omega)]
theorem rootL_len {l : List (List UInt8)} (h : ∀ a ∈ l, a.length = 32) : (rootL l).length = 32 := by
  by_cases h2 : 2 ≤ l.length
  · rw [rootL_more h2]
    exact tagged_length _ _
  · match l, h2 with
    | [], _ => rw [rootL_nil]; exact sha_length _
    | [a], _ => rw [rootL_one]; exact h a (List.mem_singleton.2 rfl)
    | _ :: _ :: _, h2 => simp at h2
/-- down two trees: the two texts, and whether they are unlike -/
def downL (a b : List (List UInt8)) : List UInt8 × List UInt8 × Bool :=
  if h : a.length < 2 then (0 :: lb a 0, 0 :: lb b 0, decide (0 :: lb a 0 ≠ 0 :: lb b 0))
  else
    let k := splitN a.length
    let p := 1 :: (rootL ((a.take k).map leafH) ++ rootL ((a.drop k).map leafH))
    let q := 1 :: (rootL ((b.take k).map leafH) ++ rootL ((b.drop k).map leafH))
    if p ≠ q then (p, q, true)
    else
      let d := downL (a.take k) (b.take k)
      if d.2.2 = true then d else downL (a.drop k) (b.drop k)
termination_by a.length
decreasing_by
  · have := splitN_in (n := a.length) (by omega)
    rw [List.length_take]
    omega
  · have := splitN_in (n := a.length) (by omega)
    rw [List.length_drop]
    omega
theorem leaf_len (l : List (List UInt8)) : ∀ a ∈ l.map leafH, a.length = 32 := by
  intro a ha
  rw [List.mem_map] at ha
  obtain ⟨b, _, rfl⟩ := ha
  exact tagged_length _ _
/-- of two rows of items with one root: what is told is a clash; if nothing is, they are the same -/
theorem downL_law : ∀ (n : Nat) (a b : List (List UInt8)), a.length = n → b.length = n → 1 ≤ n → rootL (a.map leafH) = rootL (b.map leafH) →
    ((downL a b).2.2 = true → (downL a b).1 ≠ (downL a b).2.1 ∧ sha (downL a b).1 = sha (downL a b).2.1) ∧ ((downL a b).2.2 = false → a = b) := by
  intro n
  induction n using Nat.strongRecOn with
  | ind n ih =>
    intro a b ha hb hn hr
    by_cases h2 : n < 2
    · obtain rfl : n = 1 := by omega
      match a, b, ha, hb with
      | [x], [y], _, _ =>
        have e : downL [x] [y] = (0 :: x, 0 :: y, decide ((0 : UInt8) :: x ≠ 0 :: y)) := by
          rw [downL]
          rw [dif_pos (by simp)]
          rfl
        rw [e]
        have hl : tagged 0 x = tagged 0 y := by
          simpa [rootL_one, leafH] using hr
        refine ⟨fun h => ⟨of_decide_eq_true h, hl⟩, fun h => ?_⟩
        have h1 := of_decide_eq_false h
        have h3 : (0 : UInt8) :: x = 0 :: y := Classical.not_not.1 h1
        injection h3 with _ h3
        rw [h3]
    · have hk := splitN_in (n := n) (by omega)
      have hka : splitN a.length = splitN n := by rw [ha]
      rw [downL]
      rw [dif_neg (by omega)]
      simp only [hka]
      have ra := rootL_more (l := a.map leafH) (by rw [List.length_map]; omega)
      have rb := rootL_more (l := b.map leafH) (by rw [List.length_map]; omega)
      rw [List.length_map, ha, ← List.map_take, ← List.map_drop] at ra
      rw [List.length_map, hb, ← List.map_take, ← List.map_drop] at rb
      rw [ra, rb] at hr
      generalize splitN n = k at *
      by_cases hp : (1 : UInt8) :: (rootL ((a.take k).map leafH) ++ rootL ((a.drop k).map leafH)) ≠ 1 :: (rootL ((b.take k).map leafH) ++ rootL ((b.drop k).map leafH))
      · rw [if_pos hp]
        exact ⟨fun _ => ⟨hp, hr⟩, fun h => by cases h⟩
      · rw [if_neg hp]
        have hp' := Classical.not_not.1 hp
        injection hp' with _ hp'
        have l1 := rootL_len (leaf_len (a.take k))
        have l2 := rootL_len (leaf_len (b.take k))
        obtain ⟨e1, e2⟩ := List.append_inj hp' (by omega)
        have k1 := ih k hk.2 (a.take k) (b.take k) (by rw [List.length_take]; omega) (by rw [List.length_take]; omega) (by omega) e1
        have k2 := ih (n - k) (by omega) (a.drop k) (b.drop k) (by rw [List.length_drop]; omega) (by rw [List.length_drop]; omega) (by omega) e2
        by_cases hd : (downL (a.take k) (b.take k)).2.2 = true
        · rw [if_pos hd]
          exact ⟨k1.1, fun h => by rw [hd] at h; cases h⟩
        · rw [if_neg hd]
          refine ⟨k2.1, fun h => ?_⟩
          have d1 := k1.2 (by simpa using hd)
          have d2 := k2.2 h
          rw [← List.take_append_drop k a, ← List.take_append_drop k b, d1, d2]
/-- rows that are the same: nothing is told -/
theorem downL_same : ∀ (n : Nat) (a : List (List UInt8)), a.length = n → 1 ≤ n → (downL a a).2.2 = false := by
  intro n
  induction n using Nat.strongRecOn with
  | ind n ih =>
    intro a ha hn
    by_cases h2 : n < 2
    · rw [downL]
      rw [dif_pos (by omega)]
      simp
    · have hk := splitN_in (n := n) (by omega)
      have hka : splitN a.length = splitN n := by rw [ha]
      rw [downL]
      rw [dif_neg (by omega)]
      simp only [hka]
      rw [if_neg (by simp)]
      have k1 := ih (splitN n) hk.2 (a.take (splitN n)) (by rw [List.length_take]; omega) (by omega)
      rw [if_neg (by rw [k1]; simp)]
      exact ih (n - splitN n) (by omega) (a.drop (splitN n)) (by rw [List.length_drop]; omega) (by omega)
end Go.Proofs.Ytkndgpjamijbbaa
namespace Go.Proofs.Ytkndgpjamijbbaa
set_option maxRecDepth 100000
open Go Go.RowKit
theorem add_add_ (ad : Addr) (j i : Nat) : (ad.add j).add i = ad.add (j + i) := by
  unfold Addr.add
  by_cases hj : j = 0 <;> by_cases hi : i = 0 <;> simp [hj, hi]
  omega
/-- 'l[i:j]' -/
theorem RBB.cut {w : World} {A A' : Option Addr} {n c c' : Nat} {Ls : List (List UInt8)} (h : RBB w A n c Ls) {i j : Nat} (hij : i ≤ j) (hj : j ≤ n) (hc : c' = c - i) (hA : i < j → A' = A.map (·.add i)) : RBB w A' (j - i) c' ((Ls.take j).drop i) := by
  have hl := h.len
  have hr := h.room
  have hm := h.cap
  refine ⟨by rw [List.length_drop, List.length_take]; omega, by omega, by omega, fun h0 => ?_⟩
  obtain ⟨ad, rfl, hcl⟩ := h.cells (by omega)
  refine ⟨ad.add i, by rw [hA (by omega)]; rfl, fun q hq => ?_⟩
  obtain ⟨B, m, d, h1, h2⟩ := hcl (i + q) (by omega)
  refine ⟨B, m, d, by rw [add_add_]; exact h1, ?_⟩
  have e : lb ((Ls.take j).drop i) q = lb Ls (i + q) := by
    unfold lb
    simp only [List.getD_eq_getElem?_getD, List.getElem?_drop]
    rw [List.getElem?_take_of_lt (by omega)]
  rw [e]
  exact h2
end Go.Proofs.Ytkndgpjamijbbaa
namespace Go.Proofs.Ytkndgpjamijbbaa
set_option maxRecDepth 100000
open Go Go.RowKit
theorem RBB.two_ {w : World} {b : Nat} {X D : Option Addr} {nx dx nd cd : Nat} {Lx Ld : List UInt8} {t : TypeId} (hB : Blk w b t #[.slice X nx dx, .slice D nd cd]) (rX : RB w X nx dx Lx) (rD : RB w D nd cd Ld) : RBB w (some ⟨b, 0, none⟩) 2 2 [Lx, Ld] := by
  refine ⟨rfl, Nat.le_refl _, small_maxLen (by decide), fun _ => ⟨_, rfl, fun j hj => ?_⟩⟩
  have h : j = 0 ∨ j = 1 := by omega
  rcases h with rfl | rfl
  · exact ⟨X, nx, dx, hB.cell (i := 0) rfl, rX⟩
  · exact ⟨D, nd, cd, hB.cell (i := 1) rfl, rD⟩
set_option maxHeartbeats 1000000 in
theorem trleaf_any (A : Option Addr) (n c : Nat) (L : List UInt8) (w : World) (hr : RB w A n c L) (hn : n ≤ 140737488355000) :
    Calls Try.prog 73 #[.slice A n c] w fun e w' => ∃ A' c', e = .returned (.slice A' 32 c') ∧ OB w' w.heap.size A' 32 c' (leafH L) ∧ Ext w w' := by
  have hl := hr.len
  go_enter Try.func73, Try.ntmps73
  have r1 := RBB.of1 hr 22
  have hE2 := Ext.new w (.cells #[.slice A n c] 22)
  have ht := htagged_any 0 _ 1 1 _ _ r1 (by simp only [List.flatten_cons, List.flatten_nil, List.append_nil]; omega)
  have e0 : u8i 0 = 0 := rfl
  rw [e0, show [L].flatten = L from by simp] at ht
  have Ht := Lib.hid ht
  clear ht hl
  go_wp2_with fail
  refine Ht.out.mono ?_
  rintro e w3 ⟨A3, c3, rfl, own, hE3⟩
  go_wp2_with fail
  go_ret
  exact ⟨A3, c3, rfl, own.base hE2.size, hE2.trans hE3⟩
set_option maxHeartbeats 1000000 in
theorem trnode_any (A B : Option Addr) (n c m d : Nat) (L R : List UInt8) (w : World) (hL : RB w A n c L) (hR : RB w B m d R) (hn : n + m ≤ 140737488355000) :
    Calls Try.prog 83 #[.slice A n c, .slice B m d] w fun e w' => ∃ A' c', e = .returned (.slice A' 32 c') ∧ OB w' w.heap.size A' 32 c' (nodeH L R) ∧ Ext w w' := by
  have hl := hL.len
  have hm := hR.len
  go_enter Try.func83, Try.ntmps83
  have hE2 := Ext.new w (.cells #[.slice A n c, .slice B m d] 22)
  have r1 := RBB.two_ (Blk.new w 22 #[.slice A n c, .slice B m d]) (hL.ext hE2) (hR.ext hE2)
  have ht := htagged_any 1 _ 2 2 _ _ r1 (by simp only [List.flatten_cons, List.flatten_nil, List.append_nil, List.length_append]; omega)
  have e0 : u8i 1 = 1 := rfl
  rw [e0, show [L, R].flatten = L ++ R from by simp] at ht
  have Ht := Lib.hid ht
  clear ht hl hm
  go_wp2_with fail
  refine Ht.out.mono ?_
  rintro e w3 ⟨A3, c3, rfl, own, hE3⟩
  go_wp2_with fail
  go_ret
  exact ⟨A3, c3, rfl, own.base hE2.size, hE2.trans hE3⟩
end Go.Proofs.Ytkndgpjamijbbaa
namespace Go.Proofs.Ytkndgpjamijbbaa
set_option maxRecDepth 100000
open Go Go.RowKit
theorem RBB.fst {w : World} {A : Option Addr} {n c : Nat} {Ls : List (List UInt8)} (h : RBB w A n c Ls) {k : Nat} (hk : k ≤ n) : RBB w A k c (Ls.take k) := by
  have h1 := h.cut (i := 0) (j := k) (c' := c) (A' := A) (by omega) hk (by omega) (fun _ => by cases A <;> simp [Addr.add])
  simpa using h1
theorem RBB.snd {w : World} {A : Option Addr} {n c : Nat} {Ls : List (List UInt8)} (h : RBB w A n c Ls) {k : Nat} (hk : k ≤ n) : RBB w (if c = k then A else A.map (·.add (k * 1))) (n - k) (c - k) (Ls.drop k) := by
  have hr := h.room
  have hl := h.len
  have h1 := h.cut (i := k) (j := n) (c' := c - k) (A' := if c = k then A else A.map (·.add (k * 1))) hk (Nat.le_refl _) rfl (fun hlt => by rw [if_neg (by omega), Nat.mul_one])
  rw [List.take_of_length_le (by omega)] at h1
  exact h1
end Go.Proofs.Ytkndgpjamijbbaa
namespace Go.Proofs.Ytkndgpjamijbbaa
set_option maxRecDepth 100000
open Go Go.RowKit
def lenN (x : Nat) : Nat := if x = 0 then 0 else Nat.log2 x + 1
theorem blen64_any (x : Nat) (hx : x < 256) (w : World) : Calls Try.prog 130 #[.int .u64 (x : Int)] w fun e w' => e = .returned (.int .i64 (lenN x : Int)) ∧ w = w' := by
  have h1 : ¬ (4294967296 : Int) ≤ (x : Int) := by omega
  have h2 : ¬ (65536 : Int) ≤ (x : Int) := by omega
  have h3 : ¬ (256 : Int) ≤ (x : Int) := by omega
  go_enter Try.func130, Try.ntmps130
  go_wp2_with fail
  go_ret
  refine ⟨congrArg (fun z => Ending.returned (.int .i64 z)) ?_, rfl⟩
  clear h1 h2
  revert hx h3
  revert x
  decide +kernel
theorem blen_any (x : Nat) (hx : x < 256) (w : World) : Calls Try.prog 112 #[.int .u64 (x : Int)] w fun e w' => e = .returned (.int .i64 (lenN x : Int)) ∧ w = w' := by
  have hb := blen64_any x hx w
  have Hb := Lib.hid hb
  clear hb
  go_enter Try.func112, Try.ntmps112
  go_wp2_with fail
  refine Hb.out.mono ?_
  rintro e w1 ⟨rfl, rfl⟩
  go_wp2_with fail
  go_ret
  exact ⟨rfl, rfl⟩
theorem bin_shl1 {P : Program} {w : World} (t : TypeId) (e : Nat) (he : e ≤ 8) : (binOp .shl t (.int .i64 1) (.int .i64 (e : Int))).run P w = .ok (.int .i64 ((2 ^ e : Nat) : Int)) w := by
  have h : e = 0 ∨ e = 1 ∨ e = 2 ∨ e = 3 ∨ e = 4 ∨ e = 5 ∨ e = 6 ∨ e = 7 ∨ e = 8 := by omega
  rcases h with rfl | rfl | rfl | rfl | rfl | rfl | rfl | rfl | rfl
  all_goals rfl
theorem tsplit_any (n : Nat) (hn : n ≤ 256) (w : World) : Calls Try.prog 82 #[.int .i64 (n : Int)] w fun e w' => e = .returned (.int .i64 ((splitN n : Nat) : Int)) ∧ w = w' := by
  go_enter Try.func82, Try.ntmps82
  by_cases h2 : n < 2
  · have h2i : (n : Int) < 2 := by omega
    have hs := splitN_small h2
    go_wp2_with fail
    go_ret
    rw [hs]
    exact ⟨rfl, rfl⟩
  · have h2i : ¬ ((n : Int) < 2) := by omega
    obtain ⟨x, rfl⟩ : ∃ x, n = x + 1 := ⟨n - 1, by omega⟩
    have hx0 : x ≠ 0 := by omega
    have hlen : lenN x = Nat.log2 x + 1 := by unfold lenN; rw [if_neg hx0]
    have hs : splitN (x + 1) = 2 ^ Nat.log2 x := by unfold splitN; rw [if_neg h2, Nat.add_sub_cancel]
    have hlog : Nat.log2 x ≤ 8 := by
      have h1 := Nat.log2_self_le hx0
      have h2 : 2 ^ Nat.log2 x < 2 ^ 9 := by omega
      have := (Nat.pow_lt_pow_iff_right (by omega : 1 < 2)).1 h2
      omega
    have hb := fun w' => blen_any x (by omega) w'
    have hcv : ∀ w', (convert 3 91 (.int .i64 (x : Int))).run Try.prog w' = .ok (.int .u64 (x : Int)) w' := fun w' => conv_i64_u64 Try.underlying3 Try.underlying91 _ x rfl (by omega)
    have hsh := fun w' => bin_shl1 (P := Try.prog) (w := w') 3 (Nat.log2 x) hlog
    rw [hlen] at hb
    rw [hs]
    have Hb := Lib.hid hb
    clear hb hlen hs
    generalize Nat.log2 x = e at *
    have hw : ∀ e : Nat, e ≤ 8 → wrap64 ((2 : Int) ^ e) = ((2 ^ e : Nat) : Int) := by decide +kernel
    have Hw := hw _ hlog
    clear hw
    have Hw := Lib.hid Hw
    have hsub : ((x + 1 : Nat) : Int) - 1 = (x : Int) := by omega
    go_wp2_with fail
    refine (Hb.out _).mono ?_
    rintro e1 w1 ⟨rfl, rfl⟩
    go_wp2_with fail
    go_ret
    exact ⟨congrArg (fun z => Ending.returned (.int .i64 z)) Hw.out, rfl⟩
end Go.Proofs.Ytkndgpjamijbbaa
namespace Go.Proofs.Ytkndgpjamijbbaa
set_option maxRecDepth 100000
open Go Go.RowKit
def fewL (most : Nat) (Ls : List (List UInt8)) : List (List UInt8) := Ls.map (·.take most)
theorem fewL_snoc (most : Nat) (Ls : List (List UInt8)) {p : Nat} (hp : p < Ls.length) : fewL most (Ls.take (p + 1)) = fewL most (Ls.take p) ++ [(lb Ls p).take most] := by
  unfold fewL
  rw [List.take_succ_eq_append_getElem hp, List.map_append]
  simp [lb, hp]
def FewI (w : World) (most : Nat) (Ls : List (List UInt8)) (q : Nat) (v i : Value) (wr : World) : Prop :=
  ∃ (p d : Nat) (P : Option Addr), p ≤ q ∧ i = .int .i64 p ∧ v = .slice P p d ∧ OBC wr w.heap.size P p d (fewL most (Ls.take p)) ∧ Ext w wr
set_option maxHeartbeats 2000000 in
theorem few_any (A : Option Addr) (n c k most : Nat) (Ls : List (List UInt8)) (w : World) (hr : RBB w A n c Ls) (hk : k ≤ 1000) (hmost : most ≤ 1000) :
    Calls Try.prog 16 #[.slice A n c, .int .i64 (k : Int), .int .i64 (most : Int)] w fun e w' => ∃ P d, e = .returned (.slice P (min n k) d) ∧ OBC w' w.heap.size P (min n k) d (fewL most (Ls.take k)) ∧ Ext w w' := by
  have hl := hr.len
  have Hl := Lib.hid hl
  clear hl
  have hcap := hr.cap
  have hroom := hr.room
  unfold maxLen at hcap
  obtain ⟨q, hq⟩ : ∃ q, q = min n k := ⟨_, rfl⟩
  have hqn : q ≤ n := by omega
  have hqk : q ≤ k := by omega
  have hqq : q = n ∨ q = k := by omega
  have he : fewL most (Ls.take k) = fewL most (Ls.take q) := by
    rw [hq, ← Hl.out]
    congr 1
    rw [Nat.min_def]
    split
    · rw [List.take_of_length_le (by omega), List.take_of_length_le (Nat.le_refl _)]
    · rfl
  rw [← hq, he]
  clear hq he
  go_enter Try.func16, Try.ntmps16
  go_wp2_with fail
  go_loopw [7, 8] (fun v i wr => FewI w most Ls q v i wr) (fun _ i _ => q - (intOf i).toNat)
  case atStart => exact ⟨0, 0, none, by omega, rfl, rfl, OBC.none_ _ _, Ext.refl _⟩
  case round =>
    obtain ⟨p, d, P, hp, rfl, rfl, own, hEr⟩ := hrel
    by_cases hlt : p < q
    · have hpn : (p : Int) < (n : Int) := by omega
      have hpk : (p : Int) < (k : Int) := by omega
      obtain ⟨ad, rfl, hc⟩ := hr.cells (by omega)
      obtain ⟨E, z, y, hcell, hrE⟩ := hc p (by omega)
      have y1 := hEr.cell hcell
      have rE := hrE.ext hEr
      have hcu := cut_any E z y most _ wr rE (by omega)
      have Hcu := Lib.hid hcu
      clear hcu hc hcell
      go_wp2_with fail
      refine Hcu.out.mono ?_
      rintro e w2 ⟨⟨rfl, rC⟩, rfl⟩
      clear Hcu
      have hEa := Ext.new wr (.cells #[.slice E (min z most) y] 22)
      have hBa := Blk.new wr 22 #[.slice E (min z most) y]
      have own4 := own.ext hEa
      have hne : 0 < min z most → blk E ≠ blk P := by
        intro hz e
        obtain ⟨b, hb⟩ : ∃ b, blk E = some b := by
          obtain ⟨ad', h1, _⟩ := hrE.cells (by omega)
          rw [h1]
          exact ⟨_, rfl⟩
        have h1 := rb_blk_lt hrE (by omega) _ hb
        have h2 := own.lt (e.symm.trans hb)
        omega
      have hY : RB wr E (min z most) y ((lb Ls p).take most) := rC
      go_wp2_with (refine appbc_law (base := w.heap.size) (Y := (lb Ls p).take most) rfl rfl rfl rfl (by rw [add_plain]; exact hBa.cell (i := 0) rfl) own4 (hY.ext hEa) hne (hEr.trans hEa).size (by omega) ?_; intro P5 d5 w5 own5 g5)
      go_roundw
      case rel =>
        rw [← fewL_snoc most Ls (by rw [Hl.out]; omega)] at own5
        exact ⟨p + 1, d5, P5, by omega, by go_num, rfl, own5, (hEr.trans hEa).then_grown g5 (fun b hb => (own4.lt hb).1)⟩
      case measure => simp [intOf]; omega
    · obtain rfl : p = q := by omega
      by_cases hpn : p < n
      · have a1 : (p : Int) < (n : Int) := by omega
        have a2 : ¬ ((p : Int) < (k : Int)) := by omega
        go_wp2_with fail
        go_ret
        exact ⟨P, d, rfl, own, hEr⟩
      · have a1 : ¬ ((p : Int) < (n : Int)) := by omega
        go_wp2_with fail
        go_ret
        exact ⟨P, d, rfl, own, hEr⟩
theorem OBC.store {w a : World} {base n c g z y : Nat} {E : Option Addr} {Ls : List (List UInt8)} {Y : List UInt8} (h : OBC w base (some ⟨g, 0, none⟩) n c Ls) (hE : RB w E z y Y) (hne : 0 < z → blk E ≠ some g) (i : Nat) (hi : i < n) (ha : Ext a w) (hab : a.heap.size ≤ base) :
    OBC (w.setCell ⟨g, i, none⟩ (.slice E z y)) base (some ⟨g, 0, none⟩) n c (Ls.set i Y) ∧ Ext a (w.setCell ⟨g, i, none⟩ (.slice E z y)) := by
  have hlt := h.lt (k := g) rfl
  obtain ⟨vs, h1, h2, h3⟩ := h
  have hvl : vs.length = n := by have := h1.1; omega
  have s := World.ownsRow.stored h1 i (.slice E z y)
  refine ⟨⟨vs.set i (.slice E z y), s.1, by simp [h2], fun j hj => ?_⟩, ha.then_grown s.2 (by intro k hk; cases hk; omega)⟩
  rw [lb_set (by omega)]
  by_cases hji : j = i
  · subst hji
    rw [if_pos rfl]
    exact ⟨E, z, y, by simp [hvl, hj], hE.grown s.2 hne, hne⟩
  · rw [if_neg hji]
    obtain ⟨B, m, d, h4, h5, h6⟩ := h3 j hj
    exact ⟨B, m, d, by rw [List.getElem?_set_ne (Ne.symm hji)]; exact h4, h5.grown s.2 h6, h6⟩
end Go.Proofs.Ytkndgpjamijbbaa
