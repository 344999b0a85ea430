/-
  RFC 6962's tree hash, and what two trees of one root show: plain Lean, no program in sight. Cuts of slices of byte slices. Plain theorems. tree.Leaf, Node, Root; ref6's, walked. ref6's Split and Root, walked. tree.Split, Root, walked (under way). keep.Few, walked; a slice is stored in a row of the call's own. ref6's and extract's leaves; tree.Root, walked. slices.Grow of none and slices.Concat of byte slices, walked.
-/
import Derived.Test.YtkndgpjamijbbaaLawCom26Q9
import Derived.Test.YtkndgpjamijbbaaLawCom26Q4
import Derived.Test.YtkndgpjamijbbaaLawCom26Q11
import Derived.Test.YtkndgpjamijbbaaLawCom26Q12
import Derived.Test.YtkndgpjamijbbaaLawCom26Q20
import Derived.Test.YtkndgpjamijbbaaLawCom26Q14
import Derived.Lib.AppendZerosOnto
namespace Go.Proofs.Ytkndgpjamijbbaa
set_option maxRecDepth 100000
/-- the greatest power of two below a number -/
def splitN (n : Nat) : Nat := if n < 2 then 0 else 2 ^ Nat.log2 (n - 1)
theorem splitN_small {n : Nat} (h : n < 2) : splitN n = 0 := by unfold splitN; rw [if_pos h]
theorem splitN_in {n : Nat} (h : 2 ≤ n) : 0 < splitN n ∧ splitN n < n := by
  unfold splitN
  rw [if_neg (by omega)]
  refine ⟨Nat.pow_pos (by omega), ?_⟩
  have := Nat.log2_self_le (n := n - 1) (by omega)
  omega
def leafH (b : List UInt8) : List UInt8 := tagged 0 b
def nodeH (l r : List UInt8) : List UInt8 := tagged 1 (l ++ r)
/-- the hash of leaves -/
def rootL (l : List (List UInt8)) : List UInt8 :=
  if h : l.length < 2 then (match l with | [] => sha [] | a :: _ => a) else nodeH (rootL (l.take (splitN l.length))) (rootL (l.drop (splitN l.length)))
termination_by l.length
decreasing_by
  · have := splitN_in (n := l.length) (by omega)
    rw [List.length_take]
    omega
  · have := splitN_in (n := l.length) (by omega)
    rw [List.length_drop]
    omega
theorem rootL_nil : rootL [] = sha [] := by
  unfold rootL
  rfl
theorem rootL_one (a : List UInt8) : rootL [a] = a := by
  unfold rootL
  rfl
theorem rootL_more {l : List (List UInt8)} (h : 2 ≤ l.length) : rootL l = nodeH (rootL (l.take (splitN l.length))) (rootL (l.drop (splitN l.length))) := by
  rw [rootL]
  rw [dif_neg (by omega)]
theorem rootL_len {l : List (List UInt8)} (h : ∀ a ∈ l, a.length = 32) : (rootL l).length = 32 := by
  by_cases h2 : 2 ≤ l.length
  · rw [rootL_more h2]
    exact tagged_length _ _
  · match l, h2 with
    | [], _ => rw [rootL_nil]; exact sha_length _
    | [a], _ => rw [rootL_one]; exact h a (List.mem_singleton.2 rfl)
    | _ :: _ :: _, h2 => simp at h2
/-- down two trees: the two texts, and whether they are unlike -/
def downL (a b : List (List UInt8)) : List UInt8 × List UInt8 × Bool :=
  if h : a.length < 2 then (0 :: lb a 0, 0 :: lb b 0, decide (0 :: lb a 0 ≠ 0 :: lb b 0))
  else
    let k := splitN a.length
    let p := 1 :: (rootL ((a.take k).map leafH) ++ rootL ((a.drop k).map leafH))
    let q := 1 :: (rootL ((b.take k).map leafH) ++ rootL ((b.drop k).map leafH))
    if p ≠ q then (p, q, true)
    else
      let d := downL (a.take k) (b.take k)
      if d.2.2 = true then d else downL (a.drop k) (b.drop k)
termination_by a.length
decreasing_by
  · have := splitN_in (n := a.length) (by omega)
    rw [List.length_take]
    omega
  · have := splitN_in (n := a.length) (by omega)
    rw [List.length_drop]
    omega
theorem leaf_len (l : List (List UInt8)) : ∀ a ∈ l.map leafH, a.length = 32 := by
  intro a ha
  rw [List.mem_map] at ha
  obtain ⟨b, _, rfl⟩ := ha
  exact tagged_length _ _
/-- of two rows of items with one root: what is told is a clash; if nothing is, they are the same -/
theorem downL_law : ∀ (n : Nat) (a b : List (List UInt8)), a.length = n → b.length = n → 1 ≤ n → rootL (a.map leafH) = rootL (b.map leafH) →
    ((downL a b).2.2 = true → (downL a b).1 ≠ (downL a b).2.1 ∧ sha (downL a b).1 = sha (downL a b).2.1) ∧ ((downL a b).2.2 = false → a = b) := by
  intro n
  induction n using Nat.strongRecOn with
  | ind n ih =>
    intro a b ha hb hn hr
    by_cases h2 : n < 2
    · obtain rfl : n = 1 := by omega
      match a, b, ha, hb with
      | [x], [y], _, _ =>
        have e : downL [x] [y] = (0 :: x, 0 :: y, decide ((0 : UInt8) :: x ≠ 0 :: y)) := by
          rw [downL]
          rw [dif_pos (by simp)]
          rfl
        rw [e]
        have hl : tagged 0 x = tagged 0 y := by
          simpa [rootL_one, leafH] using hr
        refine ⟨fun h => ⟨of_decide_eq_true h, hl⟩, fun h => ?_⟩
        have h1 := of_decide_eq_false h
        have h3 : (0 : UInt8) :: x = 0 :: y := Classical.not_not.1 h1
        injection h3 with _ h3
        rw [h3]
    · have hk := splitN_in (n := n) (by omega)
      have hka : splitN a.length = splitN n := by rw [ha]
      rw [downL]
      rw [dif_neg (by omega)]
      simp only [hka]
      have ra := rootL_more (l := a.map leafH) (by rw [List.length_map]; omega)
      have rb := rootL_more (l := b.map leafH) (by rw [List.length_map]; omega)
      rw [List.length_map, ha, ← List.map_take, ← List.map_drop] at ra
      rw [List.length_map, hb, ← List.map_take, ← List.map_drop] at rb
      rw [ra, rb] at hr
      generalize splitN n = k at *
      by_cases hp : (1 : UInt8) :: (rootL ((a.take k).map leafH) ++ rootL ((a.drop k).map leafH)) ≠ 1 :: (rootL ((b.take k).map leafH) ++ rootL ((b.drop k).map leafH))
      · rw [if_pos hp]
        exact ⟨fun _ => ⟨hp, hr⟩, fun h => by cases h⟩
      · rw [if_neg hp]
        have hp' := Classical.not_not.1 hp
        injection hp' with _ hp'
        have l1 := rootL_len (leaf_len (a.take k))
        have l2 := rootL_len (leaf_len (b.take k))
        obtain ⟨e1, e2⟩ := List.append_inj hp' (by omega)
        have k1 := ih k hk.2 (a.take k) (b.take k) (by rw [List.length_take]; omega) (by rw [List.length_take]; omega) (by omega) e1
        have k2 := ih (n - k) (by omega) (a.drop k) (b.drop k) (by rw [List.length_drop]; omega) (by rw [List.length_drop]; omega) (by omega) e2
        by_cases hd : (downL (a.take k) (b.take k)).2.2 = true
        · rw [if_pos hd]
          exact ⟨k1.1, fun h => by rw [hd] at h; cases h⟩
        · rw [if_neg hd]
          refine ⟨k2.1, fun h => ?_⟩
          have d1 := k1.2 (by simpa using hd)
          have d2 := k2.2 h
          rw [← List.take_append_drop k a, ← List.take_append_drop k b, d1, d2]
/-- rows that are the same: nothing is told -/
theorem downL_same : ∀ (n : Nat) (a : List (List UInt8)), a.length = n → 1 ≤ n → (downL a a).2.2 = false := by
  intro n
  induction n using Nat.strongRecOn with
  | ind n ih =>
    intro a ha hn
    by_cases h2 : n < 2
    · rw [downL]
      rw [dif_pos (by omega)]
      simp
    · have hk := splitN_in (n := n) (by omega)
      have hka : splitN a.length = splitN n := by rw [ha]
      rw [downL]
      rw [dif_neg (by omega)]
      simp only [hka]
      rw [if_neg (by simp)]
      have k1 := ih (splitN n) hk.2 (a.take (splitN n)) (by rw [List.length_take]; omega) (by omega)
      rw [if_neg (by rw [k1]; simp)]
      exact ih (n - splitN n) (by omega) (a.drop (splitN n)) (by rw [List.length_drop]; omega) (by omega)
end Go.Proofs.Ytkndgpjamijbbaa
namespace Go.Proofs.Ytkndgpjamijbbaa
set_option maxRecDepth 100000
open Go Go.RowKit
theorem add_add_ (ad : Addr) (j i : Nat) : (ad.add j).add i = ad.add (j + i) := by
  unfold Addr.add
  by_cases hj : j = 0 <;> by_cases hi : i = 0 <;> simp [hj, hi]
  omega
/-- 'l[i:j]' -/
theorem RBB.cut {w : World} {A A' : Option Addr} {n c c' : Nat} {Ls : List (List UInt8)} (h : RBB w A n c Ls) {i j : Nat} (hij : i ≤ j) (hj : j ≤ n) (hc : c' = c - i) (hA : i < j → A' = A.map (·.add i)) : RBB w A' (j - i) c' ((Ls.take j).drop i) := by
  have hl := h.len
  have hr := h.room
  have hm := h.cap
  refine ⟨by rw [List.length_drop, List.length_take]; omega, by omega, by omega, fun h0 => ?_⟩
  obtain ⟨ad, rfl, hcl⟩ := h.cells (by omega)
  refine ⟨ad.add i, by rw [hA (by omega)]; rfl, fun q hq => ?_⟩
  obtain ⟨B, m, d, h1, h2⟩ := hcl (i + q) (by omega)
  refine ⟨B, m, d, by rw [add_add_]; exact h1, ?_⟩
  have e : lb ((Ls.take j).drop i) q = lb Ls (i + q) := by
    unfold lb
    simp only [List.getD_eq_getElem?_getD, List.getElem?_drop]
    rw [List.getElem?_take_of_lt (by omega)]
  rw [e]
  exact h2
end Go.Proofs.Ytkndgpjamijbbaa
namespace Go.Proofs.Ytkndgpjamijbbaa
set_option maxRecDepth 100000
open Go Go.RowKit
theorem RBB.two_ {w : World} {b : Nat} {X D : Option Addr} {nx dx nd cd : Nat} {Lx Ld : List UInt8} {t : TypeId} (hB : Blk w b t #[.slice X nx dx, .slice D nd cd]) (rX : RB w X nx dx Lx) (rD : RB w D nd cd Ld) : RBB w (some ⟨b, 0, none⟩) 2 2 [Lx, Ld] := by
  refine ⟨rfl, Nat.le_refl _, small_maxLen (by decide), fun _ => ⟨_, rfl, fun j hj => ?_⟩⟩
  have h : j = 0 ∨ j = 1 := by omega
  rcases h with rfl | rfl
  · exact ⟨X, nx, dx, hB.cell (i := 0) rfl, rX⟩
  · exact ⟨D, nd, cd, hB.cell (i := 1) rfl, rD⟩
set_option maxHeartbeats 1000000 in
theorem trleaf_any (A : Option Addr) (n c : Nat) (L : List UInt8) (w : World) (hr : RB w A n c L) (hn : n ≤ 140737488355000) :
    Calls Try.prog 73 #[.slice A n c] w fun e w' => ∃ A' c', e = .returned (.slice A' 32 c') ∧ OB w' w.heap.size A' 32 c' (leafH L) ∧ Ext w w' := by
  have hl := hr.len
  go_enter Try.func73, Try.ntmps73
  have r1 := RBB.of1 hr 22
  have hE2 := Ext.new w (.cells #[.slice A n c] 22)
  have ht := htagged_any 0 _ 1 1 _ _ r1 (by simp only [List.flatten_cons, List.flatten_nil, List.append_nil]; omega)
  have e0 : u8i 0 = 0 := rfl
  rw [e0, show [L].flatten = L from by simp] at ht
  have Ht := Lib.hid ht
  clear ht hl
  go_wp2_with fail
  refine Ht.out.mono ?_
  rintro e w3 ⟨A3, c3, rfl, own, hE3⟩
  go_wp2_with fail
  go_ret
  exact ⟨A3, c3, rfl, own.base hE2.size, hE2.trans hE3⟩
set_option maxHeartbeats 1000000 in
theorem trnode_any (A B : Option Addr) (n c m d : Nat) (L R : List UInt8) (w : World) (hL : RB w A n c L) (hR : RB w B m d R) (hn : n + m ≤ 140737488355000) :
    Calls Try.prog 83 #[.slice A n c, .slice B m d] w fun e w' => ∃ A' c', e = .returned (.slice A' 32 c') ∧ OB w' w.heap.size A' 32 c' (nodeH L R) ∧ Ext w w' := by
  have hl := hL.len
  have hm := hR.len
  go_enter Try.func83, Try.ntmps83
  have hE2 := Ext.new w (.cells #[.slice A n c, .slice B m d] 22)
  have r1 := RBB.two_ (Blk.new w 22 #[.slice A n c, .slice B m d]) (hL.ext hE2) (hR.ext hE2)
  have ht := htagged_any 1 _ 2 2 _ _ r1 (by simp only [List.flatten_cons, List.flatten_nil, List.append_nil, List.length_append]; omega)
  have e0 : u8i 1 = 1 := rfl
  rw [e0, show [L, R].flatten = L ++ R from by simp] at ht
  have Ht := Lib.hid ht
  clear ht hl hm
  go_wp2_with fail
  refine Ht.out.mono ?_
  rintro e w3 ⟨A3, c3, rfl, own, hE3⟩
  go_wp2_with fail
  go_ret
  exact ⟨A3, c3, rfl, own.base hE2.size, hE2.trans hE3⟩
end Go.Proofs.Ytkndgpjamijbbaa
namespace Go.Proofs.Ytkndgpjamijbbaa
set_option maxRecDepth 100000
open Go Go.RowKit
theorem RBB.fst {w : World} {A : Option Addr} {n c : Nat} {Ls : List (List UInt8)} (h : RBB w A n c Ls) {k : Nat} (hk : k ≤ n) : RBB w A k c (Ls.take k) := by
  have h1 := h.cut (i := 0) (j := k) (c' := c) (A' := A) (by omega) hk (by omega) (fun _ => by cases A <;> simp [Addr.add])
  simpa using h1
theorem RBB.snd {w : World} {A : Option Addr} {n c : Nat} {Ls : List (List UInt8)} (h : RBB w A n c Ls) {k : Nat} (hk : k ≤ n) : RBB w (if c = k then A else A.map (·.add (k * 1))) (n - k) (c - k) (Ls.drop k) := by
  have hr := h.room
  have hl := h.len
  have h1 := h.cut (i := k) (j := n) (c' := c - k) (A' := if c = k then A else A.map (·.add (k * 1))) hk (Nat.le_refl _) rfl (fun hlt => by rw [if_neg (by omega), Nat.mul_one])
  rw [List.take_of_length_le (by omega)] at h1
  exact h1
end Go.Proofs.Ytkndgpjamijbbaa
namespace Go.Proofs.Ytkndgpjamijbbaa
set_option maxRecDepth 100000
open Go Go.RowKit
def lenN (x : Nat) : Nat := if x = 0 then 0 else Nat.log2 x + 1
theorem blen64_any (x : Nat) (hx : x < 256) (w : World) : Calls Try.prog 130 #[.int .u64 (x : Int)] w fun e w' => e = .returned (.int .i64 (lenN x : Int)) ∧ w = w' := by
  have h1 : ¬ (4294967296 : Int) ≤ (x : Int) := by omega
  have h2 : ¬ (65536 : Int) ≤ (x : Int) := by omega
  have h3 : ¬ (256 : Int) ≤ (x : Int) := by omega
  go_enter Try.func130, Try.ntmps130
  go_wp2_with fail
  go_ret
  refine ⟨congrArg (fun z => Ending.returned (.int .i64 z)) ?_, rfl⟩
  clear h1 h2
  revert hx h3
  revert x
  decide +kernel
theorem blen_any (x : Nat) (hx : x < 256) (w : World) : Calls Try.prog 112 #[.int .u64 (x : Int)] w fun e w' => e = .returned (.int .i64 (lenN x : Int)) ∧ w = w' := by
  have hb := blen64_any x hx w
  have Hb := Lib.hid hb
  clear hb
  go_enter Try.func112, Try.ntmps112
  go_wp2_with fail
  refine Hb.out.mono ?_
  rintro e w1 ⟨rfl, rfl⟩
  go_wp2_with fail
  go_ret
  exact ⟨rfl, rfl⟩
theorem bin_shl1 {P : Program} {w : World} (t : TypeId) (e : Nat) (he : e ≤ 8) : (binOp .shl t (.int .i64 1) (.int .i64 (e : Int))).run P w = .ok (.int .i64 ((2 ^ e : Nat) : Int)) w := by
  have h : e = 0 ∨ e = 1 ∨ e = 2 ∨ e = 3 ∨ e = 4 ∨ e = 5 ∨ e = 6 ∨ e = 7 ∨ e = 8 := by omega
  rcases h with rfl | rfl | rfl | rfl | rfl | rfl | rfl | rfl | rfl
  all_goals rfl
theorem tsplit_any (n : Nat) (hn : n ≤ 256) (w : World) : Calls Try.prog 82 #[.int .i64 (n : Int)] w fun e w' => e = .returned (.int .i64 ((splitN n : Nat) : Int)) ∧ w = w' := by
  go_enter Try.func82, Try.ntmps82
  by_cases h2 : n < 2
  · have h2i : (n : Int) < 2 := by omega
    have hs := splitN_small h2
    go_wp2_with fail
    go_ret
    rw [hs]
    exact ⟨rfl, rfl⟩
  · have h2i : ¬ ((n : Int) < 2) := by omega
    obtain ⟨x, rfl⟩ : ∃ x, n = x + 1 := ⟨n - 1, by omega⟩
    have hx0 : x ≠ 0 := by omega
    have hlen : lenN x = Nat.log2 x + 1 := by unfold lenN; rw [if_neg hx0]
    have hs : splitN (x + 1) = 2 ^ Nat.log2 x := by unfold splitN; rw [if_neg h2, Nat.add_sub_cancel]
    have hlog : Nat.log2 x ≤ 8 := by
      have h1 := Nat.log2_self_le hx0
      have h2 : 2 ^ Nat.log2 x < 2 ^ 9 := by omega
      have := (Nat.pow_lt_pow_iff_right (by omega : 1 < 2)).1 h2
      omega
    have hb := fun w' => blen_any x (by omega) w'
    have hcv : ∀ w', (convert 3 91 (.int .i64 (x : Int))).run Try.prog w' = .ok (.int .u64 (x : Int)) w' := fun w' => conv_i64_u64 Try.underlying3 Try.underlying91 _ x rfl (by omega)
    have hsh := fun w' => bin_shl1 (P := Try.prog) (w := w') 3 (Nat.log2 x) hlog
    rw [hlen] at hb
    rw [hs]
    have Hb := Lib.hid hb
    clear hb hlen hs
    generalize Nat.log2 x = e at *
    have hw : ∀ e : Nat, e ≤ 8 → wrap64 ((2 : Int) ^ e) = ((2 ^ e : Nat) : Int) := by decide +kernel
    have Hw := hw _ hlog
    clear hw
    have Hw := Lib.hid Hw
    have hsub : ((x + 1 : Nat) : Int) - 1 = (x : Int) := by omega
    go_wp2_with fail
    refine (Hb.out _).mono ?_
    rintro e1 w1 ⟨rfl, rfl⟩
    go_wp2_with fail
    go_ret
    exact ⟨congrArg (fun z => Ending.returned (.int .i64 z)) Hw.out, rfl⟩
end Go.Proofs.Ytkndgpjamijbbaa
namespace Go.Proofs.Ytkndgpjamijbbaa
set_option maxRecDepth 100000
open Go Go.RowKit
theorem OBC.store {w a : World} {base n c g z y : Nat} {E : Option Addr} {Ls : List (List UInt8)} {Y : List UInt8} (h : OBC w base (some ⟨g, 0, none⟩) n c Ls) (hE : RB w E z y Y) (hne : 0 < z → blk E ≠ some g) (i : Nat) (hi : i < n) (ha : Ext a w) (hab : a.heap.size ≤ base) :
    OBC (w.setCell ⟨g, i, none⟩ (.slice E z y)) base (some ⟨g, 0, none⟩) n c (Ls.set i Y) ∧ Ext a (w.setCell ⟨g, i, none⟩ (.slice E z y)) := by
  have hlt := h.lt (k := g) rfl
  obtain ⟨vs, h1, h2, h3⟩ := h
  have hvl : vs.length = n := by have := h1.1; omega
  have s := World.ownsRow.stored h1 i (.slice E z y)
  refine ⟨⟨vs.set i (.slice E z y), s.1, by simp [h2], fun j hj => ?_⟩, ha.then_grown s.2 (by intro k hk; cases hk; omega)⟩
  rw [lb_set (by omega)]
  by_cases hji : j = i
  · subst hji
    rw [if_pos rfl]
    exact ⟨E, z, y, by simp [hvl, hj], hE.grown s.2 hne, hne⟩
  · rw [if_neg hji]
    obtain ⟨B, m, d, h4, h5, h6⟩ := h3 j hj
    exact ⟨B, m, d, by rw [List.getElem?_set_ne (Ne.symm hji)]; exact h4, h5.grown s.2 h6, h6⟩
end Go.Proofs.Ytkndgpjamijbbaa
namespace Go.Proofs.Ytkndgpjamijbbaa
set_option maxRecDepth 100000
open Go Go.RowKit
def MP.obk (b n : Nat) (L : List UInt8) : MP Ext := ⟨fun u w => ∃ A c, u = .slice A n c ∧ OB w b A n c L, fun _ _ _ e ⟨A, c, h1, h2⟩ => ⟨A, c, h1, h2.ext e⟩⟩
def LvI (w : World) (Ls : List (List UInt8)) (v i : Value) (wr : World) : Prop :=
  ∃ (p d : Nat) (P : Option Addr), p ≤ Ls.length ∧ i = .int .i64 p ∧ v = .slice P p d ∧ OBC wr w.heap.size P p d ((Ls.take p).map leafH) ∧ Ext w wr
theorem leaf_snoc (Ls : List (List UInt8)) {p : Nat} (hp : p < Ls.length) : (Ls.take (p + 1)).map leafH = (Ls.take p).map leafH ++ [leafH (lb Ls p)] := by
  rw [List.take_succ_eq_append_getElem hp, List.map_append]
  simp [lb, hp]
set_option maxHeartbeats 2000000 in
theorem xleaves_any (A : Option Addr) (n c : Nat) (Ls : List (List UInt8)) (w : World) (hr : RBB w A n c Ls) (hn : n ≤ 100000) (hb : ∀ a ∈ Ls, a.length ≤ 1000000) :
    Calls Try.prog 50 #[.slice A n c] w fun e w' => ∃ P d, e = .returned (.slice P n d) ∧ OBC w' w.heap.size P n d (Ls.map leafH) ∧ Ext w w' := by
  have hl := hr.len
  have Hl := Lib.hid hl
  clear hl
  have hcap := hr.cap
  have hroom := hr.room
  unfold maxLen at hcap
  go_enter Try.func50, Try.ntmps50
  go_wp2_with fail
  go_loopw [3, 8] (fun v i wr => LvI w Ls v i wr) (fun _ i _ => n - (intOf i).toNat)
  case atStart => exact ⟨0, 0, none, by omega, rfl, rfl, OBC.none_ _ _, Ext.refl _⟩
  case round =>
    obtain ⟨p, d, P, hp, rfl, rfl, own, hEr⟩ := hrel
    rw [Hl.out] at hp
    by_cases hlt : p < n
    · have hpn : (p : Int) < (n : Int) := by omega
      obtain ⟨ad, rfl, hc⟩ := hr.cells (by omega)
      obtain ⟨E, z, y, hcell, hrE⟩ := hc p (by omega)
      have y1 := hEr.cell hcell
      have rE := hrE.ext hEr
      have hz : z ≤ 1000000 := by
        have h1 := hrE.len
        have h2 := hb (lb Ls p) (by unfold lb; rw [List.getD_eq_getElem?_getD, List.getElem?_eq_getElem (by rw [Hl.out]; omega)]; exact List.getElem_mem _)
        omega
      have hcu := trleaf_any E z y _ wr rE (by omega)
      have Hcu := Lib.hid hcu
      clear hcu hc hcell
      go_wp2_with fail
      refine Hcu.out.mono ?_
      rintro e w2 ⟨E1, z1, rfl, ownC, hE2⟩
      clear Hcu
      have hEa := Ext.new w2 (.cells #[.slice E1 32 z1] 22)
      have hBa := Blk.new w2 22 #[.slice E1 32 z1]
      have own4 := (own.ext hE2).ext hEa
      have hne : 0 < 32 → blk E1 ≠ blk P := by
        intro hz e
        obtain ⟨b, hb⟩ : ∃ b, blk E1 = some b := by
          obtain ⟨ad', h1, _⟩ := ownC.rb.cells (by omega)
          rw [h1]
          exact ⟨_, rfl⟩
        have h1 := ownC.lt hb
        have h2 := own.lt (e.symm.trans hb)
        omega
      go_wp2_with (refine appbc_law (base := w.heap.size) (Y := leafH (lb Ls p)) rfl rfl rfl rfl (by rw [add_plain]; exact hBa.cell (i := 0) rfl) own4 (ownC.rb.ext hEa) hne ((hEr.trans hE2).trans hEa).size (by omega) ?_; intro P5 d5 w5 own5 g5)
      go_roundw
      case rel =>
        rw [← leaf_snoc Ls (by rw [Hl.out]; omega)] at own5
        exact ⟨p + 1, d5, P5, by rw [Hl.out]; omega, by go_num, rfl, own5, ((hEr.trans hE2).trans hEa).then_grown g5 (fun b hb => (own4.lt hb).1)⟩
      case measure => simp [intOf]; omega
    · obtain rfl : p = n := by omega
      have hpn : ¬ (p : Int) < (p : Int) := by omega
      rw [List.take_of_length_le (by rw [Hl.out]; omega)] at own
      go_wp2_with fail
      go_ret
      exact ⟨P, d, rfl, own, hEr⟩
set_option maxHeartbeats 4000000 in
theorem troot_any : ∀ (n : Nat) (A : Option Addr) (c : Nat) (Ls : List (List UInt8)) (w : World), n ≤ 256 → RBB w A n c Ls → (∀ a ∈ Ls, a.length = 32) →
    Calls Try.prog 51 #[.slice A n c] w fun e w' => ∃ A' c', e = .returned (.slice A' 32 c') ∧ OB w' w.heap.size A' 32 c' (rootL Ls) ∧ Ext w w' := by
  intro n
  induction n using Nat.strongRecOn with
  | ind n ih =>
    intro A c Ls w hn hr h32
    have hl := hr.len
    have hroom := hr.room
    have hcap := hr.cap
    unfold maxLen at hcap
    go_enter Try.func51, Try.ntmps51
    by_cases h0 : n = 0
    · subst h0
      have e0 : Ls = [] := List.eq_nil_of_length_eq_zero hl
      subst e0
      go_wp2_with fail
      refine (hsum_any none 0 0 [] w (RB.nil_ w) (by omega)).mono ?_
      rintro e w1 ⟨A', c', rfl, own, hE⟩
      go_wp2_with fail
      go_ret
      rw [rootL_nil]
      exact ⟨A', c', rfl, own, hE⟩
    · by_cases h1 : n = 1
      · subst h1
        obtain ⟨a, rfl⟩ : ∃ a, Ls = [a] := by
          match Ls, hl with
          | [a], _ => exact ⟨a, rfl⟩
        obtain ⟨ad, rfl, hc⟩ := hr.cells (by omega)
        obtain ⟨B, m, d, hcell, rB⟩ := hc 0 (by omega)
        have hm : a.length = 32 := h32 a (List.mem_singleton.2 rfl)
        have rB' : RB w B m d a := rB
        obtain rfl : m = 32 := rB'.len.symm.trans hm
        have hcell' : w.cell? ad = some (.slice B 32 d) := hcell
        go_wp2_with (refine app_own (N := 32) (LM := a) rfl rfl rfl rfl (Ext.refl _) (OB.none_ _ _) rB' rfl rfl (by omega) ?_; intro B1 d1 w1 own1 hE1)
        go_ret
        rw [rootL_one]
        exact ⟨B1, d1, rfl, own1, hE1⟩
      · have hsp := splitN_in (n := n) (by omega)
        have hne0 : ¬ ((n : Int) = 0) := by omega
        have hne1 : ¬ ((n : Int) = 1) := by omega
        have hrt := rootL_more (l := Ls) (by omega)
        rw [hl] at hrt
        have Hrt := Lib.hid hrt
        have hs := tsplit_any n hn w
        have Hs := Lib.hid hs
        clear hrt hs
        go_wp2_with fail
        refine Hs.out.mono ?_
        rintro e w1 ⟨rfl, rfl⟩
        generalize splitN n = k at *
        clear Hs
        have l1 : ∀ a ∈ Ls.take k, a.length = 32 := fun a ha => h32 a (List.mem_of_mem_take ha)
        have l2 : ∀ a ∈ Ls.drop k, a.length = 32 := fun a ha => h32 a (List.mem_of_mem_drop ha)
        have hr1 := hr.fst (k := k) (by omega)
        have hr2 := hr.snd (k := k) (by omega)
        go_upto_region 7 with (fail)
        refine par_ext (n := 9) (by kernel_rfl) [.is (.slice (A) (n) (c)), .is (.int .i64 (((k : Nat) : Int))), .is (.slice (A) (k) (c)), .rk (32) (rootL (Ls.take k)), .is (.slice (A) (n) (c)), .is (.int .i64 (((k : Nat) : Int))), .is (.slice (if c = k then A else (A : Option Addr).map (·.add (k * 1))) (n - k) (c - k)), .rk (32) (rootL (Ls.drop k)), .obk (w.heap.size) (32) (nodeH (rootL (Ls.take k)) (rootL (Ls.drop k)))] rfl ⟨?_, ?_, ?_, ?_, ?_, ?_, ?_, ?_, ?_, trivial⟩ ?_
        · refine stepE rfl fun sdn sa sw sE sd sk => ?_
          have h0 : sa.eval (.tmp 0) = .slice (A) (n) (c) := sk.old 0 rfl
          exact Runs.move rfl h0 ⟨Ext.refl _, rfl⟩
        · refine stepE rfl fun sdn sa sw sE sd sk => ?_
          have h3 : sa.eval (.tmp 3) = .int .i64 (((k : Nat) : Int)) := sk.old 3 rfl
          exact Runs.move rfl h3 ⟨Ext.refl _, rfl⟩
        · refine stepE rfl fun sdn sa sw sE sd sk => ?_
          have h18 : sa.eval (.tmp 18) = .slice (A) (n) (c) := sk.fact 0 18 rfl (sd 0 rfl)
          have h19 : sa.eval (.tmp 19) = .int .i64 (((k : Nat) : Int)) := sk.fact 1 19 rfl (sd 1 rfl)
          exact Runs.slice rfl h18 (by simp only [Option.map_some, Option.map_none, h19]; exact run_cut_h Try.underlying23 infZZ_eq k (by first | rfl | omega) (by omega)) ⟨Ext.refl _, rfl⟩
        · refine stepE rfl fun sdn sa sw sE sd sk => ?_
          have h20 : sa.eval (.tmp 20) = .slice (A) (k) (c) := sk.fact 2 20 rfl (sd 2 rfl)
          refine Runs.call (f := 51) (vs := [.slice (A) (k) (c)]) rfl rfl rfl (by simp only [List.map_toArray, List.map_cons, List.map_nil, h20] <;> rfl) (ent51 _ _) ((ih (k) (by omega) _ _ _ sw (by omega) (hr1.ext sE) l1).mono ?_); rintro e w' ⟨A', c', rfl, own, hx⟩; exact ⟨_, rfl, hx, A', c', rfl, own.rb⟩
        · refine stepE rfl fun sdn sa sw sE sd sk => ?_
          have h0 : sa.eval (.tmp 0) = .slice (A) (n) (c) := sk.old 0 rfl
          exact Runs.move rfl h0 ⟨Ext.refl _, rfl⟩
        · refine stepE rfl fun sdn sa sw sE sd sk => ?_
          have h3 : sa.eval (.tmp 3) = .int .i64 (((k : Nat) : Int)) := sk.old 3 rfl
          exact Runs.move rfl h3 ⟨Ext.refl _, rfl⟩
        · refine stepE rfl fun sdn sa sw sE sd sk => ?_
          have h22 : sa.eval (.tmp 22) = .slice (A) (n) (c) := sk.fact 4 22 rfl (sd 4 rfl)
          have h23 : sa.eval (.tmp 23) = .int .i64 (((k : Nat) : Int)) := sk.fact 5 23 rfl (sd 5 rfl)
          exact Runs.slice rfl h22 (by simp only [Option.map_some, Option.map_none, h23]; exact run_cut_l Try.underlying23 infZZ_eq infZZ_size k (by first | rfl | omega) (by omega)) ⟨Ext.refl _, rfl⟩
        · refine stepE rfl fun sdn sa sw sE sd sk => ?_
          have h24 : sa.eval (.tmp 24) = .slice (if c = k then A else (A : Option Addr).map (·.add (k * 1))) (n - k) (c - k) := sk.fact 6 24 rfl (sd 6 rfl)
          refine Runs.call (f := 51) (vs := [.slice (if c = k then A else (A : Option Addr).map (·.add (k * 1))) (n - k) (c - k)]) rfl rfl rfl (by simp only [List.map_toArray, List.map_cons, List.map_nil, h24] <;> rfl) (ent51 _ _) ((ih (n - k) (by omega) _ _ _ sw (by omega) (hr2.ext sE) l2).mono ?_); rintro e w' ⟨A', c', rfl, own, hx⟩; exact ⟨_, rfl, hx, A', c', rfl, own.rb⟩
        · refine stepE rfl fun sdn sa sw sE sd sk => ?_
          obtain ⟨A21, c21, h21, r21⟩ := sk.fact 3 21 rfl (sd 3 rfl)
          obtain ⟨A25, c25, h25, r25⟩ := sk.fact 7 25 rfl (sd 7 rfl)
          refine Runs.call (f := 83) (vs := [.slice (A21) (32) (c21), .slice (A25) (32) (c25)]) rfl rfl rfl (by simp only [List.map_toArray, List.map_cons, List.map_nil, h21, h25] <;> rfl) (ent83 _ _) ((trnode_any _ _ _ _ _ _ _ _ sw r21 r25 (by omega)).mono ?_); rintro e w' ⟨A', c', rfl, own, hx⟩; exact ⟨_, rfl, hx, A', c', rfl, own.base sE.size⟩
        intro vals W7 hE7 hv7
        have e0 : vals 0 = .slice (A) (n) (c) := hv7 0 (by omega) 18 rfl
        have e1 : vals 1 = .int .i64 (((k : Nat) : Int)) := hv7 1 (by omega) 19 rfl
        have e2 : vals 2 = .slice (A) (k) (c) := hv7 2 (by omega) 20 rfl
        obtain ⟨A21, c21, e3, r21⟩ := hv7 3 (by omega) 21 rfl
        have e4 : vals 4 = .slice (A) (n) (c) := hv7 4 (by omega) 22 rfl
        have e5 : vals 5 = .int .i64 (((k : Nat) : Int)) := hv7 5 (by omega) 23 rfl
        have e6 : vals 6 = .slice (if c = k then A else (A : Option Addr).map (·.add (k * 1))) (n - k) (c - k) := hv7 6 (by omega) 24 rfl
        obtain ⟨A25, c25, e7, r25⟩ := hv7 7 (by omega) 25 rfl
        obtain ⟨A26, c26, e8, o26⟩ := hv7 8 (by omega) 26 rfl
        simp only [putAll, Act.put, List.take_succ_cons, List.take_zero, List.drop_succ_cons, List.drop_zero, List.drop_nil, List.take_nil, Nat.reduceAdd, List.setIfInBounds_toArray, List.set_cons_succ, List.set_cons_zero, e0, e1, e2, e3, e4, e5, e6, e7, e8]
        clear hv7 e0 e1 e2 e3 e4 e5 e6 e7 e8
        go_wp2_with fail
        go_ret
        rw [Hrt.out]
        exact ⟨_, _, rfl, o26, hE7⟩
end Go.Proofs.Ytkndgpjamijbbaa
namespace Go.Proofs.Ytkndgpjamijbbaa
set_option maxRecDepth 100000
open Go Go.RowKit
set_option maxHeartbeats 4000000 in
theorem growb_nil (N : Nat) (hN : 0 < N) (hN2 : N ≤ 1000000) (w : World) : Calls Try.prog 113 #[.slice none 0 0, .int .i64 (N : Int)] w fun e w' => ∃ A c, e = .returned (.slice A 0 c) ∧ OB w' w.heap.size A 0 c [] ∧ Ext w w' := by
  obtain ⟨i0, hi0, hz0, hz1, hz2⟩ := info_parts info_u8
  have h1 : ¬ (N : Int) < 0 := by omega
  have h2 : (0 : Int) < (N : Int) := by omega
  have hby : Try.t5.bytes = 1 := by kernel_rfl
  have h3 : ¬ (281474976710656 : Int) < (N : Int) * (Try.t5.bytes : Int) := by rw [hby]; omega
  have h5 : ¬ (281474976710656 < Builtin.nextslicecap N 0 * Try.t5.bytes) := by
    rw [hby]
    unfold Builtin.nextslicecap
    rw [if_pos (by omega)]
    omega
  clear hby
  go_enter Try.func113, Try.ntmps113
  go_wp2_with fail
  have h6 := grownCap_ge w N 0 5
  have h7 := grownCap_le_maxLen w N 0 5 (small_maxLen (by omega))
  unfold grownCap at h6 h7
  go_ret
  refine ⟨_, _, rfl, ⟨rfl, .inr ⟨w.heap.size, _, _, rfl, Nat.le_refl _, heap_alloc_new _ _, Nat.zero_le _, h7, ?_, by simp [bv]⟩⟩, (Ext.new w _).drew⟩
  rw [Array.size_append, size_zeroCells, size_zeroCells]
  simp only [List.size_toArray, List.length_cons, List.length_nil, Nat.mul_one, Nat.zero_add]
  omega
def CatN (w : World) (Ls : List (List UInt8)) (s i : Value) (wr : World) : Prop :=
  ∃ j : Nat, j ≤ Ls.length ∧ i = .int .i64 j ∧ s = .int .i64 (((Ls.take j).flatten.length : Nat) : Int) ∧ wr = w
def CatB (w : World) (Ls : List (List UInt8)) (v i : Value) (wr : World) : Prop :=
  ∃ (j n c : Nat) (A : Option Addr), j ≤ Ls.length ∧ i = .int .i64 j ∧ v = .slice A n c ∧ OB wr w.heap.size A n c (Ls.take j).flatten ∧ Ext w wr
set_option maxHeartbeats 4000000 in
theorem concatb_any (A : Option Addr) (n c N : Nat) (Ls : List (List UInt8)) (w : World) (hr : RBB w A n c Ls) (hn : n ≤ 1000) (hN : Ls.flatten.length = N) (h0 : 0 < N) (h1 : N ≤ 1000000) :
    Calls Try.prog 84 #[.slice A n c] w fun e w' => ∃ A' c', e = .returned (.slice A' N c') ∧ OB w' w.heap.size A' N c' Ls.flatten ∧ Ext w w' := by
  have hl := hr.len
  have hst := fun k hk => flatten_step_le Ls k hk
  have hst2 := fun k => flatten_take_le Ls k
  rw [hl, hN] at hst
  rw [hN] at hst2
  go_enter Try.func84, Try.ntmps84
  go_wp2_with fail
  go_loopw [3, 11] (fun s i wr => CatN w Ls s i wr) (fun _ i _ => n - (intOf i).toNat)
  case atStart => exact ⟨0, by omega, rfl, rfl, rfl⟩
  case round =>
    obtain ⟨j, hj, rfl, rfl, rfl⟩ := hrel
    rw [hl] at hj
    by_cases hlt : j < n
    · have hji : (j : Int) < (n : Int) := by omega
      obtain ⟨ad, rfl, hc⟩ := hr.cells (by omega)
      obtain ⟨E, z, y, hcell, hrE⟩ := hc j hlt
      have h3 := hst j hlt
      have hz := hrE.len
      have hfl := flatten_take_succ Ls j (by omega)
      have hfl2 : (Ls.take (j + 1)).flatten.length = (Ls.take j).flatten.length + z := by rw [hfl, List.length_append]; omega
      rw [hz] at h3
      clear hfl
      have Hf := Lib.hid hfl2
      clear hfl2
      generalize (Ls.take j).flatten.length = s at *
      have h4 : ¬ ((s : Int) + (z : Int) < 0) := by omega
      go_wp2_with fail
      go_roundw
      case rel => exact ⟨j + 1, by omega, by go_num, by rw [Hf.out]; go_num, rfl⟩
      case measure => simp [intOf]; omega
    · obtain rfl : j = n := by omega
      have hji : ¬ (j : Int) < (j : Int) := by omega
      have hlen : (Ls.take j).flatten.length = N := by rw [List.take_of_length_le (by omega), hN]
      rw [hlen]
      go_wp2_with fail
      refine (growb_nil N h0 h1 wr).mono ?_
      rintro e w2 ⟨A1, c1, rfl, own, hE⟩
      go_wp2_with fail
      obtain ⟨w0, rfl⟩ : ∃ w0, w0 = wr := ⟨_, rfl⟩
      clear hlen
      go_loopw [6, 27] (fun v i wr => CatB w0 Ls v i wr) (fun _ i _ => j - (intOf i).toNat)
      case atStart => exact ⟨0, 0, c1, _, by omega, rfl, rfl, own, hE⟩
      case round =>
        clear own hE
        obtain ⟨k, m, d, B, hk, rfl, rfl, own, hEr⟩ := hrel
        rw [hl] at hk
        by_cases hlt : k < j
        · have hki : (k : Int) < (j : Int) := by omega
          obtain ⟨ad, rfl, hc⟩ := hr.cells (by omega)
          obtain ⟨E, z, y, hcell, hrE⟩ := hc k hlt
          have h3 := hst k hlt
          have hz := hrE.len
          have hm := own.len
          rw [hz, hm] at h3
          have rE := hrE.ext hEr
          have y1 := hEr.cell hcell
          go_wp2_with (refine app_own (w0 := w0) (N := m + z) (LM := (Ls.take (k + 1)).flatten) rfl rfl rfl rfl hEr own rE rfl (flatten_take_succ Ls k (by omega)).symm (by omega) ?_; intro A5 c5 w5 own5 hE5)
          go_roundw
          case rel => exact ⟨k + 1, m + z, c5, A5, by omega, by go_num, rfl, own5, hE5⟩
          case measure => simp [intOf]; omega
        · obtain rfl : k = j := by omega
          have hki : ¬ (k : Int) < (k : Int) := by omega
          rw [List.take_of_length_le (by omega)] at own
          obtain rfl : m = N := own.len.symm.trans hN
          go_wp2_with fail
          go_ret
          exact ⟨B, d, rfl, own, hEr⟩
end Go.Proofs.Ytkndgpjamijbbaa
