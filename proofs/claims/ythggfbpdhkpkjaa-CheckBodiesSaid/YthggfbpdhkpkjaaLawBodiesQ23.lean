/-
  Rows of the call's own that bear the run-time's mark behind their cells (what '[]byte(s)' makes); appends to them. Plain theorems. A region that draws its order, whose operations append, one behind the other, to rows of the call's own. Plain theorems. check.Right, check.Body, check.Same; ref10's Right, Body, Same, walked. Structs in regions that draw their order: a part of a block is loaded at once; a value whose slices are known by what they read. Plain theorems.
-/
import Derived.Test.YthggfbpdhkpkjaaLawBodiesQ22
import Derived.Test.YthggfbpdhkpkjaaLawBodiesQ10
import Derived.ArgAppend
import Derived.Lib.ConvBytes
import Derived.Test.YthggfbpdhkpkjaaLawBodiesQ2
import Derived.Test.YthggfbpdhkpkjaaLawBodiesQ12
import Derived.Deep.MidRow
namespace Go.Proofs.Ythggfbpdhkpkjaa
set_option maxRecDepth 100000
open Go Go.RowKit
def OM (w : World) (base : Nat) (A : Option Addr) (n c : Nat) (L : List UInt8) : Prop :=
  ∃ g, A = some ⟨g, 0, none⟩ ∧ base ≤ g ∧ g < w.heap.size ∧ RB w A n c L ∧ ∀ j, j < c → (w.cell? ⟨g, j, none⟩).isSome = true ∧ w.frozen? ⟨g, j, none⟩ = false
theorem OM.rb {w : World} {base n c : Nat} {A : Option Addr} {L : List UInt8} (h : OM w base A n c L) : RB w A n c L := h.choose_spec.2.2.2.1
theorem OM.base {w : World} {base base' n c : Nat} {A : Option Addr} {L : List UInt8} (h : OM w base A n c L) (hb : base' ≤ base) : OM w base' A n c L := by
  obtain ⟨g, h1, h2, h3⟩ := h
  exact ⟨g, h1, Nat.le_trans hb h2, h3⟩
theorem OM.ext {w w' : World} {base n c : Nat} {A : Option Addr} {L : List UInt8} (h : OM w base A n c L) (e : Ext w w') : OM w' base A n c L := by
  obtain ⟨g, h1, h2, h3, h4, h5⟩ := h
  refine ⟨g, h1, h2, Nat.lt_of_lt_of_le h3 e.size, h4.ext e, fun j hj => ?_⟩
  rw [World.cell?_of_block (a := ⟨g, j, none⟩) (e.block h3), World.frozen?_of_block (a := ⟨g, j, none⟩) (e.block h3)]
  exact h5 j hj
/-- nothing was turned but, perhaps, cells behind place n of one row from block b on -/
def Aps (b n : Nat) (w w' : World) : Prop := Ext w w' ∨ ∃ g, b ≤ g ∧ g < w.heap.size ∧ w.grownBy w' (some g) ∧ (∀ j, j < n → w'.cell? ⟨g, j, none⟩ = w.cell? ⟨g, j, none⟩) ∧ (∀ j, (w.cell? ⟨g, j, none⟩).isSome = true → (w'.cell? ⟨g, j, none⟩).isSome = true) ∧ ∀ j, w'.frozen? ⟨g, j, none⟩ = w.frozen? ⟨g, j, none⟩
theorem Aps.ext_ {a w w' : World} {b n : Nat} (h : Aps b n w w') (e : Ext a w) (hb : a.heap.size ≤ b) : Ext a w' := by
  rcases h with h | ⟨g, h1, _, h3, _⟩
  · exact e.trans h
  · exact e.then_grown h3 (by intro k hk; cases hk; omega)
theorem Aps.pre {w w1 w' : World} {b n : Nat} (e : Ext w w1) (h : Aps b n w1 w') : Aps b n w w' := by
  rcases h with h | ⟨g, h1, h2, h3, h4, h5, h6⟩
  · exact .inl (e.trans h)
  · rcases Nat.lt_or_ge g w.heap.size with hg | hg
    · have hc := fun j => World.cell?_of_block (a := ⟨g, j, none⟩) (e.block hg)
      have hf := fun j => World.frozen?_of_block (a := ⟨g, j, none⟩) (e.block hg)
      exact .inr ⟨g, h1, hg, (e.grownBy _).trans h3, fun j hj => (h4 j hj).trans (hc j), fun j hj => h5 j (by rw [hc]; exact hj), fun j => (h6 j).trans (hf j)⟩
    · exact .inl (e.then_grown h3 (by intro k hk; cases hk; exact hg))
theorem OM.conv (w : World) (s : List UInt8) (hs : s.length ≤ 1000000) : ∃ c w', (convert 9 22 (.string (str s))).run Try.prog w = .ok (.slice (some ⟨w.heap.size, 0, none⟩) s.length c) w' ∧ OM w' w.heap.size (some ⟨w.heap.size, 0, none⟩) s.length c s ∧ Ext w w' := by
  have h := Lib.run_convert_string_bytes (P := Try.prog) w 9 22 5 (str s) Try.underlying9 Try.underlying22 Try.underlying5
  have hz : (str s).size = s.length := str_size s
  rw [hz] at h
  have hat := Lib.bytesWorld_at_new w 5 (str s)
  have hsz : (Lib.bytesCells w 5 (str s)).size = grownCap w s.length 0 5 := by
    have := grownCap_ge w s.length 0 5
    unfold Lib.bytesCells
    simp [size_zeroCells, hz, Value.cells]
    omega
  refine ⟨_, _, h, ⟨w.heap.size, rfl, Nat.le_refl _, by rw [Lib.bytesWorld_size]; omega, ⟨rfl, grownCap_ge _ _ _ _, grownCap_le_maxLen _ _ _ _ (small_maxLen hs), fun hn => ⟨_, rfl, fun j hj => ?_⟩⟩, fun j hj => ⟨?_, ?_⟩⟩, ⟨rfl, rfl, rfl, by rw [Lib.bytesWorld_size]; omega, fun k hk => Lib.bytesWorld_at_old w _ _ k hk⟩⟩
  · rw [add_plain, Lib.bytesWorld_cell w _ _ j (by rw [hz]; exact hj)]
    rfl
  · unfold World.cell?
    rw [hat]
    simp [hsz, hj]
  · unfold World.frozen?
    rw [hat]
    simp [hsz]
    omega
end Go.Proofs.Ythggfbpdhkpkjaa
namespace Go.Proofs.Ythggfbpdhkpkjaa
set_option maxRecDepth 100000
open Go Go.RowKit
def apPairs (K : List (Nat × Nat)) (i : Nat) (o : Oper) : Bool := K.all fun jk => jk.1 != i || (depsOf o).contains jk.2 || (depsOf o).any fun p => K.contains (p, jk.2)
def JQ (w0 : World) (K : List (Nat × Nat)) (done : Nat → Bool) (w : World) : Prop := Ext w0 w ∧ ∀ j k, K.contains (j, k) = true → done j = true → done k = true
section
variable {ops : Array Oper} {H : List Tmp} {F : List (MP Ext)} {a0 : Act} {w0 : World} {i : Nat} {K : List (Nat × Nat)} {o : Oper}
theorem JQ.set {done : Nat → Bool} {w w' : World} (h : JQ w0 K done w) (e : Ext w0 w') (hi : apPairs K i o = true) (hd : ∀ j, (depsOf o).contains j = true → done j = true) : JQ w0 K (setDone done i) w' := by
  refine ⟨e, fun j k hjk hdj => ?_⟩
  unfold setDone at hdj ⊢
  by_cases hki : k = i
  · rw [if_pos hki]
  · rw [if_neg hki]
    by_cases hji : j = i
    · subst hji
      have h1 := List.all_eq_true.1 hi (j, k) (List.contains_iff_mem.1 hjk)
      simp only [bne_self_eq_false, Bool.false_or, Bool.or_eq_true, List.any_eq_true] at h1
      rcases h1 with h1 | ⟨p, h1, h2⟩
      · exact hd k h1
      · exact h.2 p k h2 (hd p (List.contains_iff_mem.2 h1))
    · rw [if_neg hji] at hdj
      exact h.2 j k hjk hdj
end
end Go.Proofs.Ythggfbpdhkpkjaa
namespace Go.Proofs.Ythggfbpdhkpkjaa
set_option maxRecDepth 100000
open Go Go.RowKit
def rightC (x : Int) (R : List UInt8) : Bool := decide (0 ≤ x) && decide (x ≤ 256) && decide (R.length = 32)
def bodyC (t : List UInt8) (x : Int) (R : List UInt8) : List UInt8 := if rightC x R = true then t ++ (bytesOf (keyW x) ++ R) else []
def checkL : List UInt8 := [98, 114, 111, 97, 100, 115, 104, 101, 101, 116, 32, 99, 104, 101, 99, 107]
theorem rightC_true {x : Int} {R : List UInt8} (h : rightC x R = true) : 0 ≤ x ∧ x ≤ 256 ∧ R.length = 32 := by
  simpa [rightC, and_assoc] using h
theorem bodyC_yes {t : List UInt8} {x : Int} {R : List UInt8} (h : rightC x R = true) : bodyC t x R = t ++ (bytesOf (keyW x) ++ R) := by unfold bodyC; rw [if_pos h]
theorem bodyC_no {t : List UInt8} {x : Int} {R : List UInt8} (h : rightC x R = false) : bodyC t x R = [] := by unfold bodyC; rw [h]; rfl
set_option maxHeartbeats 2000000 in
theorem cright_any (x : Int) (A : Option Addr) (n c : Nat) (R : List UInt8) (w : World) (hr : RB w A n c R) :
    Calls Try.prog 19 #[.agg #[.int .i64 x, .slice A n c]] w fun e w' => e = .returned (.bool (rightC x R)) ∧ Ext w w' := by
  have hE1 := Ext.new w (.cells #[.int .i64 x, .slice A n c] 24)
  have hl := hr.len
  have hv : rightC x R = (decide (0 ≤ x) && decide (x ≤ 256) && decide (n = 32)) := by unfold rightC; rw [hl]
  rw [hv]
  clear hl hv
  go_enter Try.func19, Try.ntmps19
  by_cases h0 : 0 ≤ x
  · by_cases h1 : x ≤ 256
    · by_cases h2 : n = 32
      · subst h2
        go_wp2_with fail
        go_ret
        exact ⟨by simp [h0, h1], hE1⟩
      · have h3 : ¬ ((n : Int) = 32) := by omega
        go_wp2_with fail
        go_ret
        exact ⟨by simp [h2, h3], hE1⟩
    · go_wp2_with fail
      go_ret
      exact ⟨by simp [h0]; intros; omega, hE1⟩
  · go_wp2_with fail
    go_ret
    exact ⟨by simp; intros; omega, hE1⟩
set_option maxHeartbeats 2000000 in
theorem csame_any (x y : Int) (A B : Option Addr) (n c m d : Nat) (R T : List UInt8) (w : World) (hr : RB w A n c R) (hs : RB w B m d T) :
    Calls Try.prog 18 #[.agg #[.int .i64 x, .slice A n c], .agg #[.int .i64 y, .slice B m d]] w fun e w' => e = .returned (.bool (decide (x = y) && decide (R = T))) ∧ Ext w w' := by
  have hE1 := Ext.new w (.cells #[.int .i64 x, .slice A n c] 24)
  have hE2 := Ext.new (w.alloc (.cells #[.int .i64 x, .slice A n c] 24)) (.cells #[.int .i64 y, .slice B m d] 24)
  have hE := hE1.trans hE2
  go_enter Try.func18, Try.ntmps18
  by_cases h0 : x = y
  · subst h0
    go_wp2_with fail
    refine (hsame_any A B n c m d R T _ (hr.ext hE) (hs.ext hE)).mono ?_
    rintro e w2 ⟨rfl, rfl⟩
    go_wp2_with fail
    go_ret
    exact ⟨by simp, hE⟩
  · go_wp2_with fail
    go_ret
    exact ⟨by simp [h0], hE⟩
set_option maxHeartbeats 4000000 in
theorem cbody_any (x : Int) (A : Option Addr) (n c : Nat) (R : List UInt8) (w : World) (hr : RB w A n c R) :
    Calls Try.prog 17 #[.agg #[.int .i64 x, .slice A n c]] w fun e w' =>
      (rightC x R = true → ∃ B d, e = .returned (.slice B 52 d) ∧ OB w' w.heap.size B 52 d (bodyC checkL x R)) ∧ (rightC x R = false → e = .returned (.slice none 0 0)) ∧ Ext w w' := by
  have hck := fun w' => conv_key (P := Try.prog) (w := w') Try.underlying3 Try.underlying101 x
  have hE1 := Ext.new w (.cells #[.int .i64 x, .slice A n c] 24)
  have hB1 := Blk.new w 24 #[.int .i64 x, .slice A n c]
  go_enter Try.func17, Try.ntmps17
  go_wp2_with fail
  refine (cright_any x A n c R _ (hr.ext hE1)).mono ?_
  rintro e w2 ⟨rfl, hE2⟩
  have hE12 := hE1.trans hE2
  have hB2 := hB1.ext hE2
  clear hB1
  cases hc : rightC x R with
  | false =>
    go_wp2_with fail
    go_ret
    exact ⟨fun h => absurd (hc.symm.trans h) (by decide), fun _ => rfl, hE12⟩
  | true =>
    obtain ⟨_, _, h32⟩ := rightC_true hc
    obtain rfl : n = 32 := hr.len.symm.trans h32
    have Hc := Lib.hid hc
    clear hc h32
    go_wp2_with fail
    refine (wnew_any w2).mono ?_
    rintro e w3 ⟨p, rfl, hW3, hE3⟩
    have es : (#[.int .u8 98, .int .u8 114, .int .u8 111, .int .u8 97, .int .u8 100, .int .u8 115, .int .u8 104, .int .u8 101, .int .u8 101, .int .u8 116, .int .u8 32, .int .u8 99, .int .u8 104, .int .u8 101, .int .u8 99, .int .u8 107] : Array Value).size = 16 := rfl
    have s0 := Lib.run_convert_bytes_const (P := Try.prog) w3 22 5 #[.int .u8 98, .int .u8 114, .int .u8 111, .int .u8 97, .int .u8 100, .int .u8 115, .int .u8 104, .int .u8 101, .int .u8 101, .int .u8 116, .int .u8 32, .int .u8 99, .int .u8 104, .int .u8 101, .int .u8 99, .int .u8 107] 16 16 Try.underlying22 Try.underlying5
    rw [es] at s0
    obtain ⟨w4, hw4⟩ : ∃ w4, w4 = w3.alloc (.cells #[.int .u8 98, .int .u8 114, .int .u8 111, .int .u8 97, .int .u8 100, .int .u8 115, .int .u8 104, .int .u8 101, .int .u8 101, .int .u8 116, .int .u8 32, .int .u8 99, .int .u8 104, .int .u8 101, .int .u8 99, .int .u8 107] 5 (16, 16 + 1)) := ⟨_, rfl⟩
    have rT : RB w4 (some ⟨w3.heap.size, 0, none⟩) 16 16 checkL := by rw [hw4]; exact RB.litM w3 checkL (16, 16 + 1) (n := 16) rfl (small_maxLen (by decide))
    have hE4 : Ext w3 w4 := by rw [hw4]; exact Ext.new w3 _
    rw [← hw4] at s0
    clear hw4 es
    have hW4 : Wtr w4 w2.heap.size p none 0 0 [] := ⟨hW3.blk.ext hE4, hW3.own.ext hE4, hW3.ne, hW3.base⟩
    have hE24 := hE3.trans hE4
    have hB4 := hB2.ext hE24
    have y0 := hB4.cell (i := 0) (v := .int .i64 x) rfl
    have y1 := hB4.cell (i := 1) (v := .slice A 32 c) rfl
    clear hE3 hE4 hW3
    go_wp2_with fail
    refine (wraw_any w2 w4 p 0 0 16 16 none _ [] checkL hE24 hW4 rT (by omega)).mono ?_
    rintro e w5 ⟨rfl, A5, c5, hW5, hC5, hL5⟩
    have hE5 := hW4.chg_ext hE24 hC5
    have hB5 := hB2.ext hE5
    have y0 := hB5.cell (i := 0) (v := .int .i64 x) rfl
    have y1 := hB5.cell (i := 1) (v := .slice A 32 c) rfl
    clear s0 rT hW4 hC5 hL5 hE24 hB4
    go_wp2_with fail
    refine (wnum_any w2 w5 p _ _ _ _ (keyW x) hE5 hW5 (by omega)).mono ?_
    rintro e w6 ⟨rfl, A6, c6, hW6, hC6, hL6⟩
    have hE6 := hW5.chg_ext hE5 hC6
    have hB6 := hB2.ext hE6
    have y0 := hB6.cell (i := 0) (v := .int .i64 x) rfl
    have y1 := hB6.cell (i := 1) (v := .slice A 32 c) rfl
    clear hW5 hC6 hL6 hE5 hB5
    go_wp2_with fail
    refine (wraw_any w2 w6 p _ _ 32 c _ A _ R hE6 hW6 (hr.ext (hE12.trans hE6)) (by omega)).mono ?_
    rintro e w7 ⟨rfl, A7, c7, hW7, hC7, hL7⟩
    have hE7 := hW6.chg_ext hE6 hC7
    have hW8 : Wtr w7 w2.heap.size p A7 52 c7 (bodyC checkL x R) := by
      rw [bodyC_yes Hc.out]
      simpa [beBytes_four] using hW7
    clear hW6 hC7 hL7 hE6 hB6 hW7
    go_wp2_with fail
    refine (wdone_any w7 w2.heap.size p _ _ _ _ hW8 (by omega)).mono ?_
    rintro e w9 ⟨B, d, rfl, own9, hE9⟩
    go_wp2_with fail
    go_ret
    exact ⟨fun _ => ⟨B, d, rfl, own9.base (hE12.trans hE7).size⟩, fun h => absurd (Hc.out.symm.trans h) (by decide), (hE12.trans hE7).trans hE9⟩
end Go.Proofs.Ythggfbpdhkpkjaa
namespace Go.Proofs.Ythggfbpdhkpkjaa
set_option maxRecDepth 100000
open Go Go.RowKit
/-- a cell of a struct's value: one that is known, bytes that are read, rows of bytes that are read -/
inductive Sh where
  | val (v : Value)
  | b8 (n : Nat) (L : List UInt8)
  | bb (n : Nat) (Ls : List (List UInt8))
def Sh.all : List Sh → (List Value → Prop) → World → Prop
  | [], k, _ => k []
  | .val v :: r, k, w => Sh.all r (fun vs => k (v :: vs)) w
  | .b8 n L :: r, k, w => ∃ A c, RB w A n c L ∧ Sh.all r (fun vs => k (.slice A n c :: vs)) w
  | .bb n Ls :: r, k, w => ∃ A c, RBB w A n c Ls ∧ Sh.all r (fun vs => k (.slice A n c :: vs)) w
theorem Sh.all_ext {w w' : World} (e : Ext w w') : ∀ (l : List Sh) (k : List Value → Prop), Sh.all l k w → Sh.all l k w'
  | [], _, h => h
  | .val v :: r, k, h => Sh.all_ext e r _ h
  | .b8 n L :: r, k, h => by
    obtain ⟨A, c, h1, h2⟩ := h
    exact ⟨A, c, h1.ext e, Sh.all_ext e r _ h2⟩
  | .bb n Ls :: r, k, h => by
    obtain ⟨A, c, h1, h2⟩ := h
    exact ⟨A, c, h1.ext e, Sh.all_ext e r _ h2⟩
def MP.ag (l : List Sh) : MP Ext := ⟨fun u w => Sh.all l (fun vs => u = .agg vs.toArray) w, fun _ _ _ e h => Sh.all_ext e _ _ h⟩
def MP.rk (n : Nat) (L : List UInt8) : MP Ext := ⟨fun u w => ∃ A c, u = .slice A n c ∧ RB w A n c L, fun _ _ _ e ⟨A, c, h1, h2⟩ => ⟨A, c, h1, h2.ext e⟩⟩
def MP.bk (b : Nat) (t : TypeId) (cs : Array Value) : MP Ext := ⟨fun u w => ∃ g, u = .pointer (some ⟨g, 0, none⟩) ∧ Blk w g t cs ∧ b ≤ g, fun _ _ _ e ⟨g, h1, h2, h3⟩ => ⟨g, h1, h2.ext e, h3⟩⟩
/-- a part of a block, loaded at once -/
theorem load_part {P : Program} {w : World} {g : Nat} {t : TypeId} {cs : Array Value} (hB : Blk w g t cs) (o : Nat) {ty : TypeId} {vs : List Value} {d : TypeDesc} (hv : ((cs.toList.drop o).take vs.length) = vs) (hu : P.underlying ty = some d) (hd : d.isRow = true)
    (hi : (P.info? ty).map (·.size) = some vs.length) : (Instr.loadAt ty (.pointer (some ⟨g, o, none⟩))).run P w = .ok (.agg vs.toArray) w := by
  refine run_loadAt_mid w g o ty vs d (fun j v h => ?_) hu hd hi
  refine hB.cell ?_
  have h1 : ((cs.toList.drop o).take vs.length)[j]? = some v := by rw [hv]; exact h
  have hj : j < vs.length := by
    rcases Nat.lt_or_ge j vs.length with h2 | h2
    · exact h2
    · rw [List.getElem?_eq_none h2] at h; cases h
  rw [List.getElem?_take_of_lt hj, List.getElem?_drop] at h1
  simpa using h1
end Go.Proofs.Ythggfbpdhkpkjaa
