/-
  Small words beside the others. Plain theorems. Byte literals in a region. Plain theorems. Slices of byte slices that are read. Plain theorems. slices.Clone and bytes.Equal, walked; and the cutting of byte slices. The statements' helpers, walked: Within, Cut, Sized. make and copy of bytes; keep.Sized, walked. Rows of the call's own: a byte is stored. Plain theorems. Slices of byte slices that are laid. Plain theorems. Structs in regions that draw their order: a part of a block is loaded at once; a value whose slices are known by what they read. Plain theorems.
-/
import Derived.Test.YtkndgpjamijbbaaGreatLawNumbers22Q3
import Derived.Laws.CopyOwn
import Derived.Laws.OwnMore
import Derived.Test.YtkndgpjamijbbaaGreatLawNumbers22Q1
import Derived.Deep.MidRow
namespace Go.Proofs.YtkndgpjamijbbaaGreat
set_option maxRecDepth 100000
open Go Go.RowKit
theorem RB.to_ {w : World} {A : Option Addr} {n n' c : Nat} {L L' : List UInt8} (h : RB w A n c L) (hn : n = n') (hL : L = L') : RB w A n' c L' := by subst hn hL; exact h
theorem OB.to_ {w : World} {b : Nat} {A : Option Addr} {n n' c : Nat} {L L' : List UInt8} (h : OB w b A n c L) (hn : n = n') (hL : L = L') : OB w b A n' c L' := by subst hn hL; exact h
theorem app_to {ops : Array Oper} {rest : List Oper} {o : Oper} {a : Act} {Q : Exit → Act → World → Prop} {w : World} (hgd : o.guard = none) {s x : Operand} (ho : o.op = .call { callee := .builtin .append, args := #[s, x], argTypes := #[26, 26] })
    {A : Option Addr} {n c : Nat} (hs : a.eval s = .slice A n c) {B : Option Addr} {m d : Nat} (hx : a.eval x = .slice B m d)
    {base : Nat} {L M : List UInt8} (hown : OB w base A n c L) (hr : RB w B m d M) {N : Nat} {LM : List UInt8} (hN : n + m = N) (hL : L ++ M = LM) (hnm : N ≤ 140737488355328) (hbase : base ≤ w.heap.size)
    (h : ∀ A' c' w', OB w' base A' N c' LM → w.grownBy w' (blk A) → (blk A' = blk A ∨ blk A' = some w.heap.size) → w.heap.size ≤ w'.heap.size → wpList Tryz.prog ops Q rest (a.put o.dst (.slice A' N c')) w') :
    wpList Tryz.prog ops Q (o :: rest) a w := by
  subst hN hL
  exact app_law hgd ho hs hx hown hr hnm hbase h
/-- what an append to a row of the call's own turns lies beyond all that was there -/
theorem OB.step {a w w' : World} {A : Option Addr} {n c : Nat} {L : List UInt8} (h : OB w a.heap.size A n c L) (hE : Ext a w) (g : w.grownBy w' (blk A)) : Ext a w' := hE.then_grown g (fun k hk => (h.lt hk).1)
theorem RB.lit (w : World) (L : List UInt8) {n : Nat} (hn : L.length = n) (hm : n ≤ maxLen) : RB (w.alloc (.cells (bv L).toArray 5)) (some ⟨w.heap.size, 0, none⟩) n n L := (OB.lit w L hn hm).rb
theorem big_maxLen {n : Nat} (h : n ≤ 281474976710656) : n ≤ maxLen := by unfold maxLen; omega
theorem small_maxLen {n : Nat} (h : n ≤ 1000000) : n ≤ maxLen := by unfold maxLen; omega
theorem app_own {ops : Array Oper} {rest : List Oper} {o : Oper} {a : Act} {Q : Exit → Act → World → Prop} {w0 w : World} (hgd : o.guard = none) {s x : Operand} (ho : o.op = .call { callee := .builtin .append, args := #[s, x], argTypes := #[26, 26] })
    {A : Option Addr} {n c : Nat} (hs : a.eval s = .slice A n c) {B : Option Addr} {m d : Nat} (hx : a.eval x = .slice B m d) (hE : Ext w0 w)
    {L M : List UInt8} (hown : OB w w0.heap.size A n c L) (hr : RB w B m d M) {N : Nat} {LM : List UInt8} (hN : n + m = N) (hL : L ++ M = LM) (hnm : N ≤ 140737488355328)
    (h : ∀ A' c' w', OB w' w0.heap.size A' N c' LM → Ext w0 w' → wpList Tryz.prog ops Q rest (a.put o.dst (.slice A' N c')) w') :
    wpList Tryz.prog ops Q (o :: rest) a w := by
  subst hN hL
  exact app_law hgd ho hs hx hown hr hnm hE.size fun A' c' w' h1 h2 _ _ => h A' c' w' h1 (hown.step hE h2)
theorem padZeros_lt (n : Nat) : padZeros n < 64 := by unfold padZeros; omega
theorem padZeros_at {n r j z : Nat} (hn : n = 64 * j + r) (hr : r < 64) (hz : z ≤ padZeros n) : (r + 1 + z) % 64 = 56 ↔ z = padZeros n := by
  unfold padZeros at *
  omega
theorem be8_take (N : Nat) (i : Nat) (hi : i < 8) : (be8 N).take (i + 1) = (be8 N).take i ++ [UInt8.ofNat (N / 2 ^ (8 * (7 - i)))] := by
  rw [List.take_succ_eq_append_getElem (by rw [be8_length]; exact hi)]
  congr 2
  simp [be8]
theorem conv_u64_u8 {P : Program} {w : World} {s t : TypeId} (hs : P.underlying s = some (.int .u64)) (ht : P.underlying t = some (.int .u8)) (x : Nat) : (convert s t (.int .u64 (x : Int))).run P w = .ok (.int .u8 (u8i (UInt8.ofNat x))) w := by
  have e : IntKind.u8.wrap (x : Int) = u8i (UInt8.ofNat x) := by
    unfold u8i
    rw [IntKind.wrap_u8, UInt8.toNat_ofNat']
    omega
  simp [convert, run_underlying hs, run_underlying ht, Conv.intToInt, e]
theorem conv_i64_u64 {P : Program} {w : World} {s t : TypeId} (hs : P.underlying s = some (.int .i64)) (ht : P.underlying t = some (.int .u64)) (x : Int) (k : Nat) (h : x = (k : Int)) (hk : k < 18446744073709551616) : (convert s t (.int .i64 x)).run P w = .ok (.int .u64 (k : Int)) w := by
  subst h
  have e : IntKind.u64.wrap (k : Int) = (k : Int) := by rw [IntKind.wrap_u64]; omega
  simp [convert, run_underlying hs, run_underlying ht, Conv.intToInt, e]
theorem bin_mulu64 {P : Program} {w : World} (t : TypeId) (x y : Int) (k : Nat) (h : x * y = (k : Int)) (hk : k < 18446744073709551616) : (binOp .mul t (.int .u64 x) (.int .u64 y)).run P w = .ok (.int .u64 (k : Int)) w := by
  have e : IntKind.u64.wrap (x * y) = (k : Int) := by rw [h, IntKind.wrap_u64]; omega
  simp [binOp, Op.intArith, e]
theorem bin_shru64 {P : Program} {w : World} (t : TypeId) (kk : IntKind) (x k : Nat) (h : k ≤ 64) : (binOp .shr t (.int .u64 (x : Int)) (.int kk (k : Int))).run P w = .ok (.int .u64 ((x / 2 ^ k : Nat) : Int)) w := by
  have h1 : ¬ ((k : Int) < 0) := by omega
  have h2 : min (k : Int).toNat IntKind.u64.bits = k := by simp [IntKind.bits]; omega
  have e : ((x : Int)).fdiv (2 ^ k) = ((x / 2 ^ k : Nat) : Int) := by
    rw [Int.fdiv_eq_ediv_of_nonneg _ (Int.pow_nonneg (by decide))]
    simp
  simp only [binOp, Op.shift, if_neg h1, h2, e, Sem.run_pure]
theorem OB.not_blk {w : World} {b k : Nat} {A : Option Addr} {n c : Nat} {L : List UInt8} (h : OB w b A n c L) (hk : k < b) : blk A = none ∨ blk A ≠ some k := by
  refine .inr fun e => ?_
  have := (h.lt e).1
  omega
theorem flatMap_take_succ (hs : List UInt32) (k : Nat) (hk : k < hs.length) : (hs.take (k + 1)).flatMap bytesOf = (hs.take k).flatMap bytesOf ++ bytesOf (uw hs k) := by
  rw [List.take_succ_eq_append_getElem hk, List.flatMap_append]
  simp [uw, hk]
theorem drop_cut {M : List UInt8} {n i : Nat} (hM : M.length = n) : ((M.drop (64 * i)).take (n - 64 * i)).drop 64 = M.drop (64 * (i + 1)) := by
  rw [List.take_of_length_le (by simp; omega), List.drop_drop]
  rfl
end Go.Proofs.YtkndgpjamijbbaaGreat
namespace Go.Proofs.YtkndgpjamijbbaaGreat
set_option maxRecDepth 100000
open Go Go.RowKit
theorem run_lit0 (w : World) : (Instr.buildSlice 26 0 #[]).run Tryz.prog w = .ok (.slice (some ⟨w.heap.size, 0, none⟩) 0 0) (w.alloc (.cells #[] 5)) := by
  go_simp
theorem Runs.lit0 {o : Oper} {ρ : Operand → Value} {w : World} {G : Value → World → Prop} (ho : o.op = .buildSlice 26 0 #[]) 
    (h : ∀ w', Ext w w' → OB w' w.heap.size (some ⟨w.heap.size, 0, none⟩) 0 0 [] → G (.slice (some ⟨w.heap.size, 0, none⟩) 0 0) w') : Runs Tryz.prog o ρ w G := by
  refine Runs.of_run (r := .slice (some ⟨w.heap.size, 0, none⟩) 0 0) (w' := w.alloc (.cells (bv []).toArray 5)) ?_ (h _ (Ext.new w _) (OB.lit w [] rfl (small_maxLen (by decide))))
  unfold execOp
  simp only [ho, List.map_toArray, List.map_cons, List.map_nil, Sem.run_bind, run_lit0, Result.andThen_ok, Sem.run_pure]
  rfl

theorem run_lit1 (w : World) (x0 : Int) : (Instr.buildSlice 26 1 #[(0, Value.int .u8 x0)]).run Tryz.prog w = .ok (.slice (some ⟨w.heap.size, 0, none⟩) 1 1) (w.alloc (.cells #[Value.int .u8 x0] 5)) := by
  go_simp
theorem Runs.lit1 {o : Oper} {ρ : Operand → Value} {w : World} {G : Value → World → Prop} {y0 : Operand} {b0 : UInt8} (ho : o.op = .buildSlice 26 1 #[(0, y0)]) (h0 : ρ y0 = .int .u8 (u8i b0))
    (h : ∀ w', Ext w w' → OB w' w.heap.size (some ⟨w.heap.size, 0, none⟩) 1 1 [b0] → G (.slice (some ⟨w.heap.size, 0, none⟩) 1 1) w') : Runs Tryz.prog o ρ w G := by
  refine Runs.of_run (r := .slice (some ⟨w.heap.size, 0, none⟩) 1 1) (w' := w.alloc (.cells (bv [b0]).toArray 5)) ?_ (h _ (Ext.new w _) (OB.lit w [b0] rfl (small_maxLen (by decide))))
  unfold execOp
  simp only [ho, h0, List.map_toArray, List.map_cons, List.map_nil, Sem.run_bind, run_lit1, Result.andThen_ok, Sem.run_pure]
  rfl

theorem run_lit2 (w : World) (x0 x1 : Int) : (Instr.buildSlice 26 2 #[(0, Value.int .u8 x0), (1, Value.int .u8 x1)]).run Tryz.prog w = .ok (.slice (some ⟨w.heap.size, 0, none⟩) 2 2) (w.alloc (.cells #[Value.int .u8 x0, Value.int .u8 x1] 5)) := by
  go_simp
theorem Runs.lit2 {o : Oper} {ρ : Operand → Value} {w : World} {G : Value → World → Prop} {y0 y1 : Operand} {b0 b1 : UInt8} (ho : o.op = .buildSlice 26 2 #[(0, y0), (1, y1)]) (h0 : ρ y0 = .int .u8 (u8i b0)) (h1 : ρ y1 = .int .u8 (u8i b1))
    (h : ∀ w', Ext w w' → OB w' w.heap.size (some ⟨w.heap.size, 0, none⟩) 2 2 [b0, b1] → G (.slice (some ⟨w.heap.size, 0, none⟩) 2 2) w') : Runs Tryz.prog o ρ w G := by
  refine Runs.of_run (r := .slice (some ⟨w.heap.size, 0, none⟩) 2 2) (w' := w.alloc (.cells (bv [b0, b1]).toArray 5)) ?_ (h _ (Ext.new w _) (OB.lit w [b0, b1] rfl (small_maxLen (by decide))))
  unfold execOp
  simp only [ho, h0, h1, List.map_toArray, List.map_cons, List.map_nil, Sem.run_bind, run_lit2, Result.andThen_ok, Sem.run_pure]
  rfl

theorem run_lit4 (w : World) (x0 x1 x2 x3 : Int) : (Instr.buildSlice 26 4 #[(0, Value.int .u8 x0), (1, Value.int .u8 x1), (2, Value.int .u8 x2), (3, Value.int .u8 x3)]).run Tryz.prog w = .ok (.slice (some ⟨w.heap.size, 0, none⟩) 4 4) (w.alloc (.cells #[Value.int .u8 x0, Value.int .u8 x1, Value.int .u8 x2, Value.int .u8 x3] 5)) := by
  go_simp
theorem Runs.lit4 {o : Oper} {ρ : Operand → Value} {w : World} {G : Value → World → Prop} {y0 y1 y2 y3 : Operand} {b0 b1 b2 b3 : UInt8} (ho : o.op = .buildSlice 26 4 #[(0, y0), (1, y1), (2, y2), (3, y3)]) (h0 : ρ y0 = .int .u8 (u8i b0)) (h1 : ρ y1 = .int .u8 (u8i b1)) (h2 : ρ y2 = .int .u8 (u8i b2)) (h3 : ρ y3 = .int .u8 (u8i b3))
    (h : ∀ w', Ext w w' → OB w' w.heap.size (some ⟨w.heap.size, 0, none⟩) 4 4 [b0, b1, b2, b3] → G (.slice (some ⟨w.heap.size, 0, none⟩) 4 4) w') : Runs Tryz.prog o ρ w G := by
  refine Runs.of_run (r := .slice (some ⟨w.heap.size, 0, none⟩) 4 4) (w' := w.alloc (.cells (bv [b0, b1, b2, b3]).toArray 5)) ?_ (h _ (Ext.new w _) (OB.lit w [b0, b1, b2, b3] rfl (small_maxLen (by decide))))
  unfold execOp
  simp only [ho, h0, h1, h2, h3, List.map_toArray, List.map_cons, List.map_nil, Sem.run_bind, run_lit4, Result.andThen_ok, Sem.run_pure]
  rfl

end Go.Proofs.YtkndgpjamijbbaaGreat
namespace Go.Proofs.YtkndgpjamijbbaaGreat
set_option maxRecDepth 100000
open Go Go.RowKit
def lb (Ls : List (List UInt8)) (j : Nat) : List UInt8 := Ls.getD j []
structure RBB (w : World) (A : Option Addr) (n c : Nat) (Ls : List (List UInt8)) : Prop where
  len : Ls.length = n
  room : n ≤ c
  cap : c ≤ maxLen
  cells : 0 < n → ∃ ad, A = some ad ∧ ∀ j, j < n → ∃ B m d, w.cell? (ad.add j) = some (.slice B m d) ∧ RB w B m d (lb Ls j)
theorem RBB.ext {w w' : World} {A : Option Addr} {n c : Nat} {Ls : List (List UInt8)} (h : RBB w A n c Ls) (e : Ext w w') : RBB w' A n c Ls :=
  ⟨h.len, h.room, h.cap, fun hn => by
    obtain ⟨ad, ha, hc⟩ := h.cells hn
    refine ⟨ad, ha, fun j hj => ?_⟩
    obtain ⟨B, m, d, h1, h2⟩ := hc j hj
    exact ⟨B, m, d, e.cell h1, h2.ext e⟩⟩
theorem RBB.nil_ (w : World) : RBB w none 0 0 [] := ⟨rfl, Nat.le_refl _, Nat.zero_le _, fun h => absurd h (Nat.lt_irrefl _)⟩
theorem flatten_take_succ (Ls : List (List UInt8)) (k : Nat) (hk : k < Ls.length) : (Ls.take (k + 1)).flatten = (Ls.take k).flatten ++ lb Ls k := by
  rw [List.take_succ_eq_append_getElem hk, List.flatten_append]
  simp [lb, hk]
theorem flatten_take_le (Ls : List (List UInt8)) : ∀ k, ((Ls.take k).flatten).length ≤ Ls.flatten.length := by
  induction Ls with
  | nil => intro k; simp
  | cons L Ls ih =>
    intro k
    cases k with
    | zero => simp
    | succ k =>
      have := ih k
      simp only [List.take_succ_cons, List.flatten_cons, List.length_append]
      omega
theorem flatten_step_le (Ls : List (List UInt8)) (k : Nat) (hk : k < Ls.length) : ((Ls.take k).flatten).length + (lb Ls k).length ≤ Ls.flatten.length := by
  have h1 := flatten_take_le Ls (k + 1)
  rw [flatten_take_succ Ls k hk, List.length_append] at h1
  exact h1
end Go.Proofs.YtkndgpjamijbbaaGreat
namespace Go.Proofs.YtkndgpjamijbbaaGreat
set_option maxRecDepth 100000
open Go Go.RowKit
theorem RB.empty {w : World} {n c : Nat} {L : List UInt8} (h : RB w none n c L) : n = 0 ∧ L = [] := by
  have h1 := h.len
  rcases Nat.eq_zero_or_pos n with h0 | h0
  · subst h0
    exact ⟨rfl, List.eq_nil_of_length_eq_zero h1⟩
  · obtain ⟨ad, h2, _⟩ := h.cells h0
    cases h2
set_option maxHeartbeats 400000 in
theorem clone_any (A : Option Addr) (n c : Nat) (L : List UInt8) (w : World) (hr : RB w A n c L) (hn : n ≤ 140737488355328) :
    Calls Tryz.prog 8 #[.slice A n c] w fun e w' => ∃ B d, e = .returned (.slice B n d) ∧ OB w' w.heap.size B n d L ∧ Ext w w' := by
  go_enter Tryz.func8, Tryz.ntmps8
  rcases A with _ | A
  · go_wp2_with fail
    go_ret
    obtain ⟨h1, h2⟩ := hr.empty
    subst h1 h2
    exact ⟨none, 0, rfl, OB.none_ _ _, Ext.refl _⟩
  · have own0 := OB.lit w [] rfl (Nat.zero_le _)
    have hr0 := hr.ext (Ext.new w (.cells #[] 5))
    go_wp2_with (refine app_own (N := n) (LM := L) rfl rfl rfl rfl (Ext.new w _) own0 hr0 (by omega) rfl hn ?_; intro B d w1 hown1 hE1)
    go_ret
    exact ⟨B, d, rfl, hown1, hE1⟩
set_option maxHeartbeats 400000 in
theorem equal_any (A B : Option Addr) (n c m d : Nat) (L M : List UInt8) (w : World) (hr : RB w A n c L) (hs : RB w B m d M) :
    Calls Tryz.prog 64 #[.slice A n c, .slice B m d] w fun e w' => e = .returned (.bool (decide (L = M))) ∧ w = w' := by
  have h1 := run_str hr
  have h2 := run_str hs
  go_enter Tryz.func64, Tryz.ntmps64
  go_wp2_with fail
  go_ret
  refine ⟨?_, rfl⟩
  rw [str_toList, str_toList, beq_dec]
  rfl
end Go.Proofs.YtkndgpjamijbbaaGreat
namespace Go.Proofs.YtkndgpjamijbbaaGreat
set_option maxRecDepth 100000
open Go Go.RowKit
def within (x lo hi : Int) : Int := if lo ≤ x ∧ x ≤ hi then x else lo + x % (hi - lo + 1)
theorem within_in (x lo hi : Int) (h : lo ≤ hi) : lo ≤ within x lo hi ∧ within x lo hi ≤ hi := by
  unfold within
  by_cases hx : lo ≤ x ∧ x ≤ hi
  · rw [if_pos hx]; exact hx
  · rw [if_neg hx]
    have h1 := Int.emod_nonneg x (b := hi - lo + 1) (by omega)
    have h2 := Int.emod_lt_of_pos x (b := hi - lo + 1) (by omega)
    omega
theorem tmod_is (x d : Int) (hd : 0 < d) : x % d = (if 0 ≤ x.tmod d then x.tmod d else x.tmod d + d) ∧ -d < x.tmod d ∧ x.tmod d < d := by
  have h1 := Int.tmod_lt_of_pos x hd
  have h2 : -d < x.tmod d := by
    have h3 := Int.tmod_lt_of_pos (-x) hd
    rw [Int.neg_tmod] at h3
    omega
  refine ⟨?_, h2, h1⟩
  have e := Int.mul_tdiv_add_tmod x d
  have e2 : x % d = x.tmod d % d := by
    conv => lhs; rw [← e]
    rw [Int.mul_add_emod_self_left]
  rw [e2]
  by_cases h : 0 ≤ x.tmod d
  · rw [if_pos h, Int.emod_eq_of_lt h h1]
  · rw [if_neg h, ← Int.add_emod_right, Int.emod_eq_of_lt (by omega) (by omega)]
theorem within_fin {x lo hi r : Int} (h0 : 0 ≤ lo) (h1 : lo ≤ hi) (h2 : hi ≤ 140737488355328) (hout : ¬ (lo ≤ x ∧ x ≤ hi))
    (hr : (0 ≤ x.tmod (hi - lo + 1) → r = lo + x.tmod (hi - lo + 1)) ∧ (¬ 0 ≤ x.tmod (hi - lo + 1) → r = lo + (x.tmod (hi - lo + 1) + hi - lo + 1))) : r = within x lo hi := by
  obtain ⟨e, e1, e2⟩ := tmod_is x (hi - lo + 1) (by omega)
  unfold within
  rw [if_neg hout, e]
  by_cases h : 0 ≤ x.tmod (hi - lo + 1)
  · rw [if_pos h, hr.1 h]
  · rw [if_neg h, hr.2 h]; omega
set_option maxHeartbeats 1000000 in
theorem within_any (x lo hi : Int) (w : World) (hx0 : -9223372036854775808 ≤ x) (hx1 : x ≤ 9223372036854775807) (h0 : 0 ≤ lo) (h1 : lo ≤ hi) (h2 : hi ≤ 140737488355328) :
    Calls Tryz.prog 12 #[.int .i64 x, .int .i64 lo, .int .i64 hi] w fun e w' => e = .returned (.int .i64 (within x lo hi)) ∧ w = w' := by
  by_cases a1 : lo ≤ x
  · have d1 : decide (lo ≤ x) = true := by simpa using a1
    by_cases a2 : x ≤ hi
    · have d2 : decide (x ≤ hi) = true := by simpa using a2
      have hw : within x lo hi = x := by unfold within; rw [if_pos ⟨a1, a2⟩]
      rw [hw]
      go_enter Tryz.func12, Tryz.ntmps12
      go_wp2_with fail
      go_ret
      exact ⟨rfl, rfl⟩
    · have d2 : decide (x ≤ hi) = false := by simpa using a2
      have hout : ¬ (lo ≤ x ∧ x ≤ hi) := fun h => a2 h.2
      have Hout := Lib.hid hout
      clear hout a1 a2
      go_enter Tryz.func12, Tryz.ntmps12
      go_wp2_with fail
      all_goals
        go_ret
        refine ⟨?_, rfl⟩
        obtain ⟨_, e1, e2⟩ := tmod_is x (hi - lo + 1) (by omega)
        refine congrArg (fun z => Ending.returned (.int .i64 z)) (within_fin h0 h1 h2 Hout.out ⟨fun h => ?_, fun h => ?_⟩)
        · unfold wrap64; omega
        · unfold wrap64; omega
  · have d1 : decide (lo ≤ x) = false := by simpa using a1
    have hout : ¬ (lo ≤ x ∧ x ≤ hi) := fun h => a1 h.1
    have Hout := Lib.hid hout
    clear hout a1
    go_enter Tryz.func12, Tryz.ntmps12
    go_wp2_with fail
    all_goals
      go_ret
      refine ⟨?_, rfl⟩
      obtain ⟨_, e1, e2⟩ := tmod_is x (hi - lo + 1) (by omega)
      refine congrArg (fun z => Ending.returned (.int .i64 z)) (within_fin h0 h1 h2 Hout.out ⟨fun h => ?_, fun h => ?_⟩)
      · unfold wrap64; omega
      · unfold wrap64; omega
end Go.Proofs.YtkndgpjamijbbaaGreat
namespace Go.Proofs.YtkndgpjamijbbaaGreat
set_option maxRecDepth 100000
open Go Go.RowKit
theorem make_law {ops : Array Oper} {rest : List Oper} {o : Oper} {a : Act} {Q : Exit → Act → World → Prop} {w : World} (hgd : o.guard = none) {x y : Operand} {k : Nat} (ho : o.op = .makeSlice 26 x y) (hx : a.eval x = .int .i64 (k : Int)) (hy : a.eval y = .int .i64 (k : Int)) (hk : k ≤ 281474976710656)
    (h : ∀ w', OB w' w.heap.size (some ⟨w.heap.size, 0, none⟩) k k (List.replicate k 0) → Ext w w' → wpList Tryz.prog ops Q rest (a.put o.dst (.slice (some ⟨w.heap.size, 0, none⟩) k k)) w') : wpList Tryz.prog ops Q (o :: rest) a w := by
  obtain ⟨i0, hi0, hz0, hz1, hz2⟩ := info_parts info_u8
  obtain ⟨w', hr, h1, h2⟩ := run_make_full (P := Tryz.prog) w w.heap.size 26 5 i0 (.int .u8 0) 1 Tryz.underlying26 hi0 hz0 hz1 .i64 .i64 k (by rw [hz2]; omega) (big_maxLen hk) (Nat.le_refl _)
  refine run_law hgd (v := .slice (some ⟨w.heap.size, 0, none⟩) k k) (w' := w') ?_ (h w' ?_ (Ext.grown h2))
  · unfold execOp
    simp only [ho, hx, hy, Sem.run_bind, hr, Result.andThen_ok, Sem.run_pure]
  · unfold OB
    have e : bv (List.replicate k 0) = (madeCells (Value.int .u8 0).cells (k * 1)).toList := by
      rw [Nat.mul_one, show (Value.int .u8 0).cells = #[.int .u8 0] from rfl, toList_madeCells_one]
      unfold bv
      rw [List.map_replicate]
      rfl
    rw [e]
    exact h1
theorem OB.full {w : World} {base g k : Nat} {D : List UInt8} (h : OB w base (some ⟨g, 0, none⟩) k k D) : w.heap[g]? = some (.cells (bv D).toArray 5 (0, 0)) ∧ base ≤ g := by
  rcases h.2 with ⟨e, _⟩ | ⟨g', cap, cur, e, hb, hg, _, _, hs, ht⟩
  · cases e
  · injection e with e1 e2 e3
    injection e1 with e1
    injection e1 with e1 e4
    subst e1 e3
    refine ⟨?_, hb⟩
    rw [hg, ← ht, List.take_of_length_le (by rw [Array.length_toList, hs]; exact Nat.le_refl _)]
end Go.Proofs.YtkndgpjamijbbaaGreat
namespace Go.Proofs.YtkndgpjamijbbaaGreat
set_option maxRecDepth 100000
open Go Go.RowKit
theorem OB.plain {w : World} {base n c : Nat} {ad : Addr} {L : List UInt8} (h : OB w base (some ad) n c L) : ∃ g, ad = ⟨g, 0, none⟩ := by
  rcases h.2 with ⟨e, _⟩ | ⟨g', cap, cur, e, _⟩
  · cases e
  · injection e with e1 e2 e3
    injection e1 with e1
    exact ⟨g', e1⟩
theorem OB.set {w : World} {base n c g : Nat} {L : List UInt8} (h : OB w base (some ⟨g, 0, none⟩) n c L) (i : Nat) (b : UInt8) :
    OB (w.setCell ⟨g, i, none⟩ (.int .u8 (u8i b))) base (some ⟨g, 0, none⟩) n c (L.set i b) ∧ w.grownBy (w.setCell ⟨g, i, none⟩ (.int .u8 (u8i b))) (some g) := by
  have h2 := World.ownsRow.stored h i (.int .u8 (u8i b))
  have e : bv (L.set i b) = (bv L).set i (.int .u8 (u8i b)) := by simp [bv, List.map_set]
  unfold OB
  rw [e]
  exact h2
theorem OB.cell {w : World} {base n c g : Nat} {L : List UInt8} (h : OB w base (some ⟨g, 0, none⟩) n c L) {i : Nat} (hi : i < n) : w.cell? ⟨g, i, none⟩ = some (.int .u8 (u8i (ub L i))) := by
  obtain ⟨ad, e, hc⟩ := h.rb.cells (by omega)
  injection e with e
  subst e
  have := hc i hi
  rw [add_plain] at this
  exact this
theorem OB.frozen {w : World} {base n c g : Nat} {L : List UInt8} (h : OB w base (some ⟨g, 0, none⟩) n c L) (i : Nat) : w.frozen? ⟨g, i, none⟩ = false := World.ownsRow.frozenAt h i
theorem OB.ge {w : World} {base n c g : Nat} {L : List UInt8} (h : OB w base (some ⟨g, 0, none⟩) n c L) : base ≤ g := (h.lt rfl).1
theorem RB.litM (w : World) (L : List UInt8) (fr : Nat × Nat) {n : Nat} (hn : L.length = n) (hm : n ≤ maxLen) : RB (w.alloc (.cells (bv L).toArray 5 fr)) (some ⟨w.heap.size, 0, none⟩) n n L := by
  refine ⟨hn, Nat.le_refl _, hm, fun _ => ⟨_, rfl, fun j hj => ?_⟩⟩
  rw [add_plain, cell_of_row _ _ _ _ _ fr (heap_alloc_new w _), List.getElem?_toArray]
  exact bv_get (by omega)
theorem RB.take {w : World} {A : Option Addr} {n c : Nat} {L : List UInt8} (h : RB w A n c L) {k : Nat} (hk : k ≤ n) : RB w A k c (L.take k) := by
  have h1 := h.cut (i := 0) (j := k) (c' := c) (A' := A) (by omega) (by omega) rfl (fun _ => by cases A <;> simp [Addr.add])
  simpa using h1
end Go.Proofs.YtkndgpjamijbbaaGreat
namespace Go.Proofs.YtkndgpjamijbbaaGreat
set_option maxRecDepth 100000
open Go Go.RowKit
def MP.rbb (Ls : List (List UInt8)) : MP Ext := ⟨fun u w => ∃ A n c, u = .slice A n c ∧ RBB w A n c Ls, fun _ _ _ e ⟨A, n, c, h1, h2⟩ => ⟨A, n, c, h1, h2.ext e⟩⟩
theorem RBB.of1 {w : World} {B0 : Option Addr} {m0 d0 : Nat} {L0 : List UInt8} (h0 : RB w B0 m0 d0 L0) (t : TypeId) : RBB (w.alloc (.cells #[.slice B0 m0 d0] t)) (some ⟨w.heap.size, 0, none⟩) 1 1 [L0] :=
  ⟨rfl, Nat.le_refl _, small_maxLen (by decide), fun _ => ⟨_, rfl, fun j hj => by
    have hB := Blk.new w t #[.slice B0 m0 d0]
    have hE := Ext.new w (.cells #[.slice B0 m0 d0] t)
    rw [add_plain]
    have hc : j = 0 := by omega
    rcases hc with rfl
    · exact ⟨_, _, _, hB.cell (i := 0) rfl, h0.ext hE⟩⟩⟩
theorem run_ss1 (w : World) (B0 : Option Addr) (m0 d0 : Nat) : (Instr.buildSlice 33 1 #[(0, Value.slice B0 m0 d0)]).run Tryz.prog w = .ok (.slice (some ⟨w.heap.size, 0, none⟩) 1 1) (w.alloc (.cells #[.slice B0 m0 d0] 26)) := by
  go_simp
theorem RBB.of2 {w : World} {B0 B1 : Option Addr} {m0 d0 m1 d1 : Nat} {L0 L1 : List UInt8} (h0 : RB w B0 m0 d0 L0) (h1 : RB w B1 m1 d1 L1) (t : TypeId) : RBB (w.alloc (.cells #[.slice B0 m0 d0, .slice B1 m1 d1] t)) (some ⟨w.heap.size, 0, none⟩) 2 2 [L0, L1] :=
  ⟨rfl, Nat.le_refl _, small_maxLen (by decide), fun _ => ⟨_, rfl, fun j hj => by
    have hB := Blk.new w t #[.slice B0 m0 d0, .slice B1 m1 d1]
    have hE := Ext.new w (.cells #[.slice B0 m0 d0, .slice B1 m1 d1] t)
    rw [add_plain]
    have hc : j = 0 ∨ j = 1 := by omega
    rcases hc with rfl | rfl
    · exact ⟨_, _, _, hB.cell (i := 0) rfl, h0.ext hE⟩
    · exact ⟨_, _, _, hB.cell (i := 1) rfl, h1.ext hE⟩⟩⟩
theorem run_ss2 (w : World) (B0 : Option Addr) (m0 d0 : Nat) (B1 : Option Addr) (m1 d1 : Nat) : (Instr.buildSlice 33 2 #[(0, Value.slice B0 m0 d0), (1, Value.slice B1 m1 d1)]).run Tryz.prog w = .ok (.slice (some ⟨w.heap.size, 0, none⟩) 2 2) (w.alloc (.cells #[.slice B0 m0 d0, .slice B1 m1 d1] 26)) := by
  go_simp
theorem Runs.ss2 {o : Oper} {ρ : Operand → Value} {w : World} {G : Value → World → Prop} {y0 y1 : Operand} {B0 B1 : Option Addr} {m0 d0 m1 d1 : Nat} {L0 L1 : List UInt8} (ho : o.op = .buildSlice 33 2 #[(0, y0), (1, y1)]) (e0 : ρ y0 = .slice B0 m0 d0) (e1 : ρ y1 = .slice B1 m1 d1) (h0 : RB w B0 m0 d0 L0) (h1 : RB w B1 m1 d1 L1)
    (h : ∀ w', Ext w w' → RBB w' (some ⟨w.heap.size, 0, none⟩) 2 2 [L0, L1] → G (.slice (some ⟨w.heap.size, 0, none⟩) 2 2) w') : Runs Tryz.prog o ρ w G := by
  refine Runs.of_run (r := .slice (some ⟨w.heap.size, 0, none⟩) 2 2) ?_ (h _ (Ext.new w _) (RBB.of2 h0 h1 26))
  unfold execOp
  simp only [ho, e0, e1, List.map_toArray, List.map_cons, List.map_nil, Sem.run_bind, run_ss2, Result.andThen_ok, Sem.run_pure]
theorem RBB.of3 {w : World} {B0 B1 B2 : Option Addr} {m0 d0 m1 d1 m2 d2 : Nat} {L0 L1 L2 : List UInt8} (h0 : RB w B0 m0 d0 L0) (h1 : RB w B1 m1 d1 L1) (h2 : RB w B2 m2 d2 L2) (t : TypeId) : RBB (w.alloc (.cells #[.slice B0 m0 d0, .slice B1 m1 d1, .slice B2 m2 d2] t)) (some ⟨w.heap.size, 0, none⟩) 3 3 [L0, L1, L2] :=
  ⟨rfl, Nat.le_refl _, small_maxLen (by decide), fun _ => ⟨_, rfl, fun j hj => by
    have hB := Blk.new w t #[.slice B0 m0 d0, .slice B1 m1 d1, .slice B2 m2 d2]
    have hE := Ext.new w (.cells #[.slice B0 m0 d0, .slice B1 m1 d1, .slice B2 m2 d2] t)
    rw [add_plain]
    have hc : j = 0 ∨ j = 1 ∨ j = 2 := by omega
    rcases hc with rfl | rfl | rfl
    · exact ⟨_, _, _, hB.cell (i := 0) rfl, h0.ext hE⟩
    · exact ⟨_, _, _, hB.cell (i := 1) rfl, h1.ext hE⟩
    · exact ⟨_, _, _, hB.cell (i := 2) rfl, h2.ext hE⟩⟩⟩
theorem run_ss3 (w : World) (B0 : Option Addr) (m0 d0 : Nat) (B1 : Option Addr) (m1 d1 : Nat) (B2 : Option Addr) (m2 d2 : Nat) : (Instr.buildSlice 33 3 #[(0, Value.slice B0 m0 d0), (1, Value.slice B1 m1 d1), (2, Value.slice B2 m2 d2)]).run Tryz.prog w = .ok (.slice (some ⟨w.heap.size, 0, none⟩) 3 3) (w.alloc (.cells #[.slice B0 m0 d0, .slice B1 m1 d1, .slice B2 m2 d2] 26)) := by
  go_simp
theorem Runs.ss3 {o : Oper} {ρ : Operand → Value} {w : World} {G : Value → World → Prop} {y0 y1 y2 : Operand} {B0 B1 B2 : Option Addr} {m0 d0 m1 d1 m2 d2 : Nat} {L0 L1 L2 : List UInt8} (ho : o.op = .buildSlice 33 3 #[(0, y0), (1, y1), (2, y2)]) (e0 : ρ y0 = .slice B0 m0 d0) (e1 : ρ y1 = .slice B1 m1 d1) (e2 : ρ y2 = .slice B2 m2 d2) (h0 : RB w B0 m0 d0 L0) (h1 : RB w B1 m1 d1 L1) (h2 : RB w B2 m2 d2 L2)
    (h : ∀ w', Ext w w' → RBB w' (some ⟨w.heap.size, 0, none⟩) 3 3 [L0, L1, L2] → G (.slice (some ⟨w.heap.size, 0, none⟩) 3 3) w') : Runs Tryz.prog o ρ w G := by
  refine Runs.of_run (r := .slice (some ⟨w.heap.size, 0, none⟩) 3 3) ?_ (h _ (Ext.new w _) (RBB.of3 h0 h1 h2 26))
  unfold execOp
  simp only [ho, e0, e1, e2, List.map_toArray, List.map_cons, List.map_nil, Sem.run_bind, run_ss3, Result.andThen_ok, Sem.run_pure]
end Go.Proofs.YtkndgpjamijbbaaGreat
namespace Go.Proofs.YtkndgpjamijbbaaGreat
set_option maxRecDepth 100000
open Go Go.RowKit
/-- a cell of a struct's value: one that is known, bytes that are read, rows of bytes that are read -/
inductive Sh where
  | val (v : Value)
  | b8 (n : Nat) (L : List UInt8)
  | bb (n : Nat) (Ls : List (List UInt8))
def Sh.all : List Sh → (List Value → Prop) → World → Prop
  | [], k, _ => k []
  | .val v :: r, k, w => Sh.all r (fun vs => k (v :: vs)) w
  | .b8 n L :: r, k, w => ∃ A c, RB w A n c L ∧ Sh.all r (fun vs => k (.slice A n c :: vs)) w
  | .bb n Ls :: r, k, w => ∃ A c, RBB w A n c Ls ∧ Sh.all r (fun vs => k (.slice A n c :: vs)) w
def MP.rk (n : Nat) (L : List UInt8) : MP Ext := ⟨fun u w => ∃ A c, u = .slice A n c ∧ RB w A n c L, fun _ _ _ e ⟨A, c, h1, h2⟩ => ⟨A, c, h1, h2.ext e⟩⟩
def MP.rws (n : Nat) (Ls : List (List UInt8)) : MP Ext := ⟨fun u w => ∃ A c, u = .slice A n c ∧ RBB w A n c Ls, fun _ _ _ e ⟨A, c, h1, h2⟩ => ⟨A, c, h1, h2.ext e⟩⟩
def MP.bk (b : Nat) (t : TypeId) (cs : Array Value) : MP Ext := ⟨fun u w => ∃ g, u = .pointer (some ⟨g, 0, none⟩) ∧ Blk w g t cs ∧ b ≤ g, fun _ _ _ e ⟨g, h1, h2, h3⟩ => ⟨g, h1, h2.ext e, h3⟩⟩
/-- a part of a block, loaded at once -/
theorem load_part {P : Program} {w : World} {g : Nat} {t : TypeId} {cs : Array Value} (hB : Blk w g t cs) (o : Nat) {ty : TypeId} {vs : List Value} {d : TypeDesc} (hv : ((cs.toList.drop o).take vs.length) = vs) (hu : P.underlying ty = some d) (hd : d.isRow = true)
    (hi : (P.info? ty).map (·.size) = some vs.length) : (Instr.loadAt ty (.pointer (some ⟨g, o, none⟩))).run P w = .ok (.agg vs.toArray) w := by
  refine run_loadAt_mid w g o ty vs d (fun j v h => ?_) hu hd hi
  refine hB.cell ?_
  have h1 : ((cs.toList.drop o).take vs.length)[j]? = some v := by rw [hv]; exact h
  have hj : j < vs.length := by
    rcases Nat.lt_or_ge j vs.length with h2 | h2
    · exact h2
    · rw [List.getElem?_eq_none h2] at h; cases h
  rw [List.getElem?_take_of_lt hj, List.getElem?_drop] at h1
  simpa using h1
end Go.Proofs.YtkndgpjamijbbaaGreat
