/-
  Small words beside the others. Plain theorems.
-/
import Derived.Test.YtmgnigofilkfmaaRef2
namespace Go.Proofs.Ytmgnigofilkfmaa
set_option maxRecDepth 100000
open Go Go.RowKit
theorem RB.to_ {w : World} {A : Option Addr} {n n' c : Nat} {L L' : List UInt8} (h : RB w A n c L) (hn : n = n') (hL : L = L') : RB w A n' c L' := by subst hn hL; exact h
theorem OB.to_ {w : World} {b : Nat} {A : Option Addr} {n n' c : Nat} {L L' : List UInt8} (h : OB w b A n c L) (hn : n = n') (hL : L = L') : OB w b A n' c L' := by subst hn hL; exact h
theorem app_to {ops : Array Oper} {rest : List Oper} {o : Oper} {a : Act} {Q : Exit → Act → World → Prop} {w : World} (hgd : o.guard = none) {s x : Operand} (ho : o.op = .call { callee := .builtin .append, args := #[s, x], argTypes := #[22, 22] })
    {A : Option Addr} {n c : Nat} (hs : a.eval s = .slice A n c) {B : Option Addr} {m d : Nat} (hx : a.eval x = .slice B m d)
    {base : Nat} {L M : List UInt8} (hown : OB w base A n c L) (hr : RB w B m d M) {N : Nat} {LM : List UInt8} (hN : n + m = N) (hL : L ++ M = LM) (hnm : N ≤ 140737488355328) (hbase : base ≤ w.heap.size)
    (h : ∀ A' c' w', OB w' base A' N c' LM → w.grownBy w' (blk A) → (blk A' = blk A ∨ blk A' = some w.heap.size) → w.heap.size ≤ w'.heap.size → wpList Try.prog ops Q rest (a.put o.dst (.slice A' N c')) w') :
    wpList Try.prog ops Q (o :: rest) a w := by
  subst hN hL
  exact app_law hgd ho hs hx hown hr hnm hbase h
/-- what an append to a row of the call's own turns lies beyond all that was there -/
theorem OB.step {a w w' : World} {A : Option Addr} {n c : Nat} {L : List UInt8} (h : OB w a.heap.size A n c L) (hE : Ext a w) (g : w.grownBy w' (blk A)) : Ext a w' := hE.then_grown g (fun k hk => (h.lt hk).1)
theorem RB.lit (w : World) (L : List UInt8) {n : Nat} (hn : L.length = n) (hm : n ≤ maxLen) : RB (w.alloc (.cells (bv L).toArray 5)) (some ⟨w.heap.size, 0, none⟩) n n L := (OB.lit w L hn hm).rb
theorem big_maxLen {n : Nat} (h : n ≤ 281474976710656) : n ≤ maxLen := by unfold maxLen; omega
theorem small_maxLen {n : Nat} (h : n ≤ 1000000) : n ≤ maxLen := by unfold maxLen; omega
theorem app_own {ops : Array Oper} {rest : List Oper} {o : Oper} {a : Act} {Q : Exit → Act → World → Prop} {w0 w : World} (hgd : o.guard = none) {s x : Operand} (ho : o.op = .call { callee := .builtin .append, args := #[s, x], argTypes := #[22, 22] })
    {A : Option Addr} {n c : Nat} (hs : a.eval s = .slice A n c) {B : Option Addr} {m d : Nat} (hx : a.eval x = .slice B m d) (hE : Ext w0 w)
    {L M : List UInt8} (hown : OB w w0.heap.size A n c L) (hr : RB w B m d M) {N : Nat} {LM : List UInt8} (hN : n + m = N) (hL : L ++ M = LM) (hnm : N ≤ 140737488355328)
    (h : ∀ A' c' w', OB w' w0.heap.size A' N c' LM → Ext w0 w' → wpList Try.prog ops Q rest (a.put o.dst (.slice A' N c')) w') :
    wpList Try.prog ops Q (o :: rest) a w := by
  subst hN hL
  exact app_law hgd ho hs hx hown hr hnm hE.size fun A' c' w' h1 h2 _ _ => h A' c' w' h1 (hown.step hE h2)
theorem padZeros_lt (n : Nat) : padZeros n < 64 := by unfold padZeros; omega
theorem padZeros_at {n r j z : Nat} (hn : n = 64 * j + r) (hr : r < 64) (hz : z ≤ padZeros n) : (r + 1 + z) % 64 = 56 ↔ z = padZeros n := by
  unfold padZeros at *
  omega
theorem be8_take (N : Nat) (i : Nat) (hi : i < 8) : (be8 N).take (i + 1) = (be8 N).take i ++ [UInt8.ofNat (N / 2 ^ (8 * (7 - i)))] := by
  rw [List.take_succ_eq_append_getElem (by rw [be8_length]; exact hi)]
  congr 2
  simp [be8]
theorem conv_u64_u8 {P : Program} {w : World} {s t : TypeId} (hs : P.underlying s = some (.int .u64)) (ht : P.underlying t = some (.int .u8)) (x : Nat) : (convert s t (.int .u64 (x : Int))).run P w = .ok (.int .u8 (u8i (UInt8.ofNat x))) w := by
  have e : IntKind.u8.wrap (x : Int) = u8i (UInt8.ofNat x) := by
    unfold u8i
    rw [IntKind.wrap_u8, UInt8.toNat_ofNat']
    omega
  simp [convert, run_underlying hs, run_underlying ht, Conv.intToInt, e]
theorem conv_i64_u64 {P : Program} {w : World} {s t : TypeId} (hs : P.underlying s = some (.int .i64)) (ht : P.underlying t = some (.int .u64)) (x : Int) (k : Nat) (h : x = (k : Int)) (hk : k < 18446744073709551616) : (convert s t (.int .i64 x)).run P w = .ok (.int .u64 (k : Int)) w := by
  subst h
  have e : IntKind.u64.wrap (k : Int) = (k : Int) := by rw [IntKind.wrap_u64]; omega
  simp [convert, run_underlying hs, run_underlying ht, Conv.intToInt, e]
theorem bin_mulu64 {P : Program} {w : World} (t : TypeId) (x y : Int) (k : Nat) (h : x * y = (k : Int)) (hk : k < 18446744073709551616) : (binOp .mul t (.int .u64 x) (.int .u64 y)).run P w = .ok (.int .u64 (k : Int)) w := by
  have e : IntKind.u64.wrap (x * y) = (k : Int) := by rw [h, IntKind.wrap_u64]; omega
  simp [binOp, Op.intArith, e]
theorem bin_shru64 {P : Program} {w : World} (t : TypeId) (kk : IntKind) (x k : Nat) (h : k ≤ 64) : (binOp .shr t (.int .u64 (x : Int)) (.int kk (k : Int))).run P w = .ok (.int .u64 ((x / 2 ^ k : Nat) : Int)) w := by
  have h1 : ¬ ((k : Int) < 0) := by omega
  have h2 : min (k : Int).toNat IntKind.u64.bits = k := by simp [IntKind.bits]; omega
  have e : ((x : Int)).fdiv (2 ^ k) = ((x / 2 ^ k : Nat) : Int) := by
    rw [Int.fdiv_eq_ediv_of_nonneg _ (Int.pow_nonneg (by decide))]
    simp
  simp only [binOp, Op.shift, if_neg h1, h2, e, Sem.run_pure]
theorem OB.not_blk {w : World} {b k : Nat} {A : Option Addr} {n c : Nat} {L : List UInt8} (h : OB w b A n c L) (hk : k < b) : blk A = none ∨ blk A ≠ some k := by
  refine .inr fun e => ?_
  have := (h.lt e).1
  omega
theorem flatMap_take_succ (hs : List UInt32) (k : Nat) (hk : k < hs.length) : (hs.take (k + 1)).flatMap bytesOf = (hs.take k).flatMap bytesOf ++ bytesOf (uw hs k) := by
  rw [List.take_succ_eq_append_getElem hk, List.flatMap_append]
  simp [uw, hk]
theorem drop_cut {M : List UInt8} {n i : Nat} (hM : M.length = n) : ((M.drop (64 * i)).take (n - 64 * i)).drop 64 = M.drop (64 * (i + 1)) := by
  rw [List.take_of_length_le (by simp; omega), List.drop_drop]
  rfl
end Go.Proofs.Ytmgnigofilkfmaa
