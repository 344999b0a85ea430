/-
  Slices of byte slices that are read. Plain theorems.
-/
import Derived.Test.YtmgnigofilkfmaaLit
namespace Go.Proofs.Ytmgnigofilkfmaa
set_option maxRecDepth 100000
open Go Go.RowKit
def lb (Ls : List (List UInt8)) (j : Nat) : List UInt8 := Ls.getD j []
structure RBB (w : World) (A : Option Addr) (n c : Nat) (Ls : List (List UInt8)) : Prop where
  len : Ls.length = n
  room : n ≤ c
  cap : c ≤ maxLen
  cells : 0 < n → ∃ ad, A = some ad ∧ ∀ j, j < n → ∃ B m d, w.cell? (ad.add j) = some (.slice B m d) ∧ RB w B m d (lb Ls j)
theorem RBB.ext {w w' : World} {A : Option Addr} {n c : Nat} {Ls : List (List UInt8)} (h : RBB w A n c Ls) (e : Ext w w') : RBB w' A n c Ls :=
  ⟨h.len, h.room, h.cap, fun hn => by
    obtain ⟨ad, ha, hc⟩ := h.cells hn
    refine ⟨ad, ha, fun j hj => ?_⟩
    obtain ⟨B, m, d, h1, h2⟩ := hc j hj
    exact ⟨B, m, d, e.cell h1, h2.ext e⟩⟩
theorem RBB.nil_ (w : World) : RBB w none 0 0 [] := ⟨rfl, Nat.le_refl _, Nat.zero_le _, fun h => absurd h (Nat.lt_irrefl _)⟩
theorem flatten_take_succ (Ls : List (List UInt8)) (k : Nat) (hk : k < Ls.length) : (Ls.take (k + 1)).flatten = (Ls.take k).flatten ++ lb Ls k := by
  rw [List.take_succ_eq_append_getElem hk, List.flatten_append]
  simp [lb, hk]
theorem flatten_take_le (Ls : List (List UInt8)) : ∀ k, ((Ls.take k).flatten).length ≤ Ls.flatten.length := by
  induction Ls with
  | nil => intro k; simp
  | cons L Ls ih =>
    intro k
    cases k with
    | zero => simp
    | succ k =>
      have := ih k
      simp only [List.take_succ_cons, List.flatten_cons, List.length_append]
      omega
theorem flatten_step_le (Ls : List (List UInt8)) (k : Nat) (hk : k < Ls.length) : ((Ls.take k).flatten).length + (lb Ls k).length ≤ Ls.flatten.length := by
  have h1 := flatten_take_le Ls (k + 1)
  rw [flatten_take_succ Ls k hk, List.length_append] at h1
  exact h1
end Go.Proofs.Ytmgnigofilkfmaa
