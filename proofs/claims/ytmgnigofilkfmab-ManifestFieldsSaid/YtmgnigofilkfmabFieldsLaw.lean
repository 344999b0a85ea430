/-
  ManifestFields in plain Lean: the version stands in four bytes of its own.
-/
import Derived.Test.YtmgnigofilkfmabManLaw
namespace Go.Proofs.Ytmgnigofilkfmab
set_option maxRecDepth 100000
theorem ub_append_left {X Y : List UInt8} {k : Nat} (h : k < X.length) : ub (X ++ Y) k = ub X k := by
  unfold ub
  simp [List.getElem?_append_left h]
theorem ub_append_right {X Y : List UInt8} {k : Nat} (h : X.length ≤ k) : ub (X ++ Y) k = ub Y (k - X.length) := by
  unfold ub
  simp [List.getElem?_append_right h]
theorem enc_split (m : Man) : encM m = ([77] ++ (be2 m.name.length ++ m.name)) ++ (beBytes m.ver 4 ++ (m.fw ++ (be2 m.notes.length ++ m.notes))) := by
  unfold encM
  simp only [List.append_assoc]
theorem split_other {P V V' S : List UInt8} {k : Nat} (h1 : V.length = 4) (h2 : V'.length = 4) (h : ub (P ++ (V ++ S)) k ≠ ub (P ++ (V' ++ S)) k) : P.length ≤ k ∧ k < P.length + 4 := by
  by_cases c1 : k < P.length
  · exact absurd ((ub_append_left c1).trans (ub_append_left c1).symm) h
  · refine ⟨by omega, ?_⟩
    by_cases c2 : k < P.length + 4
    · exact c2
    · refine absurd ?_ h
      rw [ub_append_right (X := P) (by omega), ub_append_right (X := P) (by omega), ub_append_right (X := V) (by omega), ub_append_right (X := V') (by omega), h1, h2]
theorem enc_other (m : Man) (x : UInt32) (k : Nat) (h : ub (encM m) k ≠ ub (encM { m with ver := x }) k) : 3 + m.name.length ≤ k ∧ k < 7 + m.name.length := by
  have hp : ([77] ++ (be2 m.name.length ++ m.name)).length = 3 + m.name.length := by simp [be2_length]; omega
  rw [enc_split m, enc_split { m with ver := x }] at h
  have := split_other (beBytes_length _ _) (beBytes_length _ _) h
  rw [hp] at this
  omega
theorem list_ub {X Y : List UInt8} (hl : X.length = Y.length) (h : ∀ j, j < X.length → ub X j = ub Y j) : X = Y := by
  refine List.ext_getElem hl fun j h1 h2 => ?_
  have := h j h1
  simpa [ub, h1, h2] using this
theorem enc_ne {m : Man} {x : UInt32} (hm : rightM m = true) (hn : rightM { m with ver := x } = true) (hx : m.ver ≠ x) : encM m ≠ encM { m with ver := x } := by
  intro e
  have h1 := dec_man hm
  have h2 := dec_man hn
  rw [← e, h1] at h2
  exact hx (congrArg Man.ver h2)
end Go.Proofs.Ytmgnigofilkfmab
