/-
  What is written as a signed checkpoint is read as that one. Plain theorems. law10.CheckBodies, walked.
-/
import Derived.Test.YthggfbpdhkpkjaaLawMany10Q36
import Derived.Test.YthggfbpdhkpkjaaLawMany10Q5
import Derived.Test.YthggfbpdhkpkjaaLawMany10Q38
import Derived.Test.YthggfbpdhkpkjaaLawMany10Q14
namespace Go.Proofs.Ythggfbpdhkpkjaa
set_option maxRecDepth 100000
open Go Go.RowKit
theorem rtake_pre {A B : List UInt8} {z : Int} (h : (A.length : Int) = z) : rtake (A ++ B) false z = (A, B, false) := by
  have hz : z.toNat = A.length := by omega
  unfold rtake
  rw [if_neg (by rintro (h1 | h1 | h1) <;> first | (cases h1; done) | omega | (simp only [List.length_append] at h1; omega)), hz]
  simp
theorem u32i_keyW {x : Int} (h0 : 0 ≤ x) (h1 : x ≤ 256) : u32i (keyW x) = x := by
  unfold u32i keyW
  rw [UInt32.toNat_ofNat']
  omega
theorem putOK_parts {x : Int} {R : List UInt8} {k : Int} {Ps Qs : List (List UInt8)} (h : putOK x R k Ps Qs = true) : rightC x R = true ∧ rightB k Ps Qs = true := by
  unfold putOK at h
  simpa using h
theorem putL_len {x : Int} {R : List UInt8} {k : Int} {Ps Qs : List (List UInt8)} (h : putOK x R k Ps Qs = true) : (putL x R k Ps Qs).length = 2216 := by
  obtain ⟨h1, h2⟩ := putOK_parts h
  rw [putL_yes h]
  have h3 := encS_len h2
  have h4 := (rightC_true h1).2.2
  have h5 : (bytesOf (keyW x)).length = 4 := rfl
  simp only [List.length_append, h3, h4, h5]
/-- one signed checkpoint is read off what it was written as -/
theorem get_put {x : Int} {R : List UInt8} {k : Int} {Ps Qs : List (List UInt8)} (h : putOK x R k Ps Qs = true) (rest : List UInt8) :
    gOK (putL x R k Ps Qs ++ rest) false = true ∧ gX (putL x R k Ps Qs ++ rest) false = x ∧ gR (putL x R k Ps Qs ++ rest) false = R ∧ decX (gY (putL x R k Ps Qs ++ rest) false) = k ∧ decP (gY (putL x R k Ps Qs ++ rest) false) = Ps ∧ decQ (gY (putL x R k Ps Qs ++ rest) false) = Qs ∧ gS3 (putL x R k Ps Qs ++ rest) false = (rest, false) := by
  obtain ⟨h1, h2⟩ := putOK_parts h
  obtain ⟨a0, a1, a2⟩ := rightC_true h1
  have hE := encS_len h2
  have e0 : putL x R k Ps Qs ++ rest = bytesOf (keyW x) ++ (R ++ (encS k Ps Qs ++ rest)) := by rw [putL_yes h]; simp only [List.append_assoc]
  rw [e0]
  have t1 : rtake (bytesOf (keyW x) ++ (R ++ (encS k Ps Qs ++ rest))) false 4 = (bytesOf (keyW x), R ++ (encS k Ps Qs ++ rest), false) := rtake_pre (by rfl)
  have t2 : rtake (R ++ (encS k Ps Qs ++ rest)) false 32 = (R, encS k Ps Qs ++ rest, false) := rtake_pre (by omega)
  have t3 : rtake (encS k Ps Qs ++ rest) false 2180 = (encS k Ps Qs, rest, false) := rtake_pre (by omega)
  have s1 : gS1 (bytesOf (keyW x) ++ (R ++ (encS k Ps Qs ++ rest))) false = (R ++ (encS k Ps Qs ++ rest), false) := by unfold gS1; rw [t1]
  have s2 : gS2 (bytesOf (keyW x) ++ (R ++ (encS k Ps Qs ++ rest))) false = (encS k Ps Qs ++ rest, false) := by unfold gS2; rw [s1, t2]
  have s3 : gS3 (bytesOf (keyW x) ++ (R ++ (encS k Ps Qs ++ rest))) false = (rest, false) := by unfold gS3; rw [s2, t3]
  have gx : gX (bytesOf (keyW x) ++ (R ++ (encS k Ps Qs ++ rest))) false = x := by unfold gX; rw [t1]; show u32i (beNum (bytesOf (keyW x))) = x; rw [beNum_bytesOf, u32i_keyW a0 a1]
  have gr : gR (bytesOf (keyW x) ++ (R ++ (encS k Ps Qs ++ rest))) false = R := by unfold gR; rw [s1, t2]
  have gy : gY (bytesOf (keyW x) ++ (R ++ (encS k Ps Qs ++ rest))) false = encS k Ps Qs := by unfold gY; rw [s2, t3]
  obtain ⟨⟨m, hm, rfl⟩, ⟨hpl, hp32⟩, hql, hq32⟩ := rightB_true h2
  obtain ⟨d1, d2, d3, d4⟩ := dec_enc5 hm hpl hql hp32 hq32
  refine ⟨?_, gx, gr, by rw [gy, d2], by rw [gy, d3], by rw [gy, d4], s3⟩
  rw [gOK_iff, s3, gy, gx]
  exact ⟨rfl, d1, a1⟩
theorem rightB_sig (S M : List UInt8) (k : Nat) (hk : k < 16) : rightB (k : Int) (sigP S M k) (pathL S k) = true := by
  have h := verB_own S M k hk
  unfold verB at h
  simp only [Bool.and_eq_true] at h
  exact h.1
theorem putOK_own (S M R : List UInt8) (x : Int) (k : Nat) (hk : k < 16) (hc : rightC x R = true) : putOK x R (k : Int) (sigP S M k) (pathL S k) = true := by
  unfold putOK
  rw [hc, rightB_sig S M k hk]
  rfl
end Go.Proofs.Ythggfbpdhkpkjaa
namespace Go.Proofs.Ythggfbpdhkpkjaa
set_option maxRecDepth 100000
open Go Go.RowKit
theorem rightC_of {x : Int} {R : List UInt8} (h0 : 0 ≤ x) (h1 : x ≤ 256) (h2 : R.length = 32) : rightC x R = true := by
  unfold rightC
  simp [h0, h1, h2]
end Go.Proofs.Ythggfbpdhkpkjaa
