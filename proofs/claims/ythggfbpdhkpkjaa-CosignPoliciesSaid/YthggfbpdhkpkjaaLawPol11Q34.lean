/-
  SHA-256 over Nat is sha: any text; the tagged sums. Owners' keys over Nat; the keys of the five drawn seeds, reckoned by the kernel; they differ. The key of the drawn seed 0, reckoned by the kernel.
-/
import Derived.Test.YthggfbpdhkpkjaaLawPol11Q33
import Derived.Test.YthggfbpdhkpkjaaLawPol11Q15
namespace Go.Proofs.Ythggfbpdhkpkjaa
set_option maxRecDepth 100000
theorem pow_256 (n : Nat) : 256 ^ (64 * n) = 2 ^ (512 * n) := by
  rw [show 256 = 2 ^ 8 from rfl, ← Nat.pow_mul]
  congr 1
  omega
theorem nblocks_zero (st m : Nat) : nblocks 0 st m = st := rfl
theorem nblocks_succ (n st m : Nat) : nblocks (n + 1) st m = force (nblock st (Nat.mod (Nat.div m (Nat.pow (nat_lit 2) (Nat.mul (nat_lit 512) n))) (nat_lit 13407807929942597099574024998205846127479365820592393377723561443721764030073546976801874298166903427690031858186486050853753882811946569946433649006084096))) fun st' => nblocks n st' m := rfl
theorem part_eq (a Q P m t d : Nat) (hm : m = (a * Q + t) * P + d) (hd : d < P) (ht : t < Q) : Nat.mod (Nat.div m P) Q = t := by
  have h1 : m / P = a * Q + t := by
    rw [hm, Nat.add_comm, Nat.add_mul_div_right _ _ (by omega), Nat.div_eq_of_lt hd, Nat.zero_add]
  show m / P % Q = t
  rw [h1, Nat.mul_add_mod', Nat.mod_eq_of_lt ht]
theorem q512 : 256 ^ 64 = (nat_lit 13407807929942597099574024998205846127479365820592393377723561443721764030073546976801874298166903427690031858186486050853753882811946569946433649006084096) := by decide +kernel
theorem join_eq (a Q P t d R V m : Nat) (hm : m = a * R + V) (hp : R = Q * P) (hv : V = t * P + d) : m = (a * Q + t) * P + d := by
  rw [hm, hp, hv, Nat.add_mul, Nat.mul_assoc]
  omega
theorem nblocks_eq : ∀ (n : Nat) (h : List UInt32) (L : List UInt8) (m a : Nat), h.length = 8 → L.length = 64 * n → m = a * 2 ^ (512 * n) + vl L → nblocks n (vw h) m = vw (blocks h L n)
  | 0, h, L, m, a, _, _, _ => by rw [nblocks_zero]; rfl
  | n + 1, h, L, m, a, hh, hL, hm => by
    have e : L = L.take 64 ++ L.drop 64 := (List.take_append_drop 64 L).symm
    have l1 : (L.take 64).length = 64 := by rw [List.length_take]; omega
    have l2 : (L.drop 64).length = 64 * n := by rw [List.length_drop]; omega
    have hv : vl L = vl (L.take 64) * 2 ^ (512 * n) + vl (L.drop 64) := by
      conv => lhs; rw [e]
      rw [vl_append, l2, pow_256]
    have b1 : vl (L.take 64) < (nat_lit 13407807929942597099574024998205846127479365820592393377723561443721764030073546976801874298166903427690031858186486050853753882811946569946433649006084096) := by
      have := vl_lt (L.take 64)
      rw [l1, q512] at this
      exact this
    have b2 : vl (L.drop 64) < 2 ^ (512 * n) := by
      have := vl_lt (L.drop 64)
      rwa [l2, pow_256] at this
    have hp : 2 ^ (512 * (n + 1)) = (nat_lit 13407807929942597099574024998205846127479365820592393377723561443721764030073546976801874298166903427690031858186486050853753882811946569946433649006084096) * 2 ^ (512 * n) := by
      rw [← pow_256, ← pow_256, show 64 * (n + 1) = 64 + 64 * n by omega, Nat.pow_add, q512]
    have hm2 := join_eq a _ _ _ _ _ _ _ hm hp hv
    have hc : (compress h (L.take 64)).length = 8 := by rw [compress_length, hh]
    have ih := nblocks_eq n (compress h (L.take 64)) (L.drop 64) m _ hc l2 hm2
    have hq : Nat.mod (Nat.div m (Nat.pow (nat_lit 2) (Nat.mul (nat_lit 512) n))) (nat_lit 13407807929942597099574024998205846127479365820592393377723561443721764030073546976801874298166903427690031858186486050853753882811946569946433649006084096) = vl (L.take 64) := part_eq a _ _ m _ _ hm2 b2 b1
    rw [nblocks_succ, hq, force_eq, nblock_eq h _ hh l1, ih]
    rfl
theorem vl_one (b : UInt8) : vl [b] = b.toNat := by simp [vl, vb]
theorem vl_zeros : ∀ (n : Nat), vl (List.replicate n 0) = 0
  | 0 => rfl
  | n + 1 => by
    rw [List.replicate_succ', vl_append, vl_zeros n, vl_one]
    rfl
theorem vl_be8 (n : Nat) (hn : n < 18446744073709551616) : vl (be8 n) = n := by
  have e : be8 n = [UInt8.ofNat (n / 2 ^ 56), UInt8.ofNat (n / 2 ^ 48), UInt8.ofNat (n / 2 ^ 40), UInt8.ofNat (n / 2 ^ 32), UInt8.ofNat (n / 2 ^ 24), UInt8.ofNat (n / 2 ^ 16), UInt8.ofNat (n / 2 ^ 8), UInt8.ofNat (n / 2 ^ 0)] := rfl
  rw [e]
  simp only [vl, vb, List.map_cons, List.map_nil, List.foldl_cons, List.foldl_nil, UInt8.toNat_ofNat', Nat.reducePow, Nat.zero_mul, Nat.zero_add, Nat.div_one]
  omega
theorem vl_bytesOf (x : UInt32) : vl (bytesOf x) = x.toNat := by
  have := x.toNat_lt
  unfold bytesOf
  simp only [vl, vb, List.map_cons, List.map_nil, List.foldl_cons, List.foldl_nil, UInt32.toNat_toUInt8, shr_toNat, Nat.reducePow, Nat.zero_mul, Nat.zero_add]
  omega
theorem vw_cons (x : UInt32) (l : List UInt32) : vw (x :: l) = x.toNat * 4294967296 ^ l.length + vw l := by
  have := vb_append 4294967296 [x.toNat] (l.map UInt32.toNat)
  rw [List.length_map] at this
  refine Eq.trans this ?_
  congr 2
  simp [vb]
theorem vl_words : ∀ (l : List UInt32), vl (l.flatMap bytesOf) = vw l
  | [] => rfl
  | x :: l => by
    rw [List.flatMap_cons, vl_append, vl_words l, vw_cons, vl_bytesOf, flatMap_bytesOf_length, Nat.pow_mul]
theorem nZ_eq (n : Nat) : nZ n = padZeros n := rfl
theorem vl_padded (L : List UInt8) (hn : L.length < 4294967296) : vl (padded L) = (vl L * 256 + 128) * 256 ^ (nZ L.length + 8) + L.length * 8 := by
  unfold padded
  rw [show (0x80 :: (List.replicate (padZeros L.length) 0 ++ be8 (L.length * 8)) : List UInt8) = [0x80] ++ (List.replicate (padZeros L.length) 0 ++ be8 (L.length * 8)) from rfl,
    vl_append, vl_append, vl_append, vl_zeros, vl_be8 _ (by omega), vl_one, List.length_append, List.length_append, be8_length, List.length_replicate, List.length_singleton, nZ_eq, Nat.zero_mul, Nat.zero_add,
    Nat.pow_add, Nat.pow_one, ← Nat.mul_assoc, ← Nat.add_assoc, ← Nat.add_mul]
  rfl
theorem nH0_eq : nH0 = vw shaH := by decide +kernel
theorem nsha_def (n m : Nat) : nsha n m = nblocks ((n + (nZ n + 9)) / 64) nH0 ((m * 256 + 128) * 256 ^ (nZ n + 8) + n * 8) := by
  unfold nsha
  rw [force_eq]
  rfl
theorem nsha_eq (L : List UInt8) (hn : L.length < 4294967296) : vl (sha L) = nsha L.length (vl L) := by
  have hl := padded_length L
  have hmod := padded_mod L
  rw [nsha_def, ← vl_padded L hn, nZ_eq]
  unfold sha
  rw [vl_words, nH0_eq]
  have hc : (L.length + (padZeros L.length + 9)) / 64 = (padded L).length / 64 := by rw [hl]; congr 1; omega
  rw [hc]
  refine (nblocks_eq _ shaH (padded L) _ 0 rfl (by omega) (by rw [Nat.zero_mul, Nat.zero_add])).symm
theorem vl_tagged (t : UInt8) (X : List UInt8) (n : Nat) (hX : X.length = n) (hn : n < 4294967295) : vl (tagged t X) = nsha (n + 1) (t.toNat * 256 ^ n + vl X) := by
  unfold tagged
  rw [nsha_eq _ (by rw [List.length_cons]; omega), List.length_cons, hX, show t :: X = [t] ++ X from rfl, vl_append, vl_one, hX]
end Go.Proofs.Ythggfbpdhkpkjaa
namespace Go.Proofs.Ythggfbpdhkpkjaa
set_option maxRecDepth 100000
def six (k i : Nat) : Nat := (k * 256 + i / 2) * 256 + i % 2
noncomputable def nSecret (s k i : Nat) : Nat := nsha (38 + 1) (10 * 256 ^ 38 + (s * 256 ^ 6 + six k i))
noncomputable def nShown (s k i : Nat) : Nat := nsha (32 + 1) (11 * 256 ^ 32 + nSecret s k i)
noncomputable def nParts (s k n : Nat) : Nat := Nat.rec (motive := fun _ => Nat) 0 (fun n ih => ih * 256 ^ 32 + nShown s k n) n
noncomputable def nPub (s k : Nat) : Nat := nsha (2048 + 1) (12 * 256 ^ 2048 + nParts s k 64)
noncomputable def nNode (a b : Nat) : Nat := nsha (64 + 1) (14 * 256 ^ 64 + (a * 256 ^ 32 + b))
noncomputable def nLev (s h : Nat) : Nat → Nat := Nat.rec (motive := fun _ => Nat → Nat) (fun i => nPub s i) (fun _ ih i => nNode (ih (2 * i)) (ih (2 * i + 1))) h
theorem six_eq : ∀ k, k < 16 → ∀ i, i < 64 → vl [(shr (keyW ((k : Nat) : Int)) 24).toUInt8, (shr (keyW ((k : Nat) : Int)) 16).toUInt8, (shr (keyW ((k : Nat) : Int)) 8).toUInt8, (keyW ((k : Nat) : Int)).toUInt8, byteI ((i / 2 : Nat) : Int), byteI ((i % 2 : Nat) : Int)] = six k i := by decide +kernel
theorem vl_secret (S : List UInt8) (hS : S.length = 32) (k i : Nat) (hk : k < 16) (hi : i < 64) : vl (secretL S ((k : Nat) : Int) ((i / 2 : Nat) : Int) ((i % 2 : Nat) : Int)) = nSecret (vl S) k i := by
  unfold secretL
  rw [vl_tagged 10 _ 38 (by rw [List.length_append, hS]; rfl) (by omega), vl_append, six_eq k hk i hi]
  rfl
theorem vl_shown (S : List UInt8) (hS : S.length = 32) (k i : Nat) (hk : k < 16) (hi : i < 64) : vl (partP S ((k : Nat) : Int) i) = nShown (vl S) k i := by
  unfold partP shownL
  rw [vl_tagged 11 _ 32 (by unfold secretL; exact tagged_length _ _) (by omega), vl_secret S hS k i hk hi]
  rfl
theorem nParts_succ (s k n : Nat) : nParts s k (n + 1) = nParts s k n * 256 ^ 32 + nShown s k n := rfl
theorem vl_parts (S : List UInt8) (hS : S.length = 32) (k : Nat) (hk : k < 16) : ∀ n, n ≤ 64 → vl ((List.range n).map (partP S ((k : Nat) : Int))).flatten = nParts (vl S) k n
  | 0, _ => rfl
  | n + 1, h => by
    rw [List.range_succ, List.map_append, List.flatten_append, vl_append, vl_parts S hS k hk n (by omega), nParts_succ, ← vl_shown S hS k n hk (by omega)]
    simp [partP_length]
theorem parts_len (S : List UInt8) (k : Int) : ∀ n, ((List.range n).map (partP S k)).flatten.length = 32 * n
  | 0 => rfl
  | n + 1 => by
    rw [List.range_succ, List.map_append, List.flatten_append, List.length_append, parts_len S k n]
    simp [partP_length]
    omega
set_option exponentiation.threshold 5000 in
theorem vl_public (S : List UInt8) (hS : S.length = 32) (k : Nat) (hk : k < 16) : vl (publicL S ((k : Nat) : Int)) = nPub (vl S) k := by
  unfold publicL
  rw [vl_tagged 12 _ 2048 (parts_len S _ 64) (by omega), vl_parts S hS k hk 64 (by omega)]
  rfl
theorem vl_node (a b : List UInt8) (ha : a.length = 32) (hb : b.length = 32) : vl (nodeV a b) = nNode (vl a) (vl b) := by
  unfold nodeV
  rw [vl_tagged 14 _ 64 (by rw [List.length_append, ha, hb]) (by omega), vl_append, hb]
  rfl
theorem nLev_zero (s i : Nat) : nLev s 0 i = nPub s i := rfl
theorem nLev_succ (s h i : Nat) : nLev s (h + 1) i = nNode (nLev s h (2 * i)) (nLev s h (2 * i + 1)) := rfl
theorem vl_lev (S : List UInt8) (hS : S.length = 32) : ∀ h i, i < 16 / 2 ^ h → vl (lb (lev S h) i) = nLev (vl S) h i
  | 0, i, hi => by
    have hi : i < 16 := by simpa using hi
    show vl (lb (leavesL S) i) = _
    unfold leavesL
    rw [lb_range _ hi, vl_public S hS i hi, nLev_zero]
  | h + 1, i, hi => by
    have h2 : i < (lev S h).length / 2 := by
      rw [lev_length, Nat.div_div_eq_div_mul]
      exact hi
    have h3 : 2 * i + 1 < 16 / 2 ^ h := by
      rw [lev_length] at h2
      omega
    show vl (lb (upL (lev S h)) i) = _
    rw [lb_upL _ h2, vl_node _ _ (lb_lev_length S h _ (by omega)) (lb_lev_length S h _ h3), vl_lev S hS h (2 * i) (by omega), vl_lev S hS h (2 * i + 1) h3, nLev_succ]
theorem vl_own (S : List UInt8) (hS : S.length = 32) : vl (ownP S) = nLev (vl S) 4 0 := vl_lev S hS 4 0 (by decide)
/-- the tree, from its leaves -/
def Leaves (s : Nat) (l : List Nat) : Prop := ∀ i, i < 16 → nPub s i = l.getD i 0
noncomputable def nUp (l : List Nat) (h : Nat) : Nat → Nat := Nat.rec (motive := fun _ => Nat → Nat) (fun i => l.getD i 0) (fun _ ih i => nNode (ih (2 * i)) (ih (2 * i + 1))) h
theorem up_eq (s : Nat) (l : List Nat) (h : Leaves s l) : ∀ n i, i < 16 / 2 ^ n → nLev s n i = nUp l n i
  | 0, i, hi => h i (by simpa using hi)
  | n + 1, i, hi => by
    have h3 : i < 16 / 2 ^ n / 2 := by
      rw [Nat.div_div_eq_div_mul]
      exact hi
    have e : nUp l (n + 1) i = nNode (nUp l n (2 * i)) (nUp l n (2 * i + 1)) := rfl
    rw [nLev_succ, up_eq s l h n _ (by omega), up_eq s l h n _ (by omega), e]
theorem leaves_of (s l0 l1 l2 l3 l4 l5 l6 l7 l8 l9 l10 l11 l12 l13 l14 l15 : Nat) (h0 : nPub s 0 = l0) (h1 : nPub s 1 = l1) (h2 : nPub s 2 = l2) (h3 : nPub s 3 = l3) (h4 : nPub s 4 = l4) (h5 : nPub s 5 = l5) (h6 : nPub s 6 = l6) (h7 : nPub s 7 = l7) (h8 : nPub s 8 = l8) (h9 : nPub s 9 = l9) (h10 : nPub s 10 = l10) (h11 : nPub s 11 = l11) (h12 : nPub s 12 = l12) (h13 : nPub s 13 = l13) (h14 : nPub s 14 = l14) (h15 : nPub s 15 = l15) : Leaves s [l0, l1, l2, l3, l4, l5, l6, l7, l8, l9, l10, l11, l12, l13, l14, l15] := by
  intro i hi
  obtain rfl | rfl | rfl | rfl | rfl | rfl | rfl | rfl | rfl | rfl | rfl | rfl | rfl | rfl | rfl | rfl : i = 0 ∨ i = 1 ∨ i = 2 ∨ i = 3 ∨ i = 4 ∨ i = 5 ∨ i = 6 ∨ i = 7 ∨ i = 8 ∨ i = 9 ∨ i = 10 ∨ i = 11 ∨ i = 12 ∨ i = 13 ∨ i = 14 ∨ i = 15 := by omega
  · exact h0
  · exact h1
  · exact h2
  · exact h3
  · exact h4
  · exact h5
  · exact h6
  · exact h7
  · exact h8
  · exact h9
  · exact h10
  · exact h11
  · exact h12
  · exact h13
  · exact h14
  · exact h15
theorem key_val (k : Nat) (s p : Nat) (l : List Nat) (hs : nsha (1 + 1) (99 * 256 ^ 1 + (UInt8.ofNat k).toNat) = s) (hl : Leaves s l) (hp : nUp l 4 0 = p) : vl (ownP (tagged 99 [UInt8.ofNat k])) = p := by
  rw [vl_own _ (tagged_length _ _), vl_tagged 99 [UInt8.ofNat k] 1 rfl (by omega), vl_one]
  show nLev (nsha (1 + 1) (99 * 256 ^ 1 + (UInt8.ofNat k).toNat)) 4 0 = p
  rw [hs, up_eq s l hl 4 0 (by decide), hp]
end Go.Proofs.Ythggfbpdhkpkjaa
namespace Go.Proofs.Ythggfbpdhkpkjaa
set_option maxRecDepth 100000
theorem seedN_0 : Nat.beq (nsha (1 + 1) (99 * 256 ^ 1 + (UInt8.ofNat 0).toNat)) (nat_lit 106876478850809536464747026933318406390373944502155267215790192229376880403588) = true := by decide +kernel
theorem leafN_0_0 : Nat.beq (nPub (nat_lit 106876478850809536464747026933318406390373944502155267215790192229376880403588) 0) (nat_lit 65140117023460612556936823488654411943447327412402808530780944881395356569335) = true := by decide +kernel
theorem leafN_0_1 : Nat.beq (nPub (nat_lit 106876478850809536464747026933318406390373944502155267215790192229376880403588) 1) (nat_lit 57846093975207094156767956744242678222526326640561232302687740993734963672805) = true := by decide +kernel
theorem leafN_0_2 : Nat.beq (nPub (nat_lit 106876478850809536464747026933318406390373944502155267215790192229376880403588) 2) (nat_lit 81964478245668921102448854141524167224888547222734434501928509073705139733429) = true := by decide +kernel
theorem leafN_0_3 : Nat.beq (nPub (nat_lit 106876478850809536464747026933318406390373944502155267215790192229376880403588) 3) (nat_lit 32196878670854211214662493130751273724370945577022329870382228423812355817118) = true := by decide +kernel
theorem leafN_0_4 : Nat.beq (nPub (nat_lit 106876478850809536464747026933318406390373944502155267215790192229376880403588) 4) (nat_lit 25637275288199090293714636708653944289448005206965171821654513613673264749795) = true := by decide +kernel
theorem leafN_0_5 : Nat.beq (nPub (nat_lit 106876478850809536464747026933318406390373944502155267215790192229376880403588) 5) (nat_lit 74219647468330378359092902663680649248810908922822180644312870176339573493538) = true := by decide +kernel
theorem leafN_0_6 : Nat.beq (nPub (nat_lit 106876478850809536464747026933318406390373944502155267215790192229376880403588) 6) (nat_lit 14354719427905931607385770650804643930693338523665082398092817657814357275542) = true := by decide +kernel
theorem leafN_0_7 : Nat.beq (nPub (nat_lit 106876478850809536464747026933318406390373944502155267215790192229376880403588) 7) (nat_lit 107746460006714404485002838742577316861504290489004483973382799144166764727108) = true := by decide +kernel
theorem leafN_0_8 : Nat.beq (nPub (nat_lit 106876478850809536464747026933318406390373944502155267215790192229376880403588) 8) (nat_lit 67132601034125140060553998497597134036075698444655510954066040073519095551701) = true := by decide +kernel
theorem leafN_0_9 : Nat.beq (nPub (nat_lit 106876478850809536464747026933318406390373944502155267215790192229376880403588) 9) (nat_lit 87704302793865626607138102418406657268733026816028284764054969785095323087734) = true := by decide +kernel
theorem leafN_0_10 : Nat.beq (nPub (nat_lit 106876478850809536464747026933318406390373944502155267215790192229376880403588) 10) (nat_lit 76657210657867937626068800010011960909866564740604658737422431479923762399573) = true := by decide +kernel
theorem leafN_0_11 : Nat.beq (nPub (nat_lit 106876478850809536464747026933318406390373944502155267215790192229376880403588) 11) (nat_lit 58966460305288576817807180602580157738653024861863792696158145888737090198174) = true := by decide +kernel
theorem leafN_0_12 : Nat.beq (nPub (nat_lit 106876478850809536464747026933318406390373944502155267215790192229376880403588) 12) (nat_lit 94012103982174186551760472779020362672895563504461930921546425342276520861965) = true := by decide +kernel
theorem leafN_0_13 : Nat.beq (nPub (nat_lit 106876478850809536464747026933318406390373944502155267215790192229376880403588) 13) (nat_lit 13580351790758291064771715868768893685712857434801371031473534107215215606808) = true := by decide +kernel
theorem leafN_0_14 : Nat.beq (nPub (nat_lit 106876478850809536464747026933318406390373944502155267215790192229376880403588) 14) (nat_lit 16660305783512123262114082711143866332387566582740626264485239370002583618445) = true := by decide +kernel
theorem leafN_0_15 : Nat.beq (nPub (nat_lit 106876478850809536464747026933318406390373944502155267215790192229376880403588) 15) (nat_lit 8613127598488681785075135289521824592514147332734299129538097531469495429781) = true := by decide +kernel
def leavesN_0 : List Nat := [nat_lit 65140117023460612556936823488654411943447327412402808530780944881395356569335, nat_lit 57846093975207094156767956744242678222526326640561232302687740993734963672805, nat_lit 81964478245668921102448854141524167224888547222734434501928509073705139733429, nat_lit 32196878670854211214662493130751273724370945577022329870382228423812355817118, nat_lit 25637275288199090293714636708653944289448005206965171821654513613673264749795, nat_lit 74219647468330378359092902663680649248810908922822180644312870176339573493538, nat_lit 14354719427905931607385770650804643930693338523665082398092817657814357275542, nat_lit 107746460006714404485002838742577316861504290489004483973382799144166764727108, nat_lit 67132601034125140060553998497597134036075698444655510954066040073519095551701, nat_lit 87704302793865626607138102418406657268733026816028284764054969785095323087734, nat_lit 76657210657867937626068800010011960909866564740604658737422431479923762399573, nat_lit 58966460305288576817807180602580157738653024861863792696158145888737090198174, nat_lit 94012103982174186551760472779020362672895563504461930921546425342276520861965, nat_lit 13580351790758291064771715868768893685712857434801371031473534107215215606808, nat_lit 16660305783512123262114082711143866332387566582740626264485239370002583618445, nat_lit 8613127598488681785075135289521824592514147332734299129538097531469495429781]
theorem topN_0 : Nat.beq (nUp leavesN_0 4 0) (nat_lit 78092867142496428001266824181955629612837199949159080598657419499965859560047) = true := by decide +kernel
theorem leavesOK_0 : Leaves (nat_lit 106876478850809536464747026933318406390373944502155267215790192229376880403588) leavesN_0 := leaves_of _ _ _ _ _ _ _ _ _ _ _ _ _ _ _ _ _ (Nat.eq_of_beq_eq_true leafN_0_0) (Nat.eq_of_beq_eq_true leafN_0_1) (Nat.eq_of_beq_eq_true leafN_0_2) (Nat.eq_of_beq_eq_true leafN_0_3) (Nat.eq_of_beq_eq_true leafN_0_4) (Nat.eq_of_beq_eq_true leafN_0_5) (Nat.eq_of_beq_eq_true leafN_0_6) (Nat.eq_of_beq_eq_true leafN_0_7) (Nat.eq_of_beq_eq_true leafN_0_8) (Nat.eq_of_beq_eq_true leafN_0_9) (Nat.eq_of_beq_eq_true leafN_0_10) (Nat.eq_of_beq_eq_true leafN_0_11) (Nat.eq_of_beq_eq_true leafN_0_12) (Nat.eq_of_beq_eq_true leafN_0_13) (Nat.eq_of_beq_eq_true leafN_0_14) (Nat.eq_of_beq_eq_true leafN_0_15)
theorem keyN_0 : vl (ownP (tagged 99 [UInt8.ofNat 0])) = (nat_lit 78092867142496428001266824181955629612837199949159080598657419499965859560047) := key_val 0 _ _ leavesN_0 (Nat.eq_of_beq_eq_true seedN_0) leavesOK_0 (Nat.eq_of_beq_eq_true topN_0)
end Go.Proofs.Ythggfbpdhkpkjaa
