/-
  Owners' keys over Nat; the keys of the five drawn seeds, reckoned by the kernel; they differ. The key of the drawn seed 0, reckoned by the kernel. The key of the drawn seed 1, reckoned by the kernel.
-/
import Derived.Test.YthggfbpdhkpkjaaLawNumbers11Q34
import Derived.Test.YthggfbpdhkpkjaaLawNumbers11Q15
namespace Go.Proofs.Ythggfbpdhkpkjaa
set_option maxRecDepth 100000
def six (k i : Nat) : Nat := (k * 256 + i / 2) * 256 + i % 2
noncomputable def nSecret (s k i : Nat) : Nat := nsha (38 + 1) (10 * 256 ^ 38 + (s * 256 ^ 6 + six k i))
noncomputable def nShown (s k i : Nat) : Nat := nsha (32 + 1) (11 * 256 ^ 32 + nSecret s k i)
noncomputable def nParts (s k n : Nat) : Nat := Nat.rec (motive := fun _ => Nat) 0 (fun n ih => ih * 256 ^ 32 + nShown s k n) n
noncomputable def nPub (s k : Nat) : Nat := nsha (2048 + 1) (12 * 256 ^ 2048 + nParts s k 64)
noncomputable def nNode (a b : Nat) : Nat := nsha (64 + 1) (14 * 256 ^ 64 + (a * 256 ^ 32 + b))
noncomputable def nLev (s h : Nat) : Nat → Nat := Nat.rec (motive := fun _ => Nat → Nat) (fun i => nPub s i) (fun _ ih i => nNode (ih (2 * i)) (ih (2 * i + 1))) h
theorem six_eq : ∀ k, k < 16 → ∀ i, i < 64 → vl [(shr (keyW ((k : Nat) : Int)) 24).toUInt8, (shr (keyW ((k : Nat) : Int)) 16).toUInt8, (shr (keyW ((k : Nat) : Int)) 8).toUInt8, (keyW ((k : Nat) : Int)).toUInt8, byteI ((i / 2 : Nat) : Int), byteI ((i % 2 : Nat) : Int)] = six k i := by decide +kernel
theorem vl_secret (S : List UInt8) (hS : S.length = 32) (k i : Nat) (hk : k < 16) (hi : i < 64) : vl (secretL S ((k : Nat) : Int) ((i / 2 : Nat) : Int) ((i % 2 : Nat) : Int)) = nSecret (vl S) k i := by
  unfold secretL
  rw [vl_tagged 10 _ 38 (by rw [List.length_append, hS]; rfl) (by omega), vl_append, six_eq k hk i hi]
  rfl
theorem vl_shown (S : List UInt8) (hS : S.length = 32) (k i : Nat) (hk : k < 16) (hi : i < 64) : vl (partP S ((k : Nat) : Int) i) = nShown (vl S) k i := by
  unfold partP shownL
  rw [vl_tagged 11 _ 32 (by unfold secretL; exact tagged_length _ _) (by omega), vl_secret S hS k i hk hi]
  rfl
theorem nParts_succ (s k n : Nat) : nParts s k (n + 1) = nParts s k n * 256 ^ 32 + nShown s k n := rfl
theorem vl_parts (S : List UInt8) (hS : S.length = 32) (k : Nat) (hk : k < 16) : ∀ n, n ≤ 64 → vl ((List.range n).map (partP S ((k : Nat) : Int))).flatten = nParts (vl S) k n
  | 0, _ => rfl
  | n + 1, h => by
    rw [List.range_succ, List.map_append, List.flatten_append, vl_append, vl_parts S hS k hk n (by omega), nParts_succ, ← vl_shown S hS k n hk (by omega)]
    simp [partP_length]
theorem parts_len (S : List UInt8) (k : Int) : ∀ n, ((List.range n).map (partP S k)).flatten.length = 32 * n
  | 0 => rfl
  | n + 1 => by
    rw [List.range_succ, List.map_append, List.flatten_append, List.length_append, parts_len S k n]
    simp [partP_length]
    omega
set_option exponentiation.threshold 5000 in
theorem vl_public (S : List UInt8) (hS : S.length = 32) (k : Nat) (hk : k < 16) : vl (publicL S ((k : Nat) : Int)) = nPub (vl S) k := by
  unfold publicL
  rw [vl_tagged 12 _ 2048 (parts_len S _ 64) (by omega), vl_parts S hS k hk 64 (by omega)]
  rfl
theorem vl_node (a b : List UInt8) (ha : a.length = 32) (hb : b.length = 32) : vl (nodeV a b) = nNode (vl a) (vl b) := by
  unfold nodeV
  rw [vl_tagged 14 _ 64 (by rw [List.length_append, ha, hb]) (by omega), vl_append, hb]
  rfl
theorem nLev_zero (s i : Nat) : nLev s 0 i = nPub s i := rfl
theorem nLev_succ (s h i : Nat) : nLev s (h + 1) i = nNode (nLev s h (2 * i)) (nLev s h (2 * i + 1)) := rfl
theorem vl_lev (S : List UInt8) (hS : S.length = 32) : ∀ h i, i < 16 / 2 ^ h → vl (lb (lev S h) i) = nLev (vl S) h i
  | 0, i, hi => by
    have hi : i < 16 := by simpa using hi
    show vl (lb (leavesL S) i) = _
    unfold leavesL
    rw [lb_range _ hi, vl_public S hS i hi, nLev_zero]
  | h + 1, i, hi => by
    have h2 : i < (lev S h).length / 2 := by
      rw [lev_length, Nat.div_div_eq_div_mul]
      exact hi
    have h3 : 2 * i + 1 < 16 / 2 ^ h := by
      rw [lev_length] at h2
      omega
    show vl (lb (upL (lev S h)) i) = _
    rw [lb_upL _ h2, vl_node _ _ (lb_lev_length S h _ (by omega)) (lb_lev_length S h _ h3), vl_lev S hS h (2 * i) (by omega), vl_lev S hS h (2 * i + 1) h3, nLev_succ]
theorem vl_own (S : List UInt8) (hS : S.length = 32) : vl (ownP S) = nLev (vl S) 4 0 := vl_lev S hS 4 0 (by decide)
/-- the tree, from its leaves -/
def Leaves (s : Nat) (l : List Nat) : Prop := ∀ i, i < 16 → nPub s i = l.getD i 0
noncomputable def nUp (l : List Nat) (h : Nat) : Nat → Nat := Nat.rec (motive := fun _ => Nat → Nat) (fun i => l.getD i 0) (fun _ ih i => nNode (ih (2 * i)) (ih (2 * i + 1))) h
theorem up_eq (s : Nat) (l : List Nat) (h : Leaves s l) : ∀ n i, i < 16 / 2 ^ n → nLev s n i = nUp l n i
  | 0, i, hi => h i (by simpa using hi)
  | n + 1, i, hi => by
    have h3 : i < 16 / 2 ^ n / 2 := by
      rw [Nat.div_div_eq_div_mul]
      exact hi
    have e : nUp l (n + 1) i = nNode (nUp l n (2 * i)) (nUp l n (2 * i + 1)) := rfl
    rw [nLev_succ, up_eq s l h n _ (by omega), up_eq s l h n _ (by omega), e]
theorem leaves_of (s l0 l1 l2 l3 l4 l5 l6 l7 l8 l9 l10 l11 l12 l13 l14 l15 : Nat) (h0 : nPub s 0 = l0) (h1 : nPub s 1 = l1) (h2 : nPub s 2 = l2) (h3 : nPub s 3 = l3) (h4 : nPub s 4 = l4) (h5 : nPub s 5 = l5) (h6 : nPub s 6 = l6) (h7 : nPub s 7 = l7) (h8 : nPub s 8 = l8) (h9 : nPub s 9 = l9) (h10 : nPub s 10 = l10) (h11 : nPub s 11 = l11) (h12 : nPub s 12 = l12) (h13 : nPub s 13 = l13) (h14 : nPub s 14 = l14) (h15 : nPub s 15 = l15) : Leaves s [l0, l1, l2, l3, l4, l5, l6, l7, l8, l9, l10, l11, l12, l13, l14, l15] := by
  intro i hi
  obtain rfl | rfl | rfl | rfl | rfl | rfl | rfl | rfl | rfl | rfl | rfl | rfl | rfl | rfl | rfl | rfl : i = 0 ∨ i = 1 ∨ i = 2 ∨ i = 3 ∨ i = 4 ∨ i = 5 ∨ i = 6 ∨ i = 7 ∨ i = 8 ∨ i = 9 ∨ i = 10 ∨ i = 11 ∨ i = 12 ∨ i = 13 ∨ i = 14 ∨ i = 15 := by omega
  · exact h0
  · exact h1
  · exact h2
  · exact h3
  · exact h4
  · exact h5
  · exact h6
  · exact h7
  · exact h8
  · exact h9
  · exact h10
  · exact h11
  · exact h12
  · exact h13
  · exact h14
  · exact h15
theorem key_val (k : Nat) (s p : Nat) (l : List Nat) (hs : nsha (1 + 1) (99 * 256 ^ 1 + (UInt8.ofNat k).toNat) = s) (hl : Leaves s l) (hp : nUp l 4 0 = p) : vl (ownP (tagged 99 [UInt8.ofNat k])) = p := by
  rw [vl_own _ (tagged_length _ _), vl_tagged 99 [UInt8.ofNat k] 1 rfl (by omega), vl_one]
  show nLev (nsha (1 + 1) (99 * 256 ^ 1 + (UInt8.ofNat k).toNat)) 4 0 = p
  rw [hs, up_eq s l hl 4 0 (by decide), hp]
end Go.Proofs.Ythggfbpdhkpkjaa
namespace Go.Proofs.Ythggfbpdhkpkjaa
set_option maxRecDepth 100000
theorem seedN_0 : Nat.beq (nsha (1 + 1) (99 * 256 ^ 1 + (UInt8.ofNat 0).toNat)) (nat_lit 106876478850809536464747026933318406390373944502155267215790192229376880403588) = true := by decide +kernel
theorem leafN_0_0 : Nat.beq (nPub (nat_lit 106876478850809536464747026933318406390373944502155267215790192229376880403588) 0) (nat_lit 65140117023460612556936823488654411943447327412402808530780944881395356569335) = true := by decide +kernel
theorem leafN_0_1 : Nat.beq (nPub (nat_lit 106876478850809536464747026933318406390373944502155267215790192229376880403588) 1) (nat_lit 57846093975207094156767956744242678222526326640561232302687740993734963672805) = true := by decide +kernel
theorem leafN_0_2 : Nat.beq (nPub (nat_lit 106876478850809536464747026933318406390373944502155267215790192229376880403588) 2) (nat_lit 81964478245668921102448854141524167224888547222734434501928509073705139733429) = true := by decide +kernel
theorem leafN_0_3 : Nat.beq (nPub (nat_lit 106876478850809536464747026933318406390373944502155267215790192229376880403588) 3) (nat_lit 32196878670854211214662493130751273724370945577022329870382228423812355817118) = true := by decide +kernel
theorem leafN_0_4 : Nat.beq (nPub (nat_lit 106876478850809536464747026933318406390373944502155267215790192229376880403588) 4) (nat_lit 25637275288199090293714636708653944289448005206965171821654513613673264749795) = true := by decide +kernel
theorem leafN_0_5 : Nat.beq (nPub (nat_lit 106876478850809536464747026933318406390373944502155267215790192229376880403588) 5) (nat_lit 74219647468330378359092902663680649248810908922822180644312870176339573493538) = true := by decide +kernel
theorem leafN_0_6 : Nat.beq (nPub (nat_lit 106876478850809536464747026933318406390373944502155267215790192229376880403588) 6) (nat_lit 14354719427905931607385770650804643930693338523665082398092817657814357275542) = true := by decide +kernel
theorem leafN_0_7 : Nat.beq (nPub (nat_lit 106876478850809536464747026933318406390373944502155267215790192229376880403588) 7) (nat_lit 107746460006714404485002838742577316861504290489004483973382799144166764727108) = true := by decide +kernel
theorem leafN_0_8 : Nat.beq (nPub (nat_lit 106876478850809536464747026933318406390373944502155267215790192229376880403588) 8) (nat_lit 67132601034125140060553998497597134036075698444655510954066040073519095551701) = true := by decide +kernel
theorem leafN_0_9 : Nat.beq (nPub (nat_lit 106876478850809536464747026933318406390373944502155267215790192229376880403588) 9) (nat_lit 87704302793865626607138102418406657268733026816028284764054969785095323087734) = true := by decide +kernel
theorem leafN_0_10 : Nat.beq (nPub (nat_lit 106876478850809536464747026933318406390373944502155267215790192229376880403588) 10) (nat_lit 76657210657867937626068800010011960909866564740604658737422431479923762399573) = true := by decide +kernel
theorem leafN_0_11 : Nat.beq (nPub (nat_lit 106876478850809536464747026933318406390373944502155267215790192229376880403588) 11) (nat_lit 58966460305288576817807180602580157738653024861863792696158145888737090198174) = true := by decide +kernel
theorem leafN_0_12 : Nat.beq (nPub (nat_lit 106876478850809536464747026933318406390373944502155267215790192229376880403588) 12) (nat_lit 94012103982174186551760472779020362672895563504461930921546425342276520861965) = true := by decide +kernel
theorem leafN_0_13 : Nat.beq (nPub (nat_lit 106876478850809536464747026933318406390373944502155267215790192229376880403588) 13) (nat_lit 13580351790758291064771715868768893685712857434801371031473534107215215606808) = true := by decide +kernel
theorem leafN_0_14 : Nat.beq (nPub (nat_lit 106876478850809536464747026933318406390373944502155267215790192229376880403588) 14) (nat_lit 16660305783512123262114082711143866332387566582740626264485239370002583618445) = true := by decide +kernel
theorem leafN_0_15 : Nat.beq (nPub (nat_lit 106876478850809536464747026933318406390373944502155267215790192229376880403588) 15) (nat_lit 8613127598488681785075135289521824592514147332734299129538097531469495429781) = true := by decide +kernel
def leavesN_0 : List Nat := [nat_lit 65140117023460612556936823488654411943447327412402808530780944881395356569335, nat_lit 57846093975207094156767956744242678222526326640561232302687740993734963672805, nat_lit 81964478245668921102448854141524167224888547222734434501928509073705139733429, nat_lit 32196878670854211214662493130751273724370945577022329870382228423812355817118, nat_lit 25637275288199090293714636708653944289448005206965171821654513613673264749795, nat_lit 74219647468330378359092902663680649248810908922822180644312870176339573493538, nat_lit 14354719427905931607385770650804643930693338523665082398092817657814357275542, nat_lit 107746460006714404485002838742577316861504290489004483973382799144166764727108, nat_lit 67132601034125140060553998497597134036075698444655510954066040073519095551701, nat_lit 87704302793865626607138102418406657268733026816028284764054969785095323087734, nat_lit 76657210657867937626068800010011960909866564740604658737422431479923762399573, nat_lit 58966460305288576817807180602580157738653024861863792696158145888737090198174, nat_lit 94012103982174186551760472779020362672895563504461930921546425342276520861965, nat_lit 13580351790758291064771715868768893685712857434801371031473534107215215606808, nat_lit 16660305783512123262114082711143866332387566582740626264485239370002583618445, nat_lit 8613127598488681785075135289521824592514147332734299129538097531469495429781]
theorem topN_0 : Nat.beq (nUp leavesN_0 4 0) (nat_lit 78092867142496428001266824181955629612837199949159080598657419499965859560047) = true := by decide +kernel
theorem leavesOK_0 : Leaves (nat_lit 106876478850809536464747026933318406390373944502155267215790192229376880403588) leavesN_0 := leaves_of _ _ _ _ _ _ _ _ _ _ _ _ _ _ _ _ _ (Nat.eq_of_beq_eq_true leafN_0_0) (Nat.eq_of_beq_eq_true leafN_0_1) (Nat.eq_of_beq_eq_true leafN_0_2) (Nat.eq_of_beq_eq_true leafN_0_3) (Nat.eq_of_beq_eq_true leafN_0_4) (Nat.eq_of_beq_eq_true leafN_0_5) (Nat.eq_of_beq_eq_true leafN_0_6) (Nat.eq_of_beq_eq_true leafN_0_7) (Nat.eq_of_beq_eq_true leafN_0_8) (Nat.eq_of_beq_eq_true leafN_0_9) (Nat.eq_of_beq_eq_true leafN_0_10) (Nat.eq_of_beq_eq_true leafN_0_11) (Nat.eq_of_beq_eq_true leafN_0_12) (Nat.eq_of_beq_eq_true leafN_0_13) (Nat.eq_of_beq_eq_true leafN_0_14) (Nat.eq_of_beq_eq_true leafN_0_15)
theorem keyN_0 : vl (ownP (tagged 99 [UInt8.ofNat 0])) = (nat_lit 78092867142496428001266824181955629612837199949159080598657419499965859560047) := key_val 0 _ _ leavesN_0 (Nat.eq_of_beq_eq_true seedN_0) leavesOK_0 (Nat.eq_of_beq_eq_true topN_0)
end Go.Proofs.Ythggfbpdhkpkjaa
namespace Go.Proofs.Ythggfbpdhkpkjaa
set_option maxRecDepth 100000
theorem seedN_1 : Nat.beq (nsha (1 + 1) (99 * 256 ^ 1 + (UInt8.ofNat 1).toNat)) (nat_lit 8486141217330716200531644544392080151020620485191304574728012423613711681055) = true := by decide +kernel
theorem leafN_1_0 : Nat.beq (nPub (nat_lit 8486141217330716200531644544392080151020620485191304574728012423613711681055) 0) (nat_lit 23246685188955185589307480348377594886090166634058234928434111542072922778667) = true := by decide +kernel
theorem leafN_1_1 : Nat.beq (nPub (nat_lit 8486141217330716200531644544392080151020620485191304574728012423613711681055) 1) (nat_lit 26110031365165239853795777709570720095227297883405472393289116525397233664203) = true := by decide +kernel
theorem leafN_1_2 : Nat.beq (nPub (nat_lit 8486141217330716200531644544392080151020620485191304574728012423613711681055) 2) (nat_lit 97413355708950267826228186528439070867152022853808943299339586554310629895092) = true := by decide +kernel
theorem leafN_1_3 : Nat.beq (nPub (nat_lit 8486141217330716200531644544392080151020620485191304574728012423613711681055) 3) (nat_lit 41699081761558073697169452402839757112898671606701730731814588347264138100533) = true := by decide +kernel
theorem leafN_1_4 : Nat.beq (nPub (nat_lit 8486141217330716200531644544392080151020620485191304574728012423613711681055) 4) (nat_lit 43336173232249914112540914152290198603641588217308490969814759603459685023383) = true := by decide +kernel
theorem leafN_1_5 : Nat.beq (nPub (nat_lit 8486141217330716200531644544392080151020620485191304574728012423613711681055) 5) (nat_lit 13640213918006265477828859226752258516353797122341248497018288642126766850965) = true := by decide +kernel
theorem leafN_1_6 : Nat.beq (nPub (nat_lit 8486141217330716200531644544392080151020620485191304574728012423613711681055) 6) (nat_lit 30971620767411389366123126927204236394905184624401565093201541421801441331926) = true := by decide +kernel
theorem leafN_1_7 : Nat.beq (nPub (nat_lit 8486141217330716200531644544392080151020620485191304574728012423613711681055) 7) (nat_lit 58096736613226601583902345012107031756216788629762383264755563697761048493032) = true := by decide +kernel
theorem leafN_1_8 : Nat.beq (nPub (nat_lit 8486141217330716200531644544392080151020620485191304574728012423613711681055) 8) (nat_lit 16306131943567604705085772586526336788121187215834520391418931462323526235025) = true := by decide +kernel
theorem leafN_1_9 : Nat.beq (nPub (nat_lit 8486141217330716200531644544392080151020620485191304574728012423613711681055) 9) (nat_lit 47798847182058872472580817743820078926937839238063276230215616187251219803547) = true := by decide +kernel
theorem leafN_1_10 : Nat.beq (nPub (nat_lit 8486141217330716200531644544392080151020620485191304574728012423613711681055) 10) (nat_lit 100017610698250481071997306024845093624154278726038745426495826416780344942685) = true := by decide +kernel
theorem leafN_1_11 : Nat.beq (nPub (nat_lit 8486141217330716200531644544392080151020620485191304574728012423613711681055) 11) (nat_lit 90173684382897185774826530493179800523120652912533109560081219404715568246211) = true := by decide +kernel
theorem leafN_1_12 : Nat.beq (nPub (nat_lit 8486141217330716200531644544392080151020620485191304574728012423613711681055) 12) (nat_lit 52822826255077460575432262150676993692336281553383188727633102455548712801881) = true := by decide +kernel
theorem leafN_1_13 : Nat.beq (nPub (nat_lit 8486141217330716200531644544392080151020620485191304574728012423613711681055) 13) (nat_lit 101868475182918192746843336063137804978671639701407817408151504849752093871101) = true := by decide +kernel
theorem leafN_1_14 : Nat.beq (nPub (nat_lit 8486141217330716200531644544392080151020620485191304574728012423613711681055) 14) (nat_lit 42812959306784825303869152655693166082440567825608681362587240006994723471925) = true := by decide +kernel
theorem leafN_1_15 : Nat.beq (nPub (nat_lit 8486141217330716200531644544392080151020620485191304574728012423613711681055) 15) (nat_lit 105815130516888934303220981294422087302297496201409123195355706293198245317260) = true := by decide +kernel
def leavesN_1 : List Nat := [nat_lit 23246685188955185589307480348377594886090166634058234928434111542072922778667, nat_lit 26110031365165239853795777709570720095227297883405472393289116525397233664203, nat_lit 97413355708950267826228186528439070867152022853808943299339586554310629895092, nat_lit 41699081761558073697169452402839757112898671606701730731814588347264138100533, nat_lit 43336173232249914112540914152290198603641588217308490969814759603459685023383, nat_lit 13640213918006265477828859226752258516353797122341248497018288642126766850965, nat_lit 30971620767411389366123126927204236394905184624401565093201541421801441331926, nat_lit 58096736613226601583902345012107031756216788629762383264755563697761048493032, nat_lit 16306131943567604705085772586526336788121187215834520391418931462323526235025, nat_lit 47798847182058872472580817743820078926937839238063276230215616187251219803547, nat_lit 100017610698250481071997306024845093624154278726038745426495826416780344942685, nat_lit 90173684382897185774826530493179800523120652912533109560081219404715568246211, nat_lit 52822826255077460575432262150676993692336281553383188727633102455548712801881, nat_lit 101868475182918192746843336063137804978671639701407817408151504849752093871101, nat_lit 42812959306784825303869152655693166082440567825608681362587240006994723471925, nat_lit 105815130516888934303220981294422087302297496201409123195355706293198245317260]
theorem topN_1 : Nat.beq (nUp leavesN_1 4 0) (nat_lit 48723742383195938596355431170724036505431303552406248968749022084982111482237) = true := by decide +kernel
theorem leavesOK_1 : Leaves (nat_lit 8486141217330716200531644544392080151020620485191304574728012423613711681055) leavesN_1 := leaves_of _ _ _ _ _ _ _ _ _ _ _ _ _ _ _ _ _ (Nat.eq_of_beq_eq_true leafN_1_0) (Nat.eq_of_beq_eq_true leafN_1_1) (Nat.eq_of_beq_eq_true leafN_1_2) (Nat.eq_of_beq_eq_true leafN_1_3) (Nat.eq_of_beq_eq_true leafN_1_4) (Nat.eq_of_beq_eq_true leafN_1_5) (Nat.eq_of_beq_eq_true leafN_1_6) (Nat.eq_of_beq_eq_true leafN_1_7) (Nat.eq_of_beq_eq_true leafN_1_8) (Nat.eq_of_beq_eq_true leafN_1_9) (Nat.eq_of_beq_eq_true leafN_1_10) (Nat.eq_of_beq_eq_true leafN_1_11) (Nat.eq_of_beq_eq_true leafN_1_12) (Nat.eq_of_beq_eq_true leafN_1_13) (Nat.eq_of_beq_eq_true leafN_1_14) (Nat.eq_of_beq_eq_true leafN_1_15)
theorem keyN_1 : vl (ownP (tagged 99 [UInt8.ofNat 1])) = (nat_lit 48723742383195938596355431170724036505431303552406248968749022084982111482237) := key_val 1 _ _ leavesN_1 (Nat.eq_of_beq_eq_true seedN_1) leavesOK_1 (Nat.eq_of_beq_eq_true topN_1)
end Go.Proofs.Ythggfbpdhkpkjaa
