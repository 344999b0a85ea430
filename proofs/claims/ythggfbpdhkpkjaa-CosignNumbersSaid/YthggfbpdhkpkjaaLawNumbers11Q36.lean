/-
  The key of the drawn seed 2, reckoned by the kernel. The key of the drawn seed 3, reckoned by the kernel. The keys of the drawn seeds differ. The plain law of law11's known: the two keys differ, the cosignature verifies, it counts once.
-/
import Derived.Test.YthggfbpdhkpkjaaLawNumbers11Q35
import Derived.Test.YthggfbpdhkpkjaaLawNumbers11Q31
namespace Go.Proofs.Ythggfbpdhkpkjaa
set_option maxRecDepth 100000
theorem seedN_2 : Nat.beq (nsha (1 + 1) (99 * 256 ^ 1 + (UInt8.ofNat 2).toNat)) (nat_lit 14665794542255993274244634596817920408863437477294662794683460959996714397704) = true := by decide +kernel
theorem leafN_2_0 : Nat.beq (nPub (nat_lit 14665794542255993274244634596817920408863437477294662794683460959996714397704) 0) (nat_lit 57598429832813830989905902924111973785281387952688345594372999842830526263491) = true := by decide +kernel
theorem leafN_2_1 : Nat.beq (nPub (nat_lit 14665794542255993274244634596817920408863437477294662794683460959996714397704) 1) (nat_lit 76220360943978523281051771046002249687142244493907944551654175385329911715659) = true := by decide +kernel
theorem leafN_2_2 : Nat.beq (nPub (nat_lit 14665794542255993274244634596817920408863437477294662794683460959996714397704) 2) (nat_lit 40259783273658782310504648331098387294055734659432121769907235833687930843345) = true := by decide +kernel
theorem leafN_2_3 : Nat.beq (nPub (nat_lit 14665794542255993274244634596817920408863437477294662794683460959996714397704) 3) (nat_lit 4667022676988589555501554641645526000483370618252531436455954587266140915736) = true := by decide +kernel
theorem leafN_2_4 : Nat.beq (nPub (nat_lit 14665794542255993274244634596817920408863437477294662794683460959996714397704) 4) (nat_lit 28981409441835107074729656616985147584254409582802215337378040295046003474915) = true := by decide +kernel
theorem leafN_2_5 : Nat.beq (nPub (nat_lit 14665794542255993274244634596817920408863437477294662794683460959996714397704) 5) (nat_lit 16379496763196136202786561569646772202160520978146929338224133950671548488332) = true := by decide +kernel
theorem leafN_2_6 : Nat.beq (nPub (nat_lit 14665794542255993274244634596817920408863437477294662794683460959996714397704) 6) (nat_lit 43843749834920004203789099646648514398368621010840971674091677793229999285594) = true := by decide +kernel
theorem leafN_2_7 : Nat.beq (nPub (nat_lit 14665794542255993274244634596817920408863437477294662794683460959996714397704) 7) (nat_lit 17614805003470674940669816761648755861514369570364821360616638670169940332342) = true := by decide +kernel
theorem leafN_2_8 : Nat.beq (nPub (nat_lit 14665794542255993274244634596817920408863437477294662794683460959996714397704) 8) (nat_lit 113063602292559866369361174351667411292291546414006818049387981130291839901666) = true := by decide +kernel
theorem leafN_2_9 : Nat.beq (nPub (nat_lit 14665794542255993274244634596817920408863437477294662794683460959996714397704) 9) (nat_lit 99087937825379672592527024893061151350225039845687491933609253117723890482349) = true := by decide +kernel
theorem leafN_2_10 : Nat.beq (nPub (nat_lit 14665794542255993274244634596817920408863437477294662794683460959996714397704) 10) (nat_lit 17624525547802504454826028112120297885453178613435431622834855236716359044190) = true := by decide +kernel
theorem leafN_2_11 : Nat.beq (nPub (nat_lit 14665794542255993274244634596817920408863437477294662794683460959996714397704) 11) (nat_lit 110784871414345520401671609362864939776567880640463962461490663159977942205985) = true := by decide +kernel
theorem leafN_2_12 : Nat.beq (nPub (nat_lit 14665794542255993274244634596817920408863437477294662794683460959996714397704) 12) (nat_lit 25743874434280518593559884139238158607561838222530957711622793754646534925357) = true := by decide +kernel
theorem leafN_2_13 : Nat.beq (nPub (nat_lit 14665794542255993274244634596817920408863437477294662794683460959996714397704) 13) (nat_lit 41240084393096000031926948206794268333249069404873976291219239191049955119171) = true := by decide +kernel
theorem leafN_2_14 : Nat.beq (nPub (nat_lit 14665794542255993274244634596817920408863437477294662794683460959996714397704) 14) (nat_lit 23165431486665467024634434471929484578278879121651722480582720468584981922281) = true := by decide +kernel
theorem leafN_2_15 : Nat.beq (nPub (nat_lit 14665794542255993274244634596817920408863437477294662794683460959996714397704) 15) (nat_lit 17997021952683390280798942205894895093482821514071185027289313648179203662376) = true := by decide +kernel
def leavesN_2 : List Nat := [nat_lit 57598429832813830989905902924111973785281387952688345594372999842830526263491, nat_lit 76220360943978523281051771046002249687142244493907944551654175385329911715659, nat_lit 40259783273658782310504648331098387294055734659432121769907235833687930843345, nat_lit 4667022676988589555501554641645526000483370618252531436455954587266140915736, nat_lit 28981409441835107074729656616985147584254409582802215337378040295046003474915, nat_lit 16379496763196136202786561569646772202160520978146929338224133950671548488332, nat_lit 43843749834920004203789099646648514398368621010840971674091677793229999285594, nat_lit 17614805003470674940669816761648755861514369570364821360616638670169940332342, nat_lit 113063602292559866369361174351667411292291546414006818049387981130291839901666, nat_lit 99087937825379672592527024893061151350225039845687491933609253117723890482349, nat_lit 17624525547802504454826028112120297885453178613435431622834855236716359044190, nat_lit 110784871414345520401671609362864939776567880640463962461490663159977942205985, nat_lit 25743874434280518593559884139238158607561838222530957711622793754646534925357, nat_lit 41240084393096000031926948206794268333249069404873976291219239191049955119171, nat_lit 23165431486665467024634434471929484578278879121651722480582720468584981922281, nat_lit 17997021952683390280798942205894895093482821514071185027289313648179203662376]
theorem topN_2 : Nat.beq (nUp leavesN_2 4 0) (nat_lit 100781103853508041152447149080526952435854125040061622240655555141205104689300) = true := by decide +kernel
theorem leavesOK_2 : Leaves (nat_lit 14665794542255993274244634596817920408863437477294662794683460959996714397704) leavesN_2 := leaves_of _ _ _ _ _ _ _ _ _ _ _ _ _ _ _ _ _ (Nat.eq_of_beq_eq_true leafN_2_0) (Nat.eq_of_beq_eq_true leafN_2_1) (Nat.eq_of_beq_eq_true leafN_2_2) (Nat.eq_of_beq_eq_true leafN_2_3) (Nat.eq_of_beq_eq_true leafN_2_4) (Nat.eq_of_beq_eq_true leafN_2_5) (Nat.eq_of_beq_eq_true leafN_2_6) (Nat.eq_of_beq_eq_true leafN_2_7) (Nat.eq_of_beq_eq_true leafN_2_8) (Nat.eq_of_beq_eq_true leafN_2_9) (Nat.eq_of_beq_eq_true leafN_2_10) (Nat.eq_of_beq_eq_true leafN_2_11) (Nat.eq_of_beq_eq_true leafN_2_12) (Nat.eq_of_beq_eq_true leafN_2_13) (Nat.eq_of_beq_eq_true leafN_2_14) (Nat.eq_of_beq_eq_true leafN_2_15)
theorem keyN_2 : vl (ownP (tagged 99 [UInt8.ofNat 2])) = (nat_lit 100781103853508041152447149080526952435854125040061622240655555141205104689300) := key_val 2 _ _ leavesN_2 (Nat.eq_of_beq_eq_true seedN_2) leavesOK_2 (Nat.eq_of_beq_eq_true topN_2)
end Go.Proofs.Ythggfbpdhkpkjaa
namespace Go.Proofs.Ythggfbpdhkpkjaa
set_option maxRecDepth 100000
theorem seedN_3 : Nat.beq (nsha (1 + 1) (99 * 256 ^ 1 + (UInt8.ofNat 3).toNat)) (nat_lit 99635693872900145543680866621542376662733435748152943543771334304243303475929) = true := by decide +kernel
theorem leafN_3_0 : Nat.beq (nPub (nat_lit 99635693872900145543680866621542376662733435748152943543771334304243303475929) 0) (nat_lit 1551114227323312195824717521562936082920762641417957670758861872696973085538) = true := by decide +kernel
theorem leafN_3_1 : Nat.beq (nPub (nat_lit 99635693872900145543680866621542376662733435748152943543771334304243303475929) 1) (nat_lit 75213495791676181026573349577008995038075517920378527379804450210022363171330) = true := by decide +kernel
theorem leafN_3_2 : Nat.beq (nPub (nat_lit 99635693872900145543680866621542376662733435748152943543771334304243303475929) 2) (nat_lit 30659980478076591306732652079823029046941416540951259031921015220699240813300) = true := by decide +kernel
theorem leafN_3_3 : Nat.beq (nPub (nat_lit 99635693872900145543680866621542376662733435748152943543771334304243303475929) 3) (nat_lit 23311156782947832235501284778360567279436113702243140013155284140168564403804) = true := by decide +kernel
theorem leafN_3_4 : Nat.beq (nPub (nat_lit 99635693872900145543680866621542376662733435748152943543771334304243303475929) 4) (nat_lit 85363715684970906167801763762703007276317960788412461441736275000705002328610) = true := by decide +kernel
theorem leafN_3_5 : Nat.beq (nPub (nat_lit 99635693872900145543680866621542376662733435748152943543771334304243303475929) 5) (nat_lit 103225527353764928267543908667371488846242006458009905249498637916222073410421) = true := by decide +kernel
theorem leafN_3_6 : Nat.beq (nPub (nat_lit 99635693872900145543680866621542376662733435748152943543771334304243303475929) 6) (nat_lit 3322337727919865556145602010330977260558243672743636969585005273772641967871) = true := by decide +kernel
theorem leafN_3_7 : Nat.beq (nPub (nat_lit 99635693872900145543680866621542376662733435748152943543771334304243303475929) 7) (nat_lit 16081376238006011031091255912633305394337617179968871857604980678743448113727) = true := by decide +kernel
theorem leafN_3_8 : Nat.beq (nPub (nat_lit 99635693872900145543680866621542376662733435748152943543771334304243303475929) 8) (nat_lit 18979877916938300651988933170052815931413312341801490803075261522667851454058) = true := by decide +kernel
theorem leafN_3_9 : Nat.beq (nPub (nat_lit 99635693872900145543680866621542376662733435748152943543771334304243303475929) 9) (nat_lit 9424388574888425107613437261926905563460193711163357777060550859344088441731) = true := by decide +kernel
theorem leafN_3_10 : Nat.beq (nPub (nat_lit 99635693872900145543680866621542376662733435748152943543771334304243303475929) 10) (nat_lit 86519952128063823268860201812875712547695731747739306543497200538412063593054) = true := by decide +kernel
theorem leafN_3_11 : Nat.beq (nPub (nat_lit 99635693872900145543680866621542376662733435748152943543771334304243303475929) 11) (nat_lit 84820927823738389206068578161717545833454934104932234548569683329511474204436) = true := by decide +kernel
theorem leafN_3_12 : Nat.beq (nPub (nat_lit 99635693872900145543680866621542376662733435748152943543771334304243303475929) 12) (nat_lit 26379942420421280488222903031956507322142844851590377075378319301931198453649) = true := by decide +kernel
theorem leafN_3_13 : Nat.beq (nPub (nat_lit 99635693872900145543680866621542376662733435748152943543771334304243303475929) 13) (nat_lit 41805887335899554461294227913018216528517553717983747578969212848311022326200) = true := by decide +kernel
theorem leafN_3_14 : Nat.beq (nPub (nat_lit 99635693872900145543680866621542376662733435748152943543771334304243303475929) 14) (nat_lit 83264046737450878597107209336947846683058009124568805814284857657686678930953) = true := by decide +kernel
theorem leafN_3_15 : Nat.beq (nPub (nat_lit 99635693872900145543680866621542376662733435748152943543771334304243303475929) 15) (nat_lit 50297029543163825640037716822712792125417859205670980222981420906435146585352) = true := by decide +kernel
def leavesN_3 : List Nat := [nat_lit 1551114227323312195824717521562936082920762641417957670758861872696973085538, nat_lit 75213495791676181026573349577008995038075517920378527379804450210022363171330, nat_lit 30659980478076591306732652079823029046941416540951259031921015220699240813300, nat_lit 23311156782947832235501284778360567279436113702243140013155284140168564403804, nat_lit 85363715684970906167801763762703007276317960788412461441736275000705002328610, nat_lit 103225527353764928267543908667371488846242006458009905249498637916222073410421, nat_lit 3322337727919865556145602010330977260558243672743636969585005273772641967871, nat_lit 16081376238006011031091255912633305394337617179968871857604980678743448113727, nat_lit 18979877916938300651988933170052815931413312341801490803075261522667851454058, nat_lit 9424388574888425107613437261926905563460193711163357777060550859344088441731, nat_lit 86519952128063823268860201812875712547695731747739306543497200538412063593054, nat_lit 84820927823738389206068578161717545833454934104932234548569683329511474204436, nat_lit 26379942420421280488222903031956507322142844851590377075378319301931198453649, nat_lit 41805887335899554461294227913018216528517553717983747578969212848311022326200, nat_lit 83264046737450878597107209336947846683058009124568805814284857657686678930953, nat_lit 50297029543163825640037716822712792125417859205670980222981420906435146585352]
theorem topN_3 : Nat.beq (nUp leavesN_3 4 0) (nat_lit 93275825963024569002727419101659290428578900463670182386987771087501680122316) = true := by decide +kernel
theorem leavesOK_3 : Leaves (nat_lit 99635693872900145543680866621542376662733435748152943543771334304243303475929) leavesN_3 := leaves_of _ _ _ _ _ _ _ _ _ _ _ _ _ _ _ _ _ (Nat.eq_of_beq_eq_true leafN_3_0) (Nat.eq_of_beq_eq_true leafN_3_1) (Nat.eq_of_beq_eq_true leafN_3_2) (Nat.eq_of_beq_eq_true leafN_3_3) (Nat.eq_of_beq_eq_true leafN_3_4) (Nat.eq_of_beq_eq_true leafN_3_5) (Nat.eq_of_beq_eq_true leafN_3_6) (Nat.eq_of_beq_eq_true leafN_3_7) (Nat.eq_of_beq_eq_true leafN_3_8) (Nat.eq_of_beq_eq_true leafN_3_9) (Nat.eq_of_beq_eq_true leafN_3_10) (Nat.eq_of_beq_eq_true leafN_3_11) (Nat.eq_of_beq_eq_true leafN_3_12) (Nat.eq_of_beq_eq_true leafN_3_13) (Nat.eq_of_beq_eq_true leafN_3_14) (Nat.eq_of_beq_eq_true leafN_3_15)
theorem keyN_3 : vl (ownP (tagged 99 [UInt8.ofNat 3])) = (nat_lit 93275825963024569002727419101659290428578900463670182386987771087501680122316) := key_val 3 _ _ leavesN_3 (Nat.eq_of_beq_eq_true seedN_3) leavesOK_3 (Nat.eq_of_beq_eq_true topN_3)
end Go.Proofs.Ythggfbpdhkpkjaa
namespace Go.Proofs.Ythggfbpdhkpkjaa
set_option maxRecDepth 100000
theorem own_ne_01 : ownP (tagged 99 [UInt8.ofNat 0]) ≠ ownP (tagged 99 [UInt8.ofNat 1]) := by
  intro h
  have := congrArg vl h
  rw [keyN_0, keyN_1] at this
  exact absurd this (by decide +kernel)
theorem own_ne_02 : ownP (tagged 99 [UInt8.ofNat 0]) ≠ ownP (tagged 99 [UInt8.ofNat 2]) := by
  intro h
  have := congrArg vl h
  rw [keyN_0, keyN_2] at this
  exact absurd this (by decide +kernel)
theorem own_ne_12 : ownP (tagged 99 [UInt8.ofNat 1]) ≠ ownP (tagged 99 [UInt8.ofNat 2]) := by
  intro h
  have := congrArg vl h
  rw [keyN_1, keyN_2] at this
  exact absurd this (by decide +kernel)
theorem own_ne_03 : ownP (tagged 99 [UInt8.ofNat 0]) ≠ ownP (tagged 99 [UInt8.ofNat 3]) := by
  intro h
  have := congrArg vl h
  rw [keyN_0, keyN_3] at this
  exact absurd this (by decide +kernel)
theorem own_ne_13 : ownP (tagged 99 [UInt8.ofNat 1]) ≠ ownP (tagged 99 [UInt8.ofNat 3]) := by
  intro h
  have := congrArg vl h
  rw [keyN_1, keyN_3] at this
  exact absurd this (by decide +kernel)
theorem own_ne_23 : ownP (tagged 99 [UInt8.ofNat 2]) ≠ ownP (tagged 99 [UInt8.ofNat 3]) := by
  intro h
  have := congrArg vl h
  rw [keyN_2, keyN_3] at this
  exact absurd this (by decide +kernel)
end Go.Proofs.Ythggfbpdhkpkjaa
namespace Go.Proofs.Ythggfbpdhkpkjaa
set_option maxRecDepth 100000
open Go Go.RowKit
theorem seedL_small (k : Nat) (hk : k < 5) : seedL ((k : Nat) : Int) = tagged 99 [UInt8.ofNat k] := by
  have h : k = 0 ∨ k = 1 ∨ k = 2 ∨ k = 3 ∨ k = 4 := by omega
  rcases h with rfl | rfl | rfl | rfl | rfl <;> rfl
def seeds (n : Nat) : List (List UInt8) := (List.range n).map fun i => seedL ((i : Nat) : Int)
def keys (n : Nat) : List (List UInt8) := (List.range n).map fun j => ownP (lb (seeds n) j)
theorem lb_keys {n i : Nat} (h : i < n) : lb (keys n) i = ownP (seedL ((i : Nat) : Int)) := by
  unfold keys
  rw [lb_range _ h]
  unfold seeds
  rw [lb_range _ h]
theorem keys_ne {j k : Nat} (hk : k < 4) (hj : j < k) : ownP (seedL ((j : Nat) : Int)) ≠ ownP (seedL ((k : Nat) : Int)) := by
  rw [seedL_small j (by omega), seedL_small k (by omega)]
  have h : (j = 0 ∧ k = 1) ∨ (j = 0 ∧ k = 2) ∨ (j = 1 ∧ k = 2) ∨ (j = 0 ∧ k = 3) ∨ (j = 1 ∧ k = 3) ∨ (j = 2 ∧ k = 3) := by omega
  rcases h with ⟨rfl, rfl⟩ | ⟨rfl, rfl⟩ | ⟨rfl, rfl⟩ | ⟨rfl, rfl⟩ | ⟨rfl, rfl⟩ | ⟨rfl, rfl⟩
  · exact own_ne_01
  · exact own_ne_02
  · exact own_ne_12
  · exact own_ne_03
  · exact own_ne_13
  · exact own_ne_23
theorem keys_ok {n : Nat} (hn : n ≤ 4) : okW (keys n) n := by
  intro i hi
  refine ⟨by rw [lb_keys hi]; exact ownP_length _, fun j hj => ?_⟩
  rw [lb_keys hi, lb_keys (by omega)]
  exact keys_ne (by omega) hj
theorem keys_length (n : Nat) : (keys n).length = n := by simp [keys]
/-- the policies of the first n owners that may be -/
theorem keys_pol {n : Nat} (h1 : 1 ≤ n) (hn : n ≤ 4) (q : Int) (x : Int) : polB (khash x) (keys n) q = decide (1 ≤ q ∧ q ≤ (n : Int)) := by
  by_cases h : 1 ≤ q ∧ q ≤ (n : Int)
  · rw [decide_eq_true h]
    exact polB_yes ⟨khash_length _, by rw [keys_length]; exact h1, by rw [keys_length]; exact hn, h.1, by rw [keys_length]; exact h.2⟩ (by rw [keys_length]; exact keys_ok hn)
  · rw [decide_eq_false h]
    refine polB_no fun h' => h ⟨h'.2.2.2.1, ?_⟩
    have := h'.2.2.2.2
    rwa [keys_length] at this
theorem cos_own {n j k : Nat} (hj : j < n) (hn : n ≤ 4) {q x y : Int} {R : List UInt8} (hq : 1 ≤ q ∧ q ≤ (n : Int)) (hc : rightC x R = true) (hk : k < 16) :
    cosB (khash y) (keys n) q x R (j : Int) (k : Int) (sigP (seedL ((j : Nat) : Int)) (bodyC cosignL x R) k) (pathL (seedL ((j : Nat) : Int)) k) = true := by
  unfold cosB
  rw [keys_pol (by omega) hn, decide_eq_true hq, hc, keys_length, decide_eq_true (by omega : (0 : Int) ≤ (j : Int) ∧ (j : Int) < (n : Int))]
  show verB (lb (keys n) j) _ _ _ _ = true
  rw [lb_keys hj]
  exact verB_own _ _ _ hk
theorem cnt_two {v : CSig → Bool} {g : CSig} (hv : v g = true) (hw : g.wn = 1) : cntL v [g, g] = 1 := by
  simp [cntL, seenL, b2i, hv, hw]
/-- a slice of two like cosignatures in a block of its own -/
theorem RCS.two {w : World} {b : Nat} {P Q : Option Addr} {np cp nq cq : Nat} {x k : Int} {PS QS : List (List UInt8)} {t : TypeId}
    (hB : Blk w b t #[.int .i64 x, .int .i64 k, .slice P np cp, .slice Q nq cq, .int .i64 x, .int .i64 k, .slice P np cp, .slice Q nq cq]) (rP : RBB w P np cp PS) (rQ : RBB w Q nq cq QS) :
    RCS w (some ⟨b, 0, none⟩) 2 2 [⟨x, k, PS, QS⟩, ⟨x, k, PS, QS⟩] := by
  refine ⟨rfl, Nat.le_refl _, small_maxLen (by decide), fun _ => ⟨_, rfl, fun j hj => ?_⟩⟩
  have h : j = 0 ∨ j = 1 := by omega
  rcases h with rfl | rfl
  · exact ⟨P, np, cp, Q, nq, cq, hB.cell (i := 0) rfl, hB.cell (i := 1) rfl, hB.cell (i := 2) rfl, hB.cell (i := 3) rfl, rP, rQ⟩
  · exact ⟨P, np, cp, Q, nq, cq, hB.cell (i := 4) rfl, hB.cell (i := 5) rfl, hB.cell (i := 6) rfl, hB.cell (i := 7) rfl, rP, rQ⟩
theorem RCS.one {w : World} {b : Nat} {P Q : Option Addr} {np cp nq cq : Nat} {x k : Int} {PS QS : List (List UInt8)} {t : TypeId}
    (hB : Blk w b t #[.int .i64 x, .int .i64 k, .slice P np cp, .slice Q nq cq]) (rP : RBB w P np cp PS) (rQ : RBB w Q nq cq QS) :
    RCS w (some ⟨b, 0, none⟩) 1 1 [⟨x, k, PS, QS⟩] := by
  refine ⟨rfl, Nat.le_refl _, small_maxLen (by decide), fun _ => ⟨_, rfl, fun j hj => ?_⟩⟩
  obtain rfl : j = 0 := by omega
  exact ⟨P, np, cp, Q, nq, cq, hB.cell (i := 0) rfl, hB.cell (i := 1) rfl, hB.cell (i := 2) rfl, hB.cell (i := 3) rfl, rP, rQ⟩
end Go.Proofs.Ythggfbpdhkpkjaa
