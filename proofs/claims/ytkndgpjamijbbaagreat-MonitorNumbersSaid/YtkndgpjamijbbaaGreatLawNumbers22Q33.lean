/-
  law22's known, walked. MonitorForks, walked. Appends to own rows of any kind inside a region that draws its order. Plain theorems. MonitorRefused, walked (under way).
-/
import Derived.Test.YtkndgpjamijbbaaGreatLawNumbers22Q32
import Derived.Test.YtkndgpjamijbbaaGreatLawNumbers22Q30
import Derived.Test.YtkndgpjamijbbaaGreatLawNumbers22Q22
import Derived.Test.YtkndgpjamijbbaaGreatLawNumbers22Q29
import Derived.Test.YtkndgpjamijbbaaGreatLawNumbers22Q19
import Derived.Test.YtkndgpjamijbbaaGreatLawNumbers22Q4
namespace Go.Proofs.YtkndgpjamijbbaaGreat
set_option maxRecDepth 100000
open Go Go.RowKit
theorem feed_sgd (w : World) (base g : Nat) (φ : Nat → Prop) (s : MSt) (hM : MonR w base φ g s) (b n k : Nat) (B P Q A : Option Addr) (d d1 d2 m c : Nat) (S R : List UInt8) (ITS : List (List UInt8)) (hS : Sgd w b S R n k B d P d1 Q d2) (hb : ∀ q, φ q → q < b) (kI : Keep φ (fun w => RBB w A m c ITS) w) (hits : ∀ a ∈ ITS, a.length ≤ 1000000) (hal : s.al.length ≤ 100000) :
    Calls Tryz.prog 18 #[.pointer (some ⟨g, 0, none⟩), .agg #[.int .i64 (n : Int), .slice B 32 d, .int .i64 (k : Int), .slice P 64 d1, .slice Q 4 d2], .slice A m c] w fun e w' => FeedP w base φ g (feedS s n R k (sigP S (bodyC checkL (n : Int) R) k) (pathL S k) ITS) (feedE s n R k (sigP S (bodyC checkL (n : Int) R) k) (pathL S k) ITS) e w' := by
  obtain ⟨h1, h2, h3⟩ := hS
  have hs := hM.nob
  exact feed_any w base g φ s hM n k B P Q A 32 d 64 d1 4 d2 m c R _ _ ITS (h1.keepS hs)
    (h2.rbb.keepS hs (fun _ q hq hp => by have := (h2.lt hq).1; have := hb q hp; omega))
    (h3.rbb.keepS hs (fun _ q hq hp => by have := (h3.lt hq).1; have := hb q hp; omega)) kI hits hal
/-- a feeding, with what is known of it, and what is kept -/
theorem FeedP.go {w w' a : World} {base g : Nat} {φ : Nat → Prop} {s s' : MSt} {r : Int} {e : Ending} (h : FeedP w base φ g s' r e w') (hM : MonR w base φ g s) (hE : Ext a w) (hb : a.heap.size ≤ base) :
    ∃ φ', e = .returned (.int .i64 r) ∧ MonR w' base φ' g s' ∧ Upd φ w w' ∧ (∀ k, k < w.heap.size → φ' k → φ k) ∧ Ext a w' := by
  obtain ⟨h1, _, φ', h2, h3, h4⟩ := h
  exact ⟨φ', h1, h2, h3, h4, Upd.ext hE h3 (fun k hk => Nat.le_trans hb (hM.lt hk).1)⟩
/-- a refusal turns nothing -/
theorem FeedP.no {w w' : World} {base g : Nat} {φ : Nat → Prop} {s' : MSt} {r : Int} {e : Ending} (h : FeedP w base φ g s' r e w') (h0 : r ≠ 0) (h1 : r ≠ 34) : e = .returned (.int .i64 r) ∧ Ext w w' := ⟨h.1, h.2.1 h0 h1⟩
theorem RebP.go {w w' a : World} {base g : Nat} {φ : Nat → Prop} {s s' : MSt} {b : Bool} {e : Ending} (h : RebP w base φ g s' b e w') (hM : MonR w base φ g s) (hE : Ext a w) (hb : a.heap.size ≤ base) :
    ∃ φ', e = .returned (.bool b) ∧ MonR w' base φ' g s' ∧ Upd φ w w' ∧ (∀ k, k < w.heap.size → φ' k → φ k) ∧ Ext a w' := by
  obtain ⟨h1, φ', h2, h3, h4⟩ := h
  exact ⟨φ', h1, h2, h3, h4, Upd.ext hE h3 (fun k hk => Nat.le_trans hb (hM.lt hk).1)⟩
theorem reb_neg (its : List (List UInt8)) (F : List UInt8) : rebB its (-1) F = false := by
  unfold rebB rebIn
  rw [decide_eq_false (by omega)]
  rfl
theorem it22_ne : rootL ((its22 1 0).map leafH) ≠ rootL ((its22 1 1).map leafH) := by
  have h0 : ((0 : Nat) : Int) = 0 := rfl
  have h1 : ((1 : Nat) : Int) = 1 := rfl
  have e0 : its22 1 0 = [encM (kman 0 0 0)] := by
    show [it22 0 0] = _
    unfold it22
    rw [if_neg (by decide), h0]
  have e1 : its22 1 1 = [encM (kman 0 0 1)] := by
    show [it22 1 0] = _
    unfold it22
    rw [if_neg (by decide), h0, h1]
  rw [e0, e1]
  show rootL [leafH _] ≠ rootL [leafH _]
  rw [rootL_one, rootL_one]
  exact item_ne
theorem its22_len (n which : Nat) : (its22 n which).length = n := by simp [its22]
theorem encM_len {m : Man} (h : rightM m = true) : (encM m).length ≤ 1000 := by
  obtain ⟨h1, h2, h3⟩ := right_small h
  unfold encM
  simp only [List.length_append, List.length_cons, List.length_nil, beBytes_length, be2_length]
  omega
theorem it22_small (which i : Nat) : (it22 which i).length ≤ 1000 := by
  unfold it22
  split
  · simp
  · exact encM_len (kman_right _ _ _)
theorem its22_small {n which : Nat} : ∀ a ∈ its22 n which, a.length ≤ 1000000 := by
  intro a ha
  obtain ⟨i, _, rfl⟩ := List.mem_map.1 ha
  exact Nat.le_trans (it22_small which i) (by decide)
/-- one item is fed to a new monitor; then another one's root of the same size is shown to it -/
noncomputable def kM1 (X R : List UInt8) (Ps Qs : List (List UInt8)) : MSt := ⟨X, its22 1 0, [], 1, R, 1, Ps, Qs, true⟩
theorem known_feed1 (S : List UInt8) : feedE (newM (ownP S)) ((1 : Nat) : Int) (rootL ((its22 1 0).map leafH)) ((1 : Nat) : Int) (sigP S (bodyC checkL ((1 : Nat) : Int) (rootL ((its22 1 0).map leafH))) 1) (pathL S 1) (its22 1 0) = 0 ∧
    feedS (newM (ownP S)) ((1 : Nat) : Int) (rootL ((its22 1 0).map leafH)) ((1 : Nat) : Int) (sigP S (bodyC checkL ((1 : Nat) : Int) (rootL ((its22 1 0).map leafH))) 1) (pathL S 1) (its22 1 0) = kM1 (ownP S) (rootL ((its22 1 0).map leafH)) (sigP S (bodyC checkL ((1 : Nat) : Int) (rootL ((its22 1 0).map leafH))) 1) (pathL S 1) :=
  feed_ok (s := newM (ownP S)) (X := 1) (cverB_own S _ _ 1 (by decide) (rightC_nat (by decide) (rootL_len (leaf_len _)))) (by show ¬ 1 ≤ 0; decide) (by rw [its22_len]; rfl) rfl
theorem known_feed2 (S Rr : List UInt8) (Pp Qq : List (List UInt8)) : feedE (kM1 (ownP S) Rr Pp Qq) ((1 : Nat) : Int) (rootL ((its22 1 1).map leafH)) ((1 : Nat) : Int) (sigP S (bodyC checkL ((1 : Nat) : Int) (rootL ((its22 1 1).map leafH))) 1) (pathL S 1) [] = 34 ∧
    feedS (kM1 (ownP S) Rr Pp Qq) ((1 : Nat) : Int) (rootL ((its22 1 1).map leafH)) ((1 : Nat) : Int) (sigP S (bodyC checkL ((1 : Nat) : Int) (rootL ((its22 1 1).map leafH))) 1) (pathL S 1) [] = { kM1 (ownP S) Rr Pp Qq with al := [(1, ((1 : Nat) : Int))] } :=
  feed_34 (s := kM1 (ownP S) Rr Pp Qq) (X := 1) (cverB_own S _ _ 1 (by decide) (rightC_nat (by decide) (rootL_len (leaf_len _)))) (by show 1 ≤ (its22 1 0).length; rw [its22_len]; decide) rfl (by
    show rootL (((its22 1 0).map leafH).take 1) ≠ _
    rw [List.take_of_length_le (by rw [List.length_map, its22_len]; exact Nat.le_refl _)]
    exact it22_ne)
set_option maxHeartbeats 8000000 in
theorem known22_any (w : World) : Calls Tryz.prog 7 #[] w fun e w' => e = .returned (.bool true) ∧ Ext w w' := by
  go_enter Tryz.func7, Tryz.ntmps7
  go_wp2_with fail
  refine (seed_any 0 w (by omega) (by omega)).mono ?_
  rintro e w1 ⟨A1, c1', rfl, own1, hEa⟩
  obtain ⟨S, hS⟩ : ∃ S, S = seedL 0 := ⟨_, rfl⟩
  rw [← hS] at own1
  clear hS
  have rS := own1.rb
  clear own1
  go_wp2_with fail
  refine (rnew_any A1 c1' S w1 rS).mono ?_
  rintro e w2 ⟨g1, rfl, o1, hE⟩
  replace hEa := hEa.trans hE
  clear hE rS
  go_wp2_with fail
  refine (rpublic_any g1 _ S w2 o1).mono ?_
  rintro e w3 ⟨A2, c2, rfl, rX, hE⟩
  replace o1 := o1.ext hE
  replace hEa := hEa.trans hE
  clear hE
  go_wp2_with fail
  refine (mnew_yes A2 c2 _ w3 rX).mono ?_
  rintro e w4 ⟨g, φ, rfl, hM, hE⟩
  have hφ : ∀ k, φ k → w3.heap.size ≤ k := fun k hk => (hM.lt hk).1
  have hw3 : w.heap.size ≤ w3.heap.size := hEa.size
  have kO : Keep φ (fun w => OwnR w w1.heap.size g1 S) w4 := Keep.old (fun w' e => o1.ext e) hE hφ
  replace hEa := hEa.trans hE
  clear hE o1 rX hφ
  have hi := fun w => items22_any 1 0 w (by omega) (by omega)
  have hj := fun w => items22_any 1 1 w (by omega) (by omega)
  rw [show ((1 : Nat) : Int) = 1 from rfl, show ((0 : Nat) : Int) = 0 from rfl] at hi
  rw [show ((1 : Nat) : Int) = 1 from rfl] at hj
  have Hi := Lib.hid hi
  have Hj := Lib.hid hj
  clear hi hj
  go_wp2_with fail
  refine (Hi.out w4).mono ?_
  rintro e w5 ⟨A3, c3, rfl, oA, hE⟩
  have kA : Keep φ (fun w => RBB w A3 1 c3 (its22 1 0)) w5 := oA.rbb.keepS (hM.nob.ext hE) (fun _ k hk hp => by have := (oA.lt hk).1; have := (hM.lt hp).2; omega)
  replace hM := hM.ext hE
  replace kO := kO.ext hE
  replace hEa := hEa.trans hE
  clear hE oA Hi
  go_wp2_with fail
  refine (Hj.out w5).mono ?_
  rintro e w6 ⟨A4, c4, rfl, oA, hE⟩
  have kB : Keep φ (fun w => RBB w A4 1 c4 (its22 1 1)) w6 := oA.rbb.keepS (hM.nob.ext hE) (fun _ k hk hp => by have := (oA.lt hk).1; have := (hM.lt hp).2; omega)
  replace hM := hM.ext hE
  replace kO := kO.ext hE
  replace kA := kA.ext hE
  replace hEa := hEa.trans hE
  clear hE oA Hj
  have hs := signed22_any g1 _ S A3 1 c3 _ w6 kO.self kA.self (by omega) its22_small
  rw [show (1 % 16 : Nat) = 1 from rfl, show ((1 : Nat) : Int) = 1 from rfl] at hs
  have Hs := Lib.hid hs
  clear hs
  go_wp2_with fail
  refine Hs.out.mono ?_
  rintro e w7 ⟨B, d, P, d1, Q, d2, rfl, sg, hE⟩
  have hb : ∀ q, φ q → q < w6.heap.size := fun q hq => (hM.lt hq).2
  replace hM := hM.ext hE
  replace kO := kO.ext hE
  replace kA := kA.ext hE
  replace kB := kB.ext hE
  replace hEa := hEa.trans hE
  clear hE Hs
  have hf := feed_sgd w7 _ g φ _ hM w6.heap.size 1 1 B P Q A3 d d1 d2 1 c3 S _ _ sg hb kA its22_small (Nat.zero_le _)
  rw [(known_feed1 S).1, (known_feed1 S).2, show ((1 : Nat) : Int) = 1 from rfl] at hf
  have Hf := Lib.hid hf
  clear hf sg hb
  go_wp2_with fail
  refine Hf.out.mono ?_
  intro e w8 hp
  obtain ⟨φ8, rfl, hM8, u8, h8, hEb⟩ := hp.go hM hEa hw3
  have kO8 := kO.move u8 h8
  have kB8 := kB.move u8 h8
  clear Hf hp kO kA kB hM hEa u8 h8
  have hs := signed22_any g1 _ S A4 1 c4 _ w8 kO8.self kB8.self (by omega) its22_small
  rw [show (1 % 16 : Nat) = 1 from rfl, show ((1 : Nat) : Int) = 1 from rfl] at hs
  have Hs := Lib.hid hs
  clear hs kO8
  go_wp2_with fail
  refine Hs.out.mono ?_
  rintro e w9 ⟨B, d, P, d1, Q, d2, rfl, sg, hE⟩
  have hb : ∀ q, φ8 q → q < w8.heap.size := fun q hq => (hM8.lt hq).2
  replace hM8 := hM8.ext hE
  replace hEb := hEb.trans hE
  clear hE Hs kB8
  have hf := feed_sgd w9 _ g φ8 _ hM8 w8.heap.size 1 1 B P Q none d d1 d2 0 0 S _ [] sg hb (fun w' u => RBB.nil_ _) (fun a ha => by cases ha) (Nat.zero_le _)
  rw [(known_feed2 S _ _ _).1, (known_feed2 S _ _ _).2, show ((1 : Nat) : Int) = 1 from rfl] at hf
  have Hf := Lib.hid hf
  clear hf sg hb
  go_wp2_with fail
  refine Hf.out.mono ?_
  intro e w10 hp
  obtain ⟨φ9, rfl, hM9, u9, h9, hEc⟩ := hp.go hM8 hEb hw3
  clear Hf hp hM8 hEb u9 h9
  have hl := malarms_any w10 _ g φ9 _ hM9 (show 1 ≤ 100000 by decide)
  have Hl := Lib.hid hl
  clear hl
  go_wp2_with fail
  refine Hl.out.mono ?_
  rintro e w11 ⟨B1, d1, rfl, own, hE⟩
  replace hM9 := hM9.ext hE
  replace hEc := hEc.trans hE
  have hroom := own.room
  obtain ⟨q1, rfl, hc⟩ := own.at_ (show 0 < 1 by decide) (by decide)
  have y0 := hc 0 (.int .i64 1) rfl
  have y1 := hc 1 (.int .i64 1) rfl
  clear hE Hl hc own
  have hr := mreb_any w11 _ g φ9 _ hM9 (-1) none 0 0 [] (RB.nil_ _) its22_small (show 1 ≤ 100000 by decide)
  rw [reb_neg] at hr
  have Hr := Lib.hid hr
  clear hr
  go_wp2_with fail
  refine Hr.out.mono ?_
  intro e w12 hp
  obtain ⟨φ10, rfl, hM10, _, _, hEd⟩ := hp.go hM9 hEc hw3
  clear Hr hp hM9 hM10 hEc y0 y1
  go_wp2_with fail
  go_ret
  exact ⟨rfl, hEd⟩
end Go.Proofs.YtkndgpjamijbbaaGreat
namespace Go.Proofs.YtkndgpjamijbbaaGreat
set_option maxRecDepth 100000
open Go Go.RowKit
theorem within_nat (x hi : Int) (h0 : 0 ≤ hi) : ∃ n : Nat, within x 0 hi = (n : Int) ∧ (n : Int) ≤ hi := by
  have h := within_in x 0 hi h0
  exact ⟨(within x 0 hi).toNat, (Int.toNat_of_nonneg h.1).symm, by rw [Int.toNat_of_nonneg h.1]; exact h.2⟩
end Go.Proofs.YtkndgpjamijbbaaGreat
namespace Go.Proofs.YtkndgpjamijbbaaGreat
set_option maxRecDepth 100000
open Go Go.RowKit
/-- nothing was turned but, perhaps, what lies behind place n of an own row of a kind -/
def ApP (P : Value → Prop) (tE : TypeId) (sz b n : Nat) (w w' : World) : Prop := Ext w w' ∨ ∃ g cs cs', b ≤ g ∧ Blk w g tE cs ∧ (∀ u ∈ cs.toList, P u) ∧ Blk w' g tE cs' ∧ (∀ u ∈ cs'.toList, P u) ∧ cs'.size = cs.size ∧ cs'.toList.take (n * sz) = cs.toList.take (n * sz) ∧ w.grownBy w' (some g)
theorem ApP.ext_ {P : Value → Prop} {tE : TypeId} {sz b n : Nat} {a w w' : World} (h : ApP P tE sz b n w w') (e : Ext a w) (hb : a.heap.size ≤ b) : Ext a w' := by
  rcases h with h | ⟨g, cs, cs', h1, _, _, _, _, _, _, h2⟩
  · exact e.trans h
  · exact e.then_grown h2 (by intro k hk; cases hk; omega)
theorem OwP.apP {P : Value → Prop} {tE : TypeId} {sz b n' base n c : Nat} {w w' : World} {A : Option Addr} {xs : List Value} (h : OwP P tE sz w base A n c xs) (e : ApP P tE sz b n' w w') (hn : n ≤ n') : OwP P tE sz w' base A n c xs := by
  rcases e with e | ⟨g, cs, cs', k1, k2, k3, k4, k5, k6, k7, k8⟩
  · exact h.ext e
  · refine ⟨h.1, ?_⟩
    rcases h.2 with z | ⟨g0, cs0, rfl, b1, b2, b3, b4, b5, b6, b7⟩
    · exact .inl z
    · by_cases hg : g0 = g
      · subst hg
        unfold Blk at b2 k2
        rw [k2] at b2
        injection b2 with b2
        injection b2 with b2
        subst b2
        refine .inr ⟨g0, cs', rfl, b1, k4, b3, b4, k6.trans b5, k5, ?_⟩
        rw [← b7]
        have e1 := congrArg (List.take (n * sz)) k7
        have hm : n * sz ≤ n' * sz := Nat.mul_le_mul_right _ hn
        rw [List.take_take, List.take_take, Nat.min_eq_left hm] at e1
        exact e1
      · exact .inr ⟨g0, cs0, rfl, b1, b2.grown k8 (fun e => by injection e with e; exact hg e), b3, b4, b5, b6, b7⟩
theorem RB.apP {P : Value → Prop} {tE : TypeId} {sz b n' n c : Nat} {w w' : World} {A : Option Addr} {L : List UInt8} (h : RB w A n c L) (e : ApP P tE sz b n' w w') (hP : ∀ x, ¬ P (.int .u8 x)) : RB w' A n c L := by
  rcases e with e | ⟨g, cs, cs', k1, k2, k3, k4, k5, k6, k7, k8⟩
  · exact h.ext e
  · exact h.grown k8 (h.apart5 k2 (fun i x he => hP x (k3 _ (List.mem_of_getElem? (by rw [Array.getElem?_toList]; exact he)))))
/-- an append to an own row, and that nothing else was turned -/
theorem run_app_p2 {P : Value → Prop} {tS tE : TypeId} {sz by_ : Nat} {z : Value} (K : OwK P tS tE sz by_ z) (ty : TypeId) {w : World} {base n c : Nat} {A : Option Addr} {xs : List Value} (hown : OwP P tE sz w base A n c xs) {ad : Addr} {m d : Nat} {news : List Value} (hl : news.length = m * sz) (hnews : ∀ j u, news[j]? = some u → w.cell? (ad.add j) = some u) (h1 : ∀ u ∈ news, u.oneCell' = true) (hsh : ∀ u ∈ news, P u) (hnm : n + m ≤ 1000000) (hbase : base ≤ w.heap.size) (hm : 0 < m) :
    ∃ A' c' w', (Builtin.append_ #[tS, tS] ty #[.slice A n c, .slice (some ad) m d]).run Tryz.prog w = .ok (.slice A' (n + m) c') w' ∧ OwP P tE sz w' base A' (n + m) c' (xs ++ news) ∧ ApP P tE sz base n w w' ∧ (c < n + m → Ext w w') := by
  obtain ⟨i0, hi0, hz0, hz1, hz2⟩ := info_parts K.info
  have hzn : z.cells.size = sz := K.size
  have hl1 := hown.1
  have hlen : (xs ++ news).length = (n + m) * sz := by rw [List.length_append, hl1, hl, Nat.add_mul]
  have hby : (n + m) * by_ ≤ 64000000 := Nat.mul_le_mul hnm K.fit
  have grown : ∀ (old : Nat), old < n + m →
      OwP P tE sz (w.drew.alloc (.cells (xs.toArray ++ news.toArray ++ Builtin.zeroCells z.cells (grownCap w (n + m) old tE - (n + m))) tE)) base (some ⟨w.heap.size, 0, none⟩) (n + m) (grownCap w (n + m) old tE) (xs ++ news) ∧
      Ext w (w.drew.alloc (.cells (xs.toArray ++ news.toArray ++ Builtin.zeroCells z.cells (grownCap w (n + m) old tE - (n + m))) tE)) := by
    intro old ho
    have hge := grownCap_ge w (n + m) old tE
    have hcm : grownCap w (n + m) old tE ≤ maxLen := grownCap_le_maxLen w (n + m) old tE (small_maxLen hnm)
    generalize grownCap w (n + m) old tE = gc at *
    refine ⟨⟨hlen, .inr ⟨w.heap.size, _, rfl, hbase, heap_alloc_new w.drew _, hge, hcm, ?_, ?_, ?_⟩⟩, ((Ext.refl w).drew).alloc _⟩
    · simp only [Array.size_append, List.size_toArray, size_zeroCells, hzn, hl1, hl]
      rw [← Nat.add_mul, ← Nat.add_mul]
      congr 1
      omega
    · simp only [Array.toList_append]
      intro u hu
      rw [List.mem_append, List.mem_append] at hu
      rcases hu with (hu | hu) | hu
      · rcases hown.2 with ⟨_, h0, _⟩ | ⟨g, cs, _, _, _, _, _, _, k7, k8⟩
        · rw [List.eq_nil_of_length_eq_zero (show xs.length = 0 by rw [hl1, h0, Nat.zero_mul])] at hu
          cases hu
        · have hu2 : u ∈ xs := hu
          rw [← k8] at hu2
          exact k7 u (List.mem_of_mem_take hu2)
      · exact hsh u hu
      · exact zeros_P K.zero (by rw [hzn]; exact K.pos) _ u hu
    · simp only [Array.toList_append]
      rw [← hlen]
      exact List.take_left
  rcases hown.2 with ⟨rfl, rfl, rfl⟩ | ⟨g, cs, rfl, hbg, hg, hnc, hcm, hcs, hsc, htake⟩
  · have hx : xs = [] := List.eq_nil_of_length_eq_zero (by rw [hl1, Nat.zero_mul])
    subst hx
    have hr := run_append_nil (P := Tryz.prog) w tS ty tE i0 z K.under hi0 hz0 ad m d news (by rw [hl, hz1]) hnews hm (by omega) (by rw [hz2]; simp only [Nat.zero_add] at hby; omega)
    have hgr := grown 0 (by omega)
    simp only [Nat.zero_add, List.nil_append, Array.empty_append] at hgr ⊢
    exact ⟨_, _, _, hr, hgr.1, .inl hgr.2, fun _ => hgr.2⟩
  · by_cases hroom : n + m ≤ c
    · have hmul : n * sz + m * sz ≤ c * sz := by rw [← Nat.add_mul]; exact Nat.mul_le_mul_right _ hroom
      have hfit : n * i0.size + news.length ≤ cs.size := by rw [hl, hcs, hz1]; exact hmul
      have hr := run_append_room (P := Tryz.prog) w tS ty tE i0 K.under hi0 g n c cs hg ad m d news (by rw [hl, hz1]) hnews h1 hroom hfit
      rw [hz1] at hr hfit
      have hsz : (cs.toList.take (n * sz) ++ news ++ cs.toList.drop (n * sz + news.length)).toArray.size = cs.size := by
        simp only [List.size_toArray, List.length_append, List.length_take, List.length_drop, Array.length_toList]
        omega
      have hPs : ∀ u ∈ (cs.toList.take (n * sz) ++ news ++ cs.toList.drop (n * sz + news.length)).toArray.toList, P u := by
        intro u hu
        simp only [List.mem_append] at hu
        rcases hu with (hu | hu) | hu
        · exact hsc u (List.mem_of_mem_take hu)
        · exact hsh u hu
        · exact hsc u (List.mem_of_mem_drop hu)
      refine ⟨_, _, _, hr, ⟨hlen, .inr ⟨g, _, rfl, hbg, setRow_heap w g cs _ _ _ hg, hroom, hcm, hsz.trans hcs, hPs, ?_⟩⟩, .inr ⟨g, cs, _, hbg, hg, hsc, setRow_heap w g cs _ _ _ hg, hPs, hsz, ?_, ⟨rfl, rfl, rfl, by simp, fun k _ hk => setRow_other w g k _ (fun e => hk (by rw [e]))⟩⟩, fun h => absurd h (by omega)⟩
      · rw [htake, ← hlen]
        exact List.take_left
      · rw [List.append_assoc, List.take_append_of_le_length (by rw [List.length_take, Array.length_toList]; omega), List.take_take, Nat.min_self]
    · have holds : ∀ j u, xs[j]? = some u → w.cell? ((⟨g, 0, none⟩ : Addr).add j) = some u := by
        intro j u hu
        have hj : j < n * sz := by
          rcases Nat.lt_or_ge j (n * sz) with h1 | h1
          · exact h1
          · rw [List.getElem?_eq_none (by omega)] at hu; cases hu
        rw [← htake, List.getElem?_take_of_lt hj, Array.getElem?_toList] at hu
        rw [add_plain]
        exact hg.cell hu
      have hr := run_append_grow (P := Tryz.prog) w tS ty tE i0 z K.under hi0 hz0 ⟨g, 0, none⟩ n c xs (by rw [hl1, hz1]) holds ad m d news (by rw [hl, hz1]) hnews (by omega) (by omega) (growslice_fits (by omega) (by rw [hz2]; omega))
      have hgr := grown c (by omega)
      exact ⟨_, _, _, hr, hgr.1, .inl hgr.2, fun _ => hgr.2⟩
/-- an own row of byte slices -/
def OBP (w : World) (b : Nat) (A : Option Addr) (n c : Nat) (Ls : List (List UInt8)) : Prop := ∃ vs, OwP isSl1 26 1 w b A n c vs ∧ Ls.length = n ∧ ∀ j, j < n → ∃ B m d, vs[j]? = some (.slice B m d) ∧ RB w B m d (lb Ls j)
theorem isSl_nob : ∀ x, ¬ isSl1 (.int .u8 x) := by
  rintro x ⟨A, n, c, h⟩
  cases h
theorem OBP.ext {w w' : World} {b n c : Nat} {A : Option Addr} {Ls : List (List UInt8)} (h : OBP w b A n c Ls) (e : Ext w w') : OBP w' b A n c Ls := by
  obtain ⟨vs, h1, h2, h3⟩ := h
  refine ⟨vs, h1.ext e, h2, fun j hj => ?_⟩
  obtain ⟨B, m, d, h4, h5⟩ := h3 j hj
  exact ⟨B, m, d, h4, h5.ext e⟩
theorem OBP.base_ {w : World} {b b' n c : Nat} {A : Option Addr} {Ls : List (List UInt8)} (h : OBP w b A n c Ls) (hb : b' ≤ b) : OBP w b' A n c Ls := by
  obtain ⟨vs, ⟨h1, h2⟩, h3⟩ := h
  refine ⟨vs, ⟨h1, ?_⟩, h3⟩
  rcases h2 with h2 | ⟨g, cs, k1, k2, k3⟩
  · exact .inl h2
  · exact .inr ⟨g, cs, k1, Nat.le_trans hb k2, k3⟩
theorem OBP.lt {w : World} {b n c : Nat} {A : Option Addr} {Ls : List (List UInt8)} (h : OBP w b A n c Ls) {k : Nat} (hk : blk A = some k) : b ≤ k ∧ k < w.heap.size := by
  obtain ⟨vs, h1, _⟩ := h
  exact h1.lt hk
theorem OBP.rbb {w : World} {b n c : Nat} {A : Option Addr} {Ls : List (List UInt8)} (h : OBP w b A n c Ls) : RBB w A n c Ls := by
  obtain ⟨vs, h1, h2, h3⟩ := h
  refine ⟨h2, h1.room.1, h1.room.2, fun hn => ?_⟩
  obtain ⟨g, rfl, hc⟩ := h1.at_ hn (by decide)
  refine ⟨⟨g, 0, none⟩, rfl, fun j hj => ?_⟩
  obtain ⟨B, m, d, h4, h5⟩ := h3 j hj
  exact ⟨B, m, d, by rw [add_plain]; exact hc j _ h4, h5⟩
theorem OBP.nil_ (w : World) (b : Nat) : OBP w b none 0 0 [] := ⟨[], OwP.none_ _ _, rfl, fun j hj => absurd hj (Nat.not_lt_zero _)⟩
theorem OBP.lit0 (w : World) : OBP (w.alloc (.cells #[] 26)) w.heap.size (some ⟨w.heap.size, 0, none⟩) 0 0 [] :=
  ⟨[], ⟨by simp, .inr ⟨w.heap.size, #[], rfl, Nat.le_refl _, Blk.new _ _ _, Nat.le_refl _, Nat.zero_le _, by simp, fun u hu => by simp at hu, by simp⟩⟩, rfl, fun j hj => absurd hj (Nat.not_lt_zero _)⟩
theorem OBP.apP {w w' : World} {b b' n n' c : Nat} {A : Option Addr} {Ls : List (List UInt8)} (h : OBP w b A n c Ls) (e : ApP isSl1 26 1 b' n' w w') (hn : n ≤ n') : OBP w' b A n c Ls := by
  obtain ⟨vs, h1, h2, h3⟩ := h
  refine ⟨vs, h1.apP e hn, h2, fun j hj => ?_⟩
  obtain ⟨B, m, d, h4, h5⟩ := h3 j hj
  exact ⟨B, m, d, h4, h5.apP e isSl_nob⟩
/-- rows of byte slices, one behind the other -/
theorem run_app_bp (ty : TypeId) {w : World} {b n c k d : Nat} {A B : Option Addr} {Ls Ms : List (List UInt8)} (hown : OBP w b A n c Ls) (hx : RBB w B k d Ms) (hbase : b ≤ w.heap.size) (hnk : n + k ≤ 1000000) :
    ∃ A' c' w', (Builtin.append_ #[33, 33] ty #[.slice A n c, .slice B k d]).run Tryz.prog w = .ok (.slice A' (n + k) c') w' ∧ OBP w' b A' (n + k) c' (Ls ++ Ms) ∧ ApP isSl1 26 1 b n w w' ∧ (k = 0 ∨ c < n + k → Ext w w') := by
  have hm := hx.len
  rcases Nat.eq_zero_or_pos k with rfl | hk
  · obtain rfl : Ms = [] := List.eq_nil_of_length_eq_zero hm
    refine ⟨A, c, w, ?_, by simpa using hown, .inl (Ext.refl w), fun _ => Ext.refl w⟩
    obtain ⟨vs, own, _⟩ := hown
    obtain ⟨i0, hi0, hz0, hz1, hz2⟩ := info_parts info_bb'
    have hnc := own.room.1
    rcases A with _ | A <;> rcases B with _ | B <;> simp [Builtin.append_, run_underlying Tryz.underlying33, sizeOf, typeInfo, hi0, Builtin.lenOf, Builtin.firstCells, hnc, storeCells, loadCells, loadCellsFrom]
  · obtain ⟨ad, rfl, _⟩ := hx.cells hk
    obtain ⟨us, hul, hcells, hone, hus⟩ := hx.vals
    obtain ⟨vs, own, hl, h3⟩ := hown
    have hvl : vs.length = n := by have := own.1; omega
    obtain ⟨A', c', w', hrun, r1, r2, r3⟩ := run_app_p2 (d := d) kItems ty own (news := us) (by rw [hul, Nat.mul_one]) (fun j u hu => hcells ad rfl j u hu) hone (fun u hu => by
      obtain ⟨j, hj, e⟩ := List.getElem_of_mem hu
      obtain ⟨E, m, d', h4, _⟩ := hus j (by omega)
      rw [List.getElem?_eq_getElem hj, e] at h4
      injection h4 with h4
      exact ⟨E, m, d', h4⟩) hnk hbase hk
    refine ⟨A', c', w', hrun, ⟨vs ++ us, r1, by rw [List.length_append]; omega, fun j hj => ?_⟩, r2, fun h => r3 (by omega)⟩
    by_cases hjn : j < n
    · obtain ⟨E, m, d', h4, h5⟩ := h3 j hjn
      rw [lb_app_l (by omega)]
      exact ⟨E, m, d', by rw [List.getElem?_append_left (by omega)]; exact h4, h5.apP r2 isSl_nob⟩
    · obtain ⟨E, m, d', h4, h5⟩ := hus (j - n) (by omega)
      rw [lb_app_r (by omega), hl]
      exact ⟨E, m, d', by rw [List.getElem?_append_right (by omega), hvl]; exact h4, h5.apP r2 isSl_nob⟩
section
variable {ops : Array Oper} {H : List Tmp} {F : List (MP Ext)} {a0 : Act} {w0 : World} {i : Nat} {K : List (Nat × Nat)} {o : Oper}
end
theorem OBP.lit1 {w : World} {B : Option Addr} {m d : Nat} {Y : List UInt8} (h : RB w B m d Y) : OBP (w.alloc (.cells #[.slice B m d] 26)) w.heap.size (some ⟨w.heap.size, 0, none⟩) 1 1 [Y] :=
  ⟨[.slice B m d], ⟨by simp, .inr ⟨w.heap.size, #[.slice B m d], rfl, Nat.le_refl _, Blk.new _ _ _, Nat.le_refl _, small_maxLen (by decide), by simp, fun u hu => by
    simp at hu
    exact ⟨B, m, d, hu⟩, by simp⟩⟩, rfl, fun j hj => by
    obtain rfl : j = 0 := by omega
    exact ⟨B, m, d, rfl, h.ext (Ext.new _ _)⟩⟩
/-- an append to an own row, in text order -/
theorem appbp_law {ops : Array Oper} {rest : List Oper} {o : Oper} {a : Act} {Q : Exit → Act → World → Prop} {w : World} (hgd : o.guard = none) {s x : Operand} (ho : o.op = .call { callee := .builtin .append, args := #[s, x], argTypes := #[33, 33] })
    {A B : Option Addr} {n c k d : Nat} (hs : a.eval s = .slice A n c) (hx : a.eval x = .slice B k d) {b : Nat} {Ls Ms : List (List UInt8)} (hown : OBP w b A n c Ls) (hr : RBB w B k d Ms) (hbase : b ≤ w.heap.size) (hnk : n + k ≤ 1000000)
    (h : ∀ A' c' w', OBP w' b A' (n + k) c' (Ls ++ Ms) → ApP isSl1 26 1 b n w w' → (k = 0 ∨ c < n + k → Ext w w') → wpList Tryz.prog ops Q rest (a.put o.dst (.slice A' (n + k) c')) w') : wpList Tryz.prog ops Q (o :: rest) a w := by
  obtain ⟨A', c', w', hrun, h1, h2, h3⟩ := run_app_bp o.type hown hr hbase hnk
  refine run_law hgd (v := .slice A' (n + k) c') (w' := w') ?_ (h A' c' w' h1 h2 h3)
  unfold execOp
  simp only [ho, resolve, invoke, builtin, Sem.run_bind, Sem.run_pure, Result.andThen_ok, List.map_toArray, List.map_cons, List.map_nil, hs, hx, hrun]
/-- an append to a new row without room -/
theorem appbp0_law {ops : Array Oper} {rest : List Oper} {o : Oper} {a : Act} {Q : Exit → Act → World → Prop} {w : World} (hgd : o.guard = none) {s x : Operand} (ho : o.op = .call { callee := .builtin .append, args := #[s, x], argTypes := #[33, 33] })
    {A B : Option Addr} {k d : Nat} (hs : a.eval s = .slice A 0 0) (hx : a.eval x = .slice B k d) {b : Nat} {Ms : List (List UInt8)} (hown : OBP w b A 0 0 []) (hr : RBB w B k d Ms) (hbase : b ≤ w.heap.size) (hnk : k ≤ 1000000)
    (h : ∀ A' c' w', OBP w' b A' k c' Ms → Ext w w' → wpList Tryz.prog ops Q rest (a.put o.dst (.slice A' k c')) w') : wpList Tryz.prog ops Q (o :: rest) a w := by
  refine appbp_law hgd ho hs hx hown hr hbase (by omega) fun A' c' w' o1 _ e1 => ?_
  rw [Nat.zero_add, List.nil_append] at o1
  rw [Nat.zero_add]
  refine h A' c' w' o1 ?_
  rcases Nat.eq_zero_or_pos k with hk | hk
  · subst hk
    exact e1 (by omega)
  · exact e1 (by omega)
end Go.Proofs.YtkndgpjamijbbaaGreat
namespace Go.Proofs.YtkndgpjamijbbaaGreat
set_option maxRecDepth 100000
open Go Go.RowKit
theorem Sgd.ext {w w' : World} {b : Nat} {S R : List UInt8} {n k : Nat} {B P Q : Option Addr} {d d1 d2 : Nat} (h : Sgd w b S R n k B d P d1 Q d2) (e : Ext w w') : Sgd w' b S R n k B d P d1 Q d2 := ⟨h.1.ext e, h.2.1.ext e, h.2.2.ext e⟩
theorem Sgd.base_ {w : World} {b b' : Nat} {S R : List UInt8} {n k : Nat} {B P Q : Option Addr} {d d1 d2 : Nat} (h : Sgd w b S R n k B d P d1 Q d2) (hb : b' ≤ b) : Sgd w b' S R n k B d P d1 Q d2 := ⟨h.1, h.2.1.base_ hb, h.2.2.base_ hb⟩
theorem Keep.imp {φ : Nat → Prop} {X Y : World → Prop} {w : World} (h : Keep φ X w) (hi : ∀ w', X w' → Y w') : Keep φ Y w := fun w' u => hi w' (h w' u)
end Go.Proofs.YtkndgpjamijbbaaGreat
