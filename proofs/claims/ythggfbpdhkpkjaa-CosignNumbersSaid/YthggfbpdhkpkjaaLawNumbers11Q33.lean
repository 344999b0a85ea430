/-
  SHA-256 over Nat, for the kernel to reckon with (5 ms a block), and that it is sha.
-/
import Derived.Test.YthggfbpdhkpkjaaLawNumbers11Q1
namespace Go.Proofs.Ythggfbpdhkpkjaa
set_option maxRecDepth 100000
noncomputable def force {α : Type} (x : Nat) (k : Nat → α) : α := Nat.rec (motive := fun _ => α) (k (nat_lit 0)) (fun n _ => k (Nat.succ n)) x
theorem force_eq {α : Type} (x : Nat) (k : Nat → α) : force x k = k x := by cases x <;> rfl
def nS1 (x : Nat) : Nat := (Nat.xor (Nat.xor (Nat.lor (Nat.div x (nat_lit 64)) (Nat.mod (Nat.mul x (nat_lit 67108864)) (nat_lit 4294967296))) (Nat.lor (Nat.div x (nat_lit 2048)) (Nat.mod (Nat.mul x (nat_lit 2097152)) (nat_lit 4294967296)))) (Nat.lor (Nat.div x (nat_lit 33554432)) (Nat.mod (Nat.mul x (nat_lit 128)) (nat_lit 4294967296))))
def nS0 (x : Nat) : Nat := (Nat.xor (Nat.xor (Nat.lor (Nat.div x (nat_lit 4)) (Nat.mod (Nat.mul x (nat_lit 1073741824)) (nat_lit 4294967296))) (Nat.lor (Nat.div x (nat_lit 8192)) (Nat.mod (Nat.mul x (nat_lit 524288)) (nat_lit 4294967296)))) (Nat.lor (Nat.div x (nat_lit 4194304)) (Nat.mod (Nat.mul x (nat_lit 1024)) (nat_lit 4294967296))))
def ns0 (x : Nat) : Nat := (Nat.xor (Nat.xor (Nat.lor (Nat.div x (nat_lit 128)) (Nat.mod (Nat.mul x (nat_lit 33554432)) (nat_lit 4294967296))) (Nat.lor (Nat.div x (nat_lit 262144)) (Nat.mod (Nat.mul x (nat_lit 16384)) (nat_lit 4294967296)))) (Nat.div x (nat_lit 8)))
def ns1 (x : Nat) : Nat := (Nat.xor (Nat.xor (Nat.lor (Nat.div x (nat_lit 131072)) (Nat.mod (Nat.mul x (nat_lit 32768)) (nat_lit 4294967296))) (Nat.lor (Nat.div x (nat_lit 524288)) (Nat.mod (Nat.mul x (nat_lit 8192)) (nat_lit 4294967296)))) (Nat.div x (nat_lit 1024)))
def nCh (e f g : Nat) : Nat := (Nat.xor (Nat.land e f) (Nat.land (Nat.sub (nat_lit 4294967295) e) g))
def nMaj (a b c : Nat) : Nat := (Nat.xor (Nat.xor (Nat.land a b) (Nat.land a c)) (Nat.land b c))
def nj (r x : Nat) : Nat := Nat.add (Nat.mul r (nat_lit 4294967296)) x
theorem nj_eq (r x : Nat) : nj r x = r * 4294967296 + x := rfl
def nm (x y : Nat) : Nat := Nat.mod (Nat.add x y) (nat_lit 4294967296)
theorem nm_eq (x y : Nat) : nm x y = (x + y) % 4294967296 := rfl
abbrev NK := Nat → Nat → Nat → Nat → Nat → Nat → Nat → Nat → Nat
noncomputable def nr2 (fin : NK) (ks : List Nat) : List Nat → NK :=
  List.rec (motive := fun _ => List Nat → NK) (fun _ => fin)
    (fun k _ ih ws a b c d e f g h => force (Nat.mod (Nat.add (Nat.add (Nat.add (Nat.add h (nS1 e)) (nCh e f g)) k) (ws.headD (nat_lit 0))) (nat_lit 4294967296)) fun t => force (Nat.mod (Nat.add t (Nat.add (nS0 a) (nMaj a b c))) (nat_lit 4294967296)) fun a' => force (Nat.mod (Nat.add d t) (nat_lit 4294967296)) fun e' => ih ws.tail a' a b c e' e f g) ks
noncomputable def nr1 (nx : List Nat → NK) (ks : List Nat) : Nat → Nat → Nat → Nat → Nat → Nat → Nat → Nat → Nat → Nat → Nat → Nat → Nat → Nat → Nat → Nat → NK :=
  List.rec (motive := fun _ => Nat → Nat → Nat → Nat → Nat → Nat → Nat → Nat → Nat → Nat → Nat → Nat → Nat → Nat → Nat → Nat → NK) (fun w0 w1 w2 w3 w4 w5 w6 w7 w8 w9 w10 w11 w12 w13 w14 w15 => nx [w0, w1, w2, w3, w4, w5, w6, w7, w8, w9, w10, w11, w12, w13, w14, w15])
    (fun k _ ih w0 w1 w2 w3 w4 w5 w6 w7 w8 w9 w10 w11 w12 w13 w14 w15 a b c d e f g h => force (Nat.mod (Nat.add (Nat.add (Nat.add w0 (ns0 w1)) w9) (ns1 w14)) (nat_lit 4294967296)) fun nw => force (Nat.mod (Nat.add (Nat.add (Nat.add (Nat.add h (nS1 e)) (nCh e f g)) k) w0) (nat_lit 4294967296)) fun t => force (Nat.mod (Nat.add t (Nat.add (nS0 a) (nMaj a b c))) (nat_lit 4294967296)) fun a' => force (Nat.mod (Nat.add d t) (nat_lit 4294967296)) fun e' => ih w1 w2 w3 w4 w5 w6 w7 w8 w9 w10 w11 w12 w13 w14 w15 nw a' a b c e' e f g) ks
theorem nr2_cons (fin : NK) (k : Nat) (ks ws : List Nat) (a b c d e f g h : Nat) : nr2 fin (k :: ks) ws a b c d e f g h = (force (Nat.mod (Nat.add (Nat.add (Nat.add (Nat.add h (nS1 e)) (nCh e f g)) k) (ws.headD (nat_lit 0))) (nat_lit 4294967296)) fun t => force (Nat.mod (Nat.add t (Nat.add (nS0 a) (nMaj a b c))) (nat_lit 4294967296)) fun a' => force (Nat.mod (Nat.add d t) (nat_lit 4294967296)) fun e' => nr2 fin ks ws.tail a' a b c e' e f g) := rfl
theorem nr1_cons (nx : List Nat → NK) (k : Nat) (ks : List Nat) (w0 w1 w2 w3 w4 w5 w6 w7 w8 w9 w10 w11 w12 w13 w14 w15 a b c d e f g h : Nat) : nr1 nx (k :: ks) w0 w1 w2 w3 w4 w5 w6 w7 w8 w9 w10 w11 w12 w13 w14 w15 a b c d e f g h = (force (Nat.mod (Nat.add (Nat.add (Nat.add w0 (ns0 w1)) w9) (ns1 w14)) (nat_lit 4294967296)) fun nw => force (Nat.mod (Nat.add (Nat.add (Nat.add (Nat.add h (nS1 e)) (nCh e f g)) k) w0) (nat_lit 4294967296)) fun t => force (Nat.mod (Nat.add t (Nat.add (nS0 a) (nMaj a b c))) (nat_lit 4294967296)) fun a' => force (Nat.mod (Nat.add d t) (nat_lit 4294967296)) fun e' => nr1 nx ks w1 w2 w3 w4 w5 w6 w7 w8 w9 w10 w11 w12 w13 w14 w15 nw a' a b c e' e f g) := rfl
def nK1 : List Nat := [nat_lit 1116352408, nat_lit 1899447441, nat_lit 3049323471, nat_lit 3921009573, nat_lit 961987163, nat_lit 1508970993, nat_lit 2453635748, nat_lit 2870763221, nat_lit 3624381080, nat_lit 310598401, nat_lit 607225278, nat_lit 1426881987, nat_lit 1925078388, nat_lit 2162078206, nat_lit 2614888103, nat_lit 3248222580, nat_lit 3835390401, nat_lit 4022224774, nat_lit 264347078, nat_lit 604807628, nat_lit 770255983, nat_lit 1249150122, nat_lit 1555081692, nat_lit 1996064986, nat_lit 2554220882, nat_lit 2821834349, nat_lit 2952996808, nat_lit 3210313671, nat_lit 3336571891, nat_lit 3584528711, nat_lit 113926993, nat_lit 338241895, nat_lit 666307205, nat_lit 773529912, nat_lit 1294757372, nat_lit 1396182291, nat_lit 1695183700, nat_lit 1986661051, nat_lit 2177026350, nat_lit 2456956037, nat_lit 2730485921, nat_lit 2820302411, nat_lit 3259730800, nat_lit 3345764771, nat_lit 3516065817, nat_lit 3600352804, nat_lit 4094571909, nat_lit 275423344]
def nK2 : List Nat := [nat_lit 430227734, nat_lit 506948616, nat_lit 659060556, nat_lit 883997877, nat_lit 958139571, nat_lit 1322822218, nat_lit 1537002063, nat_lit 1747873779, nat_lit 1955562222, nat_lit 2024104815, nat_lit 2227730452, nat_lit 2361852424, nat_lit 2428436474, nat_lit 2756734187, nat_lit 3204031479, nat_lit 3329325298]
noncomputable def nblock (st m : Nat) : Nat :=
  force (Nat.mod (Nat.div st (nat_lit 26959946667150639794667015087019630673637144422540572481103610249216)) (nat_lit 4294967296)) fun h0 =>
  force (Nat.mod (Nat.div st (nat_lit 6277101735386680763835789423207666416102355444464034512896)) (nat_lit 4294967296)) fun h1 =>
  force (Nat.mod (Nat.div st (nat_lit 1461501637330902918203684832716283019655932542976)) (nat_lit 4294967296)) fun h2 =>
  force (Nat.mod (Nat.div st (nat_lit 340282366920938463463374607431768211456)) (nat_lit 4294967296)) fun h3 =>
  force (Nat.mod (Nat.div st (nat_lit 79228162514264337593543950336)) (nat_lit 4294967296)) fun h4 =>
  force (Nat.mod (Nat.div st (nat_lit 18446744073709551616)) (nat_lit 4294967296)) fun h5 =>
  force (Nat.mod (Nat.div st (nat_lit 4294967296)) (nat_lit 4294967296)) fun h6 =>
  force (Nat.mod (Nat.div st (nat_lit 1)) (nat_lit 4294967296)) fun h7 =>
  force (Nat.mod (Nat.div m (nat_lit 3121748550315992231381597229793166305748598142664971150859156959625371738819765620120306103063491971159826931121406622895447975679288285306290176)) (nat_lit 4294967296)) fun w0 =>
  force (Nat.mod (Nat.div m (nat_lit 726838724295606890549323807888004534353641360687318060281490199180639288113397923326191050713763565560762521606266177933534601628614656)) (nat_lit 4294967296)) fun w1 =>
  force (Nat.mod (Nat.div m (nat_lit 169230328010303641331690318856389386196071598838855992136870091590247882556495704531248437872567112920983350278405979725889536)) (nat_lit 4294967296)) fun w2 =>
  force (Nat.mod (Nat.div m (nat_lit 39402006196394479212279040100143613805079739270465446667948293404245721771497210611414266254884915640806627990306816)) (nat_lit 4294967296)) fun w3 =>
  force (Nat.mod (Nat.div m (nat_lit 9173994463960286046443283581208347763186259956673124494950355357547691504353939232280074212440502746218496)) (nat_lit 4294967296)) fun w4 =>
  force (Nat.mod (Nat.div m (nat_lit 2135987035920910082395021706169552114602704522356652769947041607822219725780640550022962086936576)) (nat_lit 4294967296)) fun w5 =>
  force (Nat.mod (Nat.div m (nat_lit 497323236409786642155382248146820840100456150797347717440463976893159497012533375533056)) (nat_lit 4294967296)) fun w6 =>
  force (Nat.mod (Nat.div m (nat_lit 115792089237316195423570985008687907853269984665640564039457584007913129639936)) (nat_lit 4294967296)) fun w7 =>
  force (Nat.mod (Nat.div m (nat_lit 26959946667150639794667015087019630673637144422540572481103610249216)) (nat_lit 4294967296)) fun w8 =>
  force (Nat.mod (Nat.div m (nat_lit 6277101735386680763835789423207666416102355444464034512896)) (nat_lit 4294967296)) fun w9 =>
  force (Nat.mod (Nat.div m (nat_lit 1461501637330902918203684832716283019655932542976)) (nat_lit 4294967296)) fun w10 =>
  force (Nat.mod (Nat.div m (nat_lit 340282366920938463463374607431768211456)) (nat_lit 4294967296)) fun w11 =>
  force (Nat.mod (Nat.div m (nat_lit 79228162514264337593543950336)) (nat_lit 4294967296)) fun w12 =>
  force (Nat.mod (Nat.div m (nat_lit 18446744073709551616)) (nat_lit 4294967296)) fun w13 =>
  force (Nat.mod (Nat.div m (nat_lit 4294967296)) (nat_lit 4294967296)) fun w14 =>
  force (Nat.mod (Nat.div m (nat_lit 1)) (nat_lit 4294967296)) fun w15 =>
  nr1 (nr2 (fun a b c d e f g h => (nj (nj (nj (nj (nj (nj (nj (nm h0 a) (nm h1 b)) (nm h2 c)) (nm h3 d)) (nm h4 e)) (nm h5 f)) (nm h6 g)) (nm h7 h))) nK2) nK1 w0 w1 w2 w3 w4 w5 w6 w7 w8 w9 w10 w11 w12 w13 w14 w15 h0 h1 h2 h3 h4 h5 h6 h7
def nH0 : Nat := nat_lit 47962653771679561900652889051773562940742041696833059450490514104358170316057
/-- the blocks: n more, of a number of 512 * n bits -/
noncomputable def nblocks (n : Nat) : Nat → Nat → Nat :=
  Nat.rec (motive := fun _ => Nat → Nat → Nat) (fun st _ => st)
    (fun n ih st m => force (nblock st (Nat.mod (Nat.div m (Nat.pow (nat_lit 2) (Nat.mul (nat_lit 512) n))) (nat_lit 13407807929942597099574024998205846127479365820592393377723561443721764030073546976801874298166903427690031858186486050853753882811946569946433649006084096))) fun st' => ih st' m) n
def nZ (n : Nat) : Nat := Nat.mod (Nat.sub (nat_lit 119) (Nat.mod n (nat_lit 64))) (nat_lit 64)
/-- of a number of n bytes, the highest first -/
noncomputable def nsha (n m : Nat) : Nat :=
  force (Nat.add (Nat.mul (Nat.add (Nat.mul m (nat_lit 256)) (nat_lit 128)) (Nat.pow (nat_lit 256) (Nat.add (nZ n) (nat_lit 8)))) (Nat.mul n (nat_lit 8))) fun x =>
  nblocks (Nat.div (Nat.add n (Nat.add (nZ n) (nat_lit 9))) (nat_lit 64)) nH0 x
/-! the parts -/
theorem n_rotr (x : UInt32) (n : Nat) : (rotr x n).toNat = Nat.lor (x.toNat / 2 ^ n) (x.toNat * 2 ^ (32 - n) % 4294967296) := by
  unfold rotr
  rw [UInt32.toNat_or, shr_toNat, shl_toNat]
  rfl
theorem n_S1 (e : UInt32) : nS1 e.toNat = (bigS1 e).toNat := by
  unfold bigS1
  rw [UInt32.toNat_xor, UInt32.toNat_xor, n_rotr, n_rotr, n_rotr]
  rfl
theorem n_S0 (e : UInt32) : nS0 e.toNat = (bigS0 e).toNat := by
  unfold bigS0
  rw [UInt32.toNat_xor, UInt32.toNat_xor, n_rotr, n_rotr, n_rotr]
  rfl
theorem n_s0 (e : UInt32) : ns0 e.toNat = (sig0 e).toNat := by
  unfold sig0
  rw [UInt32.toNat_xor, UInt32.toNat_xor, n_rotr, n_rotr, shr_toNat]
  rfl
theorem n_s1 (e : UInt32) : ns1 e.toNat = (sig1 e).toNat := by
  unfold sig1
  rw [UInt32.toNat_xor, UInt32.toNat_xor, n_rotr, n_rotr, shr_toNat]
  rfl
theorem n_not (e : UInt32) : (~~~e).toNat = 4294967295 - e.toNat := by
  rw [UInt32.toNat_not]
  rfl
theorem n_ch (e f g : UInt32) : nCh e.toNat f.toNat g.toNat = (chF e f g).toNat := by
  unfold chF
  rw [UInt32.toNat_xor, UInt32.toNat_and, UInt32.toNat_and, n_not]
  rfl
theorem n_maj (a b c : UInt32) : nMaj a.toNat b.toNat c.toNat = (majF a b c).toNat := by
  unfold majF
  rw [UInt32.toNat_xor, UInt32.toNat_xor, UInt32.toNat_and, UInt32.toNat_and, UInt32.toNat_and]
  rfl
theorem n_t (s : S8) (k w : UInt32) : Nat.mod (Nat.add (Nat.add (Nat.add (Nat.add s.h.toNat (nS1 s.e.toNat)) (nCh s.e.toNat s.f.toNat s.g.toNat)) k.toNat) w.toNat) (nat_lit 4294967296) = (roundT s k w).toNat := by
  rw [n_S1, n_ch]
  unfold roundT
  simp only [UInt32.toNat_add]
  show (s.h.toNat + (bigS1 s.e).toNat + (chF s.e s.f s.g).toNat + k.toNat + w.toNat) % 4294967296 = _
  omega
theorem n_a (s : S8) (k w : UInt32) : Nat.mod (Nat.add (roundT s k w).toNat (Nat.add (nS0 s.a.toNat) (nMaj s.a.toNat s.b.toNat s.c.toNat))) (nat_lit 4294967296) = (roundS s k w).a.toNat := by
  rw [n_S0, n_maj]
  show ((roundT s k w).toNat + ((bigS0 s.a).toNat + (majF s.a s.b s.c).toNat)) % 4294967296 = (roundT s k w + roundU s).toNat
  unfold roundU
  simp only [UInt32.toNat_add]
  omega
theorem n_e (s : S8) (k w : UInt32) : Nat.mod (Nat.add s.d.toNat (roundT s k w).toNat) (nat_lit 4294967296) = (roundS s k w).e.toNat := by
  show (s.d.toNat + (roundT s k w).toNat) % 4294967296 = (s.d + roundT s k w).toNat
  rw [UInt32.toNat_add]
theorem n_w (a b c d : UInt32) : Nat.mod (Nat.add (Nat.add (Nat.add a.toNat (ns0 b.toNat)) c.toNat) (ns1 d.toNat)) (nat_lit 4294967296) = (((a + sig0 b) + c) + sig1 d).toNat := by
  rw [n_s0, n_s1]
  simp only [UInt32.toNat_add]
  show (a.toNat + (sig0 b).toNat + c.toNat + (sig1 d).toNat) % 4294967296 = _
  omega
/-! the rounds -/
def foldW (s : S8) (W : Nat → UInt32) : List UInt32 → Nat → S8
  | [], _ => s
  | k :: ks, j => foldW (roundS s k (W j)) W ks (j + 1)
def apK (k : NK) (s : S8) : Nat := k s.a.toNat s.b.toNat s.c.toNat s.d.toNat s.e.toNat s.f.toNat s.g.toNat s.h.toNat
theorem nr2_eq (fin : NK) (W : Nat → UInt32) : ∀ (ks : List UInt32) (j : Nat) (s : S8) (l : List Nat), (∀ i, i < ks.length → l.getD i 0 = (W (j + i)).toNat) →
    apK (nr2 fin (ks.map UInt32.toNat) l) s = apK fin (foldW s W ks j)
  | [], _, _, _, _ => rfl
  | k :: ks, j, s, l, hl => by
    have h0 : l.headD (nat_lit 0) = (W j).toNat := by
      have := hl 0 (by simp)
      cases l with
      | nil => simpa using this
      | cons x l => simpa using this
    have ht : ∀ i, i < ks.length → l.tail.getD i 0 = (W (j + 1 + i)).toNat := by
      intro i hi
      have := hl (i + 1) (by simp; omega)
      rw [show j + 1 + i = j + (i + 1) by omega, ← this]
      cases l <;> simp
    have ih := nr2_eq fin W ks (j + 1) (roundS s k (W j)) l.tail ht
    show _ = apK fin (foldW (roundS s k (W j)) W ks (j + 1))
    rw [← ih]
    unfold apK
    rw [List.map_cons]
    rw [nr2_cons, h0, n_t]
    simp only [force_eq]
    rw [n_a, n_e]
    rfl
theorem nr1_eq (nx : List Nat → NK) (W : Nat → UInt32) : ∀ (ks : List UInt32) (j : Nat) (s : S8), (∀ i, i < ks.length → W (j + i + 16) = ((W (j + i) + sig0 (W (j + i + 1))) + W (j + i + 9)) + sig1 (W (j + i + 14))) →
    apK (nr1 nx (ks.map UInt32.toNat) (W j).toNat (W (j + 1)).toNat (W (j + 2)).toNat (W (j + 3)).toNat (W (j + 4)).toNat (W (j + 5)).toNat (W (j + 6)).toNat (W (j + 7)).toNat (W (j + 8)).toNat (W (j + 9)).toNat (W (j + 10)).toNat (W (j + 11)).toNat (W (j + 12)).toNat (W (j + 13)).toNat (W (j + 14)).toNat (W (j + 15)).toNat) s = apK (nx [(W (j + ks.length + 0)).toNat, (W (j + ks.length + 1)).toNat, (W (j + ks.length + 2)).toNat, (W (j + ks.length + 3)).toNat, (W (j + ks.length + 4)).toNat, (W (j + ks.length + 5)).toNat, (W (j + ks.length + 6)).toNat, (W (j + ks.length + 7)).toNat, (W (j + ks.length + 8)).toNat, (W (j + ks.length + 9)).toNat, (W (j + ks.length + 10)).toNat, (W (j + ks.length + 11)).toNat, (W (j + ks.length + 12)).toNat, (W (j + ks.length + 13)).toNat, (W (j + ks.length + 14)).toNat, (W (j + ks.length + 15)).toNat]) (foldW s W ks (j))
  | [], _, _, _ => rfl
  | k :: ks, j, s, hw => by
    have ih := nr1_eq nx W ks (j + 1) (roundS s k (W j)) (fun i hi => by
      have := hw (i + 1) (by simp; omega)
      rw [show j + 1 + i = j + (i + 1) by omega]
      exact this)
    have hw0 := hw 0 (by simp)
    simp only [Nat.add_zero] at hw0
    rw [show (k :: ks).length = ks.length + 1 from rfl]
    have hj : ∀ i, j + (ks.length + 1) + i = j + 1 + ks.length + i := fun i => by omega
    simp only [hj]
    show _ = apK _ (foldW (roundS s k (W j)) W ks (j + 1))
    rw [← ih]
    unfold apK
    rw [List.map_cons]
    rw [nr1_cons, n_w, ← hw0]
    simp only [force_eq]
    rw [n_t, n_a, n_e]
    simp only [Nat.add_assoc]
    rfl
end Go.Proofs.Ythggfbpdhkpkjaa
