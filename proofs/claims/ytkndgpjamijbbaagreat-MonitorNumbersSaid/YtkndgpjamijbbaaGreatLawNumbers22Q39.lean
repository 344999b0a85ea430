/-
  law22's play: the part that feeds. law22's play: what is held against each other behind an ask.
-/
import Derived.Test.YtkndgpjamijbbaaGreatLawNumbers22Q38
namespace Go.Proofs.YtkndgpjamijbbaaGreat
set_option maxRecDepth 1000000
open Go Go.RowKit
theorem feedE_len {s : MSt} {x : Int} {R : List UInt8} {i : Int} {Ps Qs its : List (List UInt8)} (h : feedE s x R i Ps Qs its = 0) (hx : ¬ x ≤ (s.its.length : Int)) : (its.length : Int) = x - (s.its.length : Int) := by
  apply Classical.byContradiction
  intro hne
  have h2 : feedE s x R i Ps Qs its ≠ 0 := by
    unfold feedE
    by_cases c1 : cverB s.log x R i Ps Qs = false
    · rw [if_pos c1]
      decide
    · rw [if_neg c1, if_neg (fun h => hx h.1), if_neg (fun h => hx h.1), if_neg hx, if_pos hne]
      decide
  exact h2 h
theorem feedS_keep (s : MSt) (x : Int) (R : List UInt8) (i : Int) (Ps Qs its : List (List UInt8)) : (feedS s x R i Ps Qs its).log = s.log ∧ (feedS s x R i Ps Qs its).al.length ≤ s.al.length + 1 ∧ ((feedS s x R i Ps Qs its).its = s.its ∨ (feedS s x R i Ps Qs its).its = s.its ++ its ∧ (its.length : Int) = x - (s.its.length : Int)) := by
  unfold feedS
  split
  · exact ⟨rfl, by show (s.al ++ _).length ≤ _; simp, .inl rfl⟩
  · split
    · rename_i h
      exact ⟨rfl, by show s.al.length ≤ _; omega, .inr ⟨rfl, feedE_len h.1 h.2⟩⟩
    · exact ⟨rfl, by omega, .inl rfl⟩
noncomputable def plAc : Code := cAt [true, true, true, true, true, true, true, true, false, true, false, false, true, false, false, true, true, true, true, true, false, true, false, true, false] (Tryz.f6.body.getD .skip)
set_option maxHeartbeats 64000000 in
theorem plA_any (w0 wS : World) (base g g8 bo g1 m c1 p n c3 q16 : Nat) (S : List UInt8) (ad : Addr) (qk qf : Int) (qb : Bool) (r3 : inR qf) (U : Nat → Prop) (s : MSt) (A3 A6 A7 : Option Addr) (c6 c7 : Nat) (wr : World) (g14 : Nat) (B P Q : Option Addr) (d d1 d2 : Nat) (R : List UInt8) (PS QS LA : List (List UInt8))
    (k1 : w0.cell? (ad.add (p * 5)) = some (.int .i64 qk)) (k3 : w0.cell? ((ad.add (p * 5)).add 2) = some (.int .i64 qf)) (k5 : w0.cell? ((ad.add (p * 5)).add 4) = some (.bool qb)) (hpm : p < m) (hroom : m ≤ c1) (hcap : c1 ≤ 2 ^ 63 - 1)
    (hb0 : w0.heap.size ≤ base) (hP : Pl wS base U g g8 s s A6 c6 A7 c7) (hok : okS s) (hlog : s.log = ownP S) (hal : s.al.length ≤ p) (hp14 : p < 14) (hits : s.its.length ≤ 24) (hsm : ∀ a ∈ s.its, a.length ≤ 1000000) (hn : n ≤ 24) (hLs : ∀ a ∈ LA, a.length ≤ 1000000) (hq16 : q16 < 16)
    (kO : Keep U (fun w => OwnR w bo g1 S) wS) (kA : Keep U (fun w => RBB w A3 n c3 LA) wS) (kS : Keep U (fun w => RB w B 32 d R ∧ RBB w P 64 d1 PS ∧ RBB w Q 4 d2 QS) wS) (hEa : Ext w0 wS)
    (eS : Ext wS wr) (hB14 : Blk wr g14 40 #[.int .i64 (n : Int), .slice B 32 d, .int .i64 (q16 : Int), .slice P 64 d1, .slice Q 4 d2]) (hg14 : wS.heap.size ≤ g14)
    (z1 z2 z5 z12 z15 z16 z17 z18 z19 z20 z21 z22 z23 z24 z25 z26 z27 z28 z29 z30 z31 z32 z33 z34 z35 z36 z37 z38 z39 z40 z41 z42 z43 z44 z45 z46 z47 z48 z49 z50 z51 z52 z53 z54 z55 z56 z57 z58 z59 z60 z61 z62 z63 z64 z65 z66 z67 z68 z69 z70 z71 z72 z73 z74 z75 z76 z77 z78 z79 z80 z81 z82 z83 z84 z85 z86 z87 z88 z89 z90 z91 z92 z93 z94 z95 z96 z97 z98 z99 z100 z101 z102 z103 z104 z105 z106 z107 z108 z109 z110 z111 z112 z113 z114 z115 z116 z117 z118 z119 z120 z121 z122 z123 z124 z125 z126 z127 z128 z129 z130 z131 z132 z133 z134 z135 z136 z137 z138 z139 z140 z141 z142 z143 z144 z145 z146 z147 z148 z149 z150 z151 z152 z153 z154 z155 z156 z157 z158 z159 z160 z161 z162 z163 z164 z165 z166 z167 z168 z169 z170 z171 z172 z173 z174 z175 z176 z177 z178 z179 z180 z181 z182 z183 z184 z185 z186 z187 z188 z189 z190 z191 z192 z193 z194 z195 z196 z197 z198 z199 z200 z201 z202 z203 z204 z205 z206 z207 z208 z209 z210 z211 z212 z213 z214 z215 z216 z217 z218 z219 z220 z221 z222 z223 z224 z225 z226 z227 z228 z229 z230 z231 z232 z233 z234 z235 z236 z237 z238 z239 z240 z241 z242 z243 z244 z245 z246 z247 z248 z249 z250 z251 z252 z253 z254 z255 z256 z257 z258 z259 z260 z261 z262 z263 z264 z265 z266 z267 z268 z269 z270 z271 z272 z273 z274 z275 z276 : Value) (K : Exit → Act → World → Prop)
    (hQ : ∀ (x6 x7 x9 : Value) (v2 v15 v16 v17 v18 v77 v78 v79 v80 v81 v82 v83 v84 v85 v86 v87 v88 v89 v90 v91 v92 v93 v94 v95 v96 v97 v98 v99 v100 v101 v102 v103 v104 v105 v106 v107 v108 v109 v110 v111 v112 v113 v114 v115 v116 v117 v118 v119 v120 v121 v122 v123 v124 v125 v126 v127 v128 v129 v130 v131 v132 v133 v134 v135 v136 v137 v138 v139 v140 v141 v142 v143 v144 v145 v146 v147 v148 v149 v150 v151 v152 v153 v154 v155 v156 v157 v158 v159 v160 v161 v162 v163 v164 v165 v166 v167 v168 v169 v170 v171 v172 v173 v174 v175 v176 v177 v178 v179 v180 v181 v182 : Value) (w' : World), PlB w0 base g g8 bo g1 S (p + 1) x6 x7 x9 w' → K .normal ⟨#[.slice (some ad) m c1, z1, v2, .pointer (some ⟨g1, 0, none⟩), .pointer (some ⟨g, 0, none⟩), z5, x6, x7, .pointer (some ⟨g8, 0, none⟩), x9, .int .i64 (p : Int), .int .i64 (n : Int), z12, .slice A3 n c3, .pointer (some ⟨g14, 0, none⟩), v15, v16, v17, v18, z19, z20, z21, z22, z23, z24, z25, z26, z27, z28, z29, z30, z31, z32, z33, z34, z35, z36, z37, z38, z39, z40, z41, z42, z43, z44, z45, z46, z47, z48, z49, z50, z51, z52, z53, z54, z55, z56, z57, z58, z59, z60, z61, z62, z63, z64, z65, z66, z67, z68, z69, z70, z71, z72, z73, z74, z75, z76, v77, v78, v79, v80, v81, v82, v83, v84, v85, v86, v87, v88, v89, v90, v91, v92, v93, v94, v95, v96, v97, v98, v99, v100, v101, v102, v103, v104, v105, v106, v107, v108, v109, v110, v111, v112, v113, v114, v115, v116, v117, v118, v119, v120, v121, v122, v123, v124, v125, v126, v127, v128, v129, v130, v131, v132, v133, v134, v135, v136, v137, v138, v139, v140, v141, v142, v143, v144, v145, v146, v147, v148, v149, v150, v151, v152, v153, v154, v155, v156, v157, v158, v159, v160, v161, v162, v163, v164, v165, v166, v167, v168, v169, v170, v171, v172, v173, v174, v175, v176, v177, v178, v179, v180, v181, v182, z183, z184, z185, z186, z187, z188, z189, z190, z191, z192, z193, z194, z195, z196, z197, z198, z199, z200, z201, z202, z203, z204, z205, z206, z207, z208, z209, z210, z211, z212, z213, z214, z215, z216, z217, z218, z219, z220, z221, z222, z223, z224, z225, z226, z227, z228, z229, z230, z231, z232, z233, z234, z235, z236, z237, z238, z239, z240, z241, z242, z243, z244, z245, z246, z247, z248, z249, z250, z251, z252, z253, z254, z255, z256, z257, z258, z259, z260, z261, z262, z263, z264, z265, z266, z267, z268, z269, z270, z271, z272, z273, z274, z275, z276], []⟩ w') :
    plAc.wp Tryz.prog K ⟨#[.slice (some ad) m c1, z1, z2, .pointer (some ⟨g1, 0, none⟩), .pointer (some ⟨g, 0, none⟩), z5, .slice A6 s.its.length c6, .slice A7 s.al.length c7, .pointer (some ⟨g8, 0, none⟩), .bool s.has, .int .i64 (p : Int), .int .i64 (n : Int), z12, .slice A3 n c3, .pointer (some ⟨g14, 0, none⟩), z15, z16, z17, z18, z19, z20, z21, z22, z23, z24, z25, z26, z27, z28, z29, z30, z31, z32, z33, z34, z35, z36, z37, z38, z39, z40, z41, z42, z43, z44, z45, z46, z47, z48, z49, z50, z51, z52, z53, z54, z55, z56, z57, z58, z59, z60, z61, z62, z63, z64, z65, z66, z67, z68, z69, z70, z71, z72, z73, z74, z75, z76, z77, z78, z79, z80, z81, z82, z83, z84, z85, z86, z87, z88, z89, z90, z91, z92, z93, z94, z95, z96, z97, z98, z99, z100, z101, z102, z103, z104, z105, z106, z107, z108, z109, z110, z111, z112, z113, z114, z115, z116, z117, z118, z119, z120, z121, z122, z123, z124, z125, z126, z127, z128, z129, z130, z131, z132, z133, z134, z135, z136, z137, z138, z139, z140, z141, z142, z143, z144, z145, z146, z147, z148, z149, z150, z151, z152, z153, z154, z155, z156, z157, z158, z159, z160, z161, z162, z163, z164, z165, z166, z167, z168, z169, z170, z171, z172, z173, z174, z175, z176, z177, z178, z179, z180, z181, z182, z183, z184, z185, z186, z187, z188, z189, z190, z191, z192, z193, z194, z195, z196, z197, z198, z199, z200, z201, z202, z203, z204, z205, z206, z207, z208, z209, z210, z211, z212, z213, z214, z215, z216, z217, z218, z219, z220, z221, z222, z223, z224, z225, z226, z227, z228, z229, z230, z231, z232, z233, z234, z235, z236, z237, z238, z239, z240, z241, z242, z243, z244, z245, z246, z247, z248, z249, z250, z251, z252, z253, z254, z255, z256, z257, z258, z259, z260, z261, z262, z263, z264, z265, z266, z267, z268, z269, z270, z271, z272, z273, z274, z275, z276], []⟩ wr := by
  conv => arg 2; whnf
  have e1 : (p : Int) < (m : Int) := by omega
  have y0 : wr.cell? (ad.add (p * 5)) = some (.int .i64 qk) := (hEa.trans eS).cell k1
  go_upto_if 84 with (fail)
  go_cut [15] from 77 to 182 (fun t15 w' => (∃ f : Nat, t15 = .int .i64 (f : Int)) ∧ w' = wr)
  case first =>
    by_cases hk4 : qk = 4
    · have d4 : (qk == 4) = true := by simp [hk4]
      have y2 : wr.cell? ⟨(ad.add (p * 5)).block, (ad.add (p * 5)).off + 2, none⟩ = some (.int .i64 qf) := (hEa.trans eS).cell k3
      obtain ⟨f, hf, hfn⟩ := within_nat qf (n : Int) (by omega)
      have hwn := within_any qf 0 (n : Int) wr r3.1 r3.2 (by omega) (by omega) (by omega)
      rw [hf] at hwn
      have Hwn := Lib.hid hwn
      clear hwn hf
      go_wp2_with fail
      refine Hwn.out.mono ?_
      rintro e _ ⟨rfl, rfl⟩
      go_wp2_with fail
      go_meet
      case rel => exact ⟨⟨f, rfl⟩, rfl⟩
    · have d4 : (qk == 4) = false := by simp [hk4]
      go_wp2_with fail
      go_meet
      case rel => exact ⟨⟨s.its.length, rfl⟩, rfl⟩
  case rest =>
  obtain ⟨⟨f0, rfl⟩, rfl⟩ := hcut
  clear y0
  go_upto_if 94 with (fail)
  go_cut [15] from 77 to 182 (fun t15 w' => (∃ f : Nat, t15 = .int .i64 (f : Int) ∧ f ≤ n) ∧ w' = wc)
  case first =>
    by_cases hfn : n < f0
    · have hfi : (n : Int) < (f0 : Int) := by omega
      go_wp2_with fail
      go_meet
      case rel => exact ⟨⟨n, rfl, Nat.le_refl _⟩, rfl⟩
    · have hfi : ¬ (n : Int) < (f0 : Int) := by omega
      go_wp2_with fail
      go_meet
      case rel => exact ⟨⟨f0, rfl, by omega⟩, rfl⟩
  case rest =>
  obtain ⟨⟨f, rfl, hfn⟩, rfl⟩ := hcut
  clear f0
  have hroomA := kA.self.room
  have hcapA := kA.self.cap
  unfold maxLen at hcapA
  go_upto_region 27 with (fail)
  go_cut [13, 16] from 77 to 182 (fun t13 t16 w' => t13 = .slice A3 n c3 ∧ (∃ AD : Option Addr, t16 = .slice AD (n - f) (c3 - f) ∧ AD = (if c3 = f then A3 else A3.map (·.add (f * 1)))) ∧ w' = wc)
  case first =>
    by_cases hcf : c3 = f
    · go_wp2_with fail
      go_meet
      case rel => exact ⟨by rw [hcf], ⟨A3, by simp [hcf], by rw [if_pos hcf]⟩, rfl⟩
    · go_wp2_with fail
      go_meet
      case rel => exact ⟨rfl, ⟨_, rfl, by rw [if_neg hcf, Nat.mul_one]⟩, rfl⟩
  case rest =>
  obtain ⟨rfl, ⟨AD, rfl, hAD⟩, rfl⟩ := hcut
  have y4 : wc.cell? ⟨(ad.add (p * 5)).block, (ad.add (p * 5)).off + 4, none⟩ = some (.bool qb) := (hEa.trans eS).cell k5
  have HAD := Lib.hid hAD
  clear hAD
  go_upto_if 103 with (fail)
  go_cut [14] from 77 to 182 (fun t14 w' => t14 = .pointer (some ⟨g14, 0, none⟩) ∧ ∃ k16 : Nat, Blk w' g14 40 #[.int .i64 (n : Int), .slice B 32 d, .int .i64 (k16 : Int), .slice P 64 d1, .slice Q 4 d2] ∧ Ext wS w')
  case first =>
    cases qb with
    | true =>
      obtain ⟨k', he⟩ : ∃ k' : Nat, ((q16 : Int) + 1).tmod 16 = (k' : Int) := ⟨(q16 + 1) % 16, by
        rw [show ((q16 : Int) + 1) = ((q16 + 1 : Nat) : Int) from rfl]
        exact (Int.ofNat_tmod (q16 + 1) 16).symm⟩
      have f2 := hB14.frozen 2
      have x2 := hB14.cell (i := 2) (v := .int .i64 (q16 : Int)) rfl
      go_wp2_with fail
      go_meet
      case rel => exact ⟨rfl, k', hB14.set 2 _, eS.then_grown (grown_set _ ⟨g14, 2, none⟩ _) (by intro k hk; cases hk; exact hg14)⟩
    | false =>
      go_wp2_with fail
      go_meet
      case rel => exact ⟨rfl, q16, hB14, eS⟩
  case rest =>
  clear hB14 eS y4
  obtain ⟨rfl, k16, hB14, eS⟩ := hcut
  have hUg : ∀ k, U k → k < wS.heap.size := fun k hk => (hP.lt hk).2
  replace hP := hP.ext eS
  replace kO := kO.ext eS
  replace kA := kA.ext eS
  replace kS := kS.ext eS
  replace hEa := hEa.trans eS
  have kX : Keep U (fun w => OwnR w bo g1 S ∧ Blk w g14 40 #[.int .i64 (n : Int), .slice B 32 d, .int .i64 (k16 : Int), .slice P 64 d1, .slice Q 4 d2] ∧ (RB w B 32 d R ∧ RBB w P 64 d1 PS ∧ RBB w Q 4 d2 QS) ∧ RBB w AD (n - f) (c3 - f) (LA.drop f)) wc :=
    fun w' u => ⟨kO w' u, hB14.upd u (fun h => by have := hUg _ h; omega), kS w' u, by rw [HAD.out]; exact (kA w' u).snd (k := f) hfn⟩
  have hgs : ∀ a ∈ LA.drop f, a.length ≤ 1000000 := fun a ha => hLs a (List.mem_of_mem_drop ha)
  clear kO kA kS hB14 eS hUg
  go_upto_block 3 with (fail)
  refine plW_any w0 base g g8 bo g1 m c1 p n f c3 k16 0 S ad U s A3 A6 A7 AD c6 c7 wc g14 B P Q d d1 d2 R PS QS (LA.drop f) hb0 hP hlog hal hp14 hits hsm hn hfn hgs kX hEa _ _ _ _ _ _ _ _ _ _ _ _ _ _ _ _ _ _ _ _ _ _ _ _ _ _ _ _ _ _ _ _ _ _ _ _ _ _ _ _ _ _ _ _ _ _ _ _ _ _ _ _ _ _ _ _ _ _ _ _ _ _ _ _ _ _ _ _ _ _ _ _ _ _ _ _ _ _ _ _ _ _ _ _ _ _ _ _ _ _ _ _ _ _ _ _ _ _ _ _ _ _ _ _ _ _ _ _ _ _ _ _ _ _ _ _ _ _ _ _ _ _ _ _ _ _ _ _ _ _ _ _ _ _ _ _ _ _ _ _ _ _ _ _ _ _ _ _ _ _ _ _ _ _ _ _ _ _ _ _ _ _ _ _ _ _ _ _ _ _ _ _ _ _ _ _ _ _ _ _ _ _ _ _ _ _ _ _ _ _ _ _ _ _ _ _ _ _ _ _ _ _ _ _ _ _ _ _ _ _ _ _ _ _ _ _ _ _ _ _ _ _ _ _ _ _ _ _ _ _ _ _ _ _ _ _ _ _ _ _ _ _ _ _ _ _ _ _ _ _ _ _ _ _ _ _ _ _ _ _ _ _ _ _ ?_
  intro x6 x7 x9 x17 t18 t111 t112 t113 t114 t115 t116 t117 t118 t119 t120 t121 t122 t123 t124 t125 t126 t127 t128 t129 t130 t131 t132 t133 t134 t135 t136 t137 t138 t139 t140 t141 t142 t143 t144 t145 t146 t147 t148 t149 t150 t151 t152 t153 t154 t155 t156 t157 t158 t159 t160 t161 t162 t163 t164 t165 t166 t167 t168 t169 t170 t171 t172 t173 t174 t175 t176 wd hW
  obtain ⟨U', A6', c6', A7', c7', rfl, rfl, rfl, rfl, hP', kX', hE'⟩ := hW
  clear hP kX hEa
  obtain ⟨φ, ρ, hD, hsub, hgo⟩ := hP'.mon_sub
  obtain ⟨o1, hB14, hS, rG⟩ := kX'.self
  have hf := feed_anyd wd base g φ ρ s hD (n : Int) (k16 : Int) B P Q AD 32 d 64 d1 4 d2 (n - f) (c3 - f) R PS QS (LA.drop f) ((kX'.sub hsub).imp (fun w' h => h.2.2.1.1)) ((kX'.sub hsub).imp (fun w' h => h.2.2.1.2.1)) ((kX'.sub hsub).imp (fun w' h => h.2.2.1.2.2)) ((kX'.sub hsub).imp (fun w' h => h.2.2.2)) (fun _ => hgs) (by omega)
  obtain ⟨q1, q2, q3⟩ := feedS_keep s (n : Int) R (k16 : Int) PS QS (LA.drop f)
  have hokt : okS (feedS s (n : Int) R (k16 : Int) PS QS (LA.drop f)) := feedS_ok hok
  obtain ⟨r, hr⟩ : ∃ r, r = feedE s (n : Int) R (k16 : Int) PS QS (LA.drop f) := ⟨_, rfl⟩
  obtain ⟨t, ht⟩ : ∃ t, t = feedS s (n : Int) R (k16 : Int) PS QS (LA.drop f) := ⟨_, rfl⟩
  rw [← hr, ← ht] at hf
  rw [← ht] at hP' hgo q1 q2 q3 hokt ⊢
  rw [← hr]
  have Hf := Lib.hid hf
  have Hlog := Lib.hid (q1.trans hlog)
  have Q3 := Lib.hid q3
  clear hf hr ht q1 q3 hS rG o1 hD
  have y0 := hB14.cell (i := 0) (v := .int .i64 (n : Int)) rfl
  have y1 := hB14.cell (i := 1) (v := .slice B 32 d) rfl
  have y2 := hB14.cell (i := 2) (v := .int .i64 (k16 : Int)) rfl
  have y3 := hB14.cell (i := 3) (v := .slice P 64 d1) rfl
  have y4 := hB14.cell (i := 4) (v := .slice Q 4 d2) rfl
  go_wp2_with fail
  refine Hf.out.mono ?_
  clear Hf y0 y1 y2 y3 y4
  rintro e we ⟨rfl, _, φ', ρ', hM', u5, h5, h5'⟩
  obtain ⟨U2, hP2, u6, h6⟩ := hgo we φ' ρ' _ hM' u5 h5 h5'
  have kX2 := kX'.move u6 h6
  have hE2 := Upd.ext hE' u6 (fun k hk => Nat.le_trans hb0 (hP'.lt hk).1)
  clear u5 h5 h5' u6 h6 hP' kX' hE' hgo hsub hM' hB14
  go_wp2_with fail
  have hti : t.its.length ≤ 24 ∧ ∀ a ∈ t.its, a.length ≤ 1000000 := by
    rcases Q3.out with e | ⟨e, hl⟩
    · rw [e]
      exact ⟨hits, hsm⟩
    · rw [e]
      exact ⟨by rw [List.length_append]; omega, fun a ha => (List.mem_append.1 ha).elim (hsm a) (hgs a)⟩
  exact ⟨U2, t, A6', c6', A7', c7', rfl, rfl, rfl, hP2, hokt, Hlog.out, by omega, hti.1, hti.2, kX2.imp (fun w' h => h.1), hE2⟩
end Go.Proofs.YtkndgpjamijbbaaGreat
namespace Go.Proofs.YtkndgpjamijbbaaGreat
set_option maxRecDepth 1000000
open Go Go.RowKit
noncomputable def plRc : Code := cAt [true, true, true, true, true, true, true, true, false, true, false, false, true, false, false, true, true, true, true, true, true] (Tryz.f6.body.getD .skip)
set_option maxHeartbeats 64000000 in
theorem plR_any (w0 : World) (base g g8 bo g1 m c1 p q : Nat) (S : List UInt8) (ad : Addr) (U : Nat → Prop) (s : MSt) (A6 A7 : Option Addr) (c6 c7 : Nat) (wr : World)
    (hP : Pl wr base U g g8 s s A6 c6 A7 c7) (hok : okS s) (hlog : s.log = ownP S) (hal : s.al.length ≤ q) (hq : q ≤ 100000) (hits : s.its.length ≤ 24) (hsm : ∀ a ∈ s.its, a.length ≤ 1000000) (kO : Keep U (fun w => OwnR w bo g1 S) wr) (hEa : Ext w0 wr)
    (z1 z2 z5 z11 z12 z13 z14 z15 z16 z17 z18 z19 z20 z21 z22 z23 z24 z25 z26 z27 z28 z29 z30 z31 z32 z33 z34 z35 z36 z37 z38 z39 z40 z41 z42 z43 z44 z45 z46 z47 z48 z49 z50 z51 z52 z53 z54 z55 z56 z57 z58 z59 z60 z61 z62 z63 z64 z65 z66 z67 z68 z69 z70 z71 z72 z73 z74 z75 z76 z77 z78 z79 z80 z81 z82 z83 z84 z85 z86 z87 z88 z89 z90 z91 z92 z93 z94 z95 z96 z97 z98 z99 z100 z101 z102 z103 z104 z105 z106 z107 z108 z109 z110 z111 z112 z113 z114 z115 z116 z117 z118 z119 z120 z121 z122 z123 z124 z125 z126 z127 z128 z129 z130 z131 z132 z133 z134 z135 z136 z137 z138 z139 z140 z141 z142 z143 z144 z145 z146 z147 z148 z149 z150 z151 z152 z153 z154 z155 z156 z157 z158 z159 z160 z161 z162 z163 z164 z165 z166 z167 z168 z169 z170 z171 z172 z173 z174 z175 z176 z177 z178 z179 z180 z181 z182 z183 z184 z185 z186 z187 z188 z189 z190 z191 z192 z193 z194 z195 z196 z197 z198 z199 z200 z201 z202 z203 z204 z205 z206 z207 z208 z209 z210 z211 z212 z213 z214 z215 z216 z217 z218 z219 z220 z221 z222 z223 z224 z225 z226 z227 z228 z229 z230 z231 z232 z233 z234 z235 z236 z237 z238 z239 z240 z241 z242 z243 z244 z245 z246 z247 z248 z249 z250 z251 z252 z253 z254 z255 z256 z257 z258 z259 z260 z261 z262 z263 z264 z265 z266 z267 z268 z269 z270 z271 z272 z273 z274 z275 z276 : Value) (K : Exit → Act → World → Prop)
    (hQ : ∀ (v2 v24 v25 v239 v240 v241 v242 v243 v244 v245 v246 v247 v248 v249 v250 v251 v252 v253 v254 v255 v256 v257 v258 v259 v260 v261 v262 v263 v264 v265 v266 v267 v268 v269 v270 v271 v272 v273 v274 v275 v276 : Value) (w' : World), PlB w0 base g g8 bo g1 S q (.slice A6 s.its.length c6) (.slice A7 s.al.length c7) (.bool s.has) w' → K .normal ⟨#[.slice (some ad) m c1, z1, v2, .pointer (some ⟨g1, 0, none⟩), .pointer (some ⟨g, 0, none⟩), z5, .slice A6 s.its.length c6, .slice A7 s.al.length c7, .pointer (some ⟨g8, 0, none⟩), .bool s.has, .int .i64 (p : Int), z11, z12, z13, z14, z15, z16, z17, z18, z19, z20, z21, z22, z23, v24, v25, z26, z27, z28, z29, z30, z31, z32, z33, z34, z35, z36, z37, z38, z39, z40, z41, z42, z43, z44, z45, z46, z47, z48, z49, z50, z51, z52, z53, z54, z55, z56, z57, z58, z59, z60, z61, z62, z63, z64, z65, z66, z67, z68, z69, z70, z71, z72, z73, z74, z75, z76, z77, z78, z79, z80, z81, z82, z83, z84, z85, z86, z87, z88, z89, z90, z91, z92, z93, z94, z95, z96, z97, z98, z99, z100, z101, z102, z103, z104, z105, z106, z107, z108, z109, z110, z111, z112, z113, z114, z115, z116, z117, z118, z119, z120, z121, z122, z123, z124, z125, z126, z127, z128, z129, z130, z131, z132, z133, z134, z135, z136, z137, z138, z139, z140, z141, z142, z143, z144, z145, z146, z147, z148, z149, z150, z151, z152, z153, z154, z155, z156, z157, z158, z159, z160, z161, z162, z163, z164, z165, z166, z167, z168, z169, z170, z171, z172, z173, z174, z175, z176, z177, z178, z179, z180, z181, z182, z183, z184, z185, z186, z187, z188, z189, z190, z191, z192, z193, z194, z195, z196, z197, z198, z199, z200, z201, z202, z203, z204, z205, z206, z207, z208, z209, z210, z211, z212, z213, z214, z215, z216, z217, z218, z219, z220, z221, z222, z223, z224, z225, z226, z227, z228, z229, z230, z231, z232, z233, z234, z235, z236, z237, z238, v239, v240, v241, v242, v243, v244, v245, v246, v247, v248, v249, v250, v251, v252, v253, v254, v255, v256, v257, v258, v259, v260, v261, v262, v263, v264, v265, v266, v267, v268, v269, v270, v271, v272, v273, v274, v275, v276], []⟩ w') :
    plRc.wp Tryz.prog K ⟨#[.slice (some ad) m c1, z1, z2, .pointer (some ⟨g1, 0, none⟩), .pointer (some ⟨g, 0, none⟩), z5, .slice A6 s.its.length c6, .slice A7 s.al.length c7, .pointer (some ⟨g8, 0, none⟩), .bool s.has, .int .i64 (p : Int), z11, z12, z13, z14, z15, z16, z17, z18, z19, z20, z21, z22, z23, z24, z25, z26, z27, z28, z29, z30, z31, z32, z33, z34, z35, z36, z37, z38, z39, z40, z41, z42, z43, z44, z45, z46, z47, z48, z49, z50, z51, z52, z53, z54, z55, z56, z57, z58, z59, z60, z61, z62, z63, z64, z65, z66, z67, z68, z69, z70, z71, z72, z73, z74, z75, z76, z77, z78, z79, z80, z81, z82, z83, z84, z85, z86, z87, z88, z89, z90, z91, z92, z93, z94, z95, z96, z97, z98, z99, z100, z101, z102, z103, z104, z105, z106, z107, z108, z109, z110, z111, z112, z113, z114, z115, z116, z117, z118, z119, z120, z121, z122, z123, z124, z125, z126, z127, z128, z129, z130, z131, z132, z133, z134, z135, z136, z137, z138, z139, z140, z141, z142, z143, z144, z145, z146, z147, z148, z149, z150, z151, z152, z153, z154, z155, z156, z157, z158, z159, z160, z161, z162, z163, z164, z165, z166, z167, z168, z169, z170, z171, z172, z173, z174, z175, z176, z177, z178, z179, z180, z181, z182, z183, z184, z185, z186, z187, z188, z189, z190, z191, z192, z193, z194, z195, z196, z197, z198, z199, z200, z201, z202, z203, z204, z205, z206, z207, z208, z209, z210, z211, z212, z213, z214, z215, z216, z217, z218, z219, z220, z221, z222, z223, z224, z225, z226, z227, z228, z229, z230, z231, z232, z233, z234, z235, z236, z237, z238, z239, z240, z241, z242, z243, z244, z245, z246, z247, z248, z249, z250, z251, z252, z253, z254, z255, z256, z257, z258, z259, z260, z261, z262, z263, z264, z265, z266, z267, z268, z269, z270, z271, z272, z273, z274, z275, z276], []⟩ wr := by
  conv => arg 2; whnf
  obtain ⟨φ, hM⟩ := hP.mon
  have hl := mlast_any wr _ g φ s hM hok
  have Hl := Lib.hid hl
  clear hl
  go_wp2_with fail
  refine Hl.out.mono ?_
  rintro e wg ⟨B5, P5, Q5, nb, d5, np, cp, nq, cq, rfl, rB5, rP5, rQ5, hE⟩
  replace hP := hP.ext hE
  replace kO := kO.ext hE
  replace hM := hM.ext hE
  replace hEa := hEa.trans hE
  clear hE Hl
  have hE24 := Ext.new wg (.cells #[.int .i64 s.lx, .slice B5 nb d5, .int .i64 s.li, .slice P5 np cp, .slice Q5 nq cq] 40)
  have hB24 := Blk.new wg 40 #[.int .i64 s.lx, .slice B5 nb d5, .int .i64 s.li, .slice P5 np cp, .slice Q5 nq cq]
  go_upto_region 57 with (fail)
  replace hP := hP.ext hE24
  replace kO := kO.ext hE24
  replace hM := hM.ext hE24
  replace rB5 := rB5.ext hE24
  replace rP5 := rP5.ext hE24
  replace rQ5 := rQ5.ext hE24
  replace hEa := hEa.trans hE24
  generalize wg.alloc (.cells #[.int .i64 s.lx, .slice B5 nb d5, .int .i64 s.li, .slice P5 np cp, .slice Q5 nq cq] 40) = wh5 at *
  obtain ⟨g24, hg24⟩ : ∃ g24, g24 = wg.heap.size := ⟨_, rfl⟩
  rw [← hg24] at hB24 ⊢
  clear hg24 hE24
  obtain ⟨B6, P6, Q6, nb6, d6, np6, cp6, nq6, cq6, hB8, k8⟩ := hP.lst
  obtain ⟨rB6, rP6, rQ6⟩ := k8.self
  have hsz := msize_any wh5 _ g φ s hM
  have Hsz := Lib.hid hsz
  clear hsz k8
  have z0 := hB24.cell (i := 0) (v := .int .i64 s.lx) rfl
  have z1 := hB24.cell (i := 1) (v := .slice B5 nb d5) rfl
  have z2 := hB24.cell (i := 2) (v := .int .i64 s.li) rfl
  have z3 := hB24.cell (i := 3) (v := .slice P5 np cp) rfl
  have z4 := hB24.cell (i := 4) (v := .slice Q5 nq cq) rfl
  have v0 := hB8.cell (i := 0) (v := .int .i64 s.lx) rfl
  have v1 := hB8.cell (i := 1) (v := .slice B6 nb6 d6) rfl
  have v2 := hB8.cell (i := 2) (v := .int .i64 s.li) rfl
  have v3 := hB8.cell (i := 3) (v := .slice P6 np6 cp6) rfl
  have v4 := hB8.cell (i := 4) (v := .slice Q6 nq6 cq6) rfl
  go_wp2_with fail
  refine Hsz.out.mono ?_
  rintro e w' ⟨rfl, he⟩
  obtain rfl := he.symm
  clear Hsz
  have hcs := rcsame_any s.lx s.lx B5 B6 nb d5 nb6 d6 _ _ wh5 rB5 rB6
  rw [decide_eq_true rfl, decide_eq_true rfl] at hcs
  have Hcs := Lib.hid hcs
  clear hcs
  go_wp2_with fail
  refine Hcs.out.mono ?_
  rintro e wi ⟨rfl, hE⟩
  replace hP := hP.ext hE
  replace kO := kO.ext hE
  replace hM := hM.ext hE
  replace rP5 := rP5.ext hE
  replace rQ5 := rQ5.ext hE
  replace rP6 := rP6.ext hE
  replace rQ6 := rQ6.ext hE
  replace hB24 := hB24.ext hE
  replace hB8 := hB8.ext hE
  replace hEa := hEa.trans hE
  clear hE Hcs z0 z1 z2 z3 z4 v0 v1 v2 v3 v4
  have z2 := hB24.cell (i := 2) (v := .int .i64 s.li) rfl
  have z3 := hB24.cell (i := 3) (v := .slice P5 np cp) rfl
  have z4 := hB24.cell (i := 4) (v := .slice Q5 nq cq) rfl
  have v2 := hB8.cell (i := 2) (v := .int .i64 s.li) rfl
  have v3 := hB8.cell (i := 3) (v := .slice P6 np6 cp6) rfl
  have v4 := hB8.cell (i := 4) (v := .slice Q6 nq6 cq6) rfl
  have hss := rsame_true s.li P5 Q5 P6 Q6 np cp nq cq np6 cp6 nq6 cq6 _ _ wi rP5 rQ5 rP6 rQ6
  have Hss := Lib.hid hss
  clear hss
  go_wp2_with fail
  refine Hss.out.mono ?_
  rintro e wj ⟨rfl, hE⟩
  replace hP := hP.ext hE
  replace kO := kO.ext hE
  replace hM := hM.ext hE
  replace hEa := hEa.trans hE
  clear hE Hss z2 z3 z4 v2 v3 v4 hB24 hB8 rP5 rQ5 rP6 rQ6 rB5 rB6
  have hl1 := malarms_any wj _ g φ s hM (by omega)
  have Hl1 := Lib.hid hl1
  clear hl1
  go_wp2_with fail
  refine Hl1.out.mono ?_
  rintro e wk ⟨D1, d1', rfl, own1, hE⟩
  have rd1 := own1.ral
  replace hP := hP.ext hE
  replace kO := kO.ext hE
  replace hM := hM.ext hE
  replace hEa := hEa.trans hE
  clear hE own1 Hl1
  have hsm2 := samea_any _ _ _ _ _ _ _ _ wk rd1 hP.als.ral
  rw [decide_eq_true rfl] at hsm2
  have Hsm := Lib.hid hsm2
  clear hsm2
  go_wp2_with fail
  refine Hsm.out.mono ?_
  rintro e wl ⟨rfl, hE⟩
  replace hP := hP.ext hE
  replace kO := kO.ext hE
  replace hEa := hEa.trans hE
  clear hE Hsm rd1 hM
  go_wp2_with fail
  exact ⟨U, s, A6, c6, A7, c7, rfl, rfl, rfl, hP, hok, hlog, hal, hits, hsm, kO, hEa⟩
end Go.Proofs.YtkndgpjamijbbaaGreat
