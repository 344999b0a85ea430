/-
  law22's play: what the document wants of a feeding.
-/
import Derived.Test.YtkndgpjamijbbaaGreatLawNumbers22Q37
import Derived.Deep.CutBlock
namespace Go.Proofs.YtkndgpjamijbbaaGreat
set_option maxRecDepth 1000000
open Go Go.RowKit
def WantR (w0 : World) (base g g8 : Nat) (s : MSt) (r : Int) (t : MSt) (X : World → Prop) (x6 x7 x9 x17 : Value) (w' : World) : Prop :=
  ∃ (U' : Nat → Prop) (A6' : Option Addr) (c6' : Nat) (A7' : Option Addr) (c7' : Nat), x17 = .int .i64 r ∧ x6 = .slice A6' t.its.length c6' ∧ x7 = .slice A7' t.al.length c7' ∧ x9 = .bool t.has ∧ Pl w' base U' g g8 s t A6' c6' A7' c7' ∧ Keep U' X w' ∧ Ext w0 w'
/-- the document's account takes a feeding in -/
theorem Pl.last {w : World} {base g g8 : Nat} {U : Nat → Prop} {s t : MSt} {A6 A6' A7 : Option Addr} {c6 c6' c7 : Nat} (h : Pl w base U g g8 s t A6 c6 A7 c7) (its : List (List UInt8)) (x i : Int) (R : List UInt8) (Ps Qs : List (List UInt8)) (B P Q : Option Addr) (nb d np cp nq cq : Nat)
    (kI : Keep U (fun w => RBB w A6' its.length c6' its) w) (kS : Keep U (fun w => RB w B nb d R ∧ RBB w P np cp Ps ∧ RBB w Q nq cq Qs) w) :
    PlP w base U g g8 s { t with its := its, lx := x, lr := R, li := i, lp := Ps, lq := Qs, has := true } A6' c6' A7 c7 (((((w.setCell ⟨g8, 0, none⟩ (.int .i64 x)).setCell ⟨g8, 1, none⟩ (.slice B nb d)).setCell ⟨g8, 2, none⟩ (.int .i64 i)).setCell ⟨g8, 3, none⟩ (.slice P np cp)).setCell ⟨g8, 4, none⟩ (.slice Q nq cq)) := by
  have st : ∀ (w : World) (j : Nat) (v : Value), Upd (fun k => k = g8) w (w.setCell ⟨g8, j, none⟩ v) := fun w j v => Upd.of_grown (grown_set w ⟨g8, j, none⟩ v) (fun k hk => (Option.some.inj hk).symm)
  have u8 := ((((st w 0 (.int .i64 x)).trans (st _ 1 (.slice B nb d))).trans (st _ 2 (.int .i64 i))).trans (st _ 3 (.slice P np cp))).trans (st _ 4 (.slice Q nq cq))
  obtain ⟨⟨φ, ρ, rfl, h2, h3⟩, h4, ⟨B0, P0, Q0, nb0, d0, np0, cp0, nq0, cq0, h5, h6⟩, h7, h8⟩ := h
  have hb := setall5 h5 (.int .i64 x) (.slice B nb d) (.int .i64 i) (.slice P np cp) (.slice Q nq cq)
  have hg8 : ¬ φ g8 := fun hp => by
    obtain ⟨G, I, V, Al, R, P', Q', cg, ci, cv, ca, nr, cr, np', cp', nq', cq', vs, rfl, _, hA⟩ := h2
    rcases hp with hp | hp | hp
    · exact (hp ▸ h5).ne_ hA.blk (by decide) rfl
    · exact hA.row.ne_blk h5 (by decide) hp
    · exact hA.als.ne_blk h5 (by decide) hp
  have hN : NoB (fun k => k = g8) w := fun k hk => by
    subst hk
    exact ⟨_, _, h5, sg_no8 _ _ _ _ _ _ _ _ _ _ _⟩
  have uU : Upd (plU φ A7 g8) w _ := u8.mono (fun k _ h => .inr (.inr h))
  exact ⟨plU φ A7 g8, ⟨⟨φ, ρ, rfl, (h2.keepD hN (fun k hk e => hg8 (e ▸ hk)) h3.2).at_ u8, h3⟩, h4.upd u8 (fun k hk e => h4.ne_blk h5 (by decide) (e ▸ hk)), ⟨B, P, Q, nb, d, np, cp, nq, cq, hb, kS.step uU⟩, kI.step uU, h8⟩, uU, fun _ _ h => h⟩
noncomputable def plWc : Code := cAt [true, true, true, true, true, true, true, true, false, true, false, false, true, false, false, true, true, true, true, true, false, true, false, true, false, true, true, true, true, true, true, false] (Tryz.f6.body.getD .skip)
set_option maxHeartbeats 64000000 in
theorem plW_any (w0 : World) (base g g8 bo g1 m c1 p n f c3 k16 wb : Nat) (S : List UInt8) (ad : Addr) (U : Nat → Prop) (s : MSt) (A3 A6 A7 AD : Option Addr) (c6 c7 : Nat) (wr : World) (g14 : Nat) (B P Q : Option Addr) (d d1 d2 : Nat) (R : List UInt8) (PS QS give : List (List UInt8))
    (hb0 : w0.heap.size ≤ base) (hP : Pl wr base U g g8 s s A6 c6 A7 c7) (hlog : s.log = ownP S) (hal : s.al.length ≤ p) (hp14 : p < 14) (hits : s.its.length ≤ 24) (hsm : ∀ a ∈ s.its, a.length ≤ 1000000) (hn : n ≤ 24) (hf : f ≤ n) (hgsm : ∀ a ∈ give, a.length ≤ 1000000)
    (kX : Keep U (fun w => OwnR w bo g1 S ∧ Blk w g14 40 #[.int .i64 (n : Int), .slice B 32 d, .int .i64 (k16 : Int), .slice P 64 d1, .slice Q 4 d2] ∧ (RB w B 32 d R ∧ RBB w P 64 d1 PS ∧ RBB w Q 4 d2 QS) ∧ RBB w AD (n - f) (c3 - f) give) wr) (hEa : Ext w0 wr)
    (z1 z2 z5 z12 z18 z19 z20 z21 z22 z23 z24 z25 z26 z27 z28 z29 z30 z31 z32 z33 z34 z35 z36 z37 z38 z39 z40 z41 z42 z43 z44 z45 z46 z47 z48 z49 z50 z51 z52 z53 z54 z55 z56 z57 z58 z59 z60 z61 z62 z63 z64 z65 z66 z67 z68 z69 z70 z71 z72 z73 z74 z75 z76 z77 z78 z79 z80 z81 z82 z83 z84 z85 z86 z87 z88 z89 z90 z91 z92 z93 z94 z95 z96 z97 z98 z99 z100 z101 z102 z103 z104 z105 z106 z107 z108 z109 z110 z111 z112 z113 z114 z115 z116 z117 z118 z119 z120 z121 z122 z123 z124 z125 z126 z127 z128 z129 z130 z131 z132 z133 z134 z135 z136 z137 z138 z139 z140 z141 z142 z143 z144 z145 z146 z147 z148 z149 z150 z151 z152 z153 z154 z155 z156 z157 z158 z159 z160 z161 z162 z163 z164 z165 z166 z167 z168 z169 z170 z171 z172 z173 z174 z175 z176 z177 z178 z179 z180 z181 z182 z183 z184 z185 z186 z187 z188 z189 z190 z191 z192 z193 z194 z195 z196 z197 z198 z199 z200 z201 z202 z203 z204 z205 z206 z207 z208 z209 z210 z211 z212 z213 z214 z215 z216 z217 z218 z219 z220 z221 z222 z223 z224 z225 z226 z227 z228 z229 z230 z231 z232 z233 z234 z235 z236 z237 z238 z239 z240 z241 z242 z243 z244 z245 z246 z247 z248 z249 z250 z251 z252 z253 z254 z255 z256 z257 z258 z259 z260 z261 z262 z263 z264 z265 z266 z267 z268 z269 z270 z271 z272 z273 z274 z275 z276 : Value) (K : Exit → Act → World → Prop)
    (hQ : ∀ (x6 x7 x9 x17 : Value) (v18 v111 v112 v113 v114 v115 v116 v117 v118 v119 v120 v121 v122 v123 v124 v125 v126 v127 v128 v129 v130 v131 v132 v133 v134 v135 v136 v137 v138 v139 v140 v141 v142 v143 v144 v145 v146 v147 v148 v149 v150 v151 v152 v153 v154 v155 v156 v157 v158 v159 v160 v161 v162 v163 v164 v165 v166 v167 v168 v169 v170 v171 v172 v173 v174 v175 v176 : Value) (w' : World), WantR w0 base g g8 s (feedE s n R k16 PS QS give) (feedS s n R k16 PS QS give) (fun w => OwnR w bo g1 S ∧ Blk w g14 40 #[.int .i64 (n : Int), .slice B 32 d, .int .i64 (k16 : Int), .slice P 64 d1, .slice Q 4 d2] ∧ (RB w B 32 d R ∧ RBB w P 64 d1 PS ∧ RBB w Q 4 d2 QS) ∧ RBB w AD (n - f) (c3 - f) give) x6 x7 x9 x17 w' → K .normal ⟨#[.slice (some ad) m c1, z1, z2, .pointer (some ⟨g1, 0, none⟩), .pointer (some ⟨g, 0, none⟩), z5, x6, x7, .pointer (some ⟨g8, 0, none⟩), x9, .int .i64 (p : Int), .int .i64 (n : Int), z12, .slice A3 n c3, .pointer (some ⟨g14, 0, none⟩), .int .i64 (f : Int), .slice AD (n - f) (c3 - f), x17, v18, z19, z20, z21, z22, z23, z24, z25, z26, z27, z28, z29, z30, z31, z32, z33, z34, z35, z36, z37, z38, z39, z40, z41, z42, z43, z44, z45, z46, z47, z48, z49, z50, z51, z52, z53, z54, z55, z56, z57, z58, z59, z60, z61, z62, z63, z64, z65, z66, z67, z68, z69, z70, z71, z72, z73, z74, z75, z76, z77, z78, z79, z80, z81, z82, z83, z84, z85, z86, z87, z88, z89, z90, z91, z92, z93, z94, z95, z96, z97, z98, z99, z100, z101, z102, z103, z104, z105, z106, z107, z108, z109, z110, v111, v112, v113, v114, v115, v116, v117, v118, v119, v120, v121, v122, v123, v124, v125, v126, v127, v128, v129, v130, v131, v132, v133, v134, v135, v136, v137, v138, v139, v140, v141, v142, v143, v144, v145, v146, v147, v148, v149, v150, v151, v152, v153, v154, v155, v156, v157, v158, v159, v160, v161, v162, v163, v164, v165, v166, v167, v168, v169, v170, v171, v172, v173, v174, v175, v176, z177, z178, z179, z180, z181, z182, z183, z184, z185, z186, z187, z188, z189, z190, z191, z192, z193, z194, z195, z196, z197, z198, z199, z200, z201, z202, z203, z204, z205, z206, z207, z208, z209, z210, z211, z212, z213, z214, z215, z216, z217, z218, z219, z220, z221, z222, z223, z224, z225, z226, z227, z228, z229, z230, z231, z232, z233, z234, z235, z236, z237, z238, z239, z240, z241, z242, z243, z244, z245, z246, z247, z248, z249, z250, z251, z252, z253, z254, z255, z256, z257, z258, z259, z260, z261, z262, z263, z264, z265, z266, z267, z268, z269, z270, z271, z272, z273, z274, z275, z276], []⟩ w') :
    plWc.wp Tryz.prog K ⟨#[.slice (some ad) m c1, z1, z2, .pointer (some ⟨g1, 0, none⟩), .pointer (some ⟨g, 0, none⟩), z5, .slice A6 s.its.length c6, .slice A7 s.al.length c7, .pointer (some ⟨g8, 0, none⟩), .bool s.has, .int .i64 (p : Int), .int .i64 (n : Int), z12, .slice A3 n c3, .pointer (some ⟨g14, 0, none⟩), .int .i64 (f : Int), .slice AD (n - f) (c3 - f), .int .i64 0, z18, z19, z20, z21, z22, z23, z24, z25, z26, z27, z28, z29, z30, z31, z32, z33, z34, z35, z36, z37, z38, z39, z40, z41, z42, z43, z44, z45, z46, z47, z48, z49, z50, z51, z52, z53, z54, z55, z56, z57, z58, z59, z60, z61, z62, z63, z64, z65, z66, z67, z68, z69, z70, z71, z72, z73, z74, z75, z76, z77, z78, z79, z80, z81, z82, z83, z84, z85, z86, z87, z88, z89, z90, z91, z92, z93, z94, z95, z96, z97, z98, z99, z100, z101, z102, z103, z104, z105, z106, z107, z108, z109, z110, z111, z112, z113, z114, z115, z116, z117, z118, z119, z120, z121, z122, z123, z124, z125, z126, z127, z128, z129, z130, z131, z132, z133, z134, z135, z136, z137, z138, z139, z140, z141, z142, z143, z144, z145, z146, z147, z148, z149, z150, z151, z152, z153, z154, z155, z156, z157, z158, z159, z160, z161, z162, z163, z164, z165, z166, z167, z168, z169, z170, z171, z172, z173, z174, z175, z176, z177, z178, z179, z180, z181, z182, z183, z184, z185, z186, z187, z188, z189, z190, z191, z192, z193, z194, z195, z196, z197, z198, z199, z200, z201, z202, z203, z204, z205, z206, z207, z208, z209, z210, z211, z212, z213, z214, z215, z216, z217, z218, z219, z220, z221, z222, z223, z224, z225, z226, z227, z228, z229, z230, z231, z232, z233, z234, z235, z236, z237, z238, z239, z240, z241, z242, z243, z244, z245, z246, z247, z248, z249, z250, z251, z252, z253, z254, z255, z256, z257, z258, z259, z260, z261, z262, z263, z264, z265, z266, z267, z268, z269, z270, z271, z272, z273, z274, z275, z276], []⟩ wr := by
  conv => arg 2; whnf
  obtain ⟨o1, hB14, ⟨rR, rP, rQ⟩, rG⟩ := kX.self
  go_upto_region 31 with (fail)
  cases hcv : cverB (ownP S) (n : Int) R (k16 : Int) PS QS with
  | false =>
    have Hr := Lib.hid (feed_30 (s := s) (its := give) (by rw [hlog]; exact hcv))
    refine par_ext (n := 6) (by kernel_rfl) [.is (.pointer (some ⟨g1, 0, none⟩)), .rk (32) (ownP S), .is (.agg #[.int .i64 ((n : Int)), .slice (B) (32) (d), .int .i64 ((k16 : Int)), .slice (P) (64) (d1), .slice (Q) (4) (d2)]), .is (.bool (false)), .is (.bool (true)), .is (.bool (true))] rfl ⟨?_, ?_, ?_, ?_, ?_, ?_, trivial⟩ ?_
    · refine stepE rfl fun sdn sa sw sE sd sk => ?_
      have h3 : sa.eval (.tmp 3) = .pointer (some ⟨g1, 0, none⟩) := sk.old 3 rfl
      exact Runs.move rfl h3 ⟨Ext.refl _, rfl⟩
    · refine stepE rfl fun sdn sa sw sE sd sk => ?_
      have h112 : sa.eval (.tmp 112) = .pointer (some ⟨g1, 0, none⟩) := sk.fact 0 112 rfl (sd 0 rfl)
      refine Runs.call (f := 11) (vs := [.pointer (some ⟨g1, 0, none⟩)]) rfl rfl rfl (by simp only [List.map_toArray, List.map_cons, List.map_nil, h112] <;> rfl) (ent11 _ _) ((rpublic_any _ _ _ sw (o1.ext sE)).mono ?_); rintro e w' ⟨A', c', rfl, own, hx⟩; exact ⟨_, rfl, hx, A', c', rfl, own⟩
    · refine stepE rfl fun sdn sa sw sE sd sk => ?_
      have h14 : sa.eval (.tmp 14) = .pointer (some ⟨g14, 0, none⟩) := sk.old 14 rfl
      exact Runs.load rfl h14 (load_part (hB14.ext sE) 0 (vs := [.int .i64 ((n : Int)), .slice (B) (32) (d), .int .i64 ((k16 : Int)), .slice (P) (64) (d1), .slice (Q) (4) (d2)]) rfl Tryz.underlying40 rfl (by kernel_rfl)) ⟨Ext.refl _, rfl⟩
    · refine stepE rfl fun sdn sa sw sE sd sk => ?_
      obtain ⟨A113, c113, h113, r113⟩ := sk.fact 1 113 rfl (sd 1 rfl)
      have h114 : sa.eval (.tmp 114) = .agg #[.int .i64 ((n : Int)), .slice (B) (32) (d), .int .i64 ((k16 : Int)), .slice (P) (64) (d1), .slice (Q) (4) (d2)] := sk.fact 2 114 rfl (sd 2 rfl)
      refine Runs.call (f := 15) (vs := [.slice (A113) (32) (c113), .agg #[.int .i64 ((n : Int)), .slice (B) (32) (d), .int .i64 ((k16 : Int)), .slice (P) (64) (d1), .slice (Q) (4) (d2)]]) rfl rfl rfl (by simp only [List.map_toArray, List.map_cons, List.map_nil, h113, h114] <;> rfl) (ent15 _ _) ((rcverify_any _ _ _ _ _ _ _ _ _ _ _ _ _ _ _ _ _ _ sw r113 (rR.ext sE) (rP.ext sE) (rQ.ext sE)).mono ?_); rintro e w' ⟨rfl, hx⟩; exact ⟨_, rfl, hx, congrArg Value.bool (hcv)⟩
    · refine stepE rfl fun sdn sa sw sE sd sk => ?_
      have h115 : sa.eval (.tmp 115) = .bool (false) := sk.fact 3 115 rfl (sd 3 rfl)
      exact Runs.un rfl h115 (by rfl) ⟨Ext.refl _, rfl⟩
    · refine stepE rfl fun sdn sa sw sE sd sk => ?_
      have h116 : sa.eval (.tmp 116) = .bool (true) := sk.fact 4 116 rfl (sd 4 rfl)
      exact Runs.assign rfl h116 ⟨Ext.refl _, rfl⟩
    intro vals W31 hE31 hv31
    have e0 : vals 0 = .pointer (some ⟨g1, 0, none⟩) := hv31 0 (by omega) 112 rfl
    obtain ⟨A113, c113, e1, r113⟩ := hv31 1 (by omega) 113 rfl
    have e2 : vals 2 = .agg #[.int .i64 ((n : Int)), .slice (B) (32) (d), .int .i64 ((k16 : Int)), .slice (P) (64) (d1), .slice (Q) (4) (d2)] := hv31 2 (by omega) 114 rfl
    have e3 : vals 3 = .bool (false) := hv31 3 (by omega) 115 rfl
    have e4 : vals 4 = .bool (true) := hv31 4 (by omega) 116 rfl
    have e5 : vals 5 = .bool (true) := hv31 5 (by omega) 111 rfl
    simp only [putAll, Act.put, List.take_succ_cons, List.take_zero, List.drop_succ_cons, List.drop_zero, List.drop_nil, List.take_nil, Nat.reduceAdd, List.setIfInBounds_toArray, List.set_cons_succ, List.set_cons_zero, e0, e1, e2, e3, e4, e5]
    clear hv31 e0 e1 e2 e3 e4 e5
    replace hP := hP.ext hE31
    replace kX := kX.ext hE31
    replace hEa := hEa.trans hE31
    go_wp2_with fail
    rw [Hr.out.1, Hr.out.2]
    exact ⟨U, A6, c6, A7, c7, rfl, rfl, rfl, rfl, hP, kX, hEa⟩
  | true =>
    have Hcv := Lib.hid (show cverB s.log (n : Int) R (k16 : Int) PS QS = true by rw [hlog]; exact hcv)
    refine par_ext (n := 6) (by kernel_rfl) [.is (.pointer (some ⟨g1, 0, none⟩)), .rk (32) (ownP S), .is (.agg #[.int .i64 ((n : Int)), .slice (B) (32) (d), .int .i64 ((k16 : Int)), .slice (P) (64) (d1), .slice (Q) (4) (d2)]), .is (.bool (true)), .is (.bool (false)), .is (.bool (false))] rfl ⟨?_, ?_, ?_, ?_, ?_, ?_, trivial⟩ ?_
    · refine stepE rfl fun sdn sa sw sE sd sk => ?_
      have h3 : sa.eval (.tmp 3) = .pointer (some ⟨g1, 0, none⟩) := sk.old 3 rfl
      exact Runs.move rfl h3 ⟨Ext.refl _, rfl⟩
    · refine stepE rfl fun sdn sa sw sE sd sk => ?_
      have h112 : sa.eval (.tmp 112) = .pointer (some ⟨g1, 0, none⟩) := sk.fact 0 112 rfl (sd 0 rfl)
      refine Runs.call (f := 11) (vs := [.pointer (some ⟨g1, 0, none⟩)]) rfl rfl rfl (by simp only [List.map_toArray, List.map_cons, List.map_nil, h112] <;> rfl) (ent11 _ _) ((rpublic_any _ _ _ sw (o1.ext sE)).mono ?_); rintro e w' ⟨A', c', rfl, own, hx⟩; exact ⟨_, rfl, hx, A', c', rfl, own⟩
    · refine stepE rfl fun sdn sa sw sE sd sk => ?_
      have h14 : sa.eval (.tmp 14) = .pointer (some ⟨g14, 0, none⟩) := sk.old 14 rfl
      exact Runs.load rfl h14 (load_part (hB14.ext sE) 0 (vs := [.int .i64 ((n : Int)), .slice (B) (32) (d), .int .i64 ((k16 : Int)), .slice (P) (64) (d1), .slice (Q) (4) (d2)]) rfl Tryz.underlying40 rfl (by kernel_rfl)) ⟨Ext.refl _, rfl⟩
    · refine stepE rfl fun sdn sa sw sE sd sk => ?_
      obtain ⟨A113, c113, h113, r113⟩ := sk.fact 1 113 rfl (sd 1 rfl)
      have h114 : sa.eval (.tmp 114) = .agg #[.int .i64 ((n : Int)), .slice (B) (32) (d), .int .i64 ((k16 : Int)), .slice (P) (64) (d1), .slice (Q) (4) (d2)] := sk.fact 2 114 rfl (sd 2 rfl)
      refine Runs.call (f := 15) (vs := [.slice (A113) (32) (c113), .agg #[.int .i64 ((n : Int)), .slice (B) (32) (d), .int .i64 ((k16 : Int)), .slice (P) (64) (d1), .slice (Q) (4) (d2)]]) rfl rfl rfl (by simp only [List.map_toArray, List.map_cons, List.map_nil, h113, h114] <;> rfl) (ent15 _ _) ((rcverify_any _ _ _ _ _ _ _ _ _ _ _ _ _ _ _ _ _ _ sw r113 (rR.ext sE) (rP.ext sE) (rQ.ext sE)).mono ?_); rintro e w' ⟨rfl, hx⟩; exact ⟨_, rfl, hx, congrArg Value.bool (hcv)⟩
    · refine stepE rfl fun sdn sa sw sE sd sk => ?_
      have h115 : sa.eval (.tmp 115) = .bool (true) := sk.fact 3 115 rfl (sd 3 rfl)
      exact Runs.un rfl h115 (by rfl) ⟨Ext.refl _, rfl⟩
    · refine stepE rfl fun sdn sa sw sE sd sk => ?_
      have h116 : sa.eval (.tmp 116) = .bool (false) := sk.fact 4 116 rfl (sd 4 rfl)
      exact Runs.assign rfl h116 ⟨Ext.refl _, rfl⟩
    intro vals W31 hE31 hv31
    have e0 : vals 0 = .pointer (some ⟨g1, 0, none⟩) := hv31 0 (by omega) 112 rfl
    obtain ⟨A113, c113, e1, r113⟩ := hv31 1 (by omega) 113 rfl
    have e2 : vals 2 = .agg #[.int .i64 ((n : Int)), .slice (B) (32) (d), .int .i64 ((k16 : Int)), .slice (P) (64) (d1), .slice (Q) (4) (d2)] := hv31 2 (by omega) 114 rfl
    have e3 : vals 3 = .bool (true) := hv31 3 (by omega) 115 rfl
    have e4 : vals 4 = .bool (false) := hv31 4 (by omega) 116 rfl
    have e5 : vals 5 = .bool (false) := hv31 5 (by omega) 111 rfl
    simp only [putAll, Act.put, List.take_succ_cons, List.take_zero, List.drop_succ_cons, List.drop_zero, List.drop_nil, List.take_nil, Nat.reduceAdd, List.setIfInBounds_toArray, List.set_cons_succ, List.set_cons_zero, e0, e1, e2, e3, e4, e5]
    clear hv31 e0 e1 e2 e3 e4 e5
    replace hP := hP.ext hE31
    replace kX := kX.ext hE31
    replace rR := rR.ext hE31
    replace rP := rP.ext hE31
    replace rQ := rQ.ext hE31
    replace rG := rG.ext hE31
    replace hB14 := hB14.ext hE31
    replace hEa := hEa.trans hE31
    clear hE31 o1 hcv
    have hGl := rG.len
    by_cases c1 : n ≤ s.its.length
    · have e1 : (n : Int) ≤ (s.its.length : Int) := by omega
      by_cases c2 : 0 < n - f
      · have e2 : (0 : Int) < ((n - f : Nat) : Int) := by omega
        have Hr := Lib.hid (feed_1 (s := s) (its := give) Hcv.out c1 (by omega))
        clear hGl
        go_wp2_with fail
        rw [Hr.out.1, Hr.out.2]
        exact ⟨U, A6, c6, A7, c7, rfl, rfl, rfl, rfl, hP, kX, hEa⟩
      · have e2 : ¬ (0 : Int) < ((n - f : Nat) : Int) := by omega
        have rH := hP.its.self
        have hroomH := rH.room
        have hcapH := rH.cap
        unfold maxLen at hcapH
        have rHn := rH.fst (k := n) c1
        have hsm2 : ∀ a ∈ s.its.take n, a.length ≤ 1000000 := fun a ha => hsm a (List.mem_of_mem_take ha)
        go_upto_region 35 with (fail)
        by_cases c3' : rootL ((s.its.map leafH).take n) = R
        · have Hr := Lib.hid (feed_0 (s := s) (its := give) Hcv.out c1 (by omega) c3')
          refine par_ext (n := 18) (by kernel_rfl) [.is (.int .i64 ((n : Int))), .is (.slice (A6) (s.its.length) (c6)), .is (.int .i64 ((s.its.length : Nat))), .is (.bool (true)), .is (.bool (true)), .is (.slice (A6) (s.its.length) (c6)), .is (.int .i64 ((n : Int))), .is (.slice (A6) (n) (c6)), .rws (n) ((s.its.take n).map leafH), .rk (32) (rootL ((s.its.take n).map leafH)), .is (.string (str (rootL ((s.its.take n).map leafH)))), .is (.pointer (some ⟨g14, 0, none⟩)), .is (.pointer (some ⟨g14, 1, none⟩)), .is (.slice (B) (32) (d)), .is (.string (str (R))), .is (.bool (false)), .is (.bool (false)), .is (.bool (false))] rfl ⟨?_, ?_, ?_, ?_, ?_, ?_, ?_, ?_, ?_, ?_, ?_, ?_, ?_, ?_, ?_, ?_, ?_, ?_, trivial⟩ ?_
          · refine stepE rfl fun sdn sa sw sE sd sk => ?_
            have h11 : sa.eval (.tmp 11) = .int .i64 ((n : Int)) := sk.old 11 rfl
            exact Runs.move rfl h11 ⟨Ext.refl _, rfl⟩
          · refine stepE rfl fun sdn sa sw sE sd sk => ?_
            have h6 : sa.eval (.tmp 6) = .slice (A6) (s.its.length) (c6) := sk.old 6 rfl
            exact Runs.move rfl h6 ⟨Ext.refl _, rfl⟩
          · refine stepE rfl fun sdn sa sw sE sd sk => ?_
            have h129 : sa.eval (.tmp 129) = .slice (A6) (s.its.length) (c6) := sk.fact 1 129 rfl (sd 1 rfl)
            exact Runs.len Tryz.underlying33 rfl h129 ⟨Ext.refl _, rfl⟩
          · refine stepE rfl fun sdn sa sw sE sd sk => ?_
            have h128 : sa.eval (.tmp 128) = .int .i64 ((n : Int)) := sk.fact 0 128 rfl (sd 0 rfl)
            have h130 : sa.eval (.tmp 130) = .int .i64 ((s.its.length : Nat)) := sk.fact 2 130 rfl (sd 2 rfl)
            exact Runs.bin rfl h128 h130 (by rfl) (bin_leq _ _ _ _) ⟨Ext.refl _, congrArg Value.bool (decide_eq_true e1)⟩
          · refine stepE rfl fun sdn sa sw sE sd sk => ?_
            have h131 : sa.eval (.tmp 131) = .bool (true) := sk.fact 3 131 rfl (sd 3 rfl)
            exact Runs.move rfl h131 ⟨Ext.refl _, rfl⟩
          · refine stepY (j := 4) (d := 132) (b := true) rfl rfl rfl (fun v w h => h) fun sdn sa sw sE sd sk => ?_
            have h6 : sa.eval (.tmp 6) = .slice (A6) (s.its.length) (c6) := sk.old 6 rfl
            exact Runs.move rfl h6 ⟨Ext.refl _, rfl⟩
          · refine stepY (j := 4) (d := 132) (b := true) rfl rfl rfl (fun v w h => h) fun sdn sa sw sE sd sk => ?_
            have h11 : sa.eval (.tmp 11) = .int .i64 ((n : Int)) := sk.old 11 rfl
            exact Runs.move rfl h11 ⟨Ext.refl _, rfl⟩
          · refine stepY (j := 4) (d := 132) (b := true) rfl rfl rfl (fun v w h => h) fun sdn sa sw sE sd sk => ?_
            have h133 : sa.eval (.tmp 133) = .slice (A6) (s.its.length) (c6) := sk.fact 5 133 rfl (sd 5 rfl)
            have h134 : sa.eval (.tmp 134) = .int .i64 ((n : Int)) := sk.fact 6 134 rfl (sd 6 rfl)
            exact Runs.slice rfl h133 (by simp only [Option.map_some, Option.map_none, h134]; exact run_cut_h Tryz.underlying33 infZZ_eq n (by first | rfl | omega) (by omega)) ⟨Ext.refl _, rfl⟩
          · refine stepY (j := 4) (d := 132) (b := true) rfl rfl rfl (fun v w h => h) fun sdn sa sw sE sd sk => ?_
            have h135 : sa.eval (.tmp 135) = .slice (A6) (n) (c6) := sk.fact 7 135 rfl (sd 7 rfl)
            refine Runs.call (f := 17) (vs := [.slice (A6) (n) (c6)]) rfl rfl rfl (by simp only [List.map_toArray, List.map_cons, List.map_nil, h135] <;> rfl) (ent17 _ _) ((r6leaves_any _ _ _ _ sw (rHn.ext sE) (by omega) hsm2).mono ?_); rintro e w' ⟨P', d', rfl, own, hx⟩; exact ⟨_, rfl, hx, _, _, rfl, own.rbb⟩
          · refine stepY (j := 4) (d := 132) (b := true) rfl rfl rfl (fun v w h => h) fun sdn sa sw sE sd sk => ?_
            obtain ⟨A136, c136, h136, r136⟩ := sk.fact 8 136 rfl (sd 8 rfl)
            refine Runs.call (f := 16) (vs := [.slice (A136) (n) (c136)]) rfl rfl rfl (by simp only [List.map_toArray, List.map_cons, List.map_nil, h136] <;> rfl) (ent16 _ _) ((r6root_any _ _ _ _ sw (by omega) r136 (leaf_len _)).mono ?_); rintro e w' ⟨A', c', rfl, own, hx⟩; exact ⟨_, rfl, hx, _, _, rfl, own⟩
          · refine stepY (j := 4) (d := 132) (b := true) rfl rfl rfl (fun v w h => h) fun sdn sa sw sE sd sk => ?_
            obtain ⟨A137, c137, h137, r137⟩ := sk.fact 9 137 rfl (sd 9 rfl)
            exact Runs.conv rfl h137 (run_str r137) ⟨Ext.refl _, rfl⟩
          · refine stepY (j := 4) (d := 132) (b := true) rfl rfl rfl (fun v w h => h) fun sdn sa sw sE sd sk => ?_
            have h14 : sa.eval (.tmp 14) = .pointer (some ⟨g14, 0, none⟩) := sk.old 14 rfl
            refine Runs.of_run (r := .pointer (some ⟨g14, 0, none⟩)) (w' := sw) ?_ ⟨Ext.refl _, rfl⟩
            unfold execOp
            simp only [h14]
            go_simp
          · refine stepY (j := 4) (d := 132) (b := true) rfl rfl rfl (fun v w h => h) fun sdn sa sw sE sd sk => ?_
            have h139 : sa.eval (.tmp 139) = .pointer (some ⟨g14, 0, none⟩) := sk.fact 11 139 rfl (sd 11 rfl)
            refine Runs.of_run (r := .pointer (some ⟨g14, 1, none⟩)) (w' := sw) ?_ ⟨Ext.refl _, rfl⟩
            unfold execOp
            simp only [h139]
            go_simp
          · refine stepY (j := 4) (d := 132) (b := true) rfl rfl rfl (fun v w h => h) fun sdn sa sw sE sd sk => ?_
            have h140 : sa.eval (.tmp 140) = .pointer (some ⟨g14, 1, none⟩) := sk.fact 12 140 rfl (sd 12 rfl)
            exact Runs.load rfl h140 (run_load1 Tryz.underlying26 rfl ((hB14.ext sE).cell (i := 1) rfl)) ⟨Ext.refl _, rfl⟩
          · refine stepY (j := 4) (d := 132) (b := true) rfl rfl rfl (fun v w h => h) fun sdn sa sw sE sd sk => ?_
            have h141 : sa.eval (.tmp 141) = .slice (B) (32) (d) := sk.fact 13 141 rfl (sd 13 rfl)
            exact Runs.conv rfl h141 (run_str (rR.ext sE)) ⟨Ext.refl _, rfl⟩
          · refine stepY (j := 4) (d := 132) (b := true) rfl rfl rfl (fun v w h => h) fun sdn sa sw sE sd sk => ?_
            have h138 : sa.eval (.tmp 138) = .string (str (rootL ((s.its.take n).map leafH))) := sk.fact 10 138 rfl (sd 10 rfl)
            have h142 : sa.eval (.tmp 142) = .string (str (R)) := sk.fact 14 142 rfl (sd 14 rfl)
            exact Runs.bin rfl h138 h142 (by rfl) (bin_nes _ _ _) ⟨Ext.refl _, congrArg Value.bool (by simp [c3'])⟩
          · refine stepE rfl fun sdn sa sw sE sd sk => ?_
            have h132 : sa.eval (.tmp 132) = .bool (true) := sk.fact 4 132 rfl (sd 4 rfl)
            have h143 : sa.eval (.tmp 143) = .bool (false) := sk.fact 15 143 rfl (sd 15 rfl)
            exact Runs.pick rfl h132 ⟨Ext.refl _, by first | exact h143 | simpa using h143⟩
          · refine stepE rfl fun sdn sa sw sE sd sk => ?_
            have h144 : sa.eval (.tmp 144) = .bool (false) := sk.fact 16 144 rfl (sd 16 rfl)
            exact Runs.assign rfl h144 ⟨Ext.refl _, rfl⟩
          intro vals W35 hE35 hv35
          have e0 : vals 0 = .int .i64 ((n : Int)) := hv35 0 (by omega) 128 rfl
          have e1 : vals 1 = .slice (A6) (s.its.length) (c6) := hv35 1 (by omega) 129 rfl
          have e2 : vals 2 = .int .i64 ((s.its.length : Nat)) := hv35 2 (by omega) 130 rfl
          have e3 : vals 3 = .bool (true) := hv35 3 (by omega) 131 rfl
          have e4 : vals 4 = .bool (true) := hv35 4 (by omega) 132 rfl
          have e5 : vals 5 = .slice (A6) (s.its.length) (c6) := hv35 5 (by omega) 133 rfl
          have e6 : vals 6 = .int .i64 ((n : Int)) := hv35 6 (by omega) 134 rfl
          have e7 : vals 7 = .slice (A6) (n) (c6) := hv35 7 (by omega) 135 rfl
          obtain ⟨A136, c136, e8, r136⟩ := hv35 8 (by omega) 136 rfl
          obtain ⟨A137, c137, e9, r137⟩ := hv35 9 (by omega) 137 rfl
          have e10 : vals 10 = .string (str (rootL ((s.its.take n).map leafH))) := hv35 10 (by omega) 138 rfl
          have e11 : vals 11 = .pointer (some ⟨g14, 0, none⟩) := hv35 11 (by omega) 139 rfl
          have e12 : vals 12 = .pointer (some ⟨g14, 1, none⟩) := hv35 12 (by omega) 140 rfl
          have e13 : vals 13 = .slice (B) (32) (d) := hv35 13 (by omega) 141 rfl
          have e14 : vals 14 = .string (str (R)) := hv35 14 (by omega) 142 rfl
          have e15 : vals 15 = .bool (false) := hv35 15 (by omega) 143 rfl
          have e16 : vals 16 = .bool (false) := hv35 16 (by omega) 144 rfl
          have e17 : vals 17 = .bool (false) := hv35 17 (by omega) 127 rfl
          simp only [putAll, Act.put, List.take_succ_cons, List.take_zero, List.drop_succ_cons, List.drop_zero, List.drop_nil, List.take_nil, Nat.reduceAdd, List.setIfInBounds_toArray, List.set_cons_succ, List.set_cons_zero, e0, e1, e2, e3, e4, e5, e6, e7, e8, e9, e10, e11, e12, e13, e14, e15, e16, e17]
          clear hv35 e0 e1 e2 e3 e4 e5 e6 e7 e8 e9 e10 e11 e12 e13 e14 e15 e16 e17
          replace hP := hP.ext hE35
          replace kX := kX.ext hE35
          replace hEa := hEa.trans hE35
          clear hGl rH rHn c3'
          have e4 : ¬ (s.its.length : Int) < (n : Int) := by omega
          go_wp2_with fail
          rw [Hr.out.1, Hr.out.2]
          exact ⟨U, A6, c6, A7, c7, rfl, rfl, rfl, rfl, hP, kX, hEa⟩
        · have Hr := Lib.hid (feed_34 (s := s) (its := give) Hcv.out c1 (by omega) c3')
          refine par_ext (n := 18) (by kernel_rfl) [.is (.int .i64 ((n : Int))), .is (.slice (A6) (s.its.length) (c6)), .is (.int .i64 ((s.its.length : Nat))), .is (.bool (true)), .is (.bool (true)), .is (.slice (A6) (s.its.length) (c6)), .is (.int .i64 ((n : Int))), .is (.slice (A6) (n) (c6)), .rws (n) ((s.its.take n).map leafH), .rk (32) (rootL ((s.its.take n).map leafH)), .is (.string (str (rootL ((s.its.take n).map leafH)))), .is (.pointer (some ⟨g14, 0, none⟩)), .is (.pointer (some ⟨g14, 1, none⟩)), .is (.slice (B) (32) (d)), .is (.string (str (R))), .is (.bool (true)), .is (.bool (true)), .is (.bool (true))] rfl ⟨?_, ?_, ?_, ?_, ?_, ?_, ?_, ?_, ?_, ?_, ?_, ?_, ?_, ?_, ?_, ?_, ?_, ?_, trivial⟩ ?_
          · refine stepE rfl fun sdn sa sw sE sd sk => ?_
            have h11 : sa.eval (.tmp 11) = .int .i64 ((n : Int)) := sk.old 11 rfl
            exact Runs.move rfl h11 ⟨Ext.refl _, rfl⟩
          · refine stepE rfl fun sdn sa sw sE sd sk => ?_
            have h6 : sa.eval (.tmp 6) = .slice (A6) (s.its.length) (c6) := sk.old 6 rfl
            exact Runs.move rfl h6 ⟨Ext.refl _, rfl⟩
          · refine stepE rfl fun sdn sa sw sE sd sk => ?_
            have h129 : sa.eval (.tmp 129) = .slice (A6) (s.its.length) (c6) := sk.fact 1 129 rfl (sd 1 rfl)
            exact Runs.len Tryz.underlying33 rfl h129 ⟨Ext.refl _, rfl⟩
          · refine stepE rfl fun sdn sa sw sE sd sk => ?_
            have h128 : sa.eval (.tmp 128) = .int .i64 ((n : Int)) := sk.fact 0 128 rfl (sd 0 rfl)
            have h130 : sa.eval (.tmp 130) = .int .i64 ((s.its.length : Nat)) := sk.fact 2 130 rfl (sd 2 rfl)
            exact Runs.bin rfl h128 h130 (by rfl) (bin_leq _ _ _ _) ⟨Ext.refl _, congrArg Value.bool (decide_eq_true e1)⟩
          · refine stepE rfl fun sdn sa sw sE sd sk => ?_
            have h131 : sa.eval (.tmp 131) = .bool (true) := sk.fact 3 131 rfl (sd 3 rfl)
            exact Runs.move rfl h131 ⟨Ext.refl _, rfl⟩
          · refine stepY (j := 4) (d := 132) (b := true) rfl rfl rfl (fun v w h => h) fun sdn sa sw sE sd sk => ?_
            have h6 : sa.eval (.tmp 6) = .slice (A6) (s.its.length) (c6) := sk.old 6 rfl
            exact Runs.move rfl h6 ⟨Ext.refl _, rfl⟩
          · refine stepY (j := 4) (d := 132) (b := true) rfl rfl rfl (fun v w h => h) fun sdn sa sw sE sd sk => ?_
            have h11 : sa.eval (.tmp 11) = .int .i64 ((n : Int)) := sk.old 11 rfl
            exact Runs.move rfl h11 ⟨Ext.refl _, rfl⟩
          · refine stepY (j := 4) (d := 132) (b := true) rfl rfl rfl (fun v w h => h) fun sdn sa sw sE sd sk => ?_
            have h133 : sa.eval (.tmp 133) = .slice (A6) (s.its.length) (c6) := sk.fact 5 133 rfl (sd 5 rfl)
            have h134 : sa.eval (.tmp 134) = .int .i64 ((n : Int)) := sk.fact 6 134 rfl (sd 6 rfl)
            exact Runs.slice rfl h133 (by simp only [Option.map_some, Option.map_none, h134]; exact run_cut_h Tryz.underlying33 infZZ_eq n (by first | rfl | omega) (by omega)) ⟨Ext.refl _, rfl⟩
          · refine stepY (j := 4) (d := 132) (b := true) rfl rfl rfl (fun v w h => h) fun sdn sa sw sE sd sk => ?_
            have h135 : sa.eval (.tmp 135) = .slice (A6) (n) (c6) := sk.fact 7 135 rfl (sd 7 rfl)
            refine Runs.call (f := 17) (vs := [.slice (A6) (n) (c6)]) rfl rfl rfl (by simp only [List.map_toArray, List.map_cons, List.map_nil, h135] <;> rfl) (ent17 _ _) ((r6leaves_any _ _ _ _ sw (rHn.ext sE) (by omega) hsm2).mono ?_); rintro e w' ⟨P', d', rfl, own, hx⟩; exact ⟨_, rfl, hx, _, _, rfl, own.rbb⟩
          · refine stepY (j := 4) (d := 132) (b := true) rfl rfl rfl (fun v w h => h) fun sdn sa sw sE sd sk => ?_
            obtain ⟨A136, c136, h136, r136⟩ := sk.fact 8 136 rfl (sd 8 rfl)
            refine Runs.call (f := 16) (vs := [.slice (A136) (n) (c136)]) rfl rfl rfl (by simp only [List.map_toArray, List.map_cons, List.map_nil, h136] <;> rfl) (ent16 _ _) ((r6root_any _ _ _ _ sw (by omega) r136 (leaf_len _)).mono ?_); rintro e w' ⟨A', c', rfl, own, hx⟩; exact ⟨_, rfl, hx, _, _, rfl, own⟩
          · refine stepY (j := 4) (d := 132) (b := true) rfl rfl rfl (fun v w h => h) fun sdn sa sw sE sd sk => ?_
            obtain ⟨A137, c137, h137, r137⟩ := sk.fact 9 137 rfl (sd 9 rfl)
            exact Runs.conv rfl h137 (run_str r137) ⟨Ext.refl _, rfl⟩
          · refine stepY (j := 4) (d := 132) (b := true) rfl rfl rfl (fun v w h => h) fun sdn sa sw sE sd sk => ?_
            have h14 : sa.eval (.tmp 14) = .pointer (some ⟨g14, 0, none⟩) := sk.old 14 rfl
            refine Runs.of_run (r := .pointer (some ⟨g14, 0, none⟩)) (w' := sw) ?_ ⟨Ext.refl _, rfl⟩
            unfold execOp
            simp only [h14]
            go_simp
          · refine stepY (j := 4) (d := 132) (b := true) rfl rfl rfl (fun v w h => h) fun sdn sa sw sE sd sk => ?_
            have h139 : sa.eval (.tmp 139) = .pointer (some ⟨g14, 0, none⟩) := sk.fact 11 139 rfl (sd 11 rfl)
            refine Runs.of_run (r := .pointer (some ⟨g14, 1, none⟩)) (w' := sw) ?_ ⟨Ext.refl _, rfl⟩
            unfold execOp
            simp only [h139]
            go_simp
          · refine stepY (j := 4) (d := 132) (b := true) rfl rfl rfl (fun v w h => h) fun sdn sa sw sE sd sk => ?_
            have h140 : sa.eval (.tmp 140) = .pointer (some ⟨g14, 1, none⟩) := sk.fact 12 140 rfl (sd 12 rfl)
            exact Runs.load rfl h140 (run_load1 Tryz.underlying26 rfl ((hB14.ext sE).cell (i := 1) rfl)) ⟨Ext.refl _, rfl⟩
          · refine stepY (j := 4) (d := 132) (b := true) rfl rfl rfl (fun v w h => h) fun sdn sa sw sE sd sk => ?_
            have h141 : sa.eval (.tmp 141) = .slice (B) (32) (d) := sk.fact 13 141 rfl (sd 13 rfl)
            exact Runs.conv rfl h141 (run_str (rR.ext sE)) ⟨Ext.refl _, rfl⟩
          · refine stepY (j := 4) (d := 132) (b := true) rfl rfl rfl (fun v w h => h) fun sdn sa sw sE sd sk => ?_
            have h138 : sa.eval (.tmp 138) = .string (str (rootL ((s.its.take n).map leafH))) := sk.fact 10 138 rfl (sd 10 rfl)
            have h142 : sa.eval (.tmp 142) = .string (str (R)) := sk.fact 14 142 rfl (sd 14 rfl)
            exact Runs.bin rfl h138 h142 (by rfl) (bin_nes _ _ _) ⟨Ext.refl _, congrArg Value.bool (by simp [c3'])⟩
          · refine stepE rfl fun sdn sa sw sE sd sk => ?_
            have h132 : sa.eval (.tmp 132) = .bool (true) := sk.fact 4 132 rfl (sd 4 rfl)
            have h143 : sa.eval (.tmp 143) = .bool (true) := sk.fact 15 143 rfl (sd 15 rfl)
            exact Runs.pick rfl h132 ⟨Ext.refl _, by first | exact h143 | simpa using h143⟩
          · refine stepE rfl fun sdn sa sw sE sd sk => ?_
            have h144 : sa.eval (.tmp 144) = .bool (true) := sk.fact 16 144 rfl (sd 16 rfl)
            exact Runs.assign rfl h144 ⟨Ext.refl _, rfl⟩
          intro vals W35 hE35 hv35
          have e0 : vals 0 = .int .i64 ((n : Int)) := hv35 0 (by omega) 128 rfl
          have e1 : vals 1 = .slice (A6) (s.its.length) (c6) := hv35 1 (by omega) 129 rfl
          have e2 : vals 2 = .int .i64 ((s.its.length : Nat)) := hv35 2 (by omega) 130 rfl
          have e3 : vals 3 = .bool (true) := hv35 3 (by omega) 131 rfl
          have e4 : vals 4 = .bool (true) := hv35 4 (by omega) 132 rfl
          have e5 : vals 5 = .slice (A6) (s.its.length) (c6) := hv35 5 (by omega) 133 rfl
          have e6 : vals 6 = .int .i64 ((n : Int)) := hv35 6 (by omega) 134 rfl
          have e7 : vals 7 = .slice (A6) (n) (c6) := hv35 7 (by omega) 135 rfl
          obtain ⟨A136, c136, e8, r136⟩ := hv35 8 (by omega) 136 rfl
          obtain ⟨A137, c137, e9, r137⟩ := hv35 9 (by omega) 137 rfl
          have e10 : vals 10 = .string (str (rootL ((s.its.take n).map leafH))) := hv35 10 (by omega) 138 rfl
          have e11 : vals 11 = .pointer (some ⟨g14, 0, none⟩) := hv35 11 (by omega) 139 rfl
          have e12 : vals 12 = .pointer (some ⟨g14, 1, none⟩) := hv35 12 (by omega) 140 rfl
          have e13 : vals 13 = .slice (B) (32) (d) := hv35 13 (by omega) 141 rfl
          have e14 : vals 14 = .string (str (R)) := hv35 14 (by omega) 142 rfl
          have e15 : vals 15 = .bool (true) := hv35 15 (by omega) 143 rfl
          have e16 : vals 16 = .bool (true) := hv35 16 (by omega) 144 rfl
          have e17 : vals 17 = .bool (true) := hv35 17 (by omega) 127 rfl
          simp only [putAll, Act.put, List.take_succ_cons, List.take_zero, List.drop_succ_cons, List.drop_zero, List.drop_nil, List.take_nil, Nat.reduceAdd, List.setIfInBounds_toArray, List.set_cons_succ, List.set_cons_zero, e0, e1, e2, e3, e4, e5, e6, e7, e8, e9, e10, e11, e12, e13, e14, e15, e16, e17]
          clear hv35 e0 e1 e2 e3 e4 e5 e6 e7 e8 e9 e10 e11 e12 e13 e14 e15 e16 e17
          replace hP := hP.ext hE35
          replace kX := kX.ext hE35
          replace hEa := hEa.trans hE35
          clear hGl rH rHn c3' rR rP rQ rG hB14
          have hEl := Ext.new W35 (.cells #[.int .i64 1, .int .i64 (n : Int)] 54)
          have hBl := Blk.new W35 54 #[.int .i64 1, .int .i64 (n : Int)]
          have hP4 := hP.ext hEl
          have hbz2 : base ≤ (W35.alloc (.cells #[.int .i64 1, .int .i64 (n : Int)] 54)).heap.size := Nat.le_trans hP4.ge (Nat.le_of_lt (by obtain ⟨B', P', Q', _, _, _, _, _, _, h5, _⟩ := hP4.lst; exact h5.lt))
          have hn9 : ∀ (j : Nat) (u : Value), ([.int .i64 1, .int .i64 (n : Int)] : List Value)[j]? = some u → (W35.alloc (.cells #[.int .i64 1, .int .i64 (n : Int)] 54)).cell? ((⟨W35.heap.size, 0, none⟩ : Addr).add j) = some u := fun j u hu => by
            rw [add_plain]
            exact hBl.cell (i := j) (by rw [← hu]; exact List.getElem?_toArray)
          have hals := hP4.als
          clear hBl
          go_wp2_with (refine appp_law kAlarms rfl rfl rfl rfl hals rfl hn9 two_one two_I (by omega) hbz2 (by omega) ?_; intro A4 c4 w4 o4 g4 b4)
          rw [Hr.out.1, Hr.out.2]
          obtain ⟨U', k1, k2, k3⟩ := hP4.alarm 1 (n : Int) (by rw [alC_snoc]; exact o4) g4 b4
          refine ⟨U', A6, c6, A4, c4, rfl, rfl, ?_, rfl, k1, (kX.ext hEl).move k2 k3, (hEa.trans hEl).then_grown g4 (fun b hb => Nat.le_trans hb0 (hP4.als.lt hb).1)⟩
          show Value.slice A4 (s.al.length + 1) c4 = .slice A4 (s.al ++ [(1, (n : Int))]).length c4
          rw [List.length_append]
          rfl
    · have e1 : ¬ (n : Int) ≤ (s.its.length : Int) := by omega
      have e4 : (s.its.length : Int) < (n : Int) := by omega
      have rH := hP.its.self
      have hroomH := rH.room
      have hcapH := rH.cap
      unfold maxLen at hcapH
      go_upto_region 35 with (fail)
      refine par_ext (n := 18) (by kernel_rfl) [.is (.int .i64 ((n : Int))), .is (.slice (A6) (s.its.length) (c6)), .is (.int .i64 ((s.its.length : Nat))), .is (.bool (false)), .is (.bool (false)), .is undef, .is undef, .is undef, .is undef, .is undef, .is undef, .is undef, .is undef, .is undef, .is undef, .is undef, .is (.bool (false)), .is (.bool (false))] rfl ⟨?_, ?_, ?_, ?_, ?_, ?_, ?_, ?_, ?_, ?_, ?_, ?_, ?_, ?_, ?_, ?_, ?_, ?_, trivial⟩ ?_
      · refine stepE rfl fun sdn sa sw sE sd sk => ?_
        have h11 : sa.eval (.tmp 11) = .int .i64 ((n : Int)) := sk.old 11 rfl
        exact Runs.move rfl h11 ⟨Ext.refl _, rfl⟩
      · refine stepE rfl fun sdn sa sw sE sd sk => ?_
        have h6 : sa.eval (.tmp 6) = .slice (A6) (s.its.length) (c6) := sk.old 6 rfl
        exact Runs.move rfl h6 ⟨Ext.refl _, rfl⟩
      · refine stepE rfl fun sdn sa sw sE sd sk => ?_
        have h129 : sa.eval (.tmp 129) = .slice (A6) (s.its.length) (c6) := sk.fact 1 129 rfl (sd 1 rfl)
        exact Runs.len Tryz.underlying33 rfl h129 ⟨Ext.refl _, rfl⟩
      · refine stepE rfl fun sdn sa sw sE sd sk => ?_
        have h128 : sa.eval (.tmp 128) = .int .i64 ((n : Int)) := sk.fact 0 128 rfl (sd 0 rfl)
        have h130 : sa.eval (.tmp 130) = .int .i64 ((s.its.length : Nat)) := sk.fact 2 130 rfl (sd 2 rfl)
        exact Runs.bin rfl h128 h130 (by rfl) (bin_leq _ _ _ _) ⟨Ext.refl _, congrArg Value.bool (decide_eq_false e1)⟩
      · refine stepE rfl fun sdn sa sw sE sd sk => ?_
        have h131 : sa.eval (.tmp 131) = .bool (false) := sk.fact 3 131 rfl (sd 3 rfl)
        exact Runs.move rfl h131 ⟨Ext.refl _, rfl⟩
      · exact stepN (j := 4) (d := 132) (b := false) rfl rfl rfl (fun v w h => h) fun w => rfl
      · exact stepN (j := 4) (d := 132) (b := false) rfl rfl rfl (fun v w h => h) fun w => rfl
      · exact stepN (j := 4) (d := 132) (b := false) rfl rfl rfl (fun v w h => h) fun w => rfl
      · exact stepN (j := 4) (d := 132) (b := false) rfl rfl rfl (fun v w h => h) fun w => rfl
      · exact stepN (j := 4) (d := 132) (b := false) rfl rfl rfl (fun v w h => h) fun w => rfl
      · exact stepN (j := 4) (d := 132) (b := false) rfl rfl rfl (fun v w h => h) fun w => rfl
      · exact stepN (j := 4) (d := 132) (b := false) rfl rfl rfl (fun v w h => h) fun w => rfl
      · exact stepN (j := 4) (d := 132) (b := false) rfl rfl rfl (fun v w h => h) fun w => rfl
      · exact stepN (j := 4) (d := 132) (b := false) rfl rfl rfl (fun v w h => h) fun w => rfl
      · exact stepN (j := 4) (d := 132) (b := false) rfl rfl rfl (fun v w h => h) fun w => rfl
      · exact stepN (j := 4) (d := 132) (b := false) rfl rfl rfl (fun v w h => h) fun w => rfl
      · refine stepE rfl fun sdn sa sw sE sd sk => ?_
        have h132 : sa.eval (.tmp 132) = .bool (false) := sk.fact 4 132 rfl (sd 4 rfl)
        exact Runs.pick rfl h132 ⟨Ext.refl _, rfl⟩
      · refine stepE rfl fun sdn sa sw sE sd sk => ?_
        have h144 : sa.eval (.tmp 144) = .bool (false) := sk.fact 16 144 rfl (sd 16 rfl)
        exact Runs.assign rfl h144 ⟨Ext.refl _, rfl⟩
      intro vals W35 hE35 hv35
      have e0 : vals 0 = .int .i64 ((n : Int)) := hv35 0 (by omega) 128 rfl
      have e1 : vals 1 = .slice (A6) (s.its.length) (c6) := hv35 1 (by omega) 129 rfl
      have e2 : vals 2 = .int .i64 ((s.its.length : Nat)) := hv35 2 (by omega) 130 rfl
      have e3 : vals 3 = .bool (false) := hv35 3 (by omega) 131 rfl
      have e4 : vals 4 = .bool (false) := hv35 4 (by omega) 132 rfl
      have e16 : vals 16 = .bool (false) := hv35 16 (by omega) 144 rfl
      have e17 : vals 17 = .bool (false) := hv35 17 (by omega) 127 rfl
      simp only [putAll, Act.put, List.take_succ_cons, List.take_zero, List.drop_succ_cons, List.drop_zero, List.drop_nil, List.take_nil, Nat.reduceAdd, List.setIfInBounds_toArray, List.set_cons_succ, List.set_cons_zero, e0, e1, e2, e3, e4, e16, e17]
      clear hv35 e0 e1 e2 e3 e4 e16 e17
      replace hP := hP.ext hE35
      replace kX := kX.ext hE35
      replace rH := rH.ext hE35
      replace rR := rR.ext hE35
      replace rP := rP.ext hE35
      replace rQ := rQ.ext hE35
      replace rG := rG.ext hE35
      replace hB14 := hB14.ext hE35
      replace hEa := hEa.trans hE35
      clear hE35
      go_upto_region 39 with (fail)
      have hEl := Ext.new W35 (.cells #[] 26)
      have own0 := OBP.lit0 W35
      have rH2 := rH.ext hEl
      go_wp2_with (first | (refine appbp0_law rfl rfl rfl rfl own0 rH2 hEl.size (by omega) ?_; intro AY cY w13 oY eY; have rG2 := rG.ext (hEl.trans eY); have hs13 := (hEl.trans eY).size) | (refine appbp_law rfl rfl rfl rfl oY rG2 hs13 (by omega) ?_; intro AZ cZ w14 oZ aZ eZ))
      have eZ2 : Ext W35 w14 := aZ.ext_ (hEl.trans eY) (Nat.le_refl _)
      have kZ : Keep U (fun w => RBB w AZ (s.its.length + (n - f)) cZ (s.its ++ give)) w14 := oZ.rbb.keepS (hP.nob.ext eZ2) (fun _ k hk hp => by have := (oZ.lt hk).1; have := (hP.lt hp).2; omega)
      have rZ := oZ.rbb
      replace hP := hP.ext eZ2
      replace kX := kX.ext eZ2
      replace rR := rR.ext eZ2
      replace rP := rP.ext eZ2
      replace rQ := rQ.ext eZ2
      replace hB14 := hB14.ext eZ2
      replace hEa := hEa.trans eZ2
      clear eZ2 aZ eZ eY own0 rH2 rG2 hEl hs13 oY rH oZ rG
      have hsm2 : ∀ a ∈ s.its ++ give, a.length ≤ 1000000 := fun a ha => (List.mem_append.1 ha).elim (hsm a) (hgsm a)
      go_upto_region 40 with (fail)
      by_cases c4 : s.its.length + (n - f) = n
      · have e5 : ¬ (((s.its.length + (n - f) : Nat) : Int) ≠ (n : Int)) := by omega
        have c4i : (give.length : Int) = (n : Int) - (s.its.length : Nat) := by omega
        by_cases c5 : rootL ((s.its ++ give).map leafH) = R
        · have Hr := Lib.hid (feed_ok (s := s) (its := give) Hcv.out c1 c4i c5)
          have c5s := c5
          simp only [List.map_append] at c5s
          refine par_ext (n := 15) (by kernel_rfl) [.is (.slice (AZ) (s.its.length + (n - f)) (cZ)), .is (.int .i64 ((s.its.length + (n - f) : Nat))), .is (.int .i64 ((n : Int))), .is (.bool (false)), .is (.bool (false)), .is (.slice (AZ) (s.its.length + (n - f)) (cZ)), .rws (s.its.length + (n - f)) ((s.its ++ give).map leafH), .rk (32) (rootL ((s.its ++ give).map leafH)), .is (.string (str (rootL ((s.its ++ give).map leafH)))), .is (.pointer (some ⟨g14, 0, none⟩)), .is (.pointer (some ⟨g14, 1, none⟩)), .is (.slice (B) (32) (d)), .is (.string (str (R))), .is (.bool (false)), .is (.bool (false))] rfl ⟨?_, ?_, ?_, ?_, ?_, ?_, ?_, ?_, ?_, ?_, ?_, ?_, ?_, ?_, ?_, trivial⟩ ?_
          · refine stepE rfl fun sdn sa sw sE sd sk => ?_
            have h18 : sa.eval (.tmp 18) = .slice (AZ) (s.its.length + (n - f)) (cZ) := sk.old 18 rfl
            exact Runs.move rfl h18 ⟨Ext.refl _, rfl⟩
          · refine stepE rfl fun sdn sa sw sE sd sk => ?_
            have h160 : sa.eval (.tmp 160) = .slice (AZ) (s.its.length + (n - f)) (cZ) := sk.fact 0 160 rfl (sd 0 rfl)
            exact Runs.len Tryz.underlying33 rfl h160 ⟨Ext.refl _, rfl⟩
          · refine stepE rfl fun sdn sa sw sE sd sk => ?_
            have h11 : sa.eval (.tmp 11) = .int .i64 ((n : Int)) := sk.old 11 rfl
            exact Runs.move rfl h11 ⟨Ext.refl _, rfl⟩
          · refine stepE rfl fun sdn sa sw sE sd sk => ?_
            have h161 : sa.eval (.tmp 161) = .int .i64 ((s.its.length + (n - f) : Nat)) := sk.fact 1 161 rfl (sd 1 rfl)
            have h162 : sa.eval (.tmp 162) = .int .i64 ((n : Int)) := sk.fact 2 162 rfl (sd 2 rfl)
            exact Runs.bin rfl h161 h162 (by rfl) (bin_neq _ _ _ _) ⟨Ext.refl _, congrArg Value.bool (decide_eq_false e5)⟩
          · refine stepE rfl fun sdn sa sw sE sd sk => ?_
            have h163 : sa.eval (.tmp 163) = .bool (false) := sk.fact 3 163 rfl (sd 3 rfl)
            exact Runs.move rfl h163 ⟨Ext.refl _, rfl⟩
          · refine stepY (j := 4) (d := 164) (b := false) rfl rfl rfl (fun v w h => h) fun sdn sa sw sE sd sk => ?_
            have h18 : sa.eval (.tmp 18) = .slice (AZ) (s.its.length + (n - f)) (cZ) := sk.old 18 rfl
            exact Runs.move rfl h18 ⟨Ext.refl _, rfl⟩
          · refine stepY (j := 4) (d := 164) (b := false) rfl rfl rfl (fun v w h => h) fun sdn sa sw sE sd sk => ?_
            have h165 : sa.eval (.tmp 165) = .slice (AZ) (s.its.length + (n - f)) (cZ) := sk.fact 5 165 rfl (sd 5 rfl)
            refine Runs.call (f := 17) (vs := [.slice (AZ) (s.its.length + (n - f)) (cZ)]) rfl rfl rfl (by simp only [List.map_toArray, List.map_cons, List.map_nil, h165] <;> rfl) (ent17 _ _) ((r6leaves_any _ _ _ _ sw (rZ.ext sE) (by omega) hsm2).mono ?_); rintro e w' ⟨P', d', rfl, own, hx⟩; exact ⟨_, rfl, hx, _, _, rfl, own.rbb⟩
          · refine stepY (j := 4) (d := 164) (b := false) rfl rfl rfl (fun v w h => h) fun sdn sa sw sE sd sk => ?_
            obtain ⟨A166, c166, h166, r166⟩ := sk.fact 6 166 rfl (sd 6 rfl)
            refine Runs.call (f := 16) (vs := [.slice (A166) (s.its.length + (n - f)) (c166)]) rfl rfl rfl (by simp only [List.map_toArray, List.map_cons, List.map_nil, h166] <;> rfl) (ent16 _ _) ((r6root_any _ _ _ _ sw (by omega) r166 (leaf_len _)).mono ?_); rintro e w' ⟨A', c', rfl, own, hx⟩; exact ⟨_, rfl, hx, _, _, rfl, own⟩
          · refine stepY (j := 4) (d := 164) (b := false) rfl rfl rfl (fun v w h => h) fun sdn sa sw sE sd sk => ?_
            obtain ⟨A167, c167, h167, r167⟩ := sk.fact 7 167 rfl (sd 7 rfl)
            exact Runs.conv rfl h167 (run_str r167) ⟨Ext.refl _, rfl⟩
          · refine stepY (j := 4) (d := 164) (b := false) rfl rfl rfl (fun v w h => h) fun sdn sa sw sE sd sk => ?_
            have h14 : sa.eval (.tmp 14) = .pointer (some ⟨g14, 0, none⟩) := sk.old 14 rfl
            refine Runs.of_run (r := .pointer (some ⟨g14, 0, none⟩)) (w' := sw) ?_ ⟨Ext.refl _, rfl⟩
            unfold execOp
            simp only [h14]
            go_simp
          · refine stepY (j := 4) (d := 164) (b := false) rfl rfl rfl (fun v w h => h) fun sdn sa sw sE sd sk => ?_
            have h169 : sa.eval (.tmp 169) = .pointer (some ⟨g14, 0, none⟩) := sk.fact 9 169 rfl (sd 9 rfl)
            refine Runs.of_run (r := .pointer (some ⟨g14, 1, none⟩)) (w' := sw) ?_ ⟨Ext.refl _, rfl⟩
            unfold execOp
            simp only [h169]
            go_simp
          · refine stepY (j := 4) (d := 164) (b := false) rfl rfl rfl (fun v w h => h) fun sdn sa sw sE sd sk => ?_
            have h170 : sa.eval (.tmp 170) = .pointer (some ⟨g14, 1, none⟩) := sk.fact 10 170 rfl (sd 10 rfl)
            exact Runs.load rfl h170 (run_load1 Tryz.underlying26 rfl ((hB14.ext sE).cell (i := 1) rfl)) ⟨Ext.refl _, rfl⟩
          · refine stepY (j := 4) (d := 164) (b := false) rfl rfl rfl (fun v w h => h) fun sdn sa sw sE sd sk => ?_
            have h171 : sa.eval (.tmp 171) = .slice (B) (32) (d) := sk.fact 11 171 rfl (sd 11 rfl)
            exact Runs.conv rfl h171 (run_str (rR.ext sE)) ⟨Ext.refl _, rfl⟩
          · refine stepY (j := 4) (d := 164) (b := false) rfl rfl rfl (fun v w h => h) fun sdn sa sw sE sd sk => ?_
            have h168 : sa.eval (.tmp 168) = .string (str (rootL ((s.its ++ give).map leafH))) := sk.fact 8 168 rfl (sd 8 rfl)
            have h172 : sa.eval (.tmp 172) = .string (str (R)) := sk.fact 12 172 rfl (sd 12 rfl)
            exact Runs.bin rfl h168 h172 (by rfl) (bin_nes _ _ _) ⟨Ext.refl _, congrArg Value.bool (by simp [c5s])⟩
          · refine stepE rfl fun sdn sa sw sE sd sk => ?_
            have h164 : sa.eval (.tmp 164) = .bool (false) := sk.fact 4 164 rfl (sd 4 rfl)
            have h173 : sa.eval (.tmp 173) = .bool (false) := sk.fact 13 173 rfl (sd 13 rfl)
            exact Runs.pick rfl h164 ⟨Ext.refl _, by first | exact h173 | simpa using h173⟩
          intro vals W40 hE40 hv40
          have e0 : vals 0 = .slice (AZ) (s.its.length + (n - f)) (cZ) := hv40 0 (by omega) 160 rfl
          have e1 : vals 1 = .int .i64 ((s.its.length + (n - f) : Nat)) := hv40 1 (by omega) 161 rfl
          have e2 : vals 2 = .int .i64 ((n : Int)) := hv40 2 (by omega) 162 rfl
          have e3 : vals 3 = .bool (false) := hv40 3 (by omega) 163 rfl
          have e4 : vals 4 = .bool (false) := hv40 4 (by omega) 164 rfl
          have e5 : vals 5 = .slice (AZ) (s.its.length + (n - f)) (cZ) := hv40 5 (by omega) 165 rfl
          obtain ⟨A166, c166, e6, r166⟩ := hv40 6 (by omega) 166 rfl
          obtain ⟨A167, c167, e7, r167⟩ := hv40 7 (by omega) 167 rfl
          have e8 : vals 8 = .string (str (rootL ((s.its ++ give).map leafH))) := hv40 8 (by omega) 168 rfl
          have e9 : vals 9 = .pointer (some ⟨g14, 0, none⟩) := hv40 9 (by omega) 169 rfl
          have e10 : vals 10 = .pointer (some ⟨g14, 1, none⟩) := hv40 10 (by omega) 170 rfl
          have e11 : vals 11 = .slice (B) (32) (d) := hv40 11 (by omega) 171 rfl
          have e12 : vals 12 = .string (str (R)) := hv40 12 (by omega) 172 rfl
          have e13 : vals 13 = .bool (false) := hv40 13 (by omega) 173 rfl
          have e14 : vals 14 = .bool (false) := hv40 14 (by omega) 174 rfl
          simp only [putAll, Act.put, List.take_succ_cons, List.take_zero, List.drop_succ_cons, List.drop_zero, List.drop_nil, List.take_nil, Nat.reduceAdd, List.setIfInBounds_toArray, List.set_cons_succ, List.set_cons_zero, e0, e1, e2, e3, e4, e5, e6, e7, e8, e9, e10, e11, e12, e13, e14]
          clear hv40 e0 e1 e2 e3 e4 e5 e6 e7 e8 e9 e10 e11 e12 e13 e14
          replace hP := hP.ext hE40
          replace kX := kX.ext hE40
          replace kZ := kZ.ext hE40
          replace rR := rR.ext hE40
          replace rP := rP.ext hE40
          replace rQ := rQ.ext hE40
          replace hB14 := hB14.ext hE40
          replace hEa := hEa.trans hE40
          clear hE40 c5 c5s c4i rZ
          have hZl : (s.its ++ give).length = s.its.length + (n - f) := by rw [List.length_append, hGl]
          rw [← hZl] at kZ
          have rZ := kZ.self
          rw [hZl] at rZ
          go_upto_region 42 with (fail)
          refine par_ext (n := 3) (by kernel_rfl) [.is (.slice (AZ) (s.its.length + (n - f)) (cZ)), .is (.agg #[.int .i64 ((n : Int)), .slice (B) (32) (d), .int .i64 ((k16 : Int)), .slice (P) (64) (d1), .slice (Q) (4) (d2)]), .is (.slice (AZ) (s.its.length + (n - f)) (cZ))] rfl ⟨?_, ?_, ?_, trivial⟩ ?_
          · refine stepE rfl fun sdn sa sw sE sd sk => ?_
            have h18 : sa.eval (.tmp 18) = .slice (AZ) (s.its.length + (n - f)) (cZ) := sk.old 18 rfl
            exact Runs.move rfl h18 ⟨Ext.refl _, rfl⟩
          · refine stepE rfl fun sdn sa sw sE sd sk => ?_
            have h14 : sa.eval (.tmp 14) = .pointer (some ⟨g14, 0, none⟩) := sk.old 14 rfl
            exact Runs.load rfl h14 (load_part (hB14.ext sE) 0 (vs := [.int .i64 ((n : Int)), .slice (B) (32) (d), .int .i64 ((k16 : Int)), .slice (P) (64) (d1), .slice (Q) (4) (d2)]) rfl Tryz.underlying40 rfl (by kernel_rfl)) ⟨Ext.refl _, rfl⟩
          · refine stepE rfl fun sdn sa sw sE sd sk => ?_
            have h175 : sa.eval (.tmp 175) = .slice (AZ) (s.its.length + (n - f)) (cZ) := sk.fact 0 175 rfl (sd 0 rfl)
            exact Runs.assign rfl h175 ⟨Ext.refl _, rfl⟩
          intro vals W42 hE42 hv42
          have e0 : vals 0 = .slice (AZ) (s.its.length + (n - f)) (cZ) := hv42 0 (by omega) 175 rfl
          have e1 : vals 1 = .agg #[.int .i64 ((n : Int)), .slice (B) (32) (d), .int .i64 ((k16 : Int)), .slice (P) (64) (d1), .slice (Q) (4) (d2)] := hv42 1 (by omega) 176 rfl
          have e2 : vals 2 = .slice (AZ) (s.its.length + (n - f)) (cZ) := hv42 2 (by omega) 6 rfl
          simp only [putAll, Act.put, List.take_succ_cons, List.take_zero, List.drop_succ_cons, List.drop_zero, List.drop_nil, List.take_nil, Nat.reduceAdd, List.setIfInBounds_toArray, List.set_cons_succ, List.set_cons_zero, e0, e1, e2]
          clear hv42 e0 e1 e2
          replace hP := hP.ext hE42
          replace kX := kX.ext hE42
          replace kZ := kZ.ext hE42
          replace hEa := hEa.trans hE42
          have hL := hP.last (A6' := AZ) (c6' := cZ) (s.its ++ give) (n : Int) (k16 : Int) R PS QS B P Q 32 d 64 d1 4 d2 kZ (kX.imp (fun w' h => h.2.2.1))
          obtain ⟨B8, P8, Q8, nb8, d8, np8, cp8, nq8, cq8, hB8, _⟩ := hP.lst
          have hb8 := hP.ge
          have fhB80 := hB8.frozen 0
          have fhB81 := hB8.frozen 1
          have fhB82 := hB8.frozen 2
          have fhB83 := hB8.frozen 3
          have fhB84 := hB8.frozen 4
          have xhB80 := hB8.cell (i := 0) rfl
          have xhB81 := hB8.cell (i := 1) rfl
          have xhB82 := hB8.cell (i := 2) rfl
          have xhB83 := hB8.cell (i := 3) rfl
          have xhB84 := hB8.cell (i := 4) rfl
          clear hGl rR rP rQ hB14 rZ
          go_wp2_with fail
          rw [Hr.out.1, Hr.out.2]
          obtain ⟨U', q1, q2, q3⟩ := hL
          refine ⟨U', AZ, cZ, A7, c7, rfl, ?_, rfl, rfl, q1, kX.move q2 q3, ext5 hEa (Nat.le_trans hb0 hb8) _ _ _ _ _⟩
          show Value.slice AZ (s.its.length + (n - f)) cZ = .slice AZ (s.its ++ give).length cZ
          rw [hZl]
        · have Hr := Lib.hid (feed_31 (s := s) (its := give) Hcv.out c1 (.inr c5))
          have c5s := c5
          simp only [List.map_append] at c5s
          refine par_ext (n := 15) (by kernel_rfl) [.is (.slice (AZ) (s.its.length + (n - f)) (cZ)), .is (.int .i64 ((s.its.length + (n - f) : Nat))), .is (.int .i64 ((n : Int))), .is (.bool (false)), .is (.bool (false)), .is (.slice (AZ) (s.its.length + (n - f)) (cZ)), .rws (s.its.length + (n - f)) ((s.its ++ give).map leafH), .rk (32) (rootL ((s.its ++ give).map leafH)), .is (.string (str (rootL ((s.its ++ give).map leafH)))), .is (.pointer (some ⟨g14, 0, none⟩)), .is (.pointer (some ⟨g14, 1, none⟩)), .is (.slice (B) (32) (d)), .is (.string (str (R))), .is (.bool (true)), .is (.bool (true))] rfl ⟨?_, ?_, ?_, ?_, ?_, ?_, ?_, ?_, ?_, ?_, ?_, ?_, ?_, ?_, ?_, trivial⟩ ?_
          · refine stepE rfl fun sdn sa sw sE sd sk => ?_
            have h18 : sa.eval (.tmp 18) = .slice (AZ) (s.its.length + (n - f)) (cZ) := sk.old 18 rfl
            exact Runs.move rfl h18 ⟨Ext.refl _, rfl⟩
          · refine stepE rfl fun sdn sa sw sE sd sk => ?_
            have h160 : sa.eval (.tmp 160) = .slice (AZ) (s.its.length + (n - f)) (cZ) := sk.fact 0 160 rfl (sd 0 rfl)
            exact Runs.len Tryz.underlying33 rfl h160 ⟨Ext.refl _, rfl⟩
          · refine stepE rfl fun sdn sa sw sE sd sk => ?_
            have h11 : sa.eval (.tmp 11) = .int .i64 ((n : Int)) := sk.old 11 rfl
            exact Runs.move rfl h11 ⟨Ext.refl _, rfl⟩
          · refine stepE rfl fun sdn sa sw sE sd sk => ?_
            have h161 : sa.eval (.tmp 161) = .int .i64 ((s.its.length + (n - f) : Nat)) := sk.fact 1 161 rfl (sd 1 rfl)
            have h162 : sa.eval (.tmp 162) = .int .i64 ((n : Int)) := sk.fact 2 162 rfl (sd 2 rfl)
            exact Runs.bin rfl h161 h162 (by rfl) (bin_neq _ _ _ _) ⟨Ext.refl _, congrArg Value.bool (decide_eq_false e5)⟩
          · refine stepE rfl fun sdn sa sw sE sd sk => ?_
            have h163 : sa.eval (.tmp 163) = .bool (false) := sk.fact 3 163 rfl (sd 3 rfl)
            exact Runs.move rfl h163 ⟨Ext.refl _, rfl⟩
          · refine stepY (j := 4) (d := 164) (b := false) rfl rfl rfl (fun v w h => h) fun sdn sa sw sE sd sk => ?_
            have h18 : sa.eval (.tmp 18) = .slice (AZ) (s.its.length + (n - f)) (cZ) := sk.old 18 rfl
            exact Runs.move rfl h18 ⟨Ext.refl _, rfl⟩
          · refine stepY (j := 4) (d := 164) (b := false) rfl rfl rfl (fun v w h => h) fun sdn sa sw sE sd sk => ?_
            have h165 : sa.eval (.tmp 165) = .slice (AZ) (s.its.length + (n - f)) (cZ) := sk.fact 5 165 rfl (sd 5 rfl)
            refine Runs.call (f := 17) (vs := [.slice (AZ) (s.its.length + (n - f)) (cZ)]) rfl rfl rfl (by simp only [List.map_toArray, List.map_cons, List.map_nil, h165] <;> rfl) (ent17 _ _) ((r6leaves_any _ _ _ _ sw (rZ.ext sE) (by omega) hsm2).mono ?_); rintro e w' ⟨P', d', rfl, own, hx⟩; exact ⟨_, rfl, hx, _, _, rfl, own.rbb⟩
          · refine stepY (j := 4) (d := 164) (b := false) rfl rfl rfl (fun v w h => h) fun sdn sa sw sE sd sk => ?_
            obtain ⟨A166, c166, h166, r166⟩ := sk.fact 6 166 rfl (sd 6 rfl)
            refine Runs.call (f := 16) (vs := [.slice (A166) (s.its.length + (n - f)) (c166)]) rfl rfl rfl (by simp only [List.map_toArray, List.map_cons, List.map_nil, h166] <;> rfl) (ent16 _ _) ((r6root_any _ _ _ _ sw (by omega) r166 (leaf_len _)).mono ?_); rintro e w' ⟨A', c', rfl, own, hx⟩; exact ⟨_, rfl, hx, _, _, rfl, own⟩
          · refine stepY (j := 4) (d := 164) (b := false) rfl rfl rfl (fun v w h => h) fun sdn sa sw sE sd sk => ?_
            obtain ⟨A167, c167, h167, r167⟩ := sk.fact 7 167 rfl (sd 7 rfl)
            exact Runs.conv rfl h167 (run_str r167) ⟨Ext.refl _, rfl⟩
          · refine stepY (j := 4) (d := 164) (b := false) rfl rfl rfl (fun v w h => h) fun sdn sa sw sE sd sk => ?_
            have h14 : sa.eval (.tmp 14) = .pointer (some ⟨g14, 0, none⟩) := sk.old 14 rfl
            refine Runs.of_run (r := .pointer (some ⟨g14, 0, none⟩)) (w' := sw) ?_ ⟨Ext.refl _, rfl⟩
            unfold execOp
            simp only [h14]
            go_simp
          · refine stepY (j := 4) (d := 164) (b := false) rfl rfl rfl (fun v w h => h) fun sdn sa sw sE sd sk => ?_
            have h169 : sa.eval (.tmp 169) = .pointer (some ⟨g14, 0, none⟩) := sk.fact 9 169 rfl (sd 9 rfl)
            refine Runs.of_run (r := .pointer (some ⟨g14, 1, none⟩)) (w' := sw) ?_ ⟨Ext.refl _, rfl⟩
            unfold execOp
            simp only [h169]
            go_simp
          · refine stepY (j := 4) (d := 164) (b := false) rfl rfl rfl (fun v w h => h) fun sdn sa sw sE sd sk => ?_
            have h170 : sa.eval (.tmp 170) = .pointer (some ⟨g14, 1, none⟩) := sk.fact 10 170 rfl (sd 10 rfl)
            exact Runs.load rfl h170 (run_load1 Tryz.underlying26 rfl ((hB14.ext sE).cell (i := 1) rfl)) ⟨Ext.refl _, rfl⟩
          · refine stepY (j := 4) (d := 164) (b := false) rfl rfl rfl (fun v w h => h) fun sdn sa sw sE sd sk => ?_
            have h171 : sa.eval (.tmp 171) = .slice (B) (32) (d) := sk.fact 11 171 rfl (sd 11 rfl)
            exact Runs.conv rfl h171 (run_str (rR.ext sE)) ⟨Ext.refl _, rfl⟩
          · refine stepY (j := 4) (d := 164) (b := false) rfl rfl rfl (fun v w h => h) fun sdn sa sw sE sd sk => ?_
            have h168 : sa.eval (.tmp 168) = .string (str (rootL ((s.its ++ give).map leafH))) := sk.fact 8 168 rfl (sd 8 rfl)
            have h172 : sa.eval (.tmp 172) = .string (str (R)) := sk.fact 12 172 rfl (sd 12 rfl)
            exact Runs.bin rfl h168 h172 (by rfl) (bin_nes _ _ _) ⟨Ext.refl _, congrArg Value.bool (by simp [c5s])⟩
          · refine stepE rfl fun sdn sa sw sE sd sk => ?_
            have h164 : sa.eval (.tmp 164) = .bool (false) := sk.fact 4 164 rfl (sd 4 rfl)
            have h173 : sa.eval (.tmp 173) = .bool (true) := sk.fact 13 173 rfl (sd 13 rfl)
            exact Runs.pick rfl h164 ⟨Ext.refl _, by first | exact h173 | simpa using h173⟩
          intro vals W40 hE40 hv40
          have e0 : vals 0 = .slice (AZ) (s.its.length + (n - f)) (cZ) := hv40 0 (by omega) 160 rfl
          have e1 : vals 1 = .int .i64 ((s.its.length + (n - f) : Nat)) := hv40 1 (by omega) 161 rfl
          have e2 : vals 2 = .int .i64 ((n : Int)) := hv40 2 (by omega) 162 rfl
          have e3 : vals 3 = .bool (false) := hv40 3 (by omega) 163 rfl
          have e4 : vals 4 = .bool (false) := hv40 4 (by omega) 164 rfl
          have e5 : vals 5 = .slice (AZ) (s.its.length + (n - f)) (cZ) := hv40 5 (by omega) 165 rfl
          obtain ⟨A166, c166, e6, r166⟩ := hv40 6 (by omega) 166 rfl
          obtain ⟨A167, c167, e7, r167⟩ := hv40 7 (by omega) 167 rfl
          have e8 : vals 8 = .string (str (rootL ((s.its ++ give).map leafH))) := hv40 8 (by omega) 168 rfl
          have e9 : vals 9 = .pointer (some ⟨g14, 0, none⟩) := hv40 9 (by omega) 169 rfl
          have e10 : vals 10 = .pointer (some ⟨g14, 1, none⟩) := hv40 10 (by omega) 170 rfl
          have e11 : vals 11 = .slice (B) (32) (d) := hv40 11 (by omega) 171 rfl
          have e12 : vals 12 = .string (str (R)) := hv40 12 (by omega) 172 rfl
          have e13 : vals 13 = .bool (true) := hv40 13 (by omega) 173 rfl
          have e14 : vals 14 = .bool (true) := hv40 14 (by omega) 174 rfl
          simp only [putAll, Act.put, List.take_succ_cons, List.take_zero, List.drop_succ_cons, List.drop_zero, List.drop_nil, List.take_nil, Nat.reduceAdd, List.setIfInBounds_toArray, List.set_cons_succ, List.set_cons_zero, e0, e1, e2, e3, e4, e5, e6, e7, e8, e9, e10, e11, e12, e13, e14]
          clear hv40 e0 e1 e2 e3 e4 e5 e6 e7 e8 e9 e10 e11 e12 e13 e14
          replace hP := hP.ext hE40
          replace kX := kX.ext hE40
          replace hEa := hEa.trans hE40
          clear hE40 c5 c5s rZ rR rP rQ hB14 hGl
          go_wp2_with fail
          rw [Hr.out.1, Hr.out.2]
          exact ⟨U, A6, c6, A7, c7, rfl, rfl, rfl, rfl, hP, kX, hEa⟩
      · have e5 : ((s.its.length + (n - f) : Nat) : Int) ≠ (n : Int) := by omega
        have Hr := Lib.hid (feed_31 (s := s) (its := give) Hcv.out c1 (.inl (by omega)))
        refine par_ext (n := 15) (by kernel_rfl) [.is (.slice (AZ) (s.its.length + (n - f)) (cZ)), .is (.int .i64 ((s.its.length + (n - f) : Nat))), .is (.int .i64 ((n : Int))), .is (.bool (true)), .is (.bool (true)), .is undef, .is undef, .is undef, .is undef, .is undef, .is undef, .is undef, .is undef, .is undef, .is (.bool (true))] rfl ⟨?_, ?_, ?_, ?_, ?_, ?_, ?_, ?_, ?_, ?_, ?_, ?_, ?_, ?_, ?_, trivial⟩ ?_
        · refine stepE rfl fun sdn sa sw sE sd sk => ?_
          have h18 : sa.eval (.tmp 18) = .slice (AZ) (s.its.length + (n - f)) (cZ) := sk.old 18 rfl
          exact Runs.move rfl h18 ⟨Ext.refl _, rfl⟩
        · refine stepE rfl fun sdn sa sw sE sd sk => ?_
          have h160 : sa.eval (.tmp 160) = .slice (AZ) (s.its.length + (n - f)) (cZ) := sk.fact 0 160 rfl (sd 0 rfl)
          exact Runs.len Tryz.underlying33 rfl h160 ⟨Ext.refl _, rfl⟩
        · refine stepE rfl fun sdn sa sw sE sd sk => ?_
          have h11 : sa.eval (.tmp 11) = .int .i64 ((n : Int)) := sk.old 11 rfl
          exact Runs.move rfl h11 ⟨Ext.refl _, rfl⟩
        · refine stepE rfl fun sdn sa sw sE sd sk => ?_
          have h161 : sa.eval (.tmp 161) = .int .i64 ((s.its.length + (n - f) : Nat)) := sk.fact 1 161 rfl (sd 1 rfl)
          have h162 : sa.eval (.tmp 162) = .int .i64 ((n : Int)) := sk.fact 2 162 rfl (sd 2 rfl)
          exact Runs.bin rfl h161 h162 (by rfl) (bin_neq _ _ _ _) ⟨Ext.refl _, congrArg Value.bool (decide_eq_true e5)⟩
        · refine stepE rfl fun sdn sa sw sE sd sk => ?_
          have h163 : sa.eval (.tmp 163) = .bool (true) := sk.fact 3 163 rfl (sd 3 rfl)
          exact Runs.move rfl h163 ⟨Ext.refl _, rfl⟩
        · exact stepN (j := 4) (d := 164) (b := true) rfl rfl rfl (fun v w h => h) fun w => rfl
        · exact stepN (j := 4) (d := 164) (b := true) rfl rfl rfl (fun v w h => h) fun w => rfl
        · exact stepN (j := 4) (d := 164) (b := true) rfl rfl rfl (fun v w h => h) fun w => rfl
        · exact stepN (j := 4) (d := 164) (b := true) rfl rfl rfl (fun v w h => h) fun w => rfl
        · exact stepN (j := 4) (d := 164) (b := true) rfl rfl rfl (fun v w h => h) fun w => rfl
        · exact stepN (j := 4) (d := 164) (b := true) rfl rfl rfl (fun v w h => h) fun w => rfl
        · exact stepN (j := 4) (d := 164) (b := true) rfl rfl rfl (fun v w h => h) fun w => rfl
        · exact stepN (j := 4) (d := 164) (b := true) rfl rfl rfl (fun v w h => h) fun w => rfl
        · exact stepN (j := 4) (d := 164) (b := true) rfl rfl rfl (fun v w h => h) fun w => rfl
        · refine stepE rfl fun sdn sa sw sE sd sk => ?_
          have h164 : sa.eval (.tmp 164) = .bool (true) := sk.fact 4 164 rfl (sd 4 rfl)
          exact Runs.pick rfl h164 ⟨Ext.refl _, rfl⟩
        intro vals W40 hE40 hv40
        have e0 : vals 0 = .slice (AZ) (s.its.length + (n - f)) (cZ) := hv40 0 (by omega) 160 rfl
        have e1 : vals 1 = .int .i64 ((s.its.length + (n - f) : Nat)) := hv40 1 (by omega) 161 rfl
        have e2 : vals 2 = .int .i64 ((n : Int)) := hv40 2 (by omega) 162 rfl
        have e3 : vals 3 = .bool (true) := hv40 3 (by omega) 163 rfl
        have e4 : vals 4 = .bool (true) := hv40 4 (by omega) 164 rfl
        have e14 : vals 14 = .bool (true) := hv40 14 (by omega) 174 rfl
        simp only [putAll, Act.put, List.take_succ_cons, List.take_zero, List.drop_succ_cons, List.drop_zero, List.drop_nil, List.take_nil, Nat.reduceAdd, List.setIfInBounds_toArray, List.set_cons_succ, List.set_cons_zero, e0, e1, e2, e3, e4, e14]
        clear hv40 e0 e1 e2 e3 e4 e14
        replace hP := hP.ext hE40
        replace kX := kX.ext hE40
        replace hEa := hEa.trans hE40
        clear hE40 rZ rR rP rQ hB14 hGl c4 e5
        go_wp2_with fail
        rw [Hr.out.1, Hr.out.2]
        exact ⟨U, A6, c6, A7, c7, rfl, rfl, rfl, rfl, hP, kX, hEa⟩
end Go.Proofs.YtkndgpjamijbbaaGreat
