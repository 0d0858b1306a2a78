/-
  Contracts of the reference's reader: a factor.
-/
import Derived.Test.YtneohanphabneaaGreatDoorR12
import Derived.Test.YtneohanphabneaaGreatDoorR11
import Derived.Test.YtneohanphabneaaGreatDoorMP13
namespace Go.Proofs.YtneohanphabneaaGreatDoor
open Go.RowKit Ps
set_option maxRecDepth 100000 in
set_option maxHeartbeats 4000000 in
theorem rfactor_any {w : World} {p T : Nat} {l : List Sc.Tok} {s : R Unit} {i d : Nat} (h : RS w p T l s i d) (hP : Okp (d ≤ 20) s) (hd : d ≤ 21) (ex dn : List Sc.Tok → Nat → R Tree) (hex : d ≤ 20 → RCT (fun _ => True) 148 d ex) (hdn : d ≤ 20 → RCT (Okp (d + 1 ≤ 20)) 208 (d + 1) dn) (hdn0 : 20 ≤ d → ∀ l i, dn l i = Ps.tooDeep l i) : Calls Tryz.prog 208 #[pp p] w fun e w' =>
    RT (fun b => w.heap.size ≤ b) p T l i d (s.bind fun _ k => Ps.factorOf l (ex l) (dn l) k) e w' ∧ Kp w.heap.size p w w' := by
  obtain ⟨r, hr⟩ : ∃ r, r = s.bind fun _ k => Ps.factorOf l (ex l) (dn l) k := ⟨_, rfl⟩
  rw [← hr]
  have HR := rhere h _ hr
  clear hr
  unfold Ps.factorOf at HR
  unfold pp
  go_enter Tryz.func208, Tryz.ntmps208
  go_wp2_with fail
  have HEX := Lib.hid hex
  have HDN := Lib.hid hdn
  have HD0 := Lib.hid hdn0
  clear hex hdn hdn0
  have s1 := (Rs.start h).allocAt (w.heap.size) 25 #[.int .i64 0, .string ⟨#[]⟩, .int .i64 0, .int .i64 0, .slice none 0 0] (by simp)
  refine (rat_any s1.ps).mono ?_
  rintro e w2 ⟨rfl, hb3⟩
  have s4 := s1.below hb3
  go_wp2_with fail
  have s5 := s4.allocAt (w2.heap.size) 25 #[.int .i64 0, .string ⟨#[]⟩, .int .i64 0, .int .i64 (Ps.A l i), .slice none 0 0] (by simp)
  refine (rword_any s5.ps).mono ?_
  rintro e w6 ⟨rfl, hb7⟩
  have s8 := s5.below hb7
  go_wp2_with fail
  have hOk := Lib.hid (rok_any s8.ps)
  unfold pp at hOk
  rcases rokB s s8.ps.bad with ⟨ho12, k9, rfl⟩ | ⟨ho12, n10, a11, rfl⟩
  · have hkj := (s8.ps.ok k9 rfl).symm
    subst hkj
    rw [ho12] at hOk
    clear ho12
    have hd20 : d ≤ 20 := hP.get
    have hEX := HEX.out hd20
    have hDN := HDN.out hd20
    clear hP
    go_upto_region 10 with (go_at_call 18; refine hOk.out.mono ?_; rintro e w' ⟨rfl, rfl⟩)
    go_cut [33] from 34 to 40 (fun v wc => v = .bool (Ps.isNum (Ps.W l i)) ∧ Rs w wc p T l (.ok () i) i d [(w2.heap.size, 25, #[.int .i64 0, .string ⟨#[]⟩, .int .i64 0, .int .i64 (Ps.A l i), .slice none 0 0]), (w.heap.size, 25, #[.int .i64 0, .string ⟨#[]⟩, .int .i64 0, .int .i64 0, .slice none 0 0])] g0 [])
    case first =>
      rcases num_facts (Ps.W l i) with ⟨hE, hn⟩ | ⟨hE, hp, ⟨hn, ha, hb⟩ | ⟨hn, ha⟩ | ⟨hn, ha, hb⟩⟩
      · go_wp2_with fail
        go_meet
        case rel => exact ⟨by rw [hn], s8⟩
      · go_wp2_with (go_at_call 36; refine (isDigit_any _ _).mono ?_; rintro e w' ⟨rfl, rfl⟩)
        go_meet
        case rel => exact ⟨by rw [hn, show Sc.isD (Ps.W l i)[0] = _ from ((isD_di _).trans (isD_first hp).symm).trans hn], s8⟩
      · go_wp2_with (go_at_call 36; refine (isDigit_any _ _).mono ?_; rintro e w' ⟨rfl, rfl⟩)
        go_meet
        case rel => exact ⟨by rw [hn, show Sc.isD (Ps.W l i)[0] = _ from ((isD_di _).trans (isD_first hp).symm).trans hn], s8⟩
      · go_wp2_with (go_at_call 36; refine (isDigit_any _ _).mono ?_; rintro e w' ⟨rfl, rfl⟩)
        go_meet
        case rel => exact ⟨by rw [hn, show Sc.isD (Ps.W l i)[0] = _ from ((isD_di _).trans (isD_first hp).symm).trans hn], s8⟩
    case rest =>
      obtain ⟨rfl, s0⟩ := hcut
      cases hn : Ps.isNum (Ps.W l i) with
      | true =>
        rw [hn] at HR
        replace HR := rokX (Y := (Ps.number l i).bind fun k i1 => R.ok (Tree.node 29 ⟨#[]⟩ k (Ps.A l i) []) i1) rfl HR
        have c13 := s0.n0.2.five
        have l14 := s0.n0.2.lt
        go_wp2_with fail
        clear c13 l14
        have s15 := s0.s00 (.int .i64 29)
        refine (rvalue_on s15.ps).mono ?_
        rintro e w17 ⟨v16, q18, i19, rfl, h20, le21, hk22, ho23⟩
        replace HR := ho23 HR
        clear ho23
        have le21 := Lib.hid le21
        have s24 := s15.call hk22 h20
        have c25 := s24.n0.2.five
        have l26 := s24.n0.2.lt
        have c27 := s24.n1.2.five
        have l28 := s24.n1.2.lt
        have d29 := s24.d01
        go_wp2_with fail
        clear c25 l26 c27 l28 d29
        have s30 := s24.s02 (.int .i64 v16)
        have s31 := s30.keepNil
        have s32 := s31.p1 (.int .i64 29) (.string ⟨#[]⟩) (.int .i64 v16) (.int .i64 (Ps.A l i)) (.slice none 0 0)
        exact bodyPost_ret (res5 Tryz.results208 rfl s32.n1.2) rfl ⟨rend s32.ps HR (s32.treeOf (sv := .slice none 0 0) (by simp)) (by have := le21.out; omega), s32.kp⟩
      | false =>
        rw [hn] at HR
        replace HR := rokX (if_neg (by decide)) HR
        go_wp2_with fail
        refine (ris_any s0.ps (⟨#[84, 82, 85, 69]⟩) (fun _ => by decide)).mono ?_
        rintro e w33 ⟨⟨hq34, hw35, rfl, h36⟩ | ⟨hw35, rfl, h36⟩, hk37⟩
        · replace HR := ryes (j := i + 1) hq34 hw35 HR
          have s38 := s0.call hk37 h36
          have c39 := s38.n0.2.five
          have l40 := s38.n0.2.lt
          have c41 := s38.n1.2.five
          have l42 := s38.n1.2.lt
          have d43 := s38.d01
          go_wp2_with fail
          clear c39 l40 c41 l42 d43
          have s44 := s38.s00 (.int .i64 30)
          have s45 := s44.keepNil
          have s46 := s45.p1 (.int .i64 30) (.string ⟨#[]⟩) (.int .i64 0) (.int .i64 (Ps.A l i)) (.slice none 0 0)
          exact bodyPost_ret (res5 Tryz.results208 rfl s46.n1.2) rfl ⟨rend s46.ps HR (s46.treeOf (sv := .slice none 0 0) (by simp)) (by omega), s46.kp⟩
        · replace HR := rno s0.ps hw35 HR
          have s47 := s0.call hk37 h36
          go_wp2_with fail
          refine (ris_any s47.ps (⟨#[70, 65, 76, 83, 69]⟩) (fun _ => by decide)).mono ?_
          rintro e w48 ⟨⟨hq49, hw50, rfl, h51⟩ | ⟨hw50, rfl, h51⟩, hk52⟩
          · replace HR := ryes (j := i + 1) hq49 hw50 HR
            have s53 := s47.call hk52 h51
            have c54 := s53.n0.2.five
            have l55 := s53.n0.2.lt
            have c56 := s53.n1.2.five
            have l57 := s53.n1.2.lt
            have d58 := s53.d01
            go_wp2_with fail
            clear c54 l55 c56 l57 d58
            have s59 := s53.s00 (.int .i64 31)
            have s60 := s59.keepNil
            have s61 := s60.p1 (.int .i64 31) (.string ⟨#[]⟩) (.int .i64 0) (.int .i64 (Ps.A l i)) (.slice none 0 0)
            exact bodyPost_ret (res5 Tryz.results208 rfl s61.n1.2) rfl ⟨rend s61.ps HR (s61.treeOf (sv := .slice none 0 0) (by simp)) (by omega), s61.kp⟩
          · replace HR := rno s47.ps hw50 HR
            have s62 := s47.call hk52 h51
            go_wp2_with fail
            refine (ris_any s62.ps (⟨#[78, 73, 76]⟩) (fun _ => by decide)).mono ?_
            rintro e w63 ⟨⟨hq64, hw65, rfl, h66⟩ | ⟨hw65, rfl, h66⟩, hk67⟩
            · replace HR := ryes (j := i + 1) hq64 hw65 HR
              have s68 := s62.call hk67 h66
              have c69 := s68.n0.2.five
              have l70 := s68.n0.2.lt
              have c71 := s68.n1.2.five
              have l72 := s68.n1.2.lt
              have d73 := s68.d01
              go_wp2_with fail
              clear c69 l70 c71 l72 d73
              have s74 := s68.s00 (.int .i64 32)
              have s75 := s74.keepNil
              have s76 := s75.p1 (.int .i64 32) (.string ⟨#[]⟩) (.int .i64 0) (.int .i64 (Ps.A l i)) (.slice none 0 0)
              exact bodyPost_ret (res5 Tryz.results208 rfl s76.n1.2) rfl ⟨rend s76.ps HR (s76.treeOf (sv := .slice none 0 0) (by simp)) (by omega), s76.kp⟩
            · replace HR := rno s62.ps hw65 HR
              have s77 := s62.call hk67 h66
              go_wp2_with fail
              refine (ris_any s77.ps (⟨#[126]⟩) (fun _ => by decide)).mono ?_
              rintro e w78 ⟨⟨hq79, hw80, rfl, h81⟩ | ⟨hw80, rfl, h81⟩, hk82⟩
              · replace HR := ryes (j := i + 1) hq79 hw80 HR
                have s83 := s77.call hk82 h81
                go_wp2_with fail
                refine (rdeep_on s83.ps (.inl hd20) (by omega)).mono ?_
                rintro e w84 ⟨q85, rfl, h86, hk87, hp88, hdp89⟩
                replace HR := hdp89 (Y := _) (fun _ => rfl) (fun h => by rw [HD0.out h]; rfl) HR
                clear hdp89
                have s90 := s83.call hk87 h86
                have c91 := s90.n0.2.five
                have l92 := s90.n0.2.lt
                go_wp2_with fail
                clear c91 l92
                have s93 := s90.s00 (.int .i64 34)
                refine (rt_on s93.ps (hDN _ p T l _ _ hp88 s93.ps)).mono ?_
                rintro e w102 ⟨k94, nm95, num96, a97, ts98, so99, sc100, q103, i104, rfl, hrow101, h105, le106, hk107, ho108⟩
                have hp109 := Okp.on hp88 ho108
                replace HR := ho108 HR
                clear ho108
                have le106 := Lib.hid le106
                have s110 := s93.callKeep hk107 h105 hrow101
                unfold nodeV
                obtain ⟨c111, hc112, hb113, ⟨qa114, qb115⟩, hlt116⟩ := s110.ps.facts
                obtain ⟨⟨h117, h118, h119, h120, h121, h122⟩, f123, f124, f125, f126, f127, f128⟩ := hb113.six
                have c129 := s110.n0.2.five
                have l130 := s110.n0.2.lt
                have np131 := s110.np 0 rfl
                have c132 := s110.n1.2.five
                have l133 := s110.n1.2.lt
                have np134 := s110.np 1 rfl
                have d135 := s110.d01
                go_wp2_with fail
                clear hb113 qa114 qb115 hlt116 h117 h118 h119 h120 h121 h122 f123 f124 f125 f126 f127 f128 c129 l130 np131 c132 l133 np134 d135
                have s136 := s110.s04 (.slice (some ⟨w102.heap.size, 0, none⟩) 1 1)
                have s137 := rupX s136
                have s138 := s137.p1 (.int .i64 34) (.string ⟨#[]⟩) (.int .i64 0) (.int .i64 (Ps.A l i)) (.slice (some ⟨w102.heap.size, 0, none⟩) 1 1)
                have s139 := s138.built1 (k0 := k94) (nm0 := nm95) (num0 := num96) (a0 := a97) (sv0 := .slice so99 ts98.length sc100) (ts0 := ts98) (by simp) (w102.heap.size) (by simp)
                exact bodyPost_ret (res5 Tryz.results208 rfl s139.n1.2) rfl ⟨rend s139.ps HR (s139.treeOf (sv := .slice (some ⟨w102.heap.size, 0, none⟩) 1 1) (by simp)) (by have := le106.out; omega), s139.kp⟩
              · replace HR := rno s77.ps hw80 HR
                have s140 := s77.call hk82 h81
                go_wp2_with fail
                refine (ris_any s140.ps (⟨#[40]⟩) (fun _ => by decide)).mono ?_
                rintro e w141 ⟨⟨hq142, hw143, rfl, h144⟩ | ⟨hw143, rfl, h144⟩, hk145⟩
                · replace HR := ryes (j := i + 1) hq142 hw143 HR
                  have s146 := s140.call hk145 h144
                  go_wp2_with fail
                  refine (rt_on s146.ps (hEX _ p T l _ _ trivial s146.ps)).mono ?_
                  rintro e w155 ⟨k147, nm148, num149, a150, ts151, so152, sc153, q156, i157, rfl, hrow154, h158, le159, hk160, ho161⟩
                  replace HR := ho161 HR
                  clear ho161
                  have le159 := Lib.hid le159
                  have s162 := s146.callKeep hk160 h158 hrow154
                  unfold nodeV
                  have c163 := s162.n0.2.five
                  have l164 := s162.n0.2.lt
                  go_wp2_with fail
                  clear c163 l164
                  have s165 := s162.p0 (.int .i64 k147) (.string nm148) (.int .i64 num149) (.int .i64 a150) (.slice so152 ts151.length sc153)
                  refine (rneed_on s165.ps (⟨#[41]⟩) (fun _ => by decide)).mono ?_
                  rintro e w166 ⟨q167, i168, rfl, h169, le170, hk171, ho172⟩
                  replace HR := ho172 HR
                  clear ho172
                  have le170 := Lib.hid le170
                  have s173 := s165.call hk171 h169
                  have c174 := s173.n0.2.five
                  have l175 := s173.n0.2.lt
                  have c176 := s173.n1.2.five
                  have l177 := s173.n1.2.lt
                  have d178 := s173.d01
                  go_wp2_with fail
                  clear c174 l175 c176 l177 d178
                  have s179 := s173.p1 (.int .i64 k147) (.string nm148) (.int .i64 num149) (.int .i64 a150) (.slice so152 ts151.length sc153)
                  exact bodyPost_ret (res5 Tryz.results208 rfl s179.n1.2) rfl ⟨rend s179.ps HR (s179.treeOf (sv := .slice so152 ts151.length sc153) (by simp)) (by have := le159.out; have := le170.out; omega), s179.kp⟩
                · replace HR := rno s140.ps hw143 HR
                  have s180 := s140.call hk145 h144
                  go_wp2_with fail
                  refine (rt_on s180.ps (rdesig_any s180.ps ex hEX)).mono ?_
                  rintro e w189 ⟨k181, nm182, num183, a184, ts185, so186, sc187, q190, i191, rfl, hrow188, h192, le193, hk194, ho195⟩
                  replace HR := ho195 HR
                  clear ho195
                  have le193 := Lib.hid le193
                  have s196 := s180.callKeep hk194 h192 hrow188
                  unfold nodeV
                  go_wp2_with fail
                  have s197 := s196.allocAt (w189.heap.size) 25 #[.int .i64 k181, .string nm182, .int .i64 num183, .int .i64 a184, .slice so186 ts185.length sc187] (by simp)
                  have hdb := le193.out
                  have hOk := Lib.hid (rok_any s197.ps)
                  unfold pp at hOk
                  rcases rokB q190 s197.ps.bad with ⟨ho201, k198, rfl⟩ | ⟨ho201, n199, a200, rfl⟩
                  · have hkj := (s197.ps.ok k198 rfl).symm
                    subst hkj
                    rw [ho201] at hOk
                    clear ho201
                    go_wp2_with (go_at_call 18; refine hOk.out.mono ?_; rintro e w' ⟨rfl, rfl⟩)
                    refine (rword_any s197.ps).mono ?_
                    rintro e w202 ⟨rfl, hb203⟩
                    have s204 := s197.below hb203
                    have hq := isW_lit l i191 ⟨#[40]⟩ [40] (by rw [Lib.toList_data])
                    cases hq2 : Ps.isW l i191 ⟨#[40]⟩ with
                    | false =>
                      rw [hq2] at hq HR
                      replace HR := rokX (Y := R.ok (Tree.node k181 nm182 num183 a184 ts185) i191) rfl HR
                      have c205 := s204.n0.2.five
                      have l206 := s204.n0.2.lt
                      have c207 := s204.n2.2.five
                      have l208 := s204.n2.2.lt
                      have d209 := s204.d02
                      go_wp2_with fail
                      clear c205 l206 c207 l208 d209
                      have s210 := s204.p2 (.int .i64 k181) (.string nm182) (.int .i64 num183) (.int .i64 a184) (.slice so186 ts185.length sc187)
                      exact bodyPost_ret (res5 Tryz.results208 rfl s210.n2.2) rfl ⟨rend s210.ps HR (s210.treeOf (sv := .slice so186 ts185.length sc187) (by simp)) (by have := le193.out; omega), s210.kp⟩
                    | true =>
                      rw [hq2] at hq HR
                      replace HR := rokX (Y := (Ps.args l (ex l) i191).bind fun ts i2 => R.ok (Tree.node 33 ⟨#[]⟩ 0 (Ps.A l i) (Tree.node k181 nm182 num183 a184 ts185 :: ts)) i2) rfl HR
                      have c211 := s204.n1.2.five
                      have l212 := s204.n1.2.lt
                      go_wp2_with fail
                      clear c211 l212
                      have s213 := s204.s10 (.int .i64 33)
                      have c214 := s213.n0.2.five
                      have l215 := s213.n0.2.lt
                      go_wp2_with fail
                      clear c214 l215
                      have hC := s213.n0.2
                      refine Ch.wp_region_tree (fun u => Blk u (w189.heap.size) 25 #[.int .i64 k181, .string nm182, .int .i64 num183, .int .i64 a184, .slice so186 ts185.length sc187]) [0] [] (.take 0 (.take 2 (.two 1 (.one 3 (.one 4 (.take 5 (.one 6 .done)))) 3 (.one 1 (.one 4 (.take 5 (.one 6 .done))))))) (by kernel_rfl) (by kernel_rfl) (fun _ _ d _ _ h => by cases d <;> exact h) (hC) ?_
                      clear hC
                      refine Ch.ld0 (v := ?v216) rfl (by rfl) ?y217 ?_
                      case y217 => intro u hC; have c5 := Blk.five hC; go_simp; rfl
                      simp only [Act.put, List.setIfInBounds_toArray, List.set_cons_zero, List.set_cons_succ]
                      refine Ch.tk2 (v := ?v218) rfl (by rfl) ?y219 ?_
                      case y219 => intro u; go_simp; rfl
                      simp only [Act.put, List.setIfInBounds_toArray, List.set_cons_zero, List.set_cons_succ]
                      refine Ch.tree_two ?_ ?_
                      · refine Ch.md1 (by rfl) (fun K hK => ?_)
                        go_simp
                        have s220 := s213.builtG1 (k0 := k181) (nm0 := nm182) (num0 := num183) (a0 := a184) (sv0 := .slice so186 ts185.length sc187) (ts0 := ts185) (by simp) (w202.heap.size) (by simp)
                        have s221 := s220.drew
                        refine hK _ _ (s221.n0.2) ?_
                        clear hK K
                        try simp only [Act.put, List.setIfInBounds_toArray, List.set_cons_zero, List.set_cons_succ]
                        refine Ch.md3 (by rfl) (fun K hK => ?_)
                        go_simp
                        refine (rl_on s221.ps (rgiven_any s221.ps ex hEX)).mono ?_
                        rintro e w226 ⟨so223, ts222, sc224, q227, i228, rfl, hrow225, h229, le230, hk231, ho232, hl233⟩
                        have hl233 := Lib.hid hl233
                        replace HR := ho232 HR
                        clear ho232
                        have le230 := Lib.hid le230
                        have s234 := s221.callKeep hk231 h229 hrow225
                        refine hK _ _ (s234.n0.2) ?_
                        clear hK K
                        try simp only [Act.put, List.setIfInBounds_toArray, List.set_cons_zero, List.set_cons_succ]
                        refine Ch.md4 (by rfl) (fun K hK => ?_)
                        refine s234.appAll (sn := ts222.length) (us := ts222) (by simp) (.tmp 28) (.tmp 30) rfl rfl rfl (Nat.succ_pos _) (by have := hl233.out; have := s234.ps.small; show 1 + _ ≤ 1000000; omega) (fun go235 gn236 gc237 w238 s239 => ?_)
                        refine hK _ _ (s239.n0.2) ?_
                        clear hK K
                        try simp only [Act.put, List.setIfInBounds_toArray, List.set_cons_zero, List.set_cons_succ]
                        have c240 := s239.n0.2.five
                        have l241 := s239.n0.2.lt
                        have c242 := s239.n1.2.five
                        have l243 := s239.n1.2.lt
                        have c244 := s239.n2.2.five
                        have l245 := s239.n2.2.lt
                        have d246 := s239.d01
                        have d247 := s239.d02
                        have d248 := s239.d12
                        refine Ch.tk5 (v := ?v249) rfl (by rfl) ?y250 ?_
                        case y250 => intro u; go_simp; rfl
                        simp only [Act.put, List.setIfInBounds_toArray, List.set_cons_zero, List.set_cons_succ]
                        refine Ch.md6 (by rfl) (fun K hK => ?_)
                        go_simp
                        have s251 := s239.s14 (.slice go235 gn236 gc237)
                        refine hK _ _ (s251.n0.2) ?_
                        clear hK K
                        try simp only [Act.put, List.setIfInBounds_toArray, List.set_cons_zero, List.set_cons_succ]
                        refine Ch.tree_end ?_
                        go_wp2_with fail
                        clear c240 l241 c242 l243 c244 l245 d246 d247 d248
                        have s252 := s251.grown
                        have s253 := s252.p2 (.int .i64 33) (.string ⟨#[]⟩) (.int .i64 0) (.int .i64 (Ps.A l i)) (.slice go235 gn236 gc237)
                        exact bodyPost_ret (res5 Tryz.results208 rfl s253.n2.2) rfl ⟨rend s253.ps HR (s253.treeOf (sv := .slice go235 gn236 gc237) (by simp)) (by have := le193.out; have := le230.out; omega), s253.kp⟩
                      · have s254 := s213.drew
                        refine Ch.md3 (by rfl) (fun K hK => ?_)
                        go_simp
                        refine (rl_on s254.ps (rgiven_any s254.ps ex hEX)).mono ?_
                        rintro e w259 ⟨so256, ts255, sc257, q260, i261, rfl, hrow258, h262, le263, hk264, ho265, hl266⟩
                        have hl266 := Lib.hid hl266
                        replace HR := ho265 HR
                        clear ho265
                        have le263 := Lib.hid le263
                        have s267 := s254.callKeep hk264 h262 hrow258
                        refine hK _ _ (s267.n0.2) ?_
                        clear hK K
                        try simp only [Act.put, List.setIfInBounds_toArray, List.set_cons_zero, List.set_cons_succ]
                        refine Ch.md1 (by rfl) (fun K hK => ?_)
                        go_simp
                        have s268 := s267.builtG1 (k0 := k181) (nm0 := nm182) (num0 := num183) (a0 := a184) (sv0 := .slice so186 ts185.length sc187) (ts0 := ts185) (by simp) (w259.heap.size) (by simp)
                        refine hK _ _ (s268.n0.2) ?_
                        clear hK K
                        try simp only [Act.put, List.setIfInBounds_toArray, List.set_cons_zero, List.set_cons_succ]
                        refine Ch.md4 (by rfl) (fun K hK => ?_)
                        refine s268.appAll (sn := ts255.length) (us := ts255) (by simp) (.tmp 28) (.tmp 30) rfl rfl rfl (Nat.succ_pos _) (by have := hl266.out; have := s268.ps.small; show 1 + _ ≤ 1000000; omega) (fun go269 gn270 gc271 w272 s273 => ?_)
                        refine hK _ _ (s273.n0.2) ?_
                        clear hK K
                        try simp only [Act.put, List.setIfInBounds_toArray, List.set_cons_zero, List.set_cons_succ]
                        have c274 := s273.n0.2.five
                        have l275 := s273.n0.2.lt
                        have c276 := s273.n1.2.five
                        have l277 := s273.n1.2.lt
                        have c278 := s273.n2.2.five
                        have l279 := s273.n2.2.lt
                        have d280 := s273.d01
                        have d281 := s273.d02
                        have d282 := s273.d12
                        refine Ch.tk5 (v := ?v283) rfl (by rfl) ?y284 ?_
                        case y284 => intro u; go_simp; rfl
                        simp only [Act.put, List.setIfInBounds_toArray, List.set_cons_zero, List.set_cons_succ]
                        refine Ch.md6 (by rfl) (fun K hK => ?_)
                        go_simp
                        have s285 := s273.s14 (.slice go269 gn270 gc271)
                        refine hK _ _ (s285.n0.2) ?_
                        clear hK K
                        try simp only [Act.put, List.setIfInBounds_toArray, List.set_cons_zero, List.set_cons_succ]
                        refine Ch.tree_end ?_
                        go_wp2_with fail
                        clear c274 l275 c276 l277 c278 l279 d280 d281 d282
                        have s286 := s285.grown
                        have s287 := s286.p2 (.int .i64 33) (.string ⟨#[]⟩) (.int .i64 0) (.int .i64 (Ps.A l i)) (.slice go269 gn270 gc271)
                        exact bodyPost_ret (res5 Tryz.results208 rfl s287.n2.2) rfl ⟨rend s287.ps HR (s287.treeOf (sv := .slice go269 gn270 gc271) (by simp)) (by have := le193.out; have := le263.out; omega), s287.kp⟩
                  · rw [ho201] at hOk
                    clear ho201
                    replace HR := rbad (Y := R.ok (Tree.node k181 nm182 num183 a184 ts185) i191) ⟨n199, a200, rfl⟩ HR
                    have c288 := s197.n0.2.five
                    have l289 := s197.n0.2.lt
                    have c290 := s197.n2.2.five
                    have l291 := s197.n2.2.lt
                    have d292 := s197.d02
                    go_wp2_with (go_at_call 18; refine hOk.out.mono ?_; rintro e w' ⟨rfl, rfl⟩)
                    clear c288 l289 c290 l291 d292
                    have s293 := s197.p2 (.int .i64 k181) (.string nm182) (.int .i64 num183) (.int .i64 a184) (.slice so186 ts185.length sc187)
                    exact bodyPost_ret (res5 Tryz.results208 rfl s293.n2.2) rfl ⟨rend s293.ps HR (s293.treeOf (sv := .slice so186 ts185.length sc187) (by simp)) (by have := le193.out; omega), s293.kp⟩
  · rw [ho12] at hOk
    clear ho12
    replace HR := rbad (Y := R.ok (Tree.node 0 ⟨#[]⟩ 0 (Ps.A l i) []) i) ⟨n10, a11, rfl⟩ HR
    have c294 := s8.n0.2.five
    have l295 := s8.n0.2.lt
    have c296 := s8.n1.2.five
    have l297 := s8.n1.2.lt
    have d298 := s8.d01
    go_wp2_with (go_at_call 18; refine hOk.out.mono ?_; rintro e w' ⟨rfl, rfl⟩)
    clear c294 l295 c296 l297 d298
    have s299 := s8.keepNil
    have s300 := s299.p1 (.int .i64 0) (.string ⟨#[]⟩) (.int .i64 0) (.int .i64 (Ps.A l i)) (.slice none 0 0)
    exact bodyPost_ret (res5 Tryz.results208 rfl s300.n1.2) rfl ⟨rend s300.ps HR (s300.treeOf (sv := .slice none 0 0) (by simp)) (by omega), s300.kp⟩
end Go.Proofs.YtneohanphabneaaGreatDoor
