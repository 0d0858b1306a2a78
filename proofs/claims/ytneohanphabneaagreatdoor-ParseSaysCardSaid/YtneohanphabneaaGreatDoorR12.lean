/-
  Contracts of the reference's reader: an expression.
-/
import Derived.Test.YtneohanphabneaaGreatDoorR10
namespace Go.Proofs.YtneohanphabneaaGreatDoor
open Go.RowKit Ps
set_option maxRecDepth 100000 in
set_option maxHeartbeats 2000000 in
theorem rexpr_any {w : World} {p T : Nat} {l : List Sc.Tok} {s : R Unit} {i d : Nat} (h : RS w p T l s i d) (hd : d ≤ 20) (fac : List Sc.Tok → Nat → R Tree) (hfac : RCT (Okp (d + 1 ≤ 20)) 208 (d + 1) fac) : Calls Tryz.prog 148 #[pp p] w fun e w' =>
    RT (fun b => w.heap.size ≤ b) p T l i d (s.bind fun _ k => (if d < 20 then Ps.exprOf l (fac l) k else Ps.tooDeep l k)) e w' ∧ Kp w.heap.size p w w' := by
  have hsum : RCT (Okp (d + 1 ≤ 20)) 177 (d + 1) (fun l => Ps.simple l (fac l)) := fun _ _ _ _ _ _ hP h => rsum_any h hP fac hfac
  obtain ⟨r, hr⟩ : ∃ r, r = s.bind fun _ k => (if d < 20 then Ps.exprOf l (fac l) k else Ps.tooDeep l k) := ⟨_, rfl⟩
  rw [← hr]
  have HR := rhere h _ hr
  clear hr
  unfold pp
  go_enter Tryz.func148, Tryz.ntmps148
  go_wp2_with fail
  have s1 := (Rs.start h).allocAt (w.heap.size) 25 #[.int .i64 0, .string ⟨#[]⟩, .int .i64 0, .int .i64 0, .slice none 0 0] (by simp)
  refine (rdeep_on s1.ps (.inl hd) (by omega)).mono ?_
  rintro e w2 ⟨q3, rfl, h4, hk5, hp6, hdp7⟩
  replace HR := hdp7 (Y := Ps.exprOf l (fac l) i) (fun h => if_pos h) (fun h => by rw [if_neg (by omega)]; rfl) HR
  clear hdp7
  have s8 := s1.call hk5 h4
  unfold Ps.exprOf at HR
  go_wp2_with fail
  refine (rt_on s8.ps (hsum _ p T l _ _ hp6 s8.ps)).mono ?_
  rintro e w17 ⟨k9, nm10, num11, a12, ts13, so14, sc15, q18, i19, rfl, hrow16, h20, le21, hk22, ho23⟩
  have hp24 := Okp.on hp6 ho23
  replace HR := ho23 HR
  clear ho23
  have le21 := Lib.hid le21
  have s25 := s8.callKeep hk22 h20 hrow16
  unfold nodeV
  go_wp2_with fail
  have s26 := s25.allocAt (w17.heap.size) 25 #[.int .i64 k9, .string nm10, .int .i64 num11, .int .i64 a12, .slice so14 ts13.length sc15] (by simp)
  refine (rword_any s26.ps).mono ?_
  rintro e w27 ⟨rfl, hb28⟩
  have s29 := s26.below hb28
  go_wp2_with fail
  refine (ris_any s29.ps (⟨#[73, 83]⟩) (fun _ => by decide)).mono ?_
  rintro e w30 ⟨⟨hq31, hw32, rfl, h33⟩ | ⟨hw32, rfl, h33⟩, hk34⟩
  · replace HR := ryes (j := i19 + 1) hq31 hw32 HR
    have s35 := s29.call hk34 h33
    have hp36 := Okp.good hp24 hq31 (s' := .ok () (i19 + 1))
    have c37 := s35.n0.2.five
    have l38 := s35.n0.2.lt
    go_wp2_with fail
    clear c37 l38
    have hC := s35.n0.2
    refine Ch.wp_region_run (fun u => Blk u (w17.heap.size) 25 #[.int .i64 k9, .string nm10, .int .i64 num11, .int .i64 a12, .slice so14 ts13.length sc15]) [1, 2] [0, 1, 2, 3] [4, 5, 6, 7] [7] (by kernel_rfl) (by kernel_rfl) (fun _ _ d _ _ h => by cases d <;> exact h) (hC) ?_
    clear hC
    have s39 := s35.drew
    refine Ch.take0 (v := ?v40) rfl (by rfl) ?y41 ?_
    case y41 => intro u; go_simp; rfl
    simp only [Act.put, List.setIfInBounds_toArray, List.set_cons_zero, List.set_cons_succ]
    refine Ch.load1 (v := ?v42) rfl (by rfl) ?y43 ?_
    case y43 => intro u hC; have c5 := Blk.five hC; go_simp; rfl
    simp only [Act.put, List.setIfInBounds_toArray, List.set_cons_zero, List.set_cons_succ]
    refine Ch.load2 (v := ?v44) rfl (by rfl) ?y45 ?_
    case y45 => intro u hC; have c5 := Blk.five hC; go_simp; rfl
    simp only [Act.put, List.setIfInBounds_toArray, List.set_cons_zero, List.set_cons_succ]
    refine Ch.take3 (v := ?v46) rfl (by rfl) ?y47 ?_
    case y47 => intro u; go_simp; rfl
    simp only [Act.put, List.setIfInBounds_toArray, List.set_cons_zero, List.set_cons_succ]
    refine Ch.mid4 (by rfl) (fun K hK => ?_)
    go_simp
    refine (rt_on s39.ps (rtypeName_any s39.ps)).mono ?_
    rintro e w56 ⟨k48, nm49, num50, a51, ts52, so53, sc54, q57, i58, rfl, hrow55, h59, le60, hk61, ho62⟩
    have hp63 := Okp.on hp36 ho62
    replace HR := ho62 HR
    clear ho62
    have le60 := Lib.hid le60
    have s64 := s39.callKeep hk61 h59 hrow55
    unfold nodeV
    refine hK _ _ (s64.n0.2) ?_
    clear hK K
    try simp only [Act.put, List.setIfInBounds_toArray, List.set_cons_zero, List.set_cons_succ]
    refine Ch.mid5 (by rfl) (fun K hK => ?_)
    go_simp
    refine hK _ _ ((s64.other _).n0.2) ?_
    clear hK K
    try simp only [Act.put, List.setIfInBounds_toArray, List.set_cons_zero, List.set_cons_succ]
    refine Ch.mid6 (by rfl) (fun K hK => ?_)
    go_simp
    refine hK _ _ ((s64.other _).n0.2) ?_
    clear hK K
    try simp only [Act.put, List.setIfInBounds_toArray, List.set_cons_zero, List.set_cons_succ]
    obtain ⟨c65, hc66, hb67, ⟨qa68, qb69⟩, hlt70⟩ := s64.ps.facts
    obtain ⟨⟨h71, h72, h73, h74, h75, h76⟩, f77, f78, f79, f80, f81, f82⟩ := hb67.six
    have c83 := s64.n0.2.five
    have l84 := s64.n0.2.lt
    have np85 := s64.np 0 rfl
    have c86 := s64.n1.2.five
    have l87 := s64.n1.2.lt
    have np88 := s64.np 1 rfl
    have d89 := s64.d01
    refine Ch.post7 rfl (by rfl) (fun K hK => ?_)
    go_simp
    refine hK _ _ ?_
    clear hK K
    try simp only [Act.put, List.setIfInBounds_toArray, List.set_cons_zero, List.set_cons_succ]
    refine Ch.run_end ?_
    go_wp2_with fail
    clear hb67 qa68 qb69 hlt70 h71 h72 h73 h74 h75 h76 f77 f78 f79 f80 f81 f82 c83 l84 np85 c86 l87 np88 d89
    have s90 := s64.p0 (.int .i64 37) (.string ⟨#[]⟩) (.int .i64 0) (.int .i64 a12) (.slice (some ⟨w56.heap.size, 0, none⟩) 2 2)
    have s91 := rupX s90
    have s92 := s91.p1 (.int .i64 37) (.string ⟨#[]⟩) (.int .i64 0) (.int .i64 a12) (.slice (some ⟨w56.heap.size, 0, none⟩) 2 2)
    have s93 := s92.built2 (k0 := k9) (nm0 := nm10) (num0 := num11) (a0 := a12) (sv0 := .slice so14 ts13.length sc15) (ts0 := ts13) (k1 := k48) (nm1 := nm49) (num1 := num50) (a1 := a51) (sv1 := .slice so53 ts52.length sc54) (ts1 := ts52) (by simp) (by simp) (w56.heap.size) (by simp)
    exact bodyPost_ret (res5 Tryz.results148 rfl s93.n1.2) rfl ⟨rend s93.ps HR (s93.treeOf (sv := .slice (some ⟨w56.heap.size, 0, none⟩) 2 2) (by simp)) (by have := le21.out; have := le60.out; omega), s93.kp⟩
  · replace HR := rno s29.ps hw32 HR
    have s94 := s29.call hk34 h33
    go_wp2_with fail
    have hIn := Lib.hid (kin_any (w30.alloc (.cells #[.string ⟨#[61]⟩, .string ⟨#[35]⟩, .string ⟨#[60]⟩, .string ⟨#[60, 61]⟩, .string ⟨#[62]⟩, .string ⟨#[62, 61]⟩] 9)) (Ps.W l i19) (w30.heap.size) 0 6 6 [⟨#[61]⟩, ⟨#[35]⟩, ⟨#[60]⟩, ⟨#[60, 61]⟩, ⟨#[62]⟩, ⟨#[62, 61]⟩] rfl (by decide) (Nat.le_refl _) (strs_new _ _))
    rw [rop_any l 0 i19 _ rfl] at hIn
    have s95 := s94.other (.cells #[.string ⟨#[61]⟩, .string ⟨#[35]⟩, .string ⟨#[60]⟩, .string ⟨#[60, 61]⟩, .string ⟨#[62]⟩, .string ⟨#[62, 61]⟩] 9)
    cases hop : Ps.isOp l 0 i19 with
    | false =>
      rw [hop] at hIn HR
      replace HR := rokX (Y := R.ok (Tree.node k9 nm10 num11 a12 ts13) i19) rfl HR
      obtain ⟨c96, hc97, hb98, ⟨qa99, qb100⟩, hlt101⟩ := s95.ps.facts
      obtain ⟨⟨h102, h103, h104, h105, h106, h107⟩, f108, f109, f110, f111, f112, f113⟩ := hb98.six
      have c114 := s95.n0.2.five
      have l115 := s95.n0.2.lt
      have np116 := s95.np 0 rfl
      have c117 := s95.n1.2.five
      have l118 := s95.n1.2.lt
      have np119 := s95.np 1 rfl
      have d120 := s95.d01
      go_wp2_with (go_at_call 176; refine hIn.out.mono ?_; rintro e w' ⟨rfl, rfl⟩)
      clear hb98 qa99 qb100 hlt101 h102 h103 h104 h105 h106 h107 f108 f109 f110 f111 f112 f113 c114 l115 np116 c117 l118 np119 d120
      have s121 := rupX s95
      have s122 := s121.p1 (.int .i64 k9) (.string nm10) (.int .i64 num11) (.int .i64 a12) (.slice so14 ts13.length sc15)
      exact bodyPost_ret (res5 Tryz.results148 rfl s122.n1.2) rfl ⟨rend s122.ps HR (s122.treeOf (sv := .slice so14 ts13.length sc15) (by simp)) (by have := le21.out; omega), s122.kp⟩
    | true =>
      rw [hop] at hIn HR
      have hne := op_ne hop
      have hne2 : Ps.W l i19 ≠ ⟨#[]⟩ := by rw [isW_empty] at hne; exact isW_ne hne
      go_wp2_with (go_at_call 176; refine hIn.out.mono ?_; rintro e w' ⟨rfl, rfl⟩)
      refine (ris_any s95.ps (Ps.W l i19) (fun _ => hne2)).mono ?_
      rintro e w123 ⟨⟨hq124, hw125, rfl, h126⟩ | ⟨hw125, rfl, h126⟩, hk127⟩
      · replace HR := ryes' (j := i19 + 1) hq124 rfl HR
        have s128 := s95.call hk127 h126
        have hp129 := Okp.good hp24 hq124 (s' := .ok () (i19 + 1))
        have c130 := s128.n0.2.five
        have l131 := s128.n0.2.lt
        go_wp2_with fail
        clear c130 l131
        have hC := s128.n0.2
        refine Ch.wp_region_run (fun u => Blk u (w17.heap.size) 25 #[.int .i64 k9, .string nm10, .int .i64 num11, .int .i64 a12, .slice so14 ts13.length sc15]) [2, 3] [0, 1, 2, 3, 4] [5, 6, 7, 8] [8] (by kernel_rfl) (by kernel_rfl) (fun _ _ d _ _ h => by cases d <;> exact h) (hC) ?_
        clear hC
        have s132 := s128.drew
        refine Ch.take0 (v := ?v133) rfl (by rfl) ?y134 ?_
        case y134 => intro u; go_simp; rfl
        simp only [Act.put, List.setIfInBounds_toArray, List.set_cons_zero, List.set_cons_succ]
        refine Ch.take1 (v := ?v135) rfl (by rfl) ?y136 ?_
        case y136 => intro u; go_simp; rfl
        simp only [Act.put, List.setIfInBounds_toArray, List.set_cons_zero, List.set_cons_succ]
        refine Ch.load2 (v := ?v137) rfl (by rfl) ?y138 ?_
        case y138 => intro u hC; have c5 := Blk.five hC; go_simp; rfl
        simp only [Act.put, List.setIfInBounds_toArray, List.set_cons_zero, List.set_cons_succ]
        refine Ch.load3 (v := ?v139) rfl (by rfl) ?y140 ?_
        case y140 => intro u hC; have c5 := Blk.five hC; go_simp; rfl
        simp only [Act.put, List.setIfInBounds_toArray, List.set_cons_zero, List.set_cons_succ]
        refine Ch.take4 (v := ?v141) rfl (by rfl) ?y142 ?_
        case y142 => intro u; go_simp; rfl
        simp only [Act.put, List.setIfInBounds_toArray, List.set_cons_zero, List.set_cons_succ]
        refine Ch.mid5 (by rfl) (fun K hK => ?_)
        go_simp
        refine (rt_on s132.ps (hsum _ p T l _ _ hp129 s132.ps)).mono ?_
        rintro e w151 ⟨k143, nm144, num145, a146, ts147, so148, sc149, q152, i153, rfl, hrow150, h154, le155, hk156, ho157⟩
        have hp158 := Okp.on hp129 ho157
        replace HR := ho157 HR
        clear ho157
        have le155 := Lib.hid le155
        have s159 := s132.callKeep hk156 h154 hrow150
        unfold nodeV
        refine hK _ _ (s159.n0.2) ?_
        clear hK K
        try simp only [Act.put, List.setIfInBounds_toArray, List.set_cons_zero, List.set_cons_succ]
        refine Ch.mid6 (by rfl) (fun K hK => ?_)
        go_simp
        refine hK _ _ ((s159.other _).n0.2) ?_
        clear hK K
        try simp only [Act.put, List.setIfInBounds_toArray, List.set_cons_zero, List.set_cons_succ]
        refine Ch.mid7 (by rfl) (fun K hK => ?_)
        go_simp
        refine hK _ _ ((s159.other _).n0.2) ?_
        clear hK K
        try simp only [Act.put, List.setIfInBounds_toArray, List.set_cons_zero, List.set_cons_succ]
        obtain ⟨c160, hc161, hb162, ⟨qa163, qb164⟩, hlt165⟩ := s159.ps.facts
        obtain ⟨⟨h166, h167, h168, h169, h170, h171⟩, f172, f173, f174, f175, f176, f177⟩ := hb162.six
        have c178 := s159.n0.2.five
        have l179 := s159.n0.2.lt
        have np180 := s159.np 0 rfl
        have c181 := s159.n1.2.five
        have l182 := s159.n1.2.lt
        have np183 := s159.np 1 rfl
        have d184 := s159.d01
        refine Ch.post8 rfl (by rfl) (fun K hK => ?_)
        go_simp
        refine hK _ _ ?_
        clear hK K
        try simp only [Act.put, List.setIfInBounds_toArray, List.set_cons_zero, List.set_cons_succ]
        refine Ch.run_end ?_
        go_wp2_with fail
        clear hb162 qa163 qb164 hlt165 h166 h167 h168 h169 h170 h171 f172 f173 f174 f175 f176 f177 c178 l179 np180 c181 l182 np183 d184
        have s185 := s159.p0 (.int .i64 36) (.string (Ps.W l i19)) (.int .i64 0) (.int .i64 a12) (.slice (some ⟨w151.heap.size, 0, none⟩) 2 2)
        have s186 := rupX s185
        have s187 := s186.p1 (.int .i64 36) (.string (Ps.W l i19)) (.int .i64 0) (.int .i64 a12) (.slice (some ⟨w151.heap.size, 0, none⟩) 2 2)
        have s188 := s187.built2 (k0 := k9) (nm0 := nm10) (num0 := num11) (a0 := a12) (sv0 := .slice so14 ts13.length sc15) (ts0 := ts13) (k1 := k143) (nm1 := nm144) (num1 := num145) (a1 := a146) (sv1 := .slice so148 ts147.length sc149) (ts1 := ts147) (by simp) (by simp) (w151.heap.size) (by simp)
        exact bodyPost_ret (res5 Tryz.results148 rfl s188.n1.2) rfl ⟨rend s188.ps HR (s188.treeOf (sv := .slice (some ⟨w151.heap.size, 0, none⟩) 2 2) (by simp)) (by have := le21.out; have := le155.out; omega), s188.kp⟩
      · have s189 := s95.call hk127 h126
        have hbd := rself hw125 s95.ps
        replace HR := rbad (Y := R.ok (Tree.node k9 nm10 num11 a12 ts13) i19) hbd HR
        obtain ⟨c190, hc191, hb192, ⟨qa193, qb194⟩, hlt195⟩ := s189.ps.facts
        obtain ⟨⟨h196, h197, h198, h199, h200, h201⟩, f202, f203, f204, f205, f206, f207⟩ := hb192.six
        have c208 := s189.n0.2.five
        have l209 := s189.n0.2.lt
        have np210 := s189.np 0 rfl
        have c211 := s189.n1.2.five
        have l212 := s189.n1.2.lt
        have np213 := s189.np 1 rfl
        have d214 := s189.d01
        go_wp2_with fail
        clear hb192 qa193 qb194 hlt195 h196 h197 h198 h199 h200 h201 f202 f203 f204 f205 f206 f207 c208 l209 np210 c211 l212 np213 d214
        have s215 := rupX s189
        have s216 := s215.p1 (.int .i64 k9) (.string nm10) (.int .i64 num11) (.int .i64 a12) (.slice so14 ts13.length sc15)
        exact bodyPost_ret (res5 Tryz.results148 rfl s216.n1.2) rfl ⟨rend s216.ps HR (s216.treeOf (sv := .slice so14 ts13.length sc15) (by simp)) (by have := le21.out; omega), s216.kp⟩
end Go.Proofs.YtneohanphabneaaGreatDoor
