/-
  Contracts of the reference's reader: a sum.
-/
import Derived.Test.YtneohanphabneaaGreatDoorMR8
namespace Go.Proofs.YtneohanphabneaaGreatDoor
open Go.RowKit Ps
set_option maxRecDepth 100000 in
set_option maxHeartbeats 2000000 in
theorem rsum_any {w : World} {p T : Nat} {l : List Sc.Tok} {s : R Unit} {i d : Nat} (h : RS w p T l s i d) {g : Prop} (hP : Okp g s) (fac : List Sc.Tok → Nat → R Tree) (hfac0 : RCT (Okp g) 208 d fac) : Calls Tryz.prog 177 #[pp p] w fun e w' =>
    RT (fun b => w.heap.size ≤ b) p T l i d (s.bind fun _ k => Ps.simple l (fac l) k) e w' ∧ Kp w.heap.size p w w' := by
  have hfac : RCT (Okp g) 195 d (fun l => Ps.term l (fac l)) := fun _ _ _ _ _ _ hP h => rproduct_any h hP fac hfac0
  obtain ⟨r, hr⟩ : ∃ r, r = s.bind fun _ k => Ps.simple l (fac l) k := ⟨_, rfl⟩
  rw [← hr]
  have HR := rhere h _ hr
  clear hr
  unfold Ps.simple at HR
  unfold pp
  go_enter Tryz.func177, Tryz.ntmps177
  go_wp2_with fail
  have s1 := (Rs.start h).allocAt (w.heap.size) 25 #[.int .i64 0, .string ⟨#[]⟩, .int .i64 0, .int .i64 0, .slice none 0 0] (by simp)
  refine (rat_any s1.ps).mono ?_
  rintro e w2 ⟨rfl, hb3⟩
  have s4 := s1.below hb3
  go_wp2_with fail
  have s5 := s4.allocAt (w2.heap.size) 25 #[.int .i64 0, .string ⟨#[]⟩, .int .i64 0, .int .i64 0, .slice none 0 0] (by simp)
  refine (ris_any s5.ps (⟨#[45]⟩) (fun _ => by decide)).mono ?_
  rintro e w6 ⟨⟨hq7, hw8, rfl, h9⟩ | ⟨hw8, rfl, h9⟩, hk10⟩
  · replace HR := ryes (j := i + 1) hq7 hw8 HR
    have s11 := s5.call hk10 h9
    have hp12 := Okp.good hP hq7 (s' := .ok () (i + 1))
    go_wp2_with fail
    refine (rt_on s11.ps (hfac _ p T l _ _ hp12 s11.ps)).mono ?_
    rintro e w21 ⟨k13, nm14, num15, a16, ts17, so18, sc19, q22, i23, rfl, hrow20, h24, le25, hk26, ho27⟩
    have hp28 := Okp.on hp12 ho27
    replace HR := ho27 HR
    clear ho27
    have le25 := Lib.hid le25
    have s29 := s11.callKeep hk26 h24 hrow20
    unfold nodeV
    have c30 := s29.n0.2.five
    have l31 := s29.n0.2.lt
    go_wp2_with fail
    clear c30 l31
    have s32 := s29.p0 (.int .i64 35) (.string ⟨#[]⟩) (.int .i64 0) (.int .i64 (Ps.A l i)) (.slice (some ⟨w21.heap.size, 0, none⟩) 1 1)
    have s33 := s32.built1 (k0 := k13) (nm0 := nm14) (num0 := num15) (a0 := a16) (sv0 := .slice so18 ts17.length sc19) (ts0 := ts17) (by simp) (w21.heap.size) (by simp)
    go_wp2_with fail
    go_loopg [5] 21 (fun F v wr => ∃ (q : R Unit) (j k : Nat) (nm : ByteArray) (num at_ : Nat) (so : Option Addr) (sn sc : Nat) (ts : List Tree), F ≤ 21 ∧ v = .int .i64 (22 - F : Nat) ∧ (∀ k, q = .ok () k → 0 < F) ∧ i ≤ j ∧ Okp g q ∧ Rs w wr p T l q j d [(w2.heap.size, 25, #[.int .i64 k, .string nm, .int .i64 num, .int .i64 at_, .slice so sn sc]), (w.heap.size, 25, #[.int .i64 0, .string ⟨#[]⟩, .int .i64 0, .int .i64 0, .slice none 0 0])] g0 [(.slice so sn sc, ts)] ∧ Hid (r = q.bind fun _ _ => Ps.chain l 1 (Ps.term l (fac l)) (F - 1) (.node k nm num at_ ts) j))
    case atStart =>
      have a0 := le25.out
      exact ⟨_, i23, 35, ⟨#[]⟩, 0, (Ps.A l i), (some ⟨w21.heap.size, 0, none⟩), 1, 1, [Tree.node k13 nm14 num15 a16 ts17], by omega, rfl, fun _ _ => by omega, by omega, hp28, s33.rowsOf (fun _ h => by simp at h; simp [h]), HR⟩
    case round =>
      obtain ⟨q, j, k, nm, num, at_, so, sn, sc, ts, hF, rfl, hq0, hij, hPq, s5, HR⟩ := hrel
      have hjl := s5.ps.hi
      have hsm := s5.ps.small
      have hOk := Lib.hid (rok_any s5.ps)
      unfold pp at hOk
      rcases rokB q s5.ps.bad with ⟨ho37, k34, rfl⟩ | ⟨ho37, n35, a36, rfl⟩
      · have hkj := (s5.ps.ok k34 rfl).symm
        subst hkj
        rw [ho37] at hOk
        clear ho37
        have hF1 := hq0 _ rfl
        clear hq0
        cases gk with
        | zero => omega
        | succ F =>
          replace HR : Hid (r = (R.ok () j : R Unit).bind fun _ _ => Ps.chain l 1 (Ps.term l (fac l)) F (.node k nm num at_ ts) j) := HR
          unfold Ps.chain at HR
          go_wp2_with (go_at_call 18; refine hOk.out.mono ?_; rintro e w' ⟨rfl, rfl⟩)
          refine (rword_any s5.ps).mono ?_
          rintro e w38 ⟨rfl, hb39⟩
          have s40 := s5.below hb39
          have hIn := Lib.hid (kin_any (w38.alloc (.cells #[.string ⟨#[43]⟩, .string ⟨#[45]⟩, .string ⟨#[79, 82]⟩] 9)) (Ps.W l j) (w38.heap.size) 0 3 3 [⟨#[43]⟩, ⟨#[45]⟩, ⟨#[79, 82]⟩] rfl (by decide) (Nat.le_refl _) (strs_new _ _))
          rw [rop_any l 1 j _ rfl] at hIn
          have s41 := (s40).other (.cells #[.string ⟨#[43]⟩, .string ⟨#[45]⟩, .string ⟨#[79, 82]⟩] 9)
          cases hop : Ps.isOp l 1 j with
          | false =>
            rw [hop] at hIn HR
            replace HR := rokX (Y := R.ok (Tree.node k nm num at_ ts) j) rfl HR
            have c42 := s41.n0.2.five
            have l43 := s41.n0.2.lt
            have c44 := s41.n1.2.five
            have l45 := s41.n1.2.lt
            have d46 := s41.d01
            go_wp2_with (go_at_call 176; refine hIn.out.mono ?_; rintro e w' ⟨rfl, rfl⟩)
            clear c42 l43 c44 l45 d46
            have s47 := s41.p1 (.int .i64 k) (.string nm) (.int .i64 num) (.int .i64 at_) (.slice so sn sc)
            exact bodyPost_ret (res5 Tryz.results177 rfl s47.n1.2) rfl ⟨rend s47.ps HR (s47.treeOf (sv := .slice so sn sc) (by simp)) (by omega), s47.kp⟩
          | true =>
            rw [hop] at hIn HR
            have hne := op_ne hop
            have hne2 : Ps.W l j ≠ ⟨#[]⟩ := by rw [isW_empty] at hne; exact isW_ne hne
            go_wp2_with (go_at_call 176; refine hIn.out.mono ?_; rintro e w' ⟨rfl, rfl⟩)
            refine (ris_any s41.ps (Ps.W l j) (fun _ => hne2)).mono ?_
            rintro e w48 ⟨⟨hq49, hw50, rfl, h51⟩ | ⟨hw50, rfl, h51⟩, hk52⟩
            · replace HR := ryes' (j := j + 1) hq49 rfl HR
              have s53 := s41.call hk52 h51
              have hp54 := Okp.good hPq hq49 (s' := .ok () (j + 1))
              cases F with
              | zero =>
                have h20 : (20 : Int) < (22 - (0 + 1) : Nat) := by decide
                go_wp2_with fail
                refine (rstop_any s53.ps 3 (by decide)).mono ?_
                rintro e w55 ⟨rfl, h56, hk57⟩
                replace h56 : RS w55 p T l (.bad 3 (Ps.A l (j + 1))) (j + 1) d := h56
                have s58 := s53.call hk57 h56
                replace HR : Hid (r = (R.bad 3 (Ps.A l (j + 1)) : R Unit).bind fun _ _ => ((Ps.term l (fac l)) (j + 1)).bind fun b i1 => Ps.chain l 1 (Ps.term l (fac l)) 0 (.node 36 (Ps.W l j) 0 at_ [.node k nm num at_ ts, b]) i1) := Lib.hid HR.out
                have hp59 : Okp False (R.bad 3 (Ps.A l (j + 1)) : R Unit) := .inr ⟨_, _, rfl⟩
                have c60 := s58.n0.2.five
                have l61 := s58.n0.2.lt
                go_wp2_with fail
                clear c60 l61
                have hC := s58.n0.2
                refine Ch.wp_region_run (fun u => Blk u (w2.heap.size) 25 #[.int .i64 k, .string nm, .int .i64 num, .int .i64 at_, .slice so sn sc]) [2, 3] [0, 1, 2, 3, 4] [5, 6, 7, 8] [8] (by kernel_rfl) (by kernel_rfl) (fun _ _ d _ _ h => by cases d <;> exact h) (hC) ?_
                clear hC
                have s62 := s58.drew
                refine Ch.take0 (v := ?v63) rfl (by rfl) ?y64 ?_
                case y64 => intro u; go_simp; rfl
                simp only [Act.put, List.setIfInBounds_toArray, List.set_cons_zero, List.set_cons_succ]
                refine Ch.take1 (v := ?v65) rfl (by rfl) ?y66 ?_
                case y66 => intro u; go_simp; rfl
                simp only [Act.put, List.setIfInBounds_toArray, List.set_cons_zero, List.set_cons_succ]
                refine Ch.load2 (v := ?v67) rfl (by rfl) ?y68 ?_
                case y68 => intro u hC; have c5 := Blk.five hC; go_simp; rfl
                simp only [Act.put, List.setIfInBounds_toArray, List.set_cons_zero, List.set_cons_succ]
                refine Ch.load3 (v := ?v69) rfl (by rfl) ?y70 ?_
                case y70 => intro u hC; have c5 := Blk.five hC; go_simp; rfl
                simp only [Act.put, List.setIfInBounds_toArray, List.set_cons_zero, List.set_cons_succ]
                refine Ch.take4 (v := ?v71) rfl (by rfl) ?y72 ?_
                case y72 => intro u; go_simp; rfl
                simp only [Act.put, List.setIfInBounds_toArray, List.set_cons_zero, List.set_cons_succ]
                refine Ch.mid5 (by rfl) (fun K hK => ?_)
                go_simp
                refine (rt_on s62.ps (hfac _ p T l _ _ (hp59).of s62.ps)).mono ?_
                rintro e w81 ⟨k73, nm74, num75, a76, ts77, so78, sc79, q82, i83, rfl, hrow80, h84, le85, hk86, ho87⟩
                have hp88 := Okp.on hp59 ho87
                replace HR := ho87 HR
                clear ho87
                have le85 := Lib.hid le85
                have s89 := s62.callKeep hk86 h84 hrow80
                unfold nodeV
                refine hK _ _ (s89.n0.2) ?_
                clear hK K
                try simp only [Act.put, List.setIfInBounds_toArray, List.set_cons_zero, List.set_cons_succ]
                refine Ch.mid6 (by rfl) (fun K hK => ?_)
                go_simp
                refine hK _ _ ((s89.other _).n0.2) ?_
                clear hK K
                try simp only [Act.put, List.setIfInBounds_toArray, List.set_cons_zero, List.set_cons_succ]
                refine Ch.mid7 (by rfl) (fun K hK => ?_)
                go_simp
                refine hK _ _ ((s89.other _).n0.2) ?_
                clear hK K
                try simp only [Act.put, List.setIfInBounds_toArray, List.set_cons_zero, List.set_cons_succ]
                have cc := s89.n0.2.five
                have cl := s89.n0.2.lt
                refine Ch.post8 rfl (by rfl) (fun K hK => ?_)
                go_simp
                refine hK _ _ ?_
                clear hK K
                try simp only [Act.put, List.setIfInBounds_toArray, List.set_cons_zero, List.set_cons_succ]
                refine Ch.run_end ?_
                have s90 := s89.p0 (.int .i64 36) (.string (W l j)) (.int .i64 (0 : Nat)) (.int .i64 at_) (.slice (some ⟨w81.heap.size, 0, none⟩) 2 2)
                have s91 := s90.built2 (k0 := k) (nm0 := nm) (num0 := num) (a0 := at_) (sv0 := .slice so sn sc) (ts0 := ts) (k1 := k73) (nm1 := nm74) (num1 := num75) (a1 := a76) (sv1 := .slice so78 ts77.length sc79) (ts1 := ts77) (by simp) (by simp) (w81.heap.size) (by simp)
                clear cc cl
                go_wp2_with fail
                go_roundg (0)
                case measure => omega
                case rel => have a0 := le85.out; exact ⟨_, i83, 36, W l j, 0, at_, _, _, _, _, by omega, by go_num, (fun k hk => by obtain ⟨n, a, hb⟩ := hp88.resolve_left id; rw [hb] at hk; cases hk), by omega, (hp88).of, s91.rowsOf (fun _ h => by simp at h; simp [h]), HR⟩
              | succ F =>
                have h20 : ¬ (20 : Int) < (22 - (F + 1 + 1) : Nat) := by omega
                go_wp2_with fail
                have c92 := s53.n0.2.five
                have l93 := s53.n0.2.lt
                go_wp2_with fail
                clear c92 l93
                have hC := s53.n0.2
                refine Ch.wp_region_run (fun u => Blk u (w2.heap.size) 25 #[.int .i64 k, .string nm, .int .i64 num, .int .i64 at_, .slice so sn sc]) [2, 3] [0, 1, 2, 3, 4] [5, 6, 7, 8] [8] (by kernel_rfl) (by kernel_rfl) (fun _ _ d _ _ h => by cases d <;> exact h) (hC) ?_
                clear hC
                have s94 := s53.drew
                refine Ch.take0 (v := ?v95) rfl (by rfl) ?y96 ?_
                case y96 => intro u; go_simp; rfl
                simp only [Act.put, List.setIfInBounds_toArray, List.set_cons_zero, List.set_cons_succ]
                refine Ch.take1 (v := ?v97) rfl (by rfl) ?y98 ?_
                case y98 => intro u; go_simp; rfl
                simp only [Act.put, List.setIfInBounds_toArray, List.set_cons_zero, List.set_cons_succ]
                refine Ch.load2 (v := ?v99) rfl (by rfl) ?y100 ?_
                case y100 => intro u hC; have c5 := Blk.five hC; go_simp; rfl
                simp only [Act.put, List.setIfInBounds_toArray, List.set_cons_zero, List.set_cons_succ]
                refine Ch.load3 (v := ?v101) rfl (by rfl) ?y102 ?_
                case y102 => intro u hC; have c5 := Blk.five hC; go_simp; rfl
                simp only [Act.put, List.setIfInBounds_toArray, List.set_cons_zero, List.set_cons_succ]
                refine Ch.take4 (v := ?v103) rfl (by rfl) ?y104 ?_
                case y104 => intro u; go_simp; rfl
                simp only [Act.put, List.setIfInBounds_toArray, List.set_cons_zero, List.set_cons_succ]
                refine Ch.mid5 (by rfl) (fun K hK => ?_)
                go_simp
                refine (rt_on s94.ps (hfac _ p T l _ _ hp54 s94.ps)).mono ?_
                rintro e w113 ⟨k105, nm106, num107, a108, ts109, so110, sc111, q114, i115, rfl, hrow112, h116, le117, hk118, ho119⟩
                have hp120 := Okp.on hp54 ho119
                replace HR := ho119 HR
                clear ho119
                have le117 := Lib.hid le117
                have s121 := s94.callKeep hk118 h116 hrow112
                unfold nodeV
                refine hK _ _ (s121.n0.2) ?_
                clear hK K
                try simp only [Act.put, List.setIfInBounds_toArray, List.set_cons_zero, List.set_cons_succ]
                refine Ch.mid6 (by rfl) (fun K hK => ?_)
                go_simp
                refine hK _ _ ((s121.other _).n0.2) ?_
                clear hK K
                try simp only [Act.put, List.setIfInBounds_toArray, List.set_cons_zero, List.set_cons_succ]
                refine Ch.mid7 (by rfl) (fun K hK => ?_)
                go_simp
                refine hK _ _ ((s121.other _).n0.2) ?_
                clear hK K
                try simp only [Act.put, List.setIfInBounds_toArray, List.set_cons_zero, List.set_cons_succ]
                have cc := s121.n0.2.five
                have cl := s121.n0.2.lt
                refine Ch.post8 rfl (by rfl) (fun K hK => ?_)
                go_simp
                refine hK _ _ ?_
                clear hK K
                try simp only [Act.put, List.setIfInBounds_toArray, List.set_cons_zero, List.set_cons_succ]
                refine Ch.run_end ?_
                have s122 := s121.p0 (.int .i64 36) (.string (W l j)) (.int .i64 (0 : Nat)) (.int .i64 at_) (.slice (some ⟨w113.heap.size, 0, none⟩) 2 2)
                have s123 := s122.built2 (k0 := k) (nm0 := nm) (num0 := num) (a0 := at_) (sv0 := .slice so sn sc) (ts0 := ts) (k1 := k105) (nm1 := nm106) (num1 := num107) (a1 := a108) (sv1 := .slice so110 ts109.length sc111) (ts1 := ts109) (by simp) (by simp) (w113.heap.size) (by simp)
                clear cc cl
                go_wp2_with fail
                go_roundg (F + 1)
                case measure => omega
                case rel => have a0 := le117.out; exact ⟨_, i115, 36, W l j, 0, at_, _, _, _, _, by omega, by go_num, (fun _ _ => by omega), by omega, hp120, s123.rowsOf (fun _ h => by simp at h; simp [h]), HR⟩
            · have s124 := s41.call hk52 h51
              have hx := hw50 j rfl
              rw [Ps.isW_self] at hx
              cases hx
      · rw [ho37] at hOk
        clear ho37
        replace HR := rbad (Y := R.ok (Tree.node k nm num at_ ts) j) ⟨n35, a36, rfl⟩ HR
        have c125 := s5.n0.2.five
        have l126 := s5.n0.2.lt
        have c127 := s5.n1.2.five
        have l128 := s5.n1.2.lt
        have d129 := s5.d01
        go_wp2_with (go_at_call 18; refine hOk.out.mono ?_; rintro e w' ⟨rfl, rfl⟩)
        clear c125 l126 c127 l128 d129
        have s130 := s5.p1 (.int .i64 k) (.string nm) (.int .i64 num) (.int .i64 at_) (.slice so sn sc)
        exact bodyPost_ret (res5 Tryz.results177 rfl s130.n1.2) rfl ⟨rend s130.ps HR (s130.treeOf (sv := .slice so sn sc) (by simp)) (by omega), s130.kp⟩
  · replace HR := rno s5.ps hw8 HR
    have s131 := s5.call hk10 h9
    go_wp2_with fail
    refine (rt_on s131.ps (hfac _ p T l _ _ hP s131.ps)).mono ?_
    rintro e w140 ⟨k132, nm133, num134, a135, ts136, so137, sc138, q141, i142, rfl, hrow139, h143, le144, hk145, ho146⟩
    have hp147 := Okp.on hP ho146
    replace HR := ho146 HR
    clear ho146
    have le144 := Lib.hid le144
    have s148 := s131.callKeep hk145 h143 hrow139
    unfold nodeV
    have c149 := s148.n0.2.five
    have l150 := s148.n0.2.lt
    go_wp2_with fail
    clear c149 l150
    have s151 := s148.p0 (.int .i64 k132) (.string nm133) (.int .i64 num134) (.int .i64 a135) (.slice so137 ts136.length sc138)
    go_wp2_with fail
    go_loopg [5] 21 (fun F v wr => ∃ (q : R Unit) (j k : Nat) (nm : ByteArray) (num at_ : Nat) (so : Option Addr) (sn sc : Nat) (ts : List Tree), F ≤ 21 ∧ v = .int .i64 (22 - F : Nat) ∧ (∀ k, q = .ok () k → 0 < F) ∧ i ≤ j ∧ Okp g q ∧ Rs w wr p T l q j d [(w2.heap.size, 25, #[.int .i64 k, .string nm, .int .i64 num, .int .i64 at_, .slice so sn sc]), (w.heap.size, 25, #[.int .i64 0, .string ⟨#[]⟩, .int .i64 0, .int .i64 0, .slice none 0 0])] g0 [(.slice so sn sc, ts)] ∧ Hid (r = q.bind fun _ _ => Ps.chain l 1 (Ps.term l (fac l)) (F - 1) (.node k nm num at_ ts) j))
    case atStart =>
      have a0 := le144.out
      exact ⟨_, i142, k132, nm133, num134, a135, so137, ts136.length, sc138, ts136, by omega, rfl, fun _ _ => by omega, by omega, hp147, s151.rowsOf (fun _ h => by simp at h; simp [h]), HR⟩
    case round =>
      obtain ⟨q, j, k, nm, num, at_, so, sn, sc, ts, hF, rfl, hq0, hij, hPq, s5, HR⟩ := hrel
      have hjl := s5.ps.hi
      have hsm := s5.ps.small
      have hOk := Lib.hid (rok_any s5.ps)
      unfold pp at hOk
      rcases rokB q s5.ps.bad with ⟨ho155, k152, rfl⟩ | ⟨ho155, n153, a154, rfl⟩
      · have hkj := (s5.ps.ok k152 rfl).symm
        subst hkj
        rw [ho155] at hOk
        clear ho155
        have hF1 := hq0 _ rfl
        clear hq0
        cases gk with
        | zero => omega
        | succ F =>
          replace HR : Hid (r = (R.ok () j : R Unit).bind fun _ _ => Ps.chain l 1 (Ps.term l (fac l)) F (.node k nm num at_ ts) j) := HR
          unfold Ps.chain at HR
          go_wp2_with (go_at_call 18; refine hOk.out.mono ?_; rintro e w' ⟨rfl, rfl⟩)
          refine (rword_any s5.ps).mono ?_
          rintro e w156 ⟨rfl, hb157⟩
          have s158 := s5.below hb157
          have hIn := Lib.hid (kin_any (w156.alloc (.cells #[.string ⟨#[43]⟩, .string ⟨#[45]⟩, .string ⟨#[79, 82]⟩] 9)) (Ps.W l j) (w156.heap.size) 0 3 3 [⟨#[43]⟩, ⟨#[45]⟩, ⟨#[79, 82]⟩] rfl (by decide) (Nat.le_refl _) (strs_new _ _))
          rw [rop_any l 1 j _ rfl] at hIn
          have s159 := (s158).other (.cells #[.string ⟨#[43]⟩, .string ⟨#[45]⟩, .string ⟨#[79, 82]⟩] 9)
          cases hop : Ps.isOp l 1 j with
          | false =>
            rw [hop] at hIn HR
            replace HR := rokX (Y := R.ok (Tree.node k nm num at_ ts) j) rfl HR
            have c160 := s159.n0.2.five
            have l161 := s159.n0.2.lt
            have c162 := s159.n1.2.five
            have l163 := s159.n1.2.lt
            have d164 := s159.d01
            go_wp2_with (go_at_call 176; refine hIn.out.mono ?_; rintro e w' ⟨rfl, rfl⟩)
            clear c160 l161 c162 l163 d164
            have s165 := s159.p1 (.int .i64 k) (.string nm) (.int .i64 num) (.int .i64 at_) (.slice so sn sc)
            exact bodyPost_ret (res5 Tryz.results177 rfl s165.n1.2) rfl ⟨rend s165.ps HR (s165.treeOf (sv := .slice so sn sc) (by simp)) (by omega), s165.kp⟩
          | true =>
            rw [hop] at hIn HR
            have hne := op_ne hop
            have hne2 : Ps.W l j ≠ ⟨#[]⟩ := by rw [isW_empty] at hne; exact isW_ne hne
            go_wp2_with (go_at_call 176; refine hIn.out.mono ?_; rintro e w' ⟨rfl, rfl⟩)
            refine (ris_any s159.ps (Ps.W l j) (fun _ => hne2)).mono ?_
            rintro e w166 ⟨⟨hq167, hw168, rfl, h169⟩ | ⟨hw168, rfl, h169⟩, hk170⟩
            · replace HR := ryes' (j := j + 1) hq167 rfl HR
              have s171 := s159.call hk170 h169
              have hp172 := Okp.good hPq hq167 (s' := .ok () (j + 1))
              cases F with
              | zero =>
                have h20 : (20 : Int) < (22 - (0 + 1) : Nat) := by decide
                go_wp2_with fail
                refine (rstop_any s171.ps 3 (by decide)).mono ?_
                rintro e w173 ⟨rfl, h174, hk175⟩
                replace h174 : RS w173 p T l (.bad 3 (Ps.A l (j + 1))) (j + 1) d := h174
                have s176 := s171.call hk175 h174
                replace HR : Hid (r = (R.bad 3 (Ps.A l (j + 1)) : R Unit).bind fun _ _ => ((Ps.term l (fac l)) (j + 1)).bind fun b i1 => Ps.chain l 1 (Ps.term l (fac l)) 0 (.node 36 (Ps.W l j) 0 at_ [.node k nm num at_ ts, b]) i1) := Lib.hid HR.out
                have hp177 : Okp False (R.bad 3 (Ps.A l (j + 1)) : R Unit) := .inr ⟨_, _, rfl⟩
                have c178 := s176.n0.2.five
                have l179 := s176.n0.2.lt
                go_wp2_with fail
                clear c178 l179
                have hC := s176.n0.2
                refine Ch.wp_region_run (fun u => Blk u (w2.heap.size) 25 #[.int .i64 k, .string nm, .int .i64 num, .int .i64 at_, .slice so sn sc]) [2, 3] [0, 1, 2, 3, 4] [5, 6, 7, 8] [8] (by kernel_rfl) (by kernel_rfl) (fun _ _ d _ _ h => by cases d <;> exact h) (hC) ?_
                clear hC
                have s180 := s176.drew
                refine Ch.take0 (v := ?v181) rfl (by rfl) ?y182 ?_
                case y182 => intro u; go_simp; rfl
                simp only [Act.put, List.setIfInBounds_toArray, List.set_cons_zero, List.set_cons_succ]
                refine Ch.take1 (v := ?v183) rfl (by rfl) ?y184 ?_
                case y184 => intro u; go_simp; rfl
                simp only [Act.put, List.setIfInBounds_toArray, List.set_cons_zero, List.set_cons_succ]
                refine Ch.load2 (v := ?v185) rfl (by rfl) ?y186 ?_
                case y186 => intro u hC; have c5 := Blk.five hC; go_simp; rfl
                simp only [Act.put, List.setIfInBounds_toArray, List.set_cons_zero, List.set_cons_succ]
                refine Ch.load3 (v := ?v187) rfl (by rfl) ?y188 ?_
                case y188 => intro u hC; have c5 := Blk.five hC; go_simp; rfl
                simp only [Act.put, List.setIfInBounds_toArray, List.set_cons_zero, List.set_cons_succ]
                refine Ch.take4 (v := ?v189) rfl (by rfl) ?y190 ?_
                case y190 => intro u; go_simp; rfl
                simp only [Act.put, List.setIfInBounds_toArray, List.set_cons_zero, List.set_cons_succ]
                refine Ch.mid5 (by rfl) (fun K hK => ?_)
                go_simp
                refine (rt_on s180.ps (hfac _ p T l _ _ (hp177).of s180.ps)).mono ?_
                rintro e w199 ⟨k191, nm192, num193, a194, ts195, so196, sc197, q200, i201, rfl, hrow198, h202, le203, hk204, ho205⟩
                have hp206 := Okp.on hp177 ho205
                replace HR := ho205 HR
                clear ho205
                have le203 := Lib.hid le203
                have s207 := s180.callKeep hk204 h202 hrow198
                unfold nodeV
                refine hK _ _ (s207.n0.2) ?_
                clear hK K
                try simp only [Act.put, List.setIfInBounds_toArray, List.set_cons_zero, List.set_cons_succ]
                refine Ch.mid6 (by rfl) (fun K hK => ?_)
                go_simp
                refine hK _ _ ((s207.other _).n0.2) ?_
                clear hK K
                try simp only [Act.put, List.setIfInBounds_toArray, List.set_cons_zero, List.set_cons_succ]
                refine Ch.mid7 (by rfl) (fun K hK => ?_)
                go_simp
                refine hK _ _ ((s207.other _).n0.2) ?_
                clear hK K
                try simp only [Act.put, List.setIfInBounds_toArray, List.set_cons_zero, List.set_cons_succ]
                have cc := s207.n0.2.five
                have cl := s207.n0.2.lt
                refine Ch.post8 rfl (by rfl) (fun K hK => ?_)
                go_simp
                refine hK _ _ ?_
                clear hK K
                try simp only [Act.put, List.setIfInBounds_toArray, List.set_cons_zero, List.set_cons_succ]
                refine Ch.run_end ?_
                have s208 := s207.p0 (.int .i64 36) (.string (W l j)) (.int .i64 (0 : Nat)) (.int .i64 at_) (.slice (some ⟨w199.heap.size, 0, none⟩) 2 2)
                have s209 := s208.built2 (k0 := k) (nm0 := nm) (num0 := num) (a0 := at_) (sv0 := .slice so sn sc) (ts0 := ts) (k1 := k191) (nm1 := nm192) (num1 := num193) (a1 := a194) (sv1 := .slice so196 ts195.length sc197) (ts1 := ts195) (by simp) (by simp) (w199.heap.size) (by simp)
                clear cc cl
                go_wp2_with fail
                go_roundg (0)
                case measure => omega
                case rel => have a0 := le203.out; exact ⟨_, i201, 36, W l j, 0, at_, _, _, _, _, by omega, by go_num, (fun k hk => by obtain ⟨n, a, hb⟩ := hp206.resolve_left id; rw [hb] at hk; cases hk), by omega, (hp206).of, s209.rowsOf (fun _ h => by simp at h; simp [h]), HR⟩
              | succ F =>
                have h20 : ¬ (20 : Int) < (22 - (F + 1 + 1) : Nat) := by omega
                go_wp2_with fail
                have c210 := s171.n0.2.five
                have l211 := s171.n0.2.lt
                go_wp2_with fail
                clear c210 l211
                have hC := s171.n0.2
                refine Ch.wp_region_run (fun u => Blk u (w2.heap.size) 25 #[.int .i64 k, .string nm, .int .i64 num, .int .i64 at_, .slice so sn sc]) [2, 3] [0, 1, 2, 3, 4] [5, 6, 7, 8] [8] (by kernel_rfl) (by kernel_rfl) (fun _ _ d _ _ h => by cases d <;> exact h) (hC) ?_
                clear hC
                have s212 := s171.drew
                refine Ch.take0 (v := ?v213) rfl (by rfl) ?y214 ?_
                case y214 => intro u; go_simp; rfl
                simp only [Act.put, List.setIfInBounds_toArray, List.set_cons_zero, List.set_cons_succ]
                refine Ch.take1 (v := ?v215) rfl (by rfl) ?y216 ?_
                case y216 => intro u; go_simp; rfl
                simp only [Act.put, List.setIfInBounds_toArray, List.set_cons_zero, List.set_cons_succ]
                refine Ch.load2 (v := ?v217) rfl (by rfl) ?y218 ?_
                case y218 => intro u hC; have c5 := Blk.five hC; go_simp; rfl
                simp only [Act.put, List.setIfInBounds_toArray, List.set_cons_zero, List.set_cons_succ]
                refine Ch.load3 (v := ?v219) rfl (by rfl) ?y220 ?_
                case y220 => intro u hC; have c5 := Blk.five hC; go_simp; rfl
                simp only [Act.put, List.setIfInBounds_toArray, List.set_cons_zero, List.set_cons_succ]
                refine Ch.take4 (v := ?v221) rfl (by rfl) ?y222 ?_
                case y222 => intro u; go_simp; rfl
                simp only [Act.put, List.setIfInBounds_toArray, List.set_cons_zero, List.set_cons_succ]
                refine Ch.mid5 (by rfl) (fun K hK => ?_)
                go_simp
                refine (rt_on s212.ps (hfac _ p T l _ _ hp172 s212.ps)).mono ?_
                rintro e w231 ⟨k223, nm224, num225, a226, ts227, so228, sc229, q232, i233, rfl, hrow230, h234, le235, hk236, ho237⟩
                have hp238 := Okp.on hp172 ho237
                replace HR := ho237 HR
                clear ho237
                have le235 := Lib.hid le235
                have s239 := s212.callKeep hk236 h234 hrow230
                unfold nodeV
                refine hK _ _ (s239.n0.2) ?_
                clear hK K
                try simp only [Act.put, List.setIfInBounds_toArray, List.set_cons_zero, List.set_cons_succ]
                refine Ch.mid6 (by rfl) (fun K hK => ?_)
                go_simp
                refine hK _ _ ((s239.other _).n0.2) ?_
                clear hK K
                try simp only [Act.put, List.setIfInBounds_toArray, List.set_cons_zero, List.set_cons_succ]
                refine Ch.mid7 (by rfl) (fun K hK => ?_)
                go_simp
                refine hK _ _ ((s239.other _).n0.2) ?_
                clear hK K
                try simp only [Act.put, List.setIfInBounds_toArray, List.set_cons_zero, List.set_cons_succ]
                have cc := s239.n0.2.five
                have cl := s239.n0.2.lt
                refine Ch.post8 rfl (by rfl) (fun K hK => ?_)
                go_simp
                refine hK _ _ ?_
                clear hK K
                try simp only [Act.put, List.setIfInBounds_toArray, List.set_cons_zero, List.set_cons_succ]
                refine Ch.run_end ?_
                have s240 := s239.p0 (.int .i64 36) (.string (W l j)) (.int .i64 (0 : Nat)) (.int .i64 at_) (.slice (some ⟨w231.heap.size, 0, none⟩) 2 2)
                have s241 := s240.built2 (k0 := k) (nm0 := nm) (num0 := num) (a0 := at_) (sv0 := .slice so sn sc) (ts0 := ts) (k1 := k223) (nm1 := nm224) (num1 := num225) (a1 := a226) (sv1 := .slice so228 ts227.length sc229) (ts1 := ts227) (by simp) (by simp) (w231.heap.size) (by simp)
                clear cc cl
                go_wp2_with fail
                go_roundg (F + 1)
                case measure => omega
                case rel => have a0 := le235.out; exact ⟨_, i233, 36, W l j, 0, at_, _, _, _, _, by omega, by go_num, (fun _ _ => by omega), by omega, hp238, s241.rowsOf (fun _ h => by simp at h; simp [h]), HR⟩
            · have s242 := s159.call hk170 h169
              have hx := hw168 j rfl
              rw [Ps.isW_self] at hx
              cases hx
      · rw [ho155] at hOk
        clear ho155
        replace HR := rbad (Y := R.ok (Tree.node k nm num at_ ts) j) ⟨n153, a154, rfl⟩ HR
        have c243 := s5.n0.2.five
        have l244 := s5.n0.2.lt
        have c245 := s5.n1.2.five
        have l246 := s5.n1.2.lt
        have d247 := s5.d01
        go_wp2_with (go_at_call 18; refine hOk.out.mono ?_; rintro e w' ⟨rfl, rfl⟩)
        clear c243 l244 c245 l246 d247
        have s248 := s5.p1 (.int .i64 k) (.string nm) (.int .i64 num) (.int .i64 at_) (.slice so sn sc)
        exact bodyPost_ret (res5 Tryz.results177 rfl s248.n1.2) rfl ⟨rend s248.ps HR (s248.treeOf (sv := .slice so sn sc) (by simp)) (by omega), s248.kp⟩
end Go.Proofs.YtneohanphabneaaGreatDoor
