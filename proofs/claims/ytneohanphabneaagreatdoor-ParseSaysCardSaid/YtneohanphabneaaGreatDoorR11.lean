/-
  Contracts of the reference's reader: a designator.
-/
import Derived.Test.YtneohanphabneaaGreatDoorMR8
namespace Go.Proofs.YtneohanphabneaaGreatDoor
open Go.RowKit Ps
/-- A designator with F steps left, one more taken for too many. -/
def dtop (l : List Sc.Tok) (ex : Nat → R Tree) (a : Nat) : Nat → Tree → Nat → R Tree
  | 0, _, i => .bad 3 (Ps.A l i)
  | k + 1, d, i => Ps.desigLoop l ex a k d i
def dK (l : List Sc.Tok) (ex : Nat → R Tree) (a k : Nat) (d : Tree) (o : Option Tree) (i : Nat) : R Tree := match o with
  | none => .ok d i
  | some d1 => dtop l ex a k d1 i
theorem desigLoop_eq (l : List Sc.Tok) (ex : Nat → R Tree) (a k : Nat) (d : Tree) (i : Nat) : Ps.desigLoop l ex a k d i = (Ps.step l ex a d i).bind (dK l ex a k d) := by
  cases k with
  | zero =>
    unfold Ps.desigLoop
    rfl
  | succ k =>
    rw [Ps.desigLoop]
    rfl
set_option maxRecDepth 100000 in
set_option maxHeartbeats 4000000 in
theorem rdesig_any {w : World} {p T : Nat} {l : List Sc.Tok} {s : R Unit} {i d : Nat} (h : RS w p T l s i d) (ex : List Sc.Tok → Nat → R Tree) (hex : RCT (fun _ => True) 148 d ex) : Calls Tryz.prog 150 #[pp p] w fun e w' =>
    RT (fun b => w.heap.size ≤ b) p T l i d (s.bind fun _ k => Ps.desig l (ex l) k) e w' ∧ Kp w.heap.size p w w' := by
  obtain ⟨r, hr⟩ : ∃ r, r = s.bind fun _ k => Ps.desig l (ex l) k := ⟨_, rfl⟩
  rw [← hr]
  have HR := rhere h _ hr
  clear hr
  unfold Ps.desig at HR
  unfold pp
  go_enter Tryz.func150, Tryz.ntmps150
  go_wp2_with fail
  have s1 := (Rs.start h).allocAt (w.heap.size) 25 #[.int .i64 0, .string ⟨#[]⟩, .int .i64 0, .int .i64 0, .slice none 0 0] (by simp)
  refine (rat_any s1.ps).mono ?_
  rintro e w2 ⟨rfl, hb3⟩
  have s4 := s1.below hb3
  go_wp2_with fail
  have s5 := s4.allocAt (w2.heap.size) 25 #[.int .i64 24, .string ⟨#[]⟩, .int .i64 0, .int .i64 (Ps.A l i), .slice none 0 0] (by simp)
  refine (rname_on s5.ps).mono ?_
  rintro e w7 ⟨nm6, q8, i9, rfl, h10, le11, hk12, ho13⟩
  replace HR := ho13 HR
  clear ho13
  have le11 := Lib.hid le11
  have s14 := s5.call hk12 h10
  have c15 := s14.n0.2.five
  have l16 := s14.n0.2.lt
  go_wp2_with fail
  clear c15 l16
  have s17 := s14.s01 (.string nm6)
  have s18 := s17.keepNil
  go_loopg [5] 21 (fun F v wr => ∃ (q : R Unit) (j k : Nat) (nm : ByteArray) (num : Nat) (so : Option Addr) (sn sc : Nat) (ts : List Tree), F ≤ 21 ∧ v = .int .i64 (21 - F : Nat) ∧ i ≤ j ∧ Rs w wr p T l q j d [(w2.heap.size, 25, #[.int .i64 k, .string nm, .int .i64 num, .int .i64 (Ps.A l i), .slice so sn sc]), (w.heap.size, 25, #[.int .i64 0, .string ⟨#[]⟩, .int .i64 0, .int .i64 0, .slice none 0 0])] g0 [(.slice so sn sc, ts)] ∧ Hid (r = q.bind fun _ _ => dtop l (ex l) (Ps.A l i) F (.node k nm num (Ps.A l i) ts) j))
  case atStart =>
    have a0 := le11.out
    exact ⟨_, i9, 24, nm6, 0, none, 0, 0, [], by omega, rfl, by omega, s18, HR⟩
  case round =>
    obtain ⟨q, j, k, nm, num, so, sn, sc, ts, hF, rfl, hij, s5, HR⟩ := hrel
    have hjl := s5.ps.hi
    have hsm := s5.ps.small
    have hOk := Lib.hid (rok_any s5.ps)
    unfold pp at hOk
    rcases rokB q s5.ps.bad with ⟨ho22, k19, rfl⟩ | ⟨ho22, n20, a21, rfl⟩
    · have hkj := (s5.ps.ok k19 rfl).symm
      subst hkj
      rw [ho22] at hOk
      clear ho22
      cases gk with
      | zero =>
        have h20 : (20 : Int) < (21 - 0 : Nat) := by decide
        go_wp2_with (go_at_call 18; refine hOk.out.mono ?_; rintro e w' ⟨rfl, rfl⟩)
        refine (rstop_any s5.ps 3 (by decide)).mono ?_
        rintro e w23 ⟨rfl, h24, hk25⟩
        replace h24 : RS w23 p T l (.bad 3 (Ps.A l j)) j d := h24
        have s26 := s5.call hk25 h24
        replace HR : Hid (r = (R.bad 3 (Ps.A l j) : R Unit).bind fun _ _ => R.ok (Tree.node k nm num (Ps.A l i) ts) j) := Lib.hid HR.out
        have c27 := s26.n0.2.five
        have l28 := s26.n0.2.lt
        have c29 := s26.n1.2.five
        have l30 := s26.n1.2.lt
        have d31 := s26.d01
        go_wp2_with fail
        clear c27 l28 c29 l30 d31
        have s32 := s26.p1 (.int .i64 k) (.string nm) (.int .i64 num) (.int .i64 (Ps.A l i)) (.slice so sn sc)
        exact bodyPost_ret (res5 Tryz.results150 rfl s32.n1.2) rfl ⟨rend s32.ps HR (s32.treeOf (sv := .slice so sn sc) (by simp)) (by omega), s32.kp⟩
      | succ F =>
        have h20 : ¬ (20 : Int) < (21 - (F + 1) : Nat) := by omega
        replace HR : Hid (r = (R.ok () j : R Unit).bind fun _ _ => (Ps.step l (ex l) (Ps.A l i) (.node k nm num (Ps.A l i) ts) j).bind (dK l (ex l) (Ps.A l i) F (.node k nm num (Ps.A l i) ts))) := rokX (desigLoop_eq _ _ _ _ _ _) HR
        unfold Ps.step at HR
        have c33 := s5.n0.2.five
        have l34 := s5.n0.2.lt
        go_wp2_with (go_at_call 18; refine hOk.out.mono ?_; rintro e w' ⟨rfl, rfl⟩)
        clear c33 l34
        have s35 := s5.builtG1 (k0 := k) (nm0 := nm) (num0 := num) (a0 := (Ps.A l i)) (sv0 := .slice so sn sc) (ts0 := ts) (by simp) (wr.heap.size) (by simp)
        have s36 := s35.allocAt (wr.heap.size + 1) 25 #[.int .i64 0, .string ⟨#[]⟩, .int .i64 0, .int .i64 (Ps.A l i), .slice (some ⟨wr.heap.size, 0, none⟩) 1 1] (by simp)
        refine (ris_any s36.ps (⟨#[46]⟩) (fun _ => by decide)).mono ?_
        rintro e w37 ⟨⟨hq38, hw39, rfl, h40⟩ | ⟨hw39, rfl, h40⟩, hk41⟩
        · replace HR := ryesB (j := j + 1) hq38 hw39 HR
          have s42 := s36.call hk41 h40
          have c43 := s42.n0.2.five
          have l44 := s42.n0.2.lt
          go_wp2_with fail
          clear c43 l44
          have s45 := s42.s00 (.int .i64 25)
          refine (rname_on s45.ps).mono ?_
          rintro e w47 ⟨nm46, q48, i49, rfl, h50, le51, hk52, ho53⟩
          replace HR := ho53 (rassoc HR)
          clear ho53
          have le51 := Lib.hid le51
          have s54 := s45.call hk52 h50
          have c55 := s54.n0.2.five
          have l56 := s54.n0.2.lt
          have c57 := s54.n1.2.five
          have l58 := s54.n1.2.lt
          have d59 := s54.d01
          go_wp2_with fail
          clear c55 l56 c57 l58 d59
          have s60 := s54.s01 (.string nm46)
          have s61 := s60.grown
          have s62 := s61.p1 (.int .i64 25) (.string nm46) (.int .i64 0) (.int .i64 (Ps.A l i)) (.slice (some ⟨wr.heap.size, 0, none⟩) 1 1)
          have s63 := s62.drop
          go_roundg F
          case measure => omega
          case rel => have a0 := le51.out; exact ⟨_, i49, 25, nm46, 0, _, _, _, [Tree.node k nm num (Ps.A l i) ts], by omega, by go_num, by omega, s63.rowsOf (fun _ h => by simp at h; simp [h]), HR⟩
        · replace HR := rnoB s36.ps hw39 HR
          have s64 := s36.call hk41 h40
          go_wp2_with fail
          refine (ris_any s64.ps (⟨#[91]⟩) (fun _ => by decide)).mono ?_
          rintro e w65 ⟨⟨hq66, hw67, rfl, h68⟩ | ⟨hw67, rfl, h68⟩, hk69⟩
          · replace HR := ryesB (j := j + 1) hq66 hw67 HR
            have s70 := s64.call hk69 h68
            have c71 := s70.n0.2.five
            have l72 := s70.n0.2.lt
            go_wp2_with fail
            clear c71 l72
            have s73 := s70.s00 (.int .i64 26)
            have c74 := s73.n0.2.five
            have l75 := s73.n0.2.lt
            go_wp2_with fail
            clear c74 l75
            have hC := s73.n0.2
            refine Ch.wp_region_run (fun u => Blk u (wr.heap.size + 1) 25 #[.int .i64 26, .string ⟨#[]⟩, .int .i64 0, .int .i64 (Ps.A l i), .slice (some ⟨wr.heap.size, 0, none⟩) 1 1]) [1] [0, 1, 2] [3, 4, 5, 6, 7] [5, 6, 7] (by kernel_rfl) (by kernel_rfl) (fun _ _ d _ _ h => by cases d <;> exact h) (hC) ?_
            clear hC
            have s76 := s73.drew
            refine Ch.take0 (v := ?v77) rfl (by rfl) ?y78 ?_
            case y78 => intro u; go_simp; rfl
            simp only [Act.put, List.setIfInBounds_toArray, List.set_cons_zero, List.set_cons_succ]
            refine Ch.load1 (v := ?v79) rfl (by rfl) ?y80 ?_
            case y80 => intro u hC; have c5 := Blk.five hC; go_simp; rfl
            simp only [Act.put, List.setIfInBounds_toArray, List.set_cons_zero, List.set_cons_succ]
            refine Ch.take2 (v := ?v81) rfl (by rfl) ?y82 ?_
            case y82 => intro u; go_simp; rfl
            simp only [Act.put, List.setIfInBounds_toArray, List.set_cons_zero, List.set_cons_succ]
            refine Ch.mid3 (by rfl) (fun K hK => ?_)
            go_simp
            refine (rt_on s76.ps (hex _ p T l _ _ trivial s76.ps)).mono ?_
            rintro e w91 ⟨k83, nm84, num85, a86, ts87, so88, sc89, q92, i93, rfl, hrow90, h94, le95, hk96, ho97⟩
            replace HR := ho97 (rassoc HR)
            clear ho97
            have le95 := Lib.hid le95
            have s98 := s76.callKeep hk96 h94 hrow90
            unfold nodeV
            refine hK _ _ (s98.n0.2) ?_
            clear hK K
            try simp only [Act.put, List.setIfInBounds_toArray, List.set_cons_zero, List.set_cons_succ]
            refine Ch.mid4 (by rfl) (fun K hK => ?_)
            go_simp
            refine hK _ _ ((s98.other _).n0.2) ?_
            clear hK K
            try simp only [Act.put, List.setIfInBounds_toArray, List.set_cons_zero, List.set_cons_succ]
            refine Ch.post5 rfl (by rfl) (fun K hK => ?_)
            refine s98.app1n (List.mem_cons_self ..) (.tmp 36) (.tmp 39) rfl rfl rfl (by simp) (fun go99 gn100 gc101 w102 s103 => ?_)
            refine hK _ _ ?_
            clear hK K
            try simp only [Act.put, List.setIfInBounds_toArray, List.set_cons_zero, List.set_cons_succ]
            have c7 := s103.n0.2.five
            refine Ch.post6 rfl (by rfl) (fun K hK => ?_)
            go_simp
            refine hK _ _ ?_
            clear hK K
            try simp only [Act.put, List.setIfInBounds_toArray, List.set_cons_zero, List.set_cons_succ]
            refine Ch.post7 rfl (by rfl) (fun K hK => ?_)
            go_simp
            refine hK _ _ ?_
            clear hK K
            try simp only [Act.put, List.setIfInBounds_toArray, List.set_cons_zero, List.set_cons_succ]
            refine Ch.run_end ?_
            have s104 := s103.s04 (.slice go99 gn100 gc101)
            clear c7
            go_wp2_with fail
            refine (rneed_on s104.ps (⟨#[93]⟩) (fun _ => by decide)).mono ?_
            rintro e w105 ⟨q106, i107, rfl, h108, le109, hk110, ho111⟩
            replace HR := ho111 (rassoc HR)
            clear ho111
            have le109 := Lib.hid le109
            have s112 := s104.call hk110 h108
            have c113 := s112.n0.2.five
            have l114 := s112.n0.2.lt
            have c115 := s112.n1.2.five
            have l116 := s112.n1.2.lt
            have d117 := s112.d01
            go_wp2_with fail
            clear c113 l114 c115 l116 d117
            have s118 := s112.grown
            have s119 := s118.p1 (.int .i64 26) (.string ⟨#[]⟩) (.int .i64 0) (.int .i64 (Ps.A l i)) (.slice go99 gn100 gc101)
            have s120 := s119.drop
            go_roundg F
            case measure => omega
            case rel => have a0 := le95.out; have a1 := le109.out; exact ⟨_, i107, 26, ⟨#[]⟩, 0, _, _, _, [Tree.node k nm num (Ps.A l i) ts, Tree.node k83 nm84 num85 a86 ts87], by omega, by go_num, by omega, s120.rowsOf (fun _ h => by simp at h; simp [h]), HR⟩
          · replace HR := rnoB s64.ps hw67 HR
            have s121 := s64.call hk69 h68
            go_wp2_with fail
            refine (ris_any s121.ps (⟨#[94]⟩) (fun _ => by decide)).mono ?_
            rintro e w122 ⟨⟨hq123, hw124, rfl, h125⟩ | ⟨hw124, rfl, h125⟩, hk126⟩
            · replace HR := ryesB (j := j + 1) hq123 hw124 HR
              have s127 := s121.call hk126 h125
              have c128 := s127.n0.2.five
              have l129 := s127.n0.2.lt
              have c130 := s127.n1.2.five
              have l131 := s127.n1.2.lt
              have d132 := s127.d01
              go_wp2_with fail
              clear c128 l129 c130 l131 d132
              have s133 := s127.s00 (.int .i64 27)
              have s134 := s133.grown
              have s135 := s134.p1 (.int .i64 27) (.string ⟨#[]⟩) (.int .i64 0) (.int .i64 (Ps.A l i)) (.slice (some ⟨wr.heap.size, 0, none⟩) 1 1)
              have s136 := s135.drop
              go_roundg F
              case measure => omega
              case rel => skip; exact ⟨_, (j + 1), 27, ⟨#[]⟩, 0, _, _, _, [Tree.node k nm num (Ps.A l i) ts], by omega, by go_num, by omega, s136.rowsOf (fun _ h => by simp at h; simp [h]), HR⟩
            · replace HR := rnoB s121.ps hw124 HR
              have s137 := s121.call hk126 h125
              go_wp2_with fail
              refine (ris_any s137.ps (⟨#[123]⟩) (fun _ => by decide)).mono ?_
              rintro e w138 ⟨⟨hq139, hw140, rfl, h141⟩ | ⟨hw140, rfl, h141⟩, hk142⟩
              · replace HR := ryesB (j := j + 1) hq139 hw140 HR
                have s143 := s137.call hk142 h141
                have c144 := s143.n0.2.five
                have l145 := s143.n0.2.lt
                go_wp2_with fail
                clear c144 l145
                have s146 := s143.s00 (.int .i64 28)
                have c147 := s146.n0.2.five
                have l148 := s146.n0.2.lt
                go_wp2_with fail
                clear c147 l148
                have hC := s146.n0.2
                refine Ch.wp_region_run (fun u => Blk u (wr.heap.size + 1) 25 #[.int .i64 28, .string ⟨#[]⟩, .int .i64 0, .int .i64 (Ps.A l i), .slice (some ⟨wr.heap.size, 0, none⟩) 1 1]) [1] [0, 1, 2] [3, 4, 5, 6, 7] [5, 6, 7] (by kernel_rfl) (by kernel_rfl) (fun _ _ d _ _ h => by cases d <;> exact h) (hC) ?_
                clear hC
                have s149 := s146.drew
                refine Ch.take0 (v := ?v150) rfl (by rfl) ?y151 ?_
                case y151 => intro u; go_simp; rfl
                simp only [Act.put, List.setIfInBounds_toArray, List.set_cons_zero, List.set_cons_succ]
                refine Ch.load1 (v := ?v152) rfl (by rfl) ?y153 ?_
                case y153 => intro u hC; have c5 := Blk.five hC; go_simp; rfl
                simp only [Act.put, List.setIfInBounds_toArray, List.set_cons_zero, List.set_cons_succ]
                refine Ch.take2 (v := ?v154) rfl (by rfl) ?y155 ?_
                case y155 => intro u; go_simp; rfl
                simp only [Act.put, List.setIfInBounds_toArray, List.set_cons_zero, List.set_cons_succ]
                refine Ch.mid3 (by rfl) (fun K hK => ?_)
                go_simp
                refine (rt_on s149.ps (rtypeName_any s149.ps)).mono ?_
                rintro e w164 ⟨k156, nm157, num158, a159, ts160, so161, sc162, q165, i166, rfl, hrow163, h167, le168, hk169, ho170⟩
                replace HR := ho170 (rassoc HR)
                clear ho170
                have le168 := Lib.hid le168
                have s171 := s149.callKeep hk169 h167 hrow163
                unfold nodeV
                refine hK _ _ (s171.n0.2) ?_
                clear hK K
                try simp only [Act.put, List.setIfInBounds_toArray, List.set_cons_zero, List.set_cons_succ]
                refine Ch.mid4 (by rfl) (fun K hK => ?_)
                go_simp
                refine hK _ _ ((s171.other _).n0.2) ?_
                clear hK K
                try simp only [Act.put, List.setIfInBounds_toArray, List.set_cons_zero, List.set_cons_succ]
                refine Ch.post5 rfl (by rfl) (fun K hK => ?_)
                refine s171.app1n (List.mem_cons_self ..) (.tmp 51) (.tmp 54) rfl rfl rfl (by simp) (fun go172 gn173 gc174 w175 s176 => ?_)
                refine hK _ _ ?_
                clear hK K
                try simp only [Act.put, List.setIfInBounds_toArray, List.set_cons_zero, List.set_cons_succ]
                have c7 := s176.n0.2.five
                refine Ch.post6 rfl (by rfl) (fun K hK => ?_)
                go_simp
                refine hK _ _ ?_
                clear hK K
                try simp only [Act.put, List.setIfInBounds_toArray, List.set_cons_zero, List.set_cons_succ]
                refine Ch.post7 rfl (by rfl) (fun K hK => ?_)
                go_simp
                refine hK _ _ ?_
                clear hK K
                try simp only [Act.put, List.setIfInBounds_toArray, List.set_cons_zero, List.set_cons_succ]
                refine Ch.run_end ?_
                have s177 := s176.s04 (.slice go172 gn173 gc174)
                clear c7
                go_wp2_with fail
                refine (rneed_on s177.ps (⟨#[125]⟩) (fun _ => by decide)).mono ?_
                rintro e w178 ⟨q179, i180, rfl, h181, le182, hk183, ho184⟩
                replace HR := ho184 (rassoc HR)
                clear ho184
                have le182 := Lib.hid le182
                have s185 := s177.call hk183 h181
                have c186 := s185.n0.2.five
                have l187 := s185.n0.2.lt
                have c188 := s185.n1.2.five
                have l189 := s185.n1.2.lt
                have d190 := s185.d01
                go_wp2_with fail
                clear c186 l187 c188 l189 d190
                have s191 := s185.grown
                have s192 := s191.p1 (.int .i64 28) (.string ⟨#[]⟩) (.int .i64 0) (.int .i64 (Ps.A l i)) (.slice go172 gn173 gc174)
                have s193 := s192.drop
                go_roundg F
                case measure => omega
                case rel => have a0 := le168.out; have a1 := le182.out; exact ⟨_, i180, 28, ⟨#[]⟩, 0, _, _, _, [Tree.node k nm num (Ps.A l i) ts, Tree.node k156 nm157 num158 a159 ts160], by omega, by go_num, by omega, s193.rowsOf (fun _ h => by simp at h; simp [h]), HR⟩
              · replace HR := rnoB s137.ps hw140 HR
                have s194 := s137.call hk142 h141
                have s195 := s194.grown
                have c196 := s195.n1.2.five
                have l197 := s195.n1.2.lt
                have c198 := s195.n2.2.five
                have l199 := s195.n2.2.lt
                have d200 := s195.d12
                go_wp2_with fail
                clear c196 l197 c198 l199 d200
                have s201 := s195.p2 (.int .i64 k) (.string nm) (.int .i64 num) (.int .i64 (Ps.A l i)) (.slice so sn sc)
                exact bodyPost_ret (res5 Tryz.results150 rfl s201.n2.2) rfl ⟨rend s201.ps HR (s201.treeOf (sv := .slice so sn sc) (by simp)) (by omega), s201.kp⟩
    · rw [ho22] at hOk
      clear ho22
      replace HR := rbad (Y := R.ok (Tree.node k nm num (Ps.A l i) ts) j) ⟨n20, a21, rfl⟩ HR
      have c202 := s5.n0.2.five
      have l203 := s5.n0.2.lt
      have c204 := s5.n1.2.five
      have l205 := s5.n1.2.lt
      have d206 := s5.d01
      go_wp2_with (go_at_call 18; refine hOk.out.mono ?_; rintro e w' ⟨rfl, rfl⟩)
      clear c202 l203 c204 l205 d206
      have s207 := s5.p1 (.int .i64 k) (.string nm) (.int .i64 num) (.int .i64 (Ps.A l i)) (.slice so sn sc)
      exact bodyPost_ret (res5 Tryz.results150 rfl s207.n1.2) rfl ⟨rend s207.ps HR (s207.treeOf (sv := .slice so sn sc) (by simp)) (by omega), s207.kp⟩
end Go.Proofs.YtneohanphabneaaGreatDoor
