/-
  Contracts of the reference's reader: a statement.
-/
import Derived.Test.YtneohanphabneaaGreatDoorMMapI
namespace Go.Proofs.YtneohanphabneaaGreatDoor
open Go.RowKit Ps
theorem isW_other {l : List Sc.Tok} {i : Nat} {x y : ByteArray} (h : Ps.isW l i x = true) (hxy : x ≠ y) : Ps.isW l i y = false := by
  unfold Ps.isW at h ⊢
  rw [decide_eq_true_eq] at h
  rw [decide_eq_false_iff_not, h]
  exact hxy
theorem isW_eq {l : List Sc.Tok} {i : Nat} {x : ByteArray} (h : Ps.isW l i x = true) : Ps.W l i = x := by
  unfold Ps.isW at h; exact of_decide_eq_true h
set_option maxRecDepth 100000 in
set_option maxHeartbeats 8000000 in
theorem rstmt_any {w : World} {p T : Nat} {l : List Sc.Tok} {s : R Unit} {i d : Nat} (h : RS w p T l s i d) (hs0 : ∃ k, s = .ok () k) (ex sts : List Sc.Tok → Nat → R Tree) (hex : RCT (fun _ => True) 148 d ex) (hsts : RCT (fun _ => True) 45 d sts) : Calls Tryz.prog 104 #[pp p] w fun e w' =>
    RT (fun b => w.heap.size ≤ b) p T l i d (s.bind fun _ k => Ps.stmtOf l (ex l) (sts l) k) e w' ∧ Kp w.heap.size p w w' := by
  obtain ⟨k0, rfl⟩ := hs0
  have hk0 := (h.ok k0 rfl).symm
  subst hk0
  obtain ⟨r, hr⟩ : ∃ r, r = (R.ok () i : R Unit).bind fun _ k => Ps.stmtOf l (ex l) (sts l) k := ⟨_, rfl⟩
  rw [← hr]
  have HR := rhere h _ hr
  clear hr
  unfold Ps.stmtOf at HR
  unfold pp
  go_enter Tryz.func104, Tryz.ntmps104
  go_wp2_with fail
  have hil := h.hi
  have hsm := h.small
  have s1 := (Rs.start h).allocAt (w.heap.size) 25 #[.int .i64 0, .string ⟨#[]⟩, .int .i64 0, .int .i64 0, .slice none 0 0] (by simp)
  refine (rat_any s1.ps).mono ?_
  rintro e w2 ⟨rfl, hb3⟩
  have s4 := s1.below hb3
  go_wp2_with fail
  have s5 := s4.allocAt (w2.heap.size) 25 #[.int .i64 0, .string ⟨#[]⟩, .int .i64 0, .int .i64 (Ps.A l i), .slice none 0 0] (by simp)
  refine (rword_any s5.ps).mono ?_
  rintro e w6 ⟨rfl, hb7⟩
  have s8 := s5.below hb7
  have hq1 := isW_lit l i ⟨#[73, 70]⟩ [73, 70] (by rw [Lib.toList_data])
  cases hX1 : Ps.isW l i ⟨#[73, 70]⟩ with
  | true =>
    rw [hX1] at hq1 HR
    replace HR := rokX (if_pos rfl) HR
    have hWne : Ps.W l i ≠ ⟨#[]⟩ := by rw [isW_eq hX1]; decide
    have c9 := s8.n0.2.five
    have l10 := s8.n0.2.lt
    go_wp2_with fail
    clear c9 l10
    have s11 := s8.s00 (.int .i64 16)
    replace HR : Hid (r = (R.ok () i : R Unit).bind fun _ _ => (Ps.ifLoop l (ex l) (sts l) l.length (i + 1) []).bind fun ts i1 => Ps.elseR l (sts l) (Ps.A l i) ts i1) := HR
    go_loopg [] l.length (fun F wr => ∃ (q : R Unit) (j : Nat) (acc : List Tree) (go : Option Addr) (gn gc : Nat) (fst : Bool), (∀ k, q = .ok () k → l.length ≤ k + F) ∧ i ≤ j ∧ acc.length + 2 * F ≤ 2 * l.length ∧ (fst = true → q = .ok () i ∧ Ps.isW l i ⟨#[73, 70]⟩ = true) ∧ (fst = false → (0 : Int) < (gn : Int) ∧ ∀ k, q = .ok () k → Ps.isW l k ⟨#[73, 70]⟩ = false) ∧ Rs w wr p T l q j d [(w2.heap.size, 25, #[.int .i64 16, .string ⟨#[]⟩, .int .i64 0, .int .i64 (Ps.A l i), .slice go gn gc]), (w.heap.size, 25, #[.int .i64 0, .string ⟨#[]⟩, .int .i64 0, .int .i64 0, .slice none 0 0])] (.slice go gn gc, acc) [] ∧
      Hid (r = q.bind fun _ _ => (if fst = true then Ps.ifLoop l (ex l) (sts l) F (j + 1) acc else if Ps.isW l j ⟨#[69, 76, 83, 73, 70]⟩ then Ps.ifLoop l (ex l) (sts l) F (j + 1) acc else R.ok acc j).bind fun ts i1 => Ps.elseR l (sts l) (Ps.A l i) ts i1))
    case atStart =>
      exact ⟨_, i, [], none, 0, 0, true, (fun k hk => by injection hk with _ hk; omega), by omega, by simp, (fun _ => ⟨rfl, hX1⟩), (fun h => by cases h), s11, HR⟩
    case round =>
      obtain ⟨q, j, acc, go, gn, gc, fst, hF, hij, hacc, hfst, hsnd, s5, HR⟩ := hrel
      have hjl := s5.ps.hi
      cases fst with
      | true =>
        obtain ⟨rfl, hw1⟩ := hfst rfl
        clear hsnd hfst
        have hji := s5.ps.ok i rfl
        subst hji
        replace HR := rokX (if_pos_bind rfl) HR
        go_wp2_with fail
        refine (ris_any s5.ps (⟨#[73, 70]⟩) (fun _ => by decide)).mono ?_
        rintro e w12 ⟨⟨hq13, hw14, rfl, h15⟩ | ⟨hw14, rfl, h15⟩, hk16⟩
        · replace HR := ryes' (j := i + 1) hq13 rfl HR
          have s17 := s5.call hk16 h15
          have hF1 := hF _ rfl
          cases gk with
          | zero => omega
          | succ F =>
            unfold Ps.ifLoop at HR
            replace HR := rassoc HR
            go_wp2_with fail
            refine (rt_on s17.ps (hex _ p T l _ _ trivial s17.ps)).mono ?_
            rintro e w26 ⟨k18, nm19, num20, a21, ts22, so23, sc24, q27, i28, rfl, hrow25, h29, le30, hk31, ho32⟩
            replace HR := ho32 HR
            clear ho32
            have le30 := Lib.hid le30
            have s33 := s17.callKeep hk31 h29 hrow25
            unfold nodeV
            go_wp2_with fail
            have s34 := s33.allocAt (w26.heap.size) 25 #[.int .i64 k18, .string nm19, .int .i64 num20, .int .i64 a21, .slice so23 ts22.length sc24] (by simp)
            replace HR := rassoc HR
            refine (rneed_on s34.ps (⟨#[84, 72, 69, 78]⟩) (fun _ => by decide)).mono ?_
            rintro e w35 ⟨q36, i37, rfl, h38, le39, hk40, ho41⟩
            replace HR := ho41 HR
            clear ho41
            have le39 := Lib.hid le39
            have s42 := s34.call hk40 h38
            have c43 := s42.n0.2.five
            have l44 := s42.n0.2.lt
            have c45 := s42.n1.2.five
            have l46 := s42.n1.2.lt
            have d47 := s42.d01
            go_wp2_with fail
            clear c43 l44 c45 l46 d47
            have hC := And.intro s42.n1.2 s42.n0.2
            refine Ch.wp_region_run (fun u => Blk u (w2.heap.size) 25 #[.int .i64 16, .string ⟨#[]⟩, .int .i64 0, .int .i64 (Ps.A l i), .slice go gn gc] ∧ Blk u (w26.heap.size) 25 #[.int .i64 k18, .string nm19, .int .i64 num20, .int .i64 a21, .slice so23 ts22.length sc24]) [1, 2] [0, 1, 2, 3] [4, 5, 6, 7, 8] [8] (by kernel_rfl) (by kernel_rfl) (fun _ _ d _ _ h => by cases d <;> exact h) (hC) ?_
            clear hC
            have s48 := s42.drew
            refine Ch.take0 (v := ?v49) rfl (by rfl) ?y50 ?_
            case y50 => intro u; go_simp; rfl
            simp only [Act.put, List.setIfInBounds_toArray, List.set_cons_zero, List.set_cons_succ]
            refine Ch.load1 (v := ?v51) rfl (by rfl) ?y52 ?_
            case y52 => intro u hC; have c5 := Blk.five hC.1; go_simp; rfl
            simp only [Act.put, List.setIfInBounds_toArray, List.set_cons_zero, List.set_cons_succ]
            refine Ch.load2 (v := ?v53) rfl (by rfl) ?y54 ?_
            case y54 => intro u hC; have c5 := Blk.five hC.2; go_simp; rfl
            simp only [Act.put, List.setIfInBounds_toArray, List.set_cons_zero, List.set_cons_succ]
            refine Ch.take3 (v := ?v55) rfl (by rfl) ?y56 ?_
            case y56 => intro u; go_simp; rfl
            simp only [Act.put, List.setIfInBounds_toArray, List.set_cons_zero, List.set_cons_succ]
            refine Ch.mid4 (by rfl) (fun K hK => ?_)
            go_simp
            replace HR := rassoc HR
            refine (rt_on s48.ps (hsts _ p T l _ _ trivial s48.ps)).mono ?_
            rintro e w65 ⟨k57, nm58, num59, a60, ts61, so62, sc63, q66, i67, rfl, hrow64, h68, le69, hk70, ho71⟩
            replace HR := ho71 HR
            clear ho71
            have le69 := Lib.hid le69
            have s72 := s48.callKeep hk70 h68 hrow64
            unfold nodeV
            refine hK _ _ (⟨s72.n1.2, s72.n0.2⟩) ?_
            clear hK K
            try simp only [Act.put, List.setIfInBounds_toArray, List.set_cons_zero, List.set_cons_succ]
            refine Ch.mid5 (by rfl) (fun K hK => ?_)
            go_simp
            refine hK _ _ (⟨(s72.other _).n1.2, (s72.other _).n0.2⟩) ?_
            clear hK K
            try simp only [Act.put, List.setIfInBounds_toArray, List.set_cons_zero, List.set_cons_succ]
            refine Ch.mid6 (by rfl) (fun K hK => ?_)
            refine s72.app2 (k0 := k18) (nm0 := nm19) (num0 := num20) (a0 := a21) (sv0 := .slice so23 ts22.length sc24) (ts0 := ts22) (by simp) (List.mem_cons_self ..) (.tmp 52) (.tmp 56) rfl rfl rfl (by omega) (fun go73 gc74 w75 s76 => ?_)
            refine hK _ _ (⟨s76.n1.2, s76.n0.2⟩) ?_
            clear hK K
            try simp only [Act.put, List.setIfInBounds_toArray, List.set_cons_zero, List.set_cons_succ]
            have c7 := s76.n1.2.five
            refine Ch.mid7 (by rfl) (fun K hK => ?_)
            go_simp
            refine hK _ _ (⟨s76.n1.2, s76.n0.2⟩) ?_
            clear hK K
            try simp only [Act.put, List.setIfInBounds_toArray, List.set_cons_zero, List.set_cons_succ]
            refine Ch.post8 rfl (by rfl) (fun K hK => ?_)
            go_simp
            refine hK _ _ ?_
            clear hK K
            try simp only [Act.put, List.setIfInBounds_toArray, List.set_cons_zero, List.set_cons_succ]
            refine Ch.run_end ?_
            have s77 := s76.s14 (.slice go73 (acc.length + 2) gc74)
            clear c7
            have s78 := s77.drop
            go_wp2_with fail
            have hOk := Lib.hid (rok_any s78.ps)
            unfold pp at hOk
            rcases rokB q66 s78.ps.bad with ⟨ho82, k79, rfl⟩ | ⟨ho82, n80, a81, rfl⟩
            · have hkj := (s78.ps.ok k79 rfl).symm
              subst hkj
              rw [ho82] at hOk
              clear ho82
              go_wp2_with (go_at_call 18; refine hOk.out.mono ?_; rintro e w' ⟨rfl, rfl⟩)
              refine (rword_any s78.ps).mono ?_
              rintro e w83 ⟨rfl, hb84⟩
              have s85 := s78.below hb84
              have hq := isW_lit l i67 ⟨#[73, 70]⟩ [73, 70] (by rw [Lib.toList_data])
              cases hI : Ps.isW l i67 ⟨#[73, 70]⟩ with
              | false =>
                rw [hI] at hq
                go_wp2_with fail
                go_roundg F
                case measure => omega
                case rel => have a0 := le30.out; have a1 := le39.out; have a2 := le69.out; exact ⟨_, i67, acc ++ [Tree.node k18 nm19 num20 a21 ts22, Tree.node k57 nm58 num59 a60 ts61], go73, acc.length + 2, gc74, false, fun k hk => (by first | (cases hk; done) | (injection hk with _ hk; omega)), by omega, by simp; omega, fun h => (by cases h), fun _ => ⟨by omega, fun k hk => (by injection hk with _ hk; rw [← hk]; exact hI)⟩, s85.rowsOf (fun _ h => by cases h), HR⟩
              | true =>
                rw [hI] at hq
                have hEl := isW_other (y := ⟨#[69, 76, 83, 73, 70]⟩) hI (by decide)
                replace HR := rokX (if_neg_bind (by rw [hEl]; decide)) HR
                have hFx : acc.length + 2 ≤ 2 * l.length := by omega
                replace HR : Hid (r = _root_.Go.Proofs.YtneohanphabneaaGreatDoor.Ps.R.bind (.ok () i67) fun _ _ => Ps.elseR l (sts l) (Ps.A l i) (acc ++ [Tree.node k18 nm19 num20 a21 ts22, Tree.node k57 nm58 num59 a60 ts61]) i67) := HR
                unfold Ps.elseR at HR
                go_wp2_with fail
                refine (ris_any s85.ps (⟨#[69, 76, 83, 69]⟩) (fun _ => by decide)).mono ?_
                rintro e w86 ⟨⟨hq87, hw88, rfl, h89⟩ | ⟨hw88, rfl, h89⟩, hk90⟩
                · replace HR := ryes (j := i67 + 1) hq87 hw88 HR
                  have s91 := s85.call hk90 h89
                  have c92 := s91.n0.2.five
                  have l93 := s91.n0.2.lt
                  go_wp2_with fail
                  clear c92 l93
                  have s94 := s91.s02 (.int .i64 1)
                  have c95 := s94.n0.2.five
                  have l96 := s94.n0.2.lt
                  go_wp2_with fail
                  clear c95 l96
                  have hC := s94.n0.2
                  refine Ch.wp_region_run (fun u => Blk u (w2.heap.size) 25 #[.int .i64 16, .string ⟨#[]⟩, .int .i64 1, .int .i64 (Ps.A l i), .slice go73 (acc.length + 2) gc74]) [1] [0, 1, 2] [3, 4, 5, 6, 7] [5, 6, 7] (by kernel_rfl) (by kernel_rfl) (fun _ _ d _ _ h => by cases d <;> exact h) (hC) ?_
                  clear hC
                  have s97 := s94.drew
                  refine Ch.take0 (v := ?v98) rfl (by rfl) ?y99 ?_
                  case y99 => intro u; go_simp; rfl
                  simp only [Act.put, List.setIfInBounds_toArray, List.set_cons_zero, List.set_cons_succ]
                  refine Ch.load1 (v := ?v100) rfl (by rfl) ?y101 ?_
                  case y101 => intro u hC; have c5 := Blk.five hC; go_simp; rfl
                  simp only [Act.put, List.setIfInBounds_toArray, List.set_cons_zero, List.set_cons_succ]
                  refine Ch.take2 (v := ?v102) rfl (by rfl) ?y103 ?_
                  case y103 => intro u; go_simp; rfl
                  simp only [Act.put, List.setIfInBounds_toArray, List.set_cons_zero, List.set_cons_succ]
                  refine Ch.mid3 (by rfl) (fun K hK => ?_)
                  go_simp
                  refine (rt_on s97.ps (hsts _ p T l _ _ trivial s97.ps)).mono ?_
                  rintro e w112 ⟨k104, nm105, num106, a107, ts108, so109, sc110, q113, i114, rfl, hrow111, h115, le116, hk117, ho118⟩
                  replace HR := ho118 HR
                  clear ho118
                  have le116 := Lib.hid le116
                  have s119 := s97.callKeep hk117 h115 hrow111
                  unfold nodeV
                  refine hK _ _ (s119.n0.2) ?_
                  clear hK K
                  try simp only [Act.put, List.setIfInBounds_toArray, List.set_cons_zero, List.set_cons_succ]
                  refine Ch.mid4 (by rfl) (fun K hK => ?_)
                  go_simp
                  refine hK _ _ ((s119.other _).n0.2) ?_
                  clear hK K
                  try simp only [Act.put, List.setIfInBounds_toArray, List.set_cons_zero, List.set_cons_succ]
                  refine Ch.post5 rfl (by rfl) (fun K hK => ?_)
                  refine s119.app1n (List.mem_cons_self ..) (.tmp 70) (.tmp 73) rfl rfl rfl (by first | omega | (simp; omega)) (fun go120 gn121 gc122 w123 s124 => ?_)
                  refine hK _ _ ?_
                  clear hK K
                  try simp only [Act.put, List.setIfInBounds_toArray, List.set_cons_zero, List.set_cons_succ]
                  have c7 := s124.n0.2.five
                  refine Ch.post6 rfl (by rfl) (fun K hK => ?_)
                  go_simp
                  refine hK _ _ ?_
                  clear hK K
                  try simp only [Act.put, List.setIfInBounds_toArray, List.set_cons_zero, List.set_cons_succ]
                  refine Ch.post7 rfl (by rfl) (fun K hK => ?_)
                  go_simp
                  refine hK _ _ ?_
                  clear hK K
                  try simp only [Act.put, List.setIfInBounds_toArray, List.set_cons_zero, List.set_cons_succ]
                  refine Ch.run_end ?_
                  have s125 := s124.s04 (.slice go120 gn121 gc122)
                  clear c7
                  go_wp2_with fail
                  refine (rneed_on s125.ps (⟨#[69, 78, 68]⟩) (fun _ => by decide)).mono ?_
                  rintro e w126 ⟨q127, i128, rfl, h129, le130, hk131, ho132⟩
                  replace HR := ho132 HR
                  clear ho132
                  have le130 := Lib.hid le130
                  have s133 := s125.call hk131 h129
                  have c134 := s133.n0.2.five
                  have l135 := s133.n0.2.lt
                  have c136 := s133.n1.2.five
                  have l137 := s133.n1.2.lt
                  have d138 := s133.d01
                  go_wp2_with fail
                  clear c134 l135 c136 l137 d138
                  have s139 := s133.grown
                  have s140 := s139.p1 (.int .i64 16) (.string ⟨#[]⟩) (.int .i64 1) (.int .i64 (Ps.A l i)) (.slice go120 gn121 gc122)
                  exact bodyPost_ret (res5 Tryz.results104 rfl s140.n1.2) rfl ⟨rend s140.ps HR (s140.treeOf (sv := .slice go120 gn121 gc122) (by simp)) (by have := le30.out; have := le39.out; have := le69.out; have := le116.out; have := le130.out; omega), s140.kp⟩
                · replace HR := rno s85.ps hw88 HR
                  have s141 := s85.call hk90 h89
                  go_wp2_with fail
                  refine (rneed_on s141.ps (⟨#[69, 78, 68]⟩) (fun _ => by decide)).mono ?_
                  rintro e w142 ⟨q143, i144, rfl, h145, le146, hk147, ho148⟩
                  replace HR := ho148 HR
                  clear ho148
                  have le146 := Lib.hid le146
                  have s149 := s141.call hk147 h145
                  have c150 := s149.n0.2.five
                  have l151 := s149.n0.2.lt
                  have c152 := s149.n1.2.five
                  have l153 := s149.n1.2.lt
                  have d154 := s149.d01
                  go_wp2_with fail
                  clear c150 l151 c152 l153 d154
                  have s155 := s149.grown
                  have s156 := s155.p1 (.int .i64 16) (.string ⟨#[]⟩) (.int .i64 0) (.int .i64 (Ps.A l i)) (.slice go73 (acc.length + 2) gc74)
                  exact bodyPost_ret (res5 Tryz.results104 rfl s156.n1.2) rfl ⟨rend s156.ps HR (s156.treeOf (sv := .slice go73 (acc.length + 2) gc74) (by simp)) (by have := le30.out; have := le39.out; have := le69.out; have := le146.out; omega), s156.kp⟩
            · rw [ho82] at hOk
              clear ho82
              go_wp2_with (go_at_call 18; refine hOk.out.mono ?_; rintro e w' ⟨rfl, rfl⟩)
              go_roundg F
              case measure => omega
              case rel => have a0 := le30.out; have a1 := le39.out; have a2 := le69.out; exact ⟨_, i67, acc ++ [Tree.node k18 nm19 num20 a21 ts22, Tree.node k57 nm58 num59 a60 ts61], go73, acc.length + 2, gc74, false, fun k hk => (by first | (cases hk; done) | (injection hk with _ hk; omega)), by omega, by simp; omega, fun h => (by cases h), fun _ => ⟨by omega, fun k hk => (by cases hk)⟩, s78.rowsOf (fun _ h => by cases h), HR⟩
        · have s157 := s5.call hk16 h15
          have hx := hw14 i rfl
          rw [hw1] at hx
          cases hx
      | false =>
        obtain ⟨hgn, hni⟩ := hsnd rfl
        clear hsnd hfst
        replace HR := rokX (if_neg_bind (by decide)) HR
        go_wp2_with fail
        refine (ris_any s5.ps (⟨#[73, 70]⟩) (fun _ => by decide)).mono ?_
        rintro e w158 ⟨⟨hq159, hw160, rfl, h161⟩ | ⟨hw160, rfl, h161⟩, hk162⟩
        · have s163 := s5.call hk162 h161
          have hx := hni _ hq159
          rw [hw160] at hx
          cases hx
        · have s164 := s5.call hk162 h161
          have c165 := s164.n0.2.five
          have l166 := s164.n0.2.lt
          go_wp2_with fail
          clear c165 l166
          refine (ris_any s164.ps (⟨#[69, 76, 83, 73, 70]⟩) (fun _ => by decide)).mono ?_
          rintro e w167 ⟨⟨hq168, hw169, rfl, h170⟩ | ⟨hw169, rfl, h170⟩, hk171⟩
          · replace HR := ryesB (j := j + 1) hq168 hw169 HR
            have s172 := s164.call hk171 h170
            have hF1 := hF _ hq168
            cases gk with
            | zero => omega
            | succ F =>
              unfold Ps.ifLoop at HR
              replace HR := rassoc HR
              go_wp2_with fail
              refine (rt_on s172.ps (hex _ p T l _ _ trivial s172.ps)).mono ?_
              rintro e w181 ⟨k173, nm174, num175, a176, ts177, so178, sc179, q182, i183, rfl, hrow180, h184, le185, hk186, ho187⟩
              replace HR := ho187 HR
              clear ho187
              have le185 := Lib.hid le185
              have s188 := s172.callKeep hk186 h184 hrow180
              unfold nodeV
              go_wp2_with fail
              have s189 := s188.allocAt (w181.heap.size) 25 #[.int .i64 k173, .string nm174, .int .i64 num175, .int .i64 a176, .slice so178 ts177.length sc179] (by simp)
              replace HR := rassoc HR
              refine (rneed_on s189.ps (⟨#[84, 72, 69, 78]⟩) (fun _ => by decide)).mono ?_
              rintro e w190 ⟨q191, i192, rfl, h193, le194, hk195, ho196⟩
              replace HR := ho196 HR
              clear ho196
              have le194 := Lib.hid le194
              have s197 := s189.call hk195 h193
              have c198 := s197.n0.2.five
              have l199 := s197.n0.2.lt
              have c200 := s197.n1.2.five
              have l201 := s197.n1.2.lt
              have d202 := s197.d01
              go_wp2_with fail
              clear c198 l199 c200 l201 d202
              have hC := And.intro s197.n1.2 s197.n0.2
              refine Ch.wp_region_run (fun u => Blk u (w2.heap.size) 25 #[.int .i64 16, .string ⟨#[]⟩, .int .i64 0, .int .i64 (Ps.A l i), .slice go gn gc] ∧ Blk u (w181.heap.size) 25 #[.int .i64 k173, .string nm174, .int .i64 num175, .int .i64 a176, .slice so178 ts177.length sc179]) [1, 2] [0, 1, 2, 3] [4, 5, 6, 7, 8] [8] (by kernel_rfl) (by kernel_rfl) (fun _ _ d _ _ h => by cases d <;> exact h) (hC) ?_
              clear hC
              have s203 := s197.drew
              refine Ch.take0 (v := ?v204) rfl (by rfl) ?y205 ?_
              case y205 => intro u; go_simp; rfl
              simp only [Act.put, List.setIfInBounds_toArray, List.set_cons_zero, List.set_cons_succ]
              refine Ch.load1 (v := ?v206) rfl (by rfl) ?y207 ?_
              case y207 => intro u hC; have c5 := Blk.five hC.1; go_simp; rfl
              simp only [Act.put, List.setIfInBounds_toArray, List.set_cons_zero, List.set_cons_succ]
              refine Ch.load2 (v := ?v208) rfl (by rfl) ?y209 ?_
              case y209 => intro u hC; have c5 := Blk.five hC.2; go_simp; rfl
              simp only [Act.put, List.setIfInBounds_toArray, List.set_cons_zero, List.set_cons_succ]
              refine Ch.take3 (v := ?v210) rfl (by rfl) ?y211 ?_
              case y211 => intro u; go_simp; rfl
              simp only [Act.put, List.setIfInBounds_toArray, List.set_cons_zero, List.set_cons_succ]
              refine Ch.mid4 (by rfl) (fun K hK => ?_)
              go_simp
              replace HR := rassoc HR
              refine (rt_on s203.ps (hsts _ p T l _ _ trivial s203.ps)).mono ?_
              rintro e w220 ⟨k212, nm213, num214, a215, ts216, so217, sc218, q221, i222, rfl, hrow219, h223, le224, hk225, ho226⟩
              replace HR := ho226 HR
              clear ho226
              have le224 := Lib.hid le224
              have s227 := s203.callKeep hk225 h223 hrow219
              unfold nodeV
              refine hK _ _ (⟨s227.n1.2, s227.n0.2⟩) ?_
              clear hK K
              try simp only [Act.put, List.setIfInBounds_toArray, List.set_cons_zero, List.set_cons_succ]
              refine Ch.mid5 (by rfl) (fun K hK => ?_)
              go_simp
              refine hK _ _ (⟨(s227.other _).n1.2, (s227.other _).n0.2⟩) ?_
              clear hK K
              try simp only [Act.put, List.setIfInBounds_toArray, List.set_cons_zero, List.set_cons_succ]
              refine Ch.mid6 (by rfl) (fun K hK => ?_)
              refine s227.app2 (k0 := k173) (nm0 := nm174) (num0 := num175) (a0 := a176) (sv0 := .slice so178 ts177.length sc179) (ts0 := ts177) (by simp) (List.mem_cons_self ..) (.tmp 52) (.tmp 56) rfl rfl rfl (by omega) (fun go228 gc229 w230 s231 => ?_)
              refine hK _ _ (⟨s231.n1.2, s231.n0.2⟩) ?_
              clear hK K
              try simp only [Act.put, List.setIfInBounds_toArray, List.set_cons_zero, List.set_cons_succ]
              have c7 := s231.n1.2.five
              refine Ch.mid7 (by rfl) (fun K hK => ?_)
              go_simp
              refine hK _ _ (⟨s231.n1.2, s231.n0.2⟩) ?_
              clear hK K
              try simp only [Act.put, List.setIfInBounds_toArray, List.set_cons_zero, List.set_cons_succ]
              refine Ch.post8 rfl (by rfl) (fun K hK => ?_)
              go_simp
              refine hK _ _ ?_
              clear hK K
              try simp only [Act.put, List.setIfInBounds_toArray, List.set_cons_zero, List.set_cons_succ]
              refine Ch.run_end ?_
              have s232 := s231.s14 (.slice go228 (acc.length + 2) gc229)
              clear c7
              have s233 := s232.drop
              go_wp2_with fail
              have hOk := Lib.hid (rok_any s233.ps)
              unfold pp at hOk
              rcases rokB q221 s233.ps.bad with ⟨ho237, k234, rfl⟩ | ⟨ho237, n235, a236, rfl⟩
              · have hkj := (s233.ps.ok k234 rfl).symm
                subst hkj
                rw [ho237] at hOk
                clear ho237
                go_wp2_with (go_at_call 18; refine hOk.out.mono ?_; rintro e w' ⟨rfl, rfl⟩)
                refine (rword_any s233.ps).mono ?_
                rintro e w238 ⟨rfl, hb239⟩
                have s240 := s233.below hb239
                have hq := isW_lit l i222 ⟨#[73, 70]⟩ [73, 70] (by rw [Lib.toList_data])
                cases hI : Ps.isW l i222 ⟨#[73, 70]⟩ with
                | false =>
                  rw [hI] at hq
                  go_wp2_with fail
                  go_roundg F
                  case measure => omega
                  case rel => have a0 := le185.out; have a1 := le194.out; have a2 := le224.out; exact ⟨_, i222, acc ++ [Tree.node k173 nm174 num175 a176 ts177, Tree.node k212 nm213 num214 a215 ts216], go228, acc.length + 2, gc229, false, fun k hk => (by first | (cases hk; done) | (injection hk with _ hk; omega)), by omega, by simp; omega, fun h => (by cases h), fun _ => ⟨by omega, fun k hk => (by injection hk with _ hk; rw [← hk]; exact hI)⟩, s240.rowsOf (fun _ h => by cases h), HR⟩
                | true =>
                  rw [hI] at hq
                  have hEl := isW_other (y := ⟨#[69, 76, 83, 73, 70]⟩) hI (by decide)
                  replace HR := rokX (if_neg_bind (by rw [hEl]; decide)) HR
                  have hFx : acc.length + 2 ≤ 2 * l.length := by omega
                  replace HR : Hid (r = _root_.Go.Proofs.YtneohanphabneaaGreatDoor.Ps.R.bind (.ok () i222) fun _ _ => Ps.elseR l (sts l) (Ps.A l i) (acc ++ [Tree.node k173 nm174 num175 a176 ts177, Tree.node k212 nm213 num214 a215 ts216]) i222) := HR
                  unfold Ps.elseR at HR
                  go_wp2_with fail
                  refine (ris_any s240.ps (⟨#[69, 76, 83, 69]⟩) (fun _ => by decide)).mono ?_
                  rintro e w241 ⟨⟨hq242, hw243, rfl, h244⟩ | ⟨hw243, rfl, h244⟩, hk245⟩
                  · replace HR := ryes (j := i222 + 1) hq242 hw243 HR
                    have s246 := s240.call hk245 h244
                    have c247 := s246.n0.2.five
                    have l248 := s246.n0.2.lt
                    go_wp2_with fail
                    clear c247 l248
                    have s249 := s246.s02 (.int .i64 1)
                    have c250 := s249.n0.2.five
                    have l251 := s249.n0.2.lt
                    go_wp2_with fail
                    clear c250 l251
                    have hC := s249.n0.2
                    refine Ch.wp_region_run (fun u => Blk u (w2.heap.size) 25 #[.int .i64 16, .string ⟨#[]⟩, .int .i64 1, .int .i64 (Ps.A l i), .slice go228 (acc.length + 2) gc229]) [1] [0, 1, 2] [3, 4, 5, 6, 7] [5, 6, 7] (by kernel_rfl) (by kernel_rfl) (fun _ _ d _ _ h => by cases d <;> exact h) (hC) ?_
                    clear hC
                    have s252 := s249.drew
                    refine Ch.take0 (v := ?v253) rfl (by rfl) ?y254 ?_
                    case y254 => intro u; go_simp; rfl
                    simp only [Act.put, List.setIfInBounds_toArray, List.set_cons_zero, List.set_cons_succ]
                    refine Ch.load1 (v := ?v255) rfl (by rfl) ?y256 ?_
                    case y256 => intro u hC; have c5 := Blk.five hC; go_simp; rfl
                    simp only [Act.put, List.setIfInBounds_toArray, List.set_cons_zero, List.set_cons_succ]
                    refine Ch.take2 (v := ?v257) rfl (by rfl) ?y258 ?_
                    case y258 => intro u; go_simp; rfl
                    simp only [Act.put, List.setIfInBounds_toArray, List.set_cons_zero, List.set_cons_succ]
                    refine Ch.mid3 (by rfl) (fun K hK => ?_)
                    go_simp
                    refine (rt_on s252.ps (hsts _ p T l _ _ trivial s252.ps)).mono ?_
                    rintro e w267 ⟨k259, nm260, num261, a262, ts263, so264, sc265, q268, i269, rfl, hrow266, h270, le271, hk272, ho273⟩
                    replace HR := ho273 HR
                    clear ho273
                    have le271 := Lib.hid le271
                    have s274 := s252.callKeep hk272 h270 hrow266
                    unfold nodeV
                    refine hK _ _ (s274.n0.2) ?_
                    clear hK K
                    try simp only [Act.put, List.setIfInBounds_toArray, List.set_cons_zero, List.set_cons_succ]
                    refine Ch.mid4 (by rfl) (fun K hK => ?_)
                    go_simp
                    refine hK _ _ ((s274.other _).n0.2) ?_
                    clear hK K
                    try simp only [Act.put, List.setIfInBounds_toArray, List.set_cons_zero, List.set_cons_succ]
                    refine Ch.post5 rfl (by rfl) (fun K hK => ?_)
                    refine s274.app1n (List.mem_cons_self ..) (.tmp 70) (.tmp 73) rfl rfl rfl (by first | omega | (simp; omega)) (fun go275 gn276 gc277 w278 s279 => ?_)
                    refine hK _ _ ?_
                    clear hK K
                    try simp only [Act.put, List.setIfInBounds_toArray, List.set_cons_zero, List.set_cons_succ]
                    have c7 := s279.n0.2.five
                    refine Ch.post6 rfl (by rfl) (fun K hK => ?_)
                    go_simp
                    refine hK _ _ ?_
                    clear hK K
                    try simp only [Act.put, List.setIfInBounds_toArray, List.set_cons_zero, List.set_cons_succ]
                    refine Ch.post7 rfl (by rfl) (fun K hK => ?_)
                    go_simp
                    refine hK _ _ ?_
                    clear hK K
                    try simp only [Act.put, List.setIfInBounds_toArray, List.set_cons_zero, List.set_cons_succ]
                    refine Ch.run_end ?_
                    have s280 := s279.s04 (.slice go275 gn276 gc277)
                    clear c7
                    go_wp2_with fail
                    refine (rneed_on s280.ps (⟨#[69, 78, 68]⟩) (fun _ => by decide)).mono ?_
                    rintro e w281 ⟨q282, i283, rfl, h284, le285, hk286, ho287⟩
                    replace HR := ho287 HR
                    clear ho287
                    have le285 := Lib.hid le285
                    have s288 := s280.call hk286 h284
                    have c289 := s288.n0.2.five
                    have l290 := s288.n0.2.lt
                    have c291 := s288.n1.2.five
                    have l292 := s288.n1.2.lt
                    have d293 := s288.d01
                    go_wp2_with fail
                    clear c289 l290 c291 l292 d293
                    have s294 := s288.grown
                    have s295 := s294.p1 (.int .i64 16) (.string ⟨#[]⟩) (.int .i64 1) (.int .i64 (Ps.A l i)) (.slice go275 gn276 gc277)
                    exact bodyPost_ret (res5 Tryz.results104 rfl s295.n1.2) rfl ⟨rend s295.ps HR (s295.treeOf (sv := .slice go275 gn276 gc277) (by simp)) (by have := le185.out; have := le194.out; have := le224.out; have := le271.out; have := le285.out; omega), s295.kp⟩
                  · replace HR := rno s240.ps hw243 HR
                    have s296 := s240.call hk245 h244
                    go_wp2_with fail
                    refine (rneed_on s296.ps (⟨#[69, 78, 68]⟩) (fun _ => by decide)).mono ?_
                    rintro e w297 ⟨q298, i299, rfl, h300, le301, hk302, ho303⟩
                    replace HR := ho303 HR
                    clear ho303
                    have le301 := Lib.hid le301
                    have s304 := s296.call hk302 h300
                    have c305 := s304.n0.2.five
                    have l306 := s304.n0.2.lt
                    have c307 := s304.n1.2.five
                    have l308 := s304.n1.2.lt
                    have d309 := s304.d01
                    go_wp2_with fail
                    clear c305 l306 c307 l308 d309
                    have s310 := s304.grown
                    have s311 := s310.p1 (.int .i64 16) (.string ⟨#[]⟩) (.int .i64 0) (.int .i64 (Ps.A l i)) (.slice go228 (acc.length + 2) gc229)
                    exact bodyPost_ret (res5 Tryz.results104 rfl s311.n1.2) rfl ⟨rend s311.ps HR (s311.treeOf (sv := .slice go228 (acc.length + 2) gc229) (by simp)) (by have := le185.out; have := le194.out; have := le224.out; have := le301.out; omega), s311.kp⟩
              · rw [ho237] at hOk
                clear ho237
                go_wp2_with (go_at_call 18; refine hOk.out.mono ?_; rintro e w' ⟨rfl, rfl⟩)
                go_roundg F
                case measure => omega
                case rel => have a0 := le185.out; have a1 := le194.out; have a2 := le224.out; exact ⟨_, i222, acc ++ [Tree.node k173 nm174 num175 a176 ts177, Tree.node k212 nm213 num214 a215 ts216], go228, acc.length + 2, gc229, false, fun k hk => (by first | (cases hk; done) | (injection hk with _ hk; omega)), by omega, by simp; omega, fun h => (by cases h), fun _ => ⟨by omega, fun k hk => (by cases hk)⟩, s233.rowsOf (fun _ h => by cases h), HR⟩
          · replace HR := rnoB s164.ps hw169 HR
            have s312 := s164.call hk171 h170
            replace HR : Hid (r = _root_.Go.Proofs.YtneohanphabneaaGreatDoor.Ps.R.bind q fun _ _ => Ps.elseR l (sts l) (Ps.A l i) acc j) := HR
            unfold Ps.elseR at HR
            go_wp2_with fail
            refine (ris_any s312.ps (⟨#[69, 76, 83, 69]⟩) (fun _ => by decide)).mono ?_
            rintro e w313 ⟨⟨hq314, hw315, rfl, h316⟩ | ⟨hw315, rfl, h316⟩, hk317⟩
            · replace HR := ryes (j := j + 1) hq314 hw315 HR
              have s318 := s312.call hk317 h316
              have c319 := s318.n0.2.five
              have l320 := s318.n0.2.lt
              go_wp2_with fail
              clear c319 l320
              have s321 := s318.s02 (.int .i64 1)
              have c322 := s321.n0.2.five
              have l323 := s321.n0.2.lt
              go_wp2_with fail
              clear c322 l323
              have hC := s321.n0.2
              refine Ch.wp_region_run (fun u => Blk u (w2.heap.size) 25 #[.int .i64 16, .string ⟨#[]⟩, .int .i64 1, .int .i64 (Ps.A l i), .slice go gn gc]) [1] [0, 1, 2] [3, 4, 5, 6, 7] [5, 6, 7] (by kernel_rfl) (by kernel_rfl) (fun _ _ d _ _ h => by cases d <;> exact h) (hC) ?_
              clear hC
              have s324 := s321.drew
              refine Ch.take0 (v := ?v325) rfl (by rfl) ?y326 ?_
              case y326 => intro u; go_simp; rfl
              simp only [Act.put, List.setIfInBounds_toArray, List.set_cons_zero, List.set_cons_succ]
              refine Ch.load1 (v := ?v327) rfl (by rfl) ?y328 ?_
              case y328 => intro u hC; have c5 := Blk.five hC; go_simp; rfl
              simp only [Act.put, List.setIfInBounds_toArray, List.set_cons_zero, List.set_cons_succ]
              refine Ch.take2 (v := ?v329) rfl (by rfl) ?y330 ?_
              case y330 => intro u; go_simp; rfl
              simp only [Act.put, List.setIfInBounds_toArray, List.set_cons_zero, List.set_cons_succ]
              refine Ch.mid3 (by rfl) (fun K hK => ?_)
              go_simp
              refine (rt_on s324.ps (hsts _ p T l _ _ trivial s324.ps)).mono ?_
              rintro e w339 ⟨k331, nm332, num333, a334, ts335, so336, sc337, q340, i341, rfl, hrow338, h342, le343, hk344, ho345⟩
              replace HR := ho345 HR
              clear ho345
              have le343 := Lib.hid le343
              have s346 := s324.callKeep hk344 h342 hrow338
              unfold nodeV
              refine hK _ _ (s346.n0.2) ?_
              clear hK K
              try simp only [Act.put, List.setIfInBounds_toArray, List.set_cons_zero, List.set_cons_succ]
              refine Ch.mid4 (by rfl) (fun K hK => ?_)
              go_simp
              refine hK _ _ ((s346.other _).n0.2) ?_
              clear hK K
              try simp only [Act.put, List.setIfInBounds_toArray, List.set_cons_zero, List.set_cons_succ]
              refine Ch.post5 rfl (by rfl) (fun K hK => ?_)
              refine s346.app1n (List.mem_cons_self ..) (.tmp 70) (.tmp 73) rfl rfl rfl (by first | omega | (simp; omega)) (fun go347 gn348 gc349 w350 s351 => ?_)
              refine hK _ _ ?_
              clear hK K
              try simp only [Act.put, List.setIfInBounds_toArray, List.set_cons_zero, List.set_cons_succ]
              have c7 := s351.n0.2.five
              refine Ch.post6 rfl (by rfl) (fun K hK => ?_)
              go_simp
              refine hK _ _ ?_
              clear hK K
              try simp only [Act.put, List.setIfInBounds_toArray, List.set_cons_zero, List.set_cons_succ]
              refine Ch.post7 rfl (by rfl) (fun K hK => ?_)
              go_simp
              refine hK _ _ ?_
              clear hK K
              try simp only [Act.put, List.setIfInBounds_toArray, List.set_cons_zero, List.set_cons_succ]
              refine Ch.run_end ?_
              have s352 := s351.s04 (.slice go347 gn348 gc349)
              clear c7
              go_wp2_with fail
              refine (rneed_on s352.ps (⟨#[69, 78, 68]⟩) (fun _ => by decide)).mono ?_
              rintro e w353 ⟨q354, i355, rfl, h356, le357, hk358, ho359⟩
              replace HR := ho359 HR
              clear ho359
              have le357 := Lib.hid le357
              have s360 := s352.call hk358 h356
              have c361 := s360.n0.2.five
              have l362 := s360.n0.2.lt
              have c363 := s360.n1.2.five
              have l364 := s360.n1.2.lt
              have d365 := s360.d01
              go_wp2_with fail
              clear c361 l362 c363 l364 d365
              have s366 := s360.grown
              have s367 := s366.p1 (.int .i64 16) (.string ⟨#[]⟩) (.int .i64 1) (.int .i64 (Ps.A l i)) (.slice go347 gn348 gc349)
              exact bodyPost_ret (res5 Tryz.results104 rfl s367.n1.2) rfl ⟨rend s367.ps HR (s367.treeOf (sv := .slice go347 gn348 gc349) (by simp)) (by have := le343.out; have := le357.out; omega), s367.kp⟩
            · replace HR := rno s312.ps hw315 HR
              have s368 := s312.call hk317 h316
              go_wp2_with fail
              refine (rneed_on s368.ps (⟨#[69, 78, 68]⟩) (fun _ => by decide)).mono ?_
              rintro e w369 ⟨q370, i371, rfl, h372, le373, hk374, ho375⟩
              replace HR := ho375 HR
              clear ho375
              have le373 := Lib.hid le373
              have s376 := s368.call hk374 h372
              have c377 := s376.n0.2.five
              have l378 := s376.n0.2.lt
              have c379 := s376.n1.2.five
              have l380 := s376.n1.2.lt
              have d381 := s376.d01
              go_wp2_with fail
              clear c377 l378 c379 l380 d381
              have s382 := s376.grown
              have s383 := s382.p1 (.int .i64 16) (.string ⟨#[]⟩) (.int .i64 0) (.int .i64 (Ps.A l i)) (.slice go gn gc)
              exact bodyPost_ret (res5 Tryz.results104 rfl s383.n1.2) rfl ⟨rend s383.ps HR (s383.treeOf (sv := .slice go gn gc) (by simp)) (by have := le373.out; omega), s383.kp⟩
  | false =>
    rw [hX1] at hq1 HR
    replace HR := rokX (if_neg (by decide)) HR
    clear hX1
    have hq2 := isW_lit l i ⟨#[87, 72, 73, 76, 69]⟩ [87, 72, 73, 76, 69] (by rw [Lib.toList_data])
    cases hX2 : Ps.isW l i ⟨#[87, 72, 73, 76, 69]⟩ with
    | true =>
      rw [hX2] at hq2 HR
      replace HR := rokX (if_pos rfl) HR
      have hWne : Ps.W l i ≠ ⟨#[]⟩ := by rw [isW_eq hX2]; decide
      obtain ⟨c384, hc385, hb386, ⟨qa387, qb388⟩, hlt389⟩ := s8.ps.facts
      obtain ⟨⟨h390, h391, h392, h393, h394, h395⟩, f396, f397, f398, f399, f400, f401⟩ := hb386.six
      have c402 := s8.n0.2.five
      have l403 := s8.n0.2.lt
      have np404 := s8.np 0 rfl
      have c405 := s8.n1.2.five
      have l406 := s8.n1.2.lt
      have np407 := s8.np 1 rfl
      have d408 := s8.d01
      go_wp2_with fail
      clear hb386 qa387 qb388 hlt389 h390 h391 h392 h393 h394 h395 f396 f397 f398 f399 f400 f401 c402 l403 np404 c405 l406 np407 d408
      have s409 := s8.s00 (.int .i64 17)
      have s410 := rskipX s409 hWne
      replace HR := ryes' (j := i + 1) rfl rfl HR
      refine (rt_on s410.ps (hex _ p T l _ _ trivial s410.ps)).mono ?_
      rintro e w419 ⟨k411, nm412, num413, a414, ts415, so416, sc417, q420, i421, rfl, hrow418, h422, le423, hk424, ho425⟩
      replace HR := ho425 HR
      clear ho425
      have le423 := Lib.hid le423
      have s426 := s410.callKeep hk424 h422 hrow418
      unfold nodeV
      go_wp2_with fail
      have s427 := s426.allocAt (w419.heap.size) 25 #[.int .i64 k411, .string nm412, .int .i64 num413, .int .i64 a414, .slice so416 ts415.length sc417] (by simp)
      refine (rneed_on s427.ps (⟨#[68, 79]⟩) (fun _ => by decide)).mono ?_
      rintro e w428 ⟨q429, i430, rfl, h431, le432, hk433, ho434⟩
      replace HR := ho434 HR
      clear ho434
      have le432 := Lib.hid le432
      have s435 := s427.call hk433 h431
      have c436 := s435.n0.2.five
      have l437 := s435.n0.2.lt
      go_wp2_with fail
      clear c436 l437
      have hC := s435.n0.2
      refine Ch.wp_region_run (fun u => Blk u (w419.heap.size) 25 #[.int .i64 k411, .string nm412, .int .i64 num413, .int .i64 a414, .slice so416 ts415.length sc417]) [0] [0, 1] [2, 3, 4, 5] [] (by kernel_rfl) (by kernel_rfl) (fun _ _ d _ _ h => by cases d <;> exact h) (hC) ?_
      clear hC
      have s438 := s435.drew
      refine Ch.load0 (v := ?v439) rfl (by rfl) ?y440 ?_
      case y440 => intro u hC; have c5 := Blk.five hC; go_simp; rfl
      simp only [Act.put, List.setIfInBounds_toArray, List.set_cons_zero, List.set_cons_succ]
      refine Ch.take1 (v := ?v441) rfl (by rfl) ?y442 ?_
      case y442 => intro u; go_simp; rfl
      simp only [Act.put, List.setIfInBounds_toArray, List.set_cons_zero, List.set_cons_succ]
      refine Ch.mid2 (by rfl) (fun K hK => ?_)
      go_simp
      refine (rt_on s438.ps (hsts _ p T l _ _ trivial s438.ps)).mono ?_
      rintro e w451 ⟨k443, nm444, num445, a446, ts447, so448, sc449, q452, i453, rfl, hrow450, h454, le455, hk456, ho457⟩
      replace HR := ho457 HR
      clear ho457
      have le455 := Lib.hid le455
      have s458 := s438.callKeep hk456 h454 hrow450
      unfold nodeV
      refine hK _ _ (s458.n0.2) ?_
      clear hK K
      try simp only [Act.put, List.setIfInBounds_toArray, List.set_cons_zero, List.set_cons_succ]
      refine Ch.mid3 (by rfl) (fun K hK => ?_)
      go_simp
      refine hK _ _ ((s458.other _).n0.2) ?_
      clear hK K
      try simp only [Act.put, List.setIfInBounds_toArray, List.set_cons_zero, List.set_cons_succ]
      have c459 := s458.n0.2.five
      have l460 := s458.n0.2.lt
      have c461 := s458.n1.2.five
      have l462 := s458.n1.2.lt
      have c463 := s458.n2.2.five
      have l464 := s458.n2.2.lt
      have d465 := s458.d01
      have d466 := s458.d02
      have d467 := s458.d12
      refine Ch.mid4 (by rfl) (fun K hK => ?_)
      go_simp
      refine hK _ _ ((s458.other _).n0.2) ?_
      clear hK K
      try simp only [Act.put, List.setIfInBounds_toArray, List.set_cons_zero, List.set_cons_succ]
      refine Ch.mid5 (by rfl) (fun K hK => ?_)
      go_simp
      have s468 := s458.s14 (.slice (some ⟨w451.heap.size, 0, none⟩) 2 2)
      refine hK _ _ ((s468.other _).n0.2) ?_
      clear hK K
      try simp only [Act.put, List.setIfInBounds_toArray, List.set_cons_zero, List.set_cons_succ]
      refine Ch.run_end ?_
      go_wp2_with fail
      clear c459 l460 c461 l462 c463 l464 d465 d466 d467
      have s469 := s468.built2 (k0 := k411) (nm0 := nm412) (num0 := num413) (a0 := a414) (sv0 := .slice so416 ts415.length sc417) (ts0 := ts415) (k1 := k443) (nm1 := nm444) (num1 := num445) (a1 := a446) (sv1 := .slice so448 ts447.length sc449) (ts1 := ts447) (by simp) (by simp) (w451.heap.size) (by simp)
      refine (rneed_on s469.ps (⟨#[69, 78, 68]⟩) (fun _ => by decide)).mono ?_
      rintro e w470 ⟨q471, i472, rfl, h473, le474, hk475, ho476⟩
      replace HR := ho476 HR
      clear ho476
      have le474 := Lib.hid le474
      have s477 := s469.call hk475 h473
      have c478 := s477.n1.2.five
      have l479 := s477.n1.2.lt
      have c480 := s477.n2.2.five
      have l481 := s477.n2.2.lt
      have d482 := s477.d12
      go_wp2_with fail
      clear c478 l479 c480 l481 d482
      have s483 := s477.p2 (.int .i64 17) (.string ⟨#[]⟩) (.int .i64 0) (.int .i64 (Ps.A l i)) (.slice (some ⟨w451.heap.size, 0, none⟩) 2 2)
      exact bodyPost_ret (res5 Tryz.results104 rfl s483.n2.2) rfl ⟨rend s483.ps HR (s483.treeOf (sv := .slice (some ⟨w451.heap.size, 0, none⟩) 2 2) (by simp)) (by have := le423.out; have := le432.out; have := le455.out; have := le474.out; omega), s483.kp⟩
    | false =>
      rw [hX2] at hq2 HR
      replace HR := rokX (if_neg (by decide)) HR
      clear hX2
      have hq3 := isW_lit l i ⟨#[82, 69, 80, 69, 65, 84]⟩ [82, 69, 80, 69, 65, 84] (by rw [Lib.toList_data])
      cases hX3 : Ps.isW l i ⟨#[82, 69, 80, 69, 65, 84]⟩ with
      | true =>
        rw [hX3] at hq3 HR
        replace HR := rokX (if_pos rfl) HR
        have hWne : Ps.W l i ≠ ⟨#[]⟩ := by rw [isW_eq hX3]; decide
        obtain ⟨c484, hc485, hb486, ⟨qa487, qb488⟩, hlt489⟩ := s8.ps.facts
        obtain ⟨⟨h490, h491, h492, h493, h494, h495⟩, f496, f497, f498, f499, f500, f501⟩ := hb486.six
        have c502 := s8.n0.2.five
        have l503 := s8.n0.2.lt
        have np504 := s8.np 0 rfl
        have c505 := s8.n1.2.five
        have l506 := s8.n1.2.lt
        have np507 := s8.np 1 rfl
        have d508 := s8.d01
        go_wp2_with fail
        clear hb486 qa487 qb488 hlt489 h490 h491 h492 h493 h494 h495 f496 f497 f498 f499 f500 f501 c502 l503 np504 c505 l506 np507 d508
        have s509 := s8.s00 (.int .i64 18)
        have s510 := rskipX s509 hWne
        replace HR := ryes' (j := i + 1) rfl rfl HR
        refine (rt_on s510.ps (hsts _ p T l _ _ trivial s510.ps)).mono ?_
        rintro e w519 ⟨k511, nm512, num513, a514, ts515, so516, sc517, q520, i521, rfl, hrow518, h522, le523, hk524, ho525⟩
        replace HR := ho525 HR
        clear ho525
        have le523 := Lib.hid le523
        have s526 := s510.callKeep hk524 h522 hrow518
        unfold nodeV
        go_wp2_with fail
        have s527 := s526.allocAt (w519.heap.size) 25 #[.int .i64 k511, .string nm512, .int .i64 num513, .int .i64 a514, .slice so516 ts515.length sc517] (by simp)
        refine (rneed_on s527.ps (⟨#[85, 78, 84, 73, 76]⟩) (fun _ => by decide)).mono ?_
        rintro e w528 ⟨q529, i530, rfl, h531, le532, hk533, ho534⟩
        replace HR := ho534 HR
        clear ho534
        have le532 := Lib.hid le532
        have s535 := s527.call hk533 h531
        have c536 := s535.n0.2.five
        have l537 := s535.n0.2.lt
        go_wp2_with fail
        clear c536 l537
        have hC := s535.n0.2
        refine Ch.wp_region_run (fun u => Blk u (w519.heap.size) 25 #[.int .i64 k511, .string nm512, .int .i64 num513, .int .i64 a514, .slice so516 ts515.length sc517]) [0] [0, 1] [2, 3, 4, 5] [] (by kernel_rfl) (by kernel_rfl) (fun _ _ d _ _ h => by cases d <;> exact h) (hC) ?_
        clear hC
        have s538 := s535.drew
        refine Ch.load0 (v := ?v539) rfl (by rfl) ?y540 ?_
        case y540 => intro u hC; have c5 := Blk.five hC; go_simp; rfl
        simp only [Act.put, List.setIfInBounds_toArray, List.set_cons_zero, List.set_cons_succ]
        refine Ch.take1 (v := ?v541) rfl (by rfl) ?y542 ?_
        case y542 => intro u; go_simp; rfl
        simp only [Act.put, List.setIfInBounds_toArray, List.set_cons_zero, List.set_cons_succ]
        refine Ch.mid2 (by rfl) (fun K hK => ?_)
        go_simp
        refine (rt_on s538.ps (hex _ p T l _ _ trivial s538.ps)).mono ?_
        rintro e w551 ⟨k543, nm544, num545, a546, ts547, so548, sc549, q552, i553, rfl, hrow550, h554, le555, hk556, ho557⟩
        replace HR := ho557 HR
        clear ho557
        have le555 := Lib.hid le555
        have s558 := s538.callKeep hk556 h554 hrow550
        unfold nodeV
        refine hK _ _ (s558.n0.2) ?_
        clear hK K
        try simp only [Act.put, List.setIfInBounds_toArray, List.set_cons_zero, List.set_cons_succ]
        refine Ch.mid3 (by rfl) (fun K hK => ?_)
        go_simp
        refine hK _ _ ((s558.other _).n0.2) ?_
        clear hK K
        try simp only [Act.put, List.setIfInBounds_toArray, List.set_cons_zero, List.set_cons_succ]
        have c559 := s558.n0.2.five
        have l560 := s558.n0.2.lt
        have c561 := s558.n1.2.five
        have l562 := s558.n1.2.lt
        have c563 := s558.n2.2.five
        have l564 := s558.n2.2.lt
        have d565 := s558.d01
        have d566 := s558.d02
        have d567 := s558.d12
        refine Ch.mid4 (by rfl) (fun K hK => ?_)
        go_simp
        refine hK _ _ ((s558.other _).n0.2) ?_
        clear hK K
        try simp only [Act.put, List.setIfInBounds_toArray, List.set_cons_zero, List.set_cons_succ]
        refine Ch.mid5 (by rfl) (fun K hK => ?_)
        go_simp
        have s568 := s558.s14 (.slice (some ⟨w551.heap.size, 0, none⟩) 2 2)
        refine hK _ _ ((s568.other _).n0.2) ?_
        clear hK K
        try simp only [Act.put, List.setIfInBounds_toArray, List.set_cons_zero, List.set_cons_succ]
        refine Ch.run_end ?_
        go_wp2_with fail
        clear c559 l560 c561 l562 c563 l564 d565 d566 d567
        have s569 := s568.p2 (.int .i64 18) (.string ⟨#[]⟩) (.int .i64 0) (.int .i64 (Ps.A l i)) (.slice (some ⟨w551.heap.size, 0, none⟩) 2 2)
        have s570 := s569.built2 (k0 := k511) (nm0 := nm512) (num0 := num513) (a0 := a514) (sv0 := .slice so516 ts515.length sc517) (ts0 := ts515) (k1 := k543) (nm1 := nm544) (num1 := num545) (a1 := a546) (sv1 := .slice so548 ts547.length sc549) (ts1 := ts547) (by simp) (by simp) (w551.heap.size) (by simp)
        exact bodyPost_ret (res5 Tryz.results104 rfl s570.n2.2) rfl ⟨rend s570.ps HR (s570.treeOf (sv := .slice (some ⟨w551.heap.size, 0, none⟩) 2 2) (by simp)) (by have := le523.out; have := le532.out; have := le555.out; omega), s570.kp⟩
      | false =>
        rw [hX3] at hq3 HR
        replace HR := rokX (if_neg (by decide)) HR
        clear hX3
        have hq4 := isW_lit l i ⟨#[82, 69, 84, 85, 82, 78]⟩ [82, 69, 84, 85, 82, 78] (by rw [Lib.toList_data])
        cases hX4 : Ps.isW l i ⟨#[82, 69, 84, 85, 82, 78]⟩ with
        | true =>
          rw [hX4] at hq4 HR
          replace HR := rokX (if_pos rfl) HR
          have hWne : Ps.W l i ≠ ⟨#[]⟩ := by rw [isW_eq hX4]; decide
          obtain ⟨c571, hc572, hb573, ⟨qa574, qb575⟩, hlt576⟩ := s8.ps.facts
          obtain ⟨⟨h577, h578, h579, h580, h581, h582⟩, f583, f584, f585, f586, f587, f588⟩ := hb573.six
          have c589 := s8.n0.2.five
          have l590 := s8.n0.2.lt
          have np591 := s8.np 0 rfl
          have c592 := s8.n1.2.five
          have l593 := s8.n1.2.lt
          have np594 := s8.np 1 rfl
          have d595 := s8.d01
          go_wp2_with fail
          clear hb573 qa574 qb575 hlt576 h577 h578 h579 h580 h581 h582 f583 f584 f585 f586 f587 f588 c589 l590 np591 c592 l593 np594 d595
          have s596 := s8.s00 (.int .i64 19)
          have s597 := rskipX s596 hWne
          replace HR := ryes' (j := i + 1) rfl rfl HR
          clear hq1 hq2 hq3 hq4
          refine (rword_any s597.ps).mono ?_
          rintro e w598 ⟨rfl, hb599⟩
          have s600 := s597.below hb599
          have hq := isW_lit l (i + 1) ⟨#[59]⟩ [59] (by rw [Lib.toList_data])
          cases hs1 : Ps.isW l (i + 1) ⟨#[59]⟩ with
          | true =>
            have hns : Ps.noStmt l (i + 1) = true := by unfold Ps.noStmt; rw [hs1]; rfl
            rw [hs1] at hq
            replace HR := rokX (if_pos hns) HR
            have c601 := s600.n0.2.five
            have l602 := s600.n0.2.lt
            have c603 := s600.n1.2.five
            have l604 := s600.n1.2.lt
            have d605 := s600.d01
            go_wp2_with fail
            clear c601 l602 c603 l604 d605
            have s606 := s600.keepNil
            have s607 := s606.p1 (.int .i64 19) (.string ⟨#[]⟩) (.int .i64 0) (.int .i64 (Ps.A l i)) (.slice none 0 0)
            exact bodyPost_ret (res5 Tryz.results104 rfl s607.n1.2) rfl ⟨rend s607.ps HR (s607.treeOf (sv := .slice none 0 0) (by simp)) (by omega), s607.kp⟩
          | false =>
            rw [hs1] at hq
            go_wp2_with fail
            refine (rword_any s600.ps).mono ?_
            rintro e w608 ⟨rfl, hb609⟩
            have s610 := s600.below hb609
            cases hs2 : Ps.follows (Ps.W l (i + 1)) with
            | true =>
              have hns : Ps.noStmt l (i + 1) = true := by unfold Ps.noStmt; rw [hs1, hs2]; rfl
              have hB := Lib.hid (rbehind_any (Ps.W l (i + 1)) w608)
              rw [hs2] at hB
              replace HR := rokX (if_pos hns) HR
              have c611 := s610.n0.2.five
              have l612 := s610.n0.2.lt
              have c613 := s610.n1.2.five
              have l614 := s610.n1.2.lt
              have d615 := s610.d01
              go_wp2_with (go_at_call 103; refine hB.out.mono ?_; rintro e w' ⟨rfl, rfl⟩)
              clear c611 l612 c613 l614 d615
              have s616 := s610.keepNil
              have s617 := s616.p1 (.int .i64 19) (.string ⟨#[]⟩) (.int .i64 0) (.int .i64 (Ps.A l i)) (.slice none 0 0)
              exact bodyPost_ret (res5 Tryz.results104 rfl s617.n1.2) rfl ⟨rend s617.ps HR (s617.treeOf (sv := .slice none 0 0) (by simp)) (by omega), s617.kp⟩
            | false =>
              have hns : Ps.noStmt l (i + 1) = false := by unfold Ps.noStmt; rw [hs1, hs2]; rfl
              have hB := Lib.hid (rbehind_any (Ps.W l (i + 1)) w608)
              rw [hs2] at hB
              replace HR := rokX (if_neg (by rw [hns]; decide)) HR
              go_wp2_with (go_at_call 103; refine hB.out.mono ?_; rintro e w' ⟨rfl, rfl⟩)
              refine (rt_on s610.ps (hex _ p T l _ _ trivial s610.ps)).mono ?_
              rintro e w626 ⟨k618, nm619, num620, a621, ts622, so623, sc624, q627, i628, rfl, hrow625, h629, le630, hk631, ho632⟩
              replace HR := ho632 HR
              clear ho632
              have le630 := Lib.hid le630
              have s633 := s610.callKeep hk631 h629 hrow625
              unfold nodeV
              have c634 := s633.n0.2.five
              have l635 := s633.n0.2.lt
              have c636 := s633.n1.2.five
              have l637 := s633.n1.2.lt
              have d638 := s633.d01
              go_wp2_with fail
              clear c634 l635 c636 l637 d638
              have s639 := s633.s04 (.slice (some ⟨w626.heap.size, 0, none⟩) 1 1)
              have s640 := s639.p1 (.int .i64 19) (.string ⟨#[]⟩) (.int .i64 0) (.int .i64 (Ps.A l i)) (.slice (some ⟨w626.heap.size, 0, none⟩) 1 1)
              have s641 := s640.built1 (k0 := k618) (nm0 := nm619) (num0 := num620) (a0 := a621) (sv0 := .slice so623 ts622.length sc624) (ts0 := ts622) (by simp) (w626.heap.size) (by simp)
              exact bodyPost_ret (res5 Tryz.results104 rfl s641.n1.2) rfl ⟨rend s641.ps HR (s641.treeOf (sv := .slice (some ⟨w626.heap.size, 0, none⟩) 1 1) (by simp)) (by have := le630.out; omega), s641.kp⟩
        | false =>
          rw [hX4] at hq4 HR
          replace HR := rokX (if_neg (by decide)) HR
          clear hX4
          have hq5 := isW_lit l i ⟨#[78, 69, 87]⟩ [78, 69, 87] (by rw [Lib.toList_data])
          cases hX : Ps.isW l i ⟨#[78, 69, 87]⟩ with
          | true =>
            rw [hX] at hq5
            replace HR := rokX (if_pos hX) HR
            have hWne : Ps.W l i ≠ ⟨#[]⟩ := by rw [isW_eq hX]; decide
            obtain ⟨c642, hc643, hb644, ⟨qa645, qb646⟩, hlt647⟩ := s8.ps.facts
            obtain ⟨⟨h648, h649, h650, h651, h652, h653⟩, f654, f655, f656, f657, f658, f659⟩ := hb644.six
            have c660 := s8.n0.2.five
            have l661 := s8.n0.2.lt
            have np662 := s8.np 0 rfl
            have c663 := s8.n1.2.five
            have l664 := s8.n1.2.lt
            have np665 := s8.np 1 rfl
            have d666 := s8.d01
            go_wp2_with fail
            clear hb644 qa645 qb646 hlt647 h648 h649 h650 h651 h652 h653 f654 f655 f656 f657 f658 f659 c660 l661 np662 c663 l664 np665 d666
            have s667 := rskipX s8 hWne
            replace HR := ryes' (j := i + 1) rfl rfl HR
            unfold Ps.built at HR
            refine (rneed_on s667.ps (⟨#[40]⟩) (fun _ => by decide)).mono ?_
            rintro e w668 ⟨q669, i670, rfl, h671, le672, hk673, ho674⟩
            replace HR := ho674 HR
            clear ho674
            have le672 := Lib.hid le672
            have s675 := s667.call hk673 h671
            go_wp2_with fail
            refine (rt_on s675.ps (rdesig_any s675.ps ex hex)).mono ?_
            rintro e w684 ⟨k676, nm677, num678, a679, ts680, so681, sc682, q685, i686, rfl, hrow683, h687, le688, hk689, ho690⟩
            replace HR := ho690 HR
            clear ho690
            have le688 := Lib.hid le688
            have s691 := s675.callKeep hk689 h687 hrow683
            unfold nodeV
            have c692 := s691.n0.2.five
            have l693 := s691.n0.2.lt
            go_wp2_with fail
            clear c692 l693
            have s694 := s691.s04 (.slice (some ⟨w684.heap.size, 0, none⟩) 1 1)
            have s695 := s694.built1 (k0 := k676) (nm0 := nm677) (num0 := num678) (a0 := a679) (sv0 := .slice so681 ts680.length sc682) (ts0 := ts680) (by simp) (w684.heap.size) (by simp)
            refine (rneed_on s695.ps (⟨#[41]⟩) (fun _ => by decide)).mono ?_
            rintro e w696 ⟨q697, i698, rfl, h699, le700, hk701, ho702⟩
            replace HR := ho702 HR
            clear ho702
            have le700 := Lib.hid le700
            have s703 := s695.call hk701 h699
            have hM0 : MBI (w696.alloc (.map #[] 0)) w696.heap.size [] := heap_alloc_new _ _
            have hB0 : Below w696.heap.size w696 (w696.alloc (.map #[] 0)) := (Below.refl _ _).alloc (Nat.le_refl _) _
            have hmk := fun ty => run_makeMap (P := Tryz.prog) ty w696
            go_wp2_with (first | (refine wp_putI w696 _ rfl _ _ _ rfl w696.heap.size _ _ _ (by rfl) (by rfl) (by rfl) (by assumption) (by rfl) (Nat.le_refl _) (by assumption) ?_; intro w1 hm1 hb1; try (have hget := run_getI hm1 (Ps.W l i) (⟨#[78, 69, 87]⟩, 20) (by rw [isW_eq hX]; rfl); have HB1 := Lib.hid hb1; have cz0 := (s703.below hb1).n0.2.five; have lz0 := (s703.below hb1).n0.2.lt; have cz1 := (s703.below hb1).n1.2.five; have lz1 := (s703.below hb1).n1.2.lt; have dz := (s703.below hb1).d01)) | fail)
            have s704 := s703.below HB1.out
            have s705 := s704.s00 (.int .i64 20)
            have s706 := s705.p1 (.int .i64 20) (.string ⟨#[]⟩) (.int .i64 0) (.int .i64 (Ps.A l i)) (.slice (some ⟨w684.heap.size, 0, none⟩) 1 1)
            exact bodyPost_ret (res5 Tryz.results104 rfl s706.n1.2) rfl ⟨rend s706.ps HR (s706.treeOf (sv := .slice (some ⟨w684.heap.size, 0, none⟩) 1 1) (by simp)) (by have := le672.out; have := le688.out; have := le700.out; omega), s706.kp⟩
          | false =>
            rw [hX] at hq5
            replace HR := rokX (if_neg (by rw [hX]; decide)) HR
            clear hX
            have hq6 := isW_lit l i ⟨#[71, 69, 84]⟩ [71, 69, 84] (by rw [Lib.toList_data])
            cases hX : Ps.isW l i ⟨#[71, 69, 84]⟩ with
            | true =>
              rw [hX] at hq6
              have hO : ¬ Ps.isW l i ⟨#[79, 85, 84]⟩ = true := by rw [isW_other hX (by decide)]; decide
              replace HR := rokX (if_pos hX) (rokX (if_neg hO) HR)
              have hWne : Ps.W l i ≠ ⟨#[]⟩ := by rw [isW_eq hX]; decide
              obtain ⟨c707, hc708, hb709, ⟨qa710, qb711⟩, hlt712⟩ := s8.ps.facts
              obtain ⟨⟨h713, h714, h715, h716, h717, h718⟩, f719, f720, f721, f722, f723, f724⟩ := hb709.six
              have c725 := s8.n0.2.five
              have l726 := s8.n0.2.lt
              have np727 := s8.np 0 rfl
              have c728 := s8.n1.2.five
              have l729 := s8.n1.2.lt
              have np730 := s8.np 1 rfl
              have d731 := s8.d01
              go_wp2_with fail
              clear hb709 qa710 qb711 hlt712 h713 h714 h715 h716 h717 h718 f719 f720 f721 f722 f723 f724 c725 l726 np727 c728 l729 np730 d731
              have s732 := rskipX s8 hWne
              replace HR := ryes' (j := i + 1) rfl rfl HR
              unfold Ps.built at HR
              refine (rneed_on s732.ps (⟨#[40]⟩) (fun _ => by decide)).mono ?_
              rintro e w733 ⟨q734, i735, rfl, h736, le737, hk738, ho739⟩
              replace HR := ho739 HR
              clear ho739
              have le737 := Lib.hid le737
              have s740 := s732.call hk738 h736
              go_wp2_with fail
              refine (rt_on s740.ps (rdesig_any s740.ps ex hex)).mono ?_
              rintro e w749 ⟨k741, nm742, num743, a744, ts745, so746, sc747, q750, i751, rfl, hrow748, h752, le753, hk754, ho755⟩
              replace HR := ho755 HR
              clear ho755
              have le753 := Lib.hid le753
              have s756 := s740.callKeep hk754 h752 hrow748
              unfold nodeV
              have c757 := s756.n0.2.five
              have l758 := s756.n0.2.lt
              go_wp2_with fail
              clear c757 l758
              have s759 := s756.s04 (.slice (some ⟨w749.heap.size, 0, none⟩) 1 1)
              have s760 := s759.built1 (k0 := k741) (nm0 := nm742) (num0 := num743) (a0 := a744) (sv0 := .slice so746 ts745.length sc747) (ts0 := ts745) (by simp) (w749.heap.size) (by simp)
              refine (rneed_on s760.ps (⟨#[41]⟩) (fun _ => by decide)).mono ?_
              rintro e w761 ⟨q762, i763, rfl, h764, le765, hk766, ho767⟩
              replace HR := ho767 HR
              clear ho767
              have le765 := Lib.hid le765
              have s768 := s760.call hk766 h764
              have hM0 : MBI (w761.alloc (.map #[] 0)) w761.heap.size [] := heap_alloc_new _ _
              have hB0 : Below w761.heap.size w761 (w761.alloc (.map #[] 0)) := (Below.refl _ _).alloc (Nat.le_refl _) _
              have hmk := fun ty => run_makeMap (P := Tryz.prog) ty w761
              go_wp2_with (first | (refine wp_putI w761 _ rfl _ _ _ rfl w761.heap.size _ _ _ (by rfl) (by rfl) (by rfl) (by assumption) (by rfl) (Nat.le_refl _) (by assumption) ?_; intro w1 hm1 hb1; try (have hget := run_getI hm1 (Ps.W l i) (⟨#[71, 69, 84]⟩, 22) (by rw [isW_eq hX]; rfl); have HB1 := Lib.hid hb1; have cz0 := (s768.below hb1).n0.2.five; have lz0 := (s768.below hb1).n0.2.lt; have cz1 := (s768.below hb1).n1.2.five; have lz1 := (s768.below hb1).n1.2.lt; have dz := (s768.below hb1).d01)) | fail)
              have s769 := s768.below HB1.out
              have s770 := s769.s00 (.int .i64 22)
              have s771 := s770.p1 (.int .i64 22) (.string ⟨#[]⟩) (.int .i64 0) (.int .i64 (Ps.A l i)) (.slice (some ⟨w749.heap.size, 0, none⟩) 1 1)
              exact bodyPost_ret (res5 Tryz.results104 rfl s771.n1.2) rfl ⟨rend s771.ps HR (s771.treeOf (sv := .slice (some ⟨w749.heap.size, 0, none⟩) 1 1) (by simp)) (by have := le737.out; have := le753.out; have := le765.out; omega), s771.kp⟩
            | false =>
              rw [hX] at hq6
              have hG : ¬ Ps.isW l i ⟨#[71, 69, 84]⟩ = true := by rw [hX]; decide
              clear hX
              have hq7 := isW_lit l i ⟨#[79, 85, 84]⟩ [79, 85, 84] (by rw [Lib.toList_data])
              cases hX : Ps.isW l i ⟨#[79, 85, 84]⟩ with
              | true =>
                rw [hX] at hq7
                replace HR := rokX (if_pos hX) HR
                have hWne : Ps.W l i ≠ ⟨#[]⟩ := by rw [isW_eq hX]; decide
                obtain ⟨c772, hc773, hb774, ⟨qa775, qb776⟩, hlt777⟩ := s8.ps.facts
                obtain ⟨⟨h778, h779, h780, h781, h782, h783⟩, f784, f785, f786, f787, f788, f789⟩ := hb774.six
                have c790 := s8.n0.2.five
                have l791 := s8.n0.2.lt
                have np792 := s8.np 0 rfl
                have c793 := s8.n1.2.five
                have l794 := s8.n1.2.lt
                have np795 := s8.np 1 rfl
                have d796 := s8.d01
                go_wp2_with fail
                clear hb774 qa775 qb776 hlt777 h778 h779 h780 h781 h782 h783 f784 f785 f786 f787 f788 f789 c790 l791 np792 c793 l794 np795 d796
                have s797 := rskipX s8 hWne
                replace HR := ryes' (j := i + 1) rfl rfl HR
                unfold Ps.built at HR
                refine (rneed_on s797.ps (⟨#[40]⟩) (fun _ => by decide)).mono ?_
                rintro e w798 ⟨q799, i800, rfl, h801, le802, hk803, ho804⟩
                replace HR := ho804 HR
                clear ho804
                have le802 := Lib.hid le802
                have s805 := s797.call hk803 h801
                go_wp2_with fail
                refine (rt_on s805.ps (hex _ p T l _ _ trivial s805.ps)).mono ?_
                rintro e w814 ⟨k806, nm807, num808, a809, ts810, so811, sc812, q815, i816, rfl, hrow813, h817, le818, hk819, ho820⟩
                replace HR := ho820 HR
                clear ho820
                have le818 := Lib.hid le818
                have s821 := s805.callKeep hk819 h817 hrow813
                unfold nodeV
                have c822 := s821.n0.2.five
                have l823 := s821.n0.2.lt
                go_wp2_with fail
                clear c822 l823
                have s824 := s821.s04 (.slice (some ⟨w814.heap.size, 0, none⟩) 1 1)
                have s825 := s824.built1 (k0 := k806) (nm0 := nm807) (num0 := num808) (a0 := a809) (sv0 := .slice so811 ts810.length sc812) (ts0 := ts810) (by simp) (w814.heap.size) (by simp)
                refine (rneed_on s825.ps (⟨#[41]⟩) (fun _ => by decide)).mono ?_
                rintro e w826 ⟨q827, i828, rfl, h829, le830, hk831, ho832⟩
                replace HR := ho832 HR
                clear ho832
                have le830 := Lib.hid le830
                have s833 := s825.call hk831 h829
                have hM0 : MBI (w826.alloc (.map #[] 0)) w826.heap.size [] := heap_alloc_new _ _
                have hB0 : Below w826.heap.size w826 (w826.alloc (.map #[] 0)) := (Below.refl _ _).alloc (Nat.le_refl _) _
                have hmk := fun ty => run_makeMap (P := Tryz.prog) ty w826
                go_wp2_with (first | (refine wp_putI w826 _ rfl _ _ _ rfl w826.heap.size _ _ _ (by rfl) (by rfl) (by rfl) (by assumption) (by rfl) (Nat.le_refl _) (by assumption) ?_; intro w1 hm1 hb1; try (have hget := run_getI hm1 (Ps.W l i) (⟨#[79, 85, 84]⟩, 21) (by rw [isW_eq hX]; rfl); have HB1 := Lib.hid hb1; have cz0 := (s833.below hb1).n0.2.five; have lz0 := (s833.below hb1).n0.2.lt; have cz1 := (s833.below hb1).n1.2.five; have lz1 := (s833.below hb1).n1.2.lt; have dz := (s833.below hb1).d01)) | fail)
                have s834 := s833.below HB1.out
                have s835 := s834.s00 (.int .i64 21)
                have s836 := s835.p1 (.int .i64 21) (.string ⟨#[]⟩) (.int .i64 0) (.int .i64 (Ps.A l i)) (.slice (some ⟨w814.heap.size, 0, none⟩) 1 1)
                exact bodyPost_ret (res5 Tryz.results104 rfl s836.n1.2) rfl ⟨rend s836.ps HR (s836.treeOf (sv := .slice (some ⟨w814.heap.size, 0, none⟩) 1 1) (by simp)) (by have := le802.out; have := le818.out; have := le830.out; omega), s836.kp⟩
              | false =>
                rw [hX] at hq7
                replace HR := rokX (if_neg (by rw [hX]; decide)) HR
                clear hX
                have hq8 := isW_lit l i ⟨#[65, 83, 83, 69, 82, 84]⟩ [65, 83, 83, 69, 82, 84] (by rw [Lib.toList_data])
                cases hX : Ps.isW l i ⟨#[65, 83, 83, 69, 82, 84]⟩ with
                | true =>
                  rw [hX] at hq8
                  replace HR := rokX (if_pos hX) (rokX (if_neg hG) HR)
                  have hWne : Ps.W l i ≠ ⟨#[]⟩ := by rw [isW_eq hX]; decide
                  obtain ⟨c837, hc838, hb839, ⟨qa840, qb841⟩, hlt842⟩ := s8.ps.facts
                  obtain ⟨⟨h843, h844, h845, h846, h847, h848⟩, f849, f850, f851, f852, f853, f854⟩ := hb839.six
                  have c855 := s8.n0.2.five
                  have l856 := s8.n0.2.lt
                  have np857 := s8.np 0 rfl
                  have c858 := s8.n1.2.five
                  have l859 := s8.n1.2.lt
                  have np860 := s8.np 1 rfl
                  have d861 := s8.d01
                  go_wp2_with fail
                  clear hb839 qa840 qb841 hlt842 h843 h844 h845 h846 h847 h848 f849 f850 f851 f852 f853 f854 c855 l856 np857 c858 l859 np860 d861
                  have s862 := rskipX s8 hWne
                  replace HR := ryes' (j := i + 1) rfl rfl HR
                  unfold Ps.built at HR
                  refine (rneed_on s862.ps (⟨#[40]⟩) (fun _ => by decide)).mono ?_
                  rintro e w863 ⟨q864, i865, rfl, h866, le867, hk868, ho869⟩
                  replace HR := ho869 HR
                  clear ho869
                  have le867 := Lib.hid le867
                  have s870 := s862.call hk868 h866
                  go_wp2_with fail
                  refine (rt_on s870.ps (hex _ p T l _ _ trivial s870.ps)).mono ?_
                  rintro e w879 ⟨k871, nm872, num873, a874, ts875, so876, sc877, q880, i881, rfl, hrow878, h882, le883, hk884, ho885⟩
                  replace HR := ho885 HR
                  clear ho885
                  have le883 := Lib.hid le883
                  have s886 := s870.callKeep hk884 h882 hrow878
                  unfold nodeV
                  have c887 := s886.n0.2.five
                  have l888 := s886.n0.2.lt
                  go_wp2_with fail
                  clear c887 l888
                  have s889 := s886.s04 (.slice (some ⟨w879.heap.size, 0, none⟩) 1 1)
                  have s890 := s889.built1 (k0 := k871) (nm0 := nm872) (num0 := num873) (a0 := a874) (sv0 := .slice so876 ts875.length sc877) (ts0 := ts875) (by simp) (w879.heap.size) (by simp)
                  refine (rneed_on s890.ps (⟨#[41]⟩) (fun _ => by decide)).mono ?_
                  rintro e w891 ⟨q892, i893, rfl, h894, le895, hk896, ho897⟩
                  replace HR := ho897 HR
                  clear ho897
                  have le895 := Lib.hid le895
                  have s898 := s890.call hk896 h894
                  have hM0 : MBI (w891.alloc (.map #[] 0)) w891.heap.size [] := heap_alloc_new _ _
                  have hB0 : Below w891.heap.size w891 (w891.alloc (.map #[] 0)) := (Below.refl _ _).alloc (Nat.le_refl _) _
                  have hmk := fun ty => run_makeMap (P := Tryz.prog) ty w891
                  go_wp2_with (first | (refine wp_putI w891 _ rfl _ _ _ rfl w891.heap.size _ _ _ (by rfl) (by rfl) (by rfl) (by assumption) (by rfl) (Nat.le_refl _) (by assumption) ?_; intro w1 hm1 hb1; try (have hget := run_getI hm1 (Ps.W l i) (⟨#[65, 83, 83, 69, 82, 84]⟩, 23) (by rw [isW_eq hX]; rfl); have HB1 := Lib.hid hb1; have cz0 := (s898.below hb1).n0.2.five; have lz0 := (s898.below hb1).n0.2.lt; have cz1 := (s898.below hb1).n1.2.five; have lz1 := (s898.below hb1).n1.2.lt; have dz := (s898.below hb1).d01)) | fail)
                  have s899 := s898.below HB1.out
                  have s900 := s899.s00 (.int .i64 23)
                  have s901 := s900.p1 (.int .i64 23) (.string ⟨#[]⟩) (.int .i64 0) (.int .i64 (Ps.A l i)) (.slice (some ⟨w879.heap.size, 0, none⟩) 1 1)
                  exact bodyPost_ret (res5 Tryz.results104 rfl s901.n1.2) rfl ⟨rend s901.ps HR (s901.treeOf (sv := .slice (some ⟨w879.heap.size, 0, none⟩) 1 1) (by simp)) (by have := le867.out; have := le883.out; have := le895.out; omega), s901.kp⟩
                | false =>
                  rw [hX] at hq8
                  replace HR := rokX (if_neg (by rw [hX]; decide)) (rokX (if_neg hG) HR)
                  clear hX
                  go_wp2_with fail
                  refine (rt_on s8.ps (rdesig_any s8.ps ex hex)).mono ?_
                  rintro e w910 ⟨k902, nm903, num904, a905, ts906, so907, sc908, q911, i912, rfl, hrow909, h913, le914, hk915, ho916⟩
                  replace HR := ho916 HR
                  clear ho916
                  have le914 := Lib.hid le914
                  have s917 := s8.callKeep hk915 h913 hrow909
                  unfold nodeV
                  go_wp2_with fail
                  have s918 := s917.allocAt (w910.heap.size) 25 #[.int .i64 k902, .string nm903, .int .i64 num904, .int .i64 a905, .slice so907 ts906.length sc908] (by simp)
                  refine (ris_any s918.ps (⟨#[58, 61]⟩) (fun _ => by decide)).mono ?_
                  rintro e w919 ⟨⟨hq920, hw921, rfl, h922⟩ | ⟨hw921, rfl, h922⟩, hk923⟩
                  · replace HR := ryes (j := i912 + 1) hq920 hw921 HR
                    have s924 := s918.call hk923 h922
                    have c925 := s924.n0.2.five
                    have l926 := s924.n0.2.lt
                    have c927 := s924.n1.2.five
                    have l928 := s924.n1.2.lt
                    have d929 := s924.d01
                    go_wp2_with fail
                    clear c925 l926 c927 l928 d929
                    have s930 := s924.s10 (.int .i64 14)
                    have hC := s930.n0.2
                    refine Ch.wp_region_run (fun u => Blk u (w910.heap.size) 25 #[.int .i64 k902, .string nm903, .int .i64 num904, .int .i64 a905, .slice so907 ts906.length sc908]) [0] [0, 1] [2, 3, 4, 5] [] (by kernel_rfl) (by kernel_rfl) (fun _ _ d _ _ h => by cases d <;> exact h) (hC) ?_
                    clear hC
                    have s931 := s930.drew
                    refine Ch.load0 (v := ?v932) rfl (by rfl) ?y933 ?_
                    case y933 => intro u hC; have c5 := Blk.five hC; go_simp; rfl
                    simp only [Act.put, List.setIfInBounds_toArray, List.set_cons_zero, List.set_cons_succ]
                    refine Ch.take1 (v := ?v934) rfl (by rfl) ?y935 ?_
                    case y935 => intro u; go_simp; rfl
                    simp only [Act.put, List.setIfInBounds_toArray, List.set_cons_zero, List.set_cons_succ]
                    refine Ch.mid2 (by rfl) (fun K hK => ?_)
                    go_simp
                    refine (rt_on s931.ps (hex _ p T l _ _ trivial s931.ps)).mono ?_
                    rintro e w944 ⟨k936, nm937, num938, a939, ts940, so941, sc942, q945, i946, rfl, hrow943, h947, le948, hk949, ho950⟩
                    replace HR := ho950 HR
                    clear ho950
                    have le948 := Lib.hid le948
                    have s951 := s931.callKeep hk949 h947 hrow943
                    unfold nodeV
                    refine hK _ _ (s951.n0.2) ?_
                    clear hK K
                    try simp only [Act.put, List.setIfInBounds_toArray, List.set_cons_zero, List.set_cons_succ]
                    refine Ch.mid3 (by rfl) (fun K hK => ?_)
                    go_simp
                    refine hK _ _ ((s951.other _).n0.2) ?_
                    clear hK K
                    try simp only [Act.put, List.setIfInBounds_toArray, List.set_cons_zero, List.set_cons_succ]
                    have c952 := s951.n0.2.five
                    have l953 := s951.n0.2.lt
                    have c954 := s951.n1.2.five
                    have l955 := s951.n1.2.lt
                    have c956 := s951.n2.2.five
                    have l957 := s951.n2.2.lt
                    have d958 := s951.d01
                    have d959 := s951.d02
                    have d960 := s951.d12
                    refine Ch.mid4 (by rfl) (fun K hK => ?_)
                    go_simp
                    refine hK _ _ ((s951.other _).n0.2) ?_
                    clear hK K
                    try simp only [Act.put, List.setIfInBounds_toArray, List.set_cons_zero, List.set_cons_succ]
                    refine Ch.mid5 (by rfl) (fun K hK => ?_)
                    go_simp
                    have s961 := s951.s14 (.slice (some ⟨w944.heap.size, 0, none⟩) 2 2)
                    refine hK _ _ ((s961.other _).n0.2) ?_
                    clear hK K
                    try simp only [Act.put, List.setIfInBounds_toArray, List.set_cons_zero, List.set_cons_succ]
                    refine Ch.run_end ?_
                    go_wp2_with fail
                    clear c952 l953 c954 l955 c956 l957 d958 d959 d960
                    have s962 := s961.p2 (.int .i64 14) (.string ⟨#[]⟩) (.int .i64 0) (.int .i64 (Ps.A l i)) (.slice (some ⟨w944.heap.size, 0, none⟩) 2 2)
                    have s963 := s962.built2 (k0 := k902) (nm0 := nm903) (num0 := num904) (a0 := a905) (sv0 := .slice so907 ts906.length sc908) (ts0 := ts906) (k1 := k936) (nm1 := nm937) (num1 := num938) (a1 := a939) (sv1 := .slice so941 ts940.length sc942) (ts1 := ts940) (by simp) (by simp) (w944.heap.size) (by simp)
                    exact bodyPost_ret (res5 Tryz.results104 rfl s963.n2.2) rfl ⟨rend s963.ps HR (s963.treeOf (sv := .slice (some ⟨w944.heap.size, 0, none⟩) 2 2) (by simp)) (by have := le914.out; have := le948.out; omega), s963.kp⟩
                  · replace HR := rno s918.ps hw921 HR
                    have s964 := s918.call hk923 h922
                    have c965 := s964.n0.2.five
                    have l966 := s964.n0.2.lt
                    have c967 := s964.n1.2.five
                    have l968 := s964.n1.2.lt
                    have d969 := s964.d01
                    go_wp2_with fail
                    clear c965 l966 c967 l968 d969
                    have s970 := s964.s10 (.int .i64 15)
                    have c971 := s970.n0.2.five
                    have l972 := s970.n0.2.lt
                    go_wp2_with fail
                    clear c971 l972
                    have hC := s970.n0.2
                    refine Ch.wp_region_tree (fun u => Blk u (w910.heap.size) 25 #[.int .i64 k902, .string nm903, .int .i64 num904, .int .i64 a905, .slice so907 ts906.length sc908]) [0] [] (.take 0 (.take 2 (.two 1 (.one 3 (.one 4 (.take 5 (.one 6 .done)))) 3 (.one 1 (.one 4 (.take 5 (.one 6 .done))))))) (by kernel_rfl) (by kernel_rfl) (fun _ _ d _ _ h => by cases d <;> exact h) (hC) ?_
                    clear hC
                    refine Ch.ld0 (v := ?v973) rfl (by rfl) ?y974 ?_
                    case y974 => intro u hC; have c5 := Blk.five hC; go_simp; rfl
                    simp only [Act.put, List.setIfInBounds_toArray, List.set_cons_zero, List.set_cons_succ]
                    refine Ch.tk2 (v := ?v975) rfl (by rfl) ?y976 ?_
                    case y976 => intro u; go_simp; rfl
                    simp only [Act.put, List.setIfInBounds_toArray, List.set_cons_zero, List.set_cons_succ]
                    refine Ch.tree_two ?_ ?_
                    · refine Ch.md1 (by rfl) (fun K hK => ?_)
                      go_simp
                      have s977 := s970.builtG1 (k0 := k902) (nm0 := nm903) (num0 := num904) (a0 := a905) (sv0 := .slice so907 ts906.length sc908) (ts0 := ts906) (by simp) (w919.heap.size) (by simp)
                      have s978 := s977.drew
                      refine hK _ _ (s978.n0.2) ?_
                      clear hK K
                      try simp only [Act.put, List.setIfInBounds_toArray, List.set_cons_zero, List.set_cons_succ]
                      refine Ch.md3 (by rfl) (fun K hK => ?_)
                      go_simp
                      refine (rl_on s978.ps (rgiven_any s978.ps ex hex)).mono ?_
                      rintro e w983 ⟨so980, ts979, sc981, q984, i985, rfl, hrow982, h986, le987, hk988, ho989, hl990⟩
                      have hl990 := Lib.hid hl990
                      replace HR := ho989 HR
                      clear ho989
                      have le987 := Lib.hid le987
                      have s991 := s978.callKeep hk988 h986 hrow982
                      refine hK _ _ (s991.n0.2) ?_
                      clear hK K
                      try simp only [Act.put, List.setIfInBounds_toArray, List.set_cons_zero, List.set_cons_succ]
                      refine Ch.md4 (by rfl) (fun K hK => ?_)
                      refine s991.appAll (sn := ts979.length) (us := ts979) (by simp) (.tmp 27) (.tmp 29) rfl rfl rfl (Nat.succ_pos _) (by have := hl990.out; have := s991.ps.small; show 1 + _ ≤ 1000000; omega) (fun go992 gn993 gc994 w995 s996 => ?_)
                      refine hK _ _ (s996.n0.2) ?_
                      clear hK K
                      try simp only [Act.put, List.setIfInBounds_toArray, List.set_cons_zero, List.set_cons_succ]
                      have c997 := s996.n0.2.five
                      have l998 := s996.n0.2.lt
                      have c999 := s996.n1.2.five
                      have l1000 := s996.n1.2.lt
                      have c1001 := s996.n2.2.five
                      have l1002 := s996.n2.2.lt
                      have d1003 := s996.d01
                      have d1004 := s996.d02
                      have d1005 := s996.d12
                      refine Ch.tk5 (v := ?v1006) rfl (by rfl) ?y1007 ?_
                      case y1007 => intro u; go_simp; rfl
                      simp only [Act.put, List.setIfInBounds_toArray, List.set_cons_zero, List.set_cons_succ]
                      refine Ch.md6 (by rfl) (fun K hK => ?_)
                      go_simp
                      have s1008 := s996.s14 (.slice go992 gn993 gc994)
                      refine hK _ _ (s1008.n0.2) ?_
                      clear hK K
                      try simp only [Act.put, List.setIfInBounds_toArray, List.set_cons_zero, List.set_cons_succ]
                      refine Ch.tree_end ?_
                      go_wp2_with fail
                      clear c997 l998 c999 l1000 c1001 l1002 d1003 d1004 d1005
                      have s1009 := s1008.grown
                      have s1010 := s1009.p2 (.int .i64 15) (.string ⟨#[]⟩) (.int .i64 0) (.int .i64 (Ps.A l i)) (.slice go992 gn993 gc994)
                      exact bodyPost_ret (res5 Tryz.results104 rfl s1010.n2.2) rfl ⟨rend s1010.ps HR (s1010.treeOf (sv := .slice go992 gn993 gc994) (by simp)) (by have := le914.out; have := le987.out; omega), s1010.kp⟩
                    · have s1011 := s970.drew
                      refine Ch.md3 (by rfl) (fun K hK => ?_)
                      go_simp
                      refine (rl_on s1011.ps (rgiven_any s1011.ps ex hex)).mono ?_
                      rintro e w1016 ⟨so1013, ts1012, sc1014, q1017, i1018, rfl, hrow1015, h1019, le1020, hk1021, ho1022, hl1023⟩
                      have hl1023 := Lib.hid hl1023
                      replace HR := ho1022 HR
                      clear ho1022
                      have le1020 := Lib.hid le1020
                      have s1024 := s1011.callKeep hk1021 h1019 hrow1015
                      refine hK _ _ (s1024.n0.2) ?_
                      clear hK K
                      try simp only [Act.put, List.setIfInBounds_toArray, List.set_cons_zero, List.set_cons_succ]
                      refine Ch.md1 (by rfl) (fun K hK => ?_)
                      go_simp
                      have s1025 := s1024.builtG1 (k0 := k902) (nm0 := nm903) (num0 := num904) (a0 := a905) (sv0 := .slice so907 ts906.length sc908) (ts0 := ts906) (by simp) (w1016.heap.size) (by simp)
                      refine hK _ _ (s1025.n0.2) ?_
                      clear hK K
                      try simp only [Act.put, List.setIfInBounds_toArray, List.set_cons_zero, List.set_cons_succ]
                      refine Ch.md4 (by rfl) (fun K hK => ?_)
                      refine s1025.appAll (sn := ts1012.length) (us := ts1012) (by simp) (.tmp 27) (.tmp 29) rfl rfl rfl (Nat.succ_pos _) (by have := hl1023.out; have := s1025.ps.small; show 1 + _ ≤ 1000000; omega) (fun go1026 gn1027 gc1028 w1029 s1030 => ?_)
                      refine hK _ _ (s1030.n0.2) ?_
                      clear hK K
                      try simp only [Act.put, List.setIfInBounds_toArray, List.set_cons_zero, List.set_cons_succ]
                      have c1031 := s1030.n0.2.five
                      have l1032 := s1030.n0.2.lt
                      have c1033 := s1030.n1.2.five
                      have l1034 := s1030.n1.2.lt
                      have c1035 := s1030.n2.2.five
                      have l1036 := s1030.n2.2.lt
                      have d1037 := s1030.d01
                      have d1038 := s1030.d02
                      have d1039 := s1030.d12
                      refine Ch.tk5 (v := ?v1040) rfl (by rfl) ?y1041 ?_
                      case y1041 => intro u; go_simp; rfl
                      simp only [Act.put, List.setIfInBounds_toArray, List.set_cons_zero, List.set_cons_succ]
                      refine Ch.md6 (by rfl) (fun K hK => ?_)
                      go_simp
                      have s1042 := s1030.s14 (.slice go1026 gn1027 gc1028)
                      refine hK _ _ (s1042.n0.2) ?_
                      clear hK K
                      try simp only [Act.put, List.setIfInBounds_toArray, List.set_cons_zero, List.set_cons_succ]
                      refine Ch.tree_end ?_
                      go_wp2_with fail
                      clear c1031 l1032 c1033 l1034 c1035 l1036 d1037 d1038 d1039
                      have s1043 := s1042.grown
                      have s1044 := s1043.p2 (.int .i64 15) (.string ⟨#[]⟩) (.int .i64 0) (.int .i64 (Ps.A l i)) (.slice go1026 gn1027 gc1028)
                      exact bodyPost_ret (res5 Tryz.results104 rfl s1044.n2.2) rfl ⟨rend s1044.ps HR (s1044.treeOf (sv := .slice go1026 gn1027 gc1028) (by simp)) (by have := le914.out; have := le1020.out; omega), s1044.kp⟩
end Go.Proofs.YtneohanphabneaaGreatDoor
