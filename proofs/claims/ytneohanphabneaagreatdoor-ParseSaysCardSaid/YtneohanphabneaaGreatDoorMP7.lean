/-
  Contracts of the program's parser: a chain of operators.
-/
import Derived.Test.YtneohanphabneaaGreatDoorMP3
namespace Go.Proofs.YtneohanphabneaaGreatDoor
open Go.RowKit Ps

/-- A function of the parser that reads a tree. -/
def CT (K : FuncId) (d : Nat) (f : List Sc.Tok → Nat → R Tree) : Prop := ∀ (w : World) (p T : Nat) (l : List Sc.Tok) (i : Nat), PS w p T l i d → Calls Tryz.prog K #[pp p] w fun e w' =>
  PT (fun b => w.heap.size ≤ b) p T l i d (f l i) e w' ∧ Kp w.heap.size p w w'
theorem op_ne {l : List Sc.Tok} {lev i : Nat} (h : isOp l lev i = true) : (W l i).toList.isEmpty = false := by
  have hne : ∀ ks ∈ levels, ∀ s ∈ ks, s ≠ ⟨#[]⟩ := by decide
  unfold isOp at h
  obtain ⟨s, hs, hw⟩ := List.any_eq_true.1 h
  have hm : ∃ ks ∈ levels, s ∈ ks := by
    cases hk : levels[lev]? with
    | none => rw [hk] at hs; cases hs
    | some ks => rw [hk] at hs; exact ⟨ks, List.mem_of_getElem? hk, hs⟩
  obtain ⟨ks, h1, h2⟩ := hm
  have h3 := hne ks h1 s h2
  rw [isW_empty]
  unfold isW at hw ⊢
  rw [decide_eq_true_eq] at hw
  rw [decide_eq_false_iff_not, hw]
  exact h3
theorem isW_ne {l : List Sc.Tok} {i : Nat} (h : isW l i ⟨#[]⟩ = false) : W l i ≠ ⟨#[]⟩ := by unfold isW at h; exact of_decide_eq_false h
set_option maxRecDepth 100000 in
set_option maxHeartbeats 1000000 in
theorem pchain_any {X : Nat → Prop} {w : World} {p T : Nat} {l : List Sc.Tok} {i d : Nat} (h : PS w p T l i d) (hX : ∀ b, X b → b < w.heap.size ∧ b ≠ p) (k0 : Nat) (nm0 : ByteArray) (num0 at_ : Nat) (so0 : Option Addr) (sn0 sc0 : Nat) (ts0 : List Tree) (hrow : RowIn w X (.slice so0 sn0 sc0) ts0) (lev : Nat) (hlev : lev < 3) (fv : Value) (f : Nat → R Tree) (hf : Clo w p T l d fv f) : Calls Tryz.prog 162 #[pp p, .int .i64 lev, nodeV k0 nm0 num0 at_ (.slice so0 sn0 sc0), fv] w fun e w' =>
    PT (fun b => w.heap.size ≤ b ∨ X b) p T l i d (Ps.chain l lev f 20 (.node k0 nm0 num0 at_ ts0) i) e w' ∧ Kp w.heap.size p w w' := by
  obtain ⟨r, hr⟩ : ∃ r, r = Ps.chain l lev f 20 (.node k0 nm0 num0 at_ ts0) i := ⟨_, rfl⟩
  rw [← hr]
  have HR := Lib.hid hr
  clear hr
  obtain ⟨K, fs, cap, rfl, hin, hcall⟩ := hf
  have HC := Lib.hid hcall
  clear hcall
  unfold nodeV
  unfold pp
  go_enter Tryz.func162, Tryz.ntmps162
  go_wp2_with fail
  have s1 := (StX.start h hX hrow).allocAt (w.heap.size) 25 #[.int .i64 k0, .string nm0, .int .i64 num0, .int .i64 at_, .slice so0 sn0 sc0] (by simp)
  have s2 := s1.allocAt (w.heap.size + 1) 25 #[.int .i64 0, .string ⟨#[]⟩, .int .i64 0, .int .i64 0, .slice none 0 0] (by simp)
  go_loopg [9] 20 (fun F v wr => ∃ (j k : Nat) (nm : ByteArray) (num : Nat) (so : Option Addr) (sn sc : Nat) (ts : List Tree), F ≤ 20 ∧ v = .int .i64 (20 - F : Nat) ∧ i ≤ j ∧ StX X w wr p T l j d [(w.heap.size + 1, 25, #[.int .i64 0, .string ⟨#[]⟩, .int .i64 0, .int .i64 0, .slice none 0 0]), (w.heap.size, 25, #[.int .i64 k, .string nm, .int .i64 num, .int .i64 at_, .slice so sn sc])] g0 [(.slice so sn sc, ts)] ∧ Hid (r = Ps.chain l lev f F (.node k nm num at_ ts) j))
  case atStart => exact ⟨i, k0, nm0, num0, so0, sn0, sc0, ts0, by omega, by simp, by omega, s2, HR⟩
  case round =>
    obtain ⟨j, k, nm, num, so, sn, sc, ts, hF, rfl, hij, s4, HR⟩ := hrel
    unfold Ps.chain at HR
    have hO := opK_any s4.ps lev hlev
    go_wp2_with fail
    refine hO.mono ?_
    rintro e w5 ⟨hno, hyes⟩
    cases hop : isOp l lev j with
    | false =>
      obtain ⟨rfl, rfl⟩ := hno hop
      clear hno hyes hO
      replace HR := step_else HR hop
      have c3 := s4.n0.2.five
      have l4 := s4.n0.2.lt
      have c5 := s4.n1.2.five
      have l6 := s4.n1.2.lt
      have d7 := s4.d01
      go_wp2_with fail
      clear c3 l4 c5 l6 d7
      have s8 := s4.p0 (.int .i64 k) (.string nm) (.int .i64 num) (.int .i64 at_) (.slice so sn sc)
      exact bodyPost_ret (res5 Tryz.results162 rfl s8.n0.2) rfl ⟨.ok (HR.out.trans rfl) rfl (s8.treeX (sv := .slice so sn sc) (by simp)) s8.ps hij, s8.kp⟩
    | true =>
      obtain ⟨rfl, hk5, hp5⟩ := hyes hop
      clear hno hyes hO
      replace HR := step_if HR hop
      have hne := op_ne hop
      have s9 := s4.call hk5 hp5
      cases gk with
      | zero =>
        have h20 : (((20 - 0 : Nat) : Int) == 20) = true := by decide
        go_wp2_with fail
        refine (pfail_any s9.ps 3).mono ?_
        rintro e w10 ⟨⟨g, rfl, hg⟩, hk11⟩
        exact ⟨rfl, .bad (HR.out.trans rfl) ⟨g, rfl, hg⟩, s9.pan hk11⟩
      | succ F =>
        have h20 : (((20 - (F + 1) : Nat) : Int) == 20) = false := beq_eq_false_iff_ne.2 (by omega)
        replace HR : Hid (r = (f (j + 1)).bind fun b i1 => Ps.chain l lev f F (.node 36 (W l j) 0 at_ [.node k nm num at_ ts, b]) i1) := HR
        have c12 := s9.n1.2.five
        have l13 := s9.n1.2.lt
        go_wp2_with fail
        clear c12 l13
        have hC := s9.n1.2
        refine Ch.wp_region_run (fun u => Blk u (w.heap.size) 25 #[.int .i64 k, .string nm, .int .i64 num, .int .i64 at_, .slice so sn sc]) [2, 3] [0, 1, 2, 3, 4] [5, 6, 7, 8] [8] (by kernel_rfl) (by kernel_rfl) (fun _ _ d _ _ h => by cases d <;> exact h) (hC) ?_
        clear hC
        have s14 := s9.drew
        refine Ch.take0 (v := ?v15) rfl (by rfl) ?y16 ?_
        case y16 => intro u; go_simp; rfl
        simp only [Act.put, List.setIfInBounds_toArray, List.set_cons_zero, List.set_cons_succ]
        refine Ch.take1 (v := ?v17) rfl (by rfl) ?y18 ?_
        case y18 => intro u; go_simp; rfl
        simp only [Act.put, List.setIfInBounds_toArray, List.set_cons_zero, List.set_cons_succ]
        refine Ch.load2 (v := ?v19) rfl (by rfl) ?y20 ?_
        case y20 => intro u hC; have c5 := Blk.five hC; go_simp; rfl
        simp only [Act.put, List.setIfInBounds_toArray, List.set_cons_zero, List.set_cons_succ]
        refine Ch.load3 (v := ?v21) rfl (by rfl) ?y22 ?_
        case y22 => intro u hC; have c5 := Blk.five hC; go_simp; rfl
        simp only [Act.put, List.setIfInBounds_toArray, List.set_cons_zero, List.set_cons_succ]
        refine Ch.take4 (v := ?v23) rfl (by rfl) ?y24 ?_
        case y24 => intro u; go_simp; rfl
        simp only [Act.put, List.setIfInBounds_toArray, List.set_cons_zero, List.set_cons_succ]
        refine Ch.mid5 (by rfl) (fun K hK => ?_)
        go_simp
        refine (HC.out _ _ s14.kp s14.ps).mono ?_
        rintro e w37 ⟨ht38, hk39⟩
        rcases ht38.or with ⟨n, a, hr40, g, rfl, hg⟩ | ⟨k25, nm26, num27, a28, ts29, so30, sc31, i32, hn33, rfl, hrow34, hp35, le36⟩
        · exact ⟨rfl, .bad (step_bad HR hr40) ⟨g, rfl, hg⟩, s14.pan hk39⟩
        clear ht38
        replace HR := step_ok HR hn33
        have le36 := Lib.hid le36
        have s41 := s14.callKeep hk39 hp35 hrow34
        unfold nodeV
        refine hK _ _ (s41.n1.2) ?_
        clear hK K
        try simp only [Act.put, List.setIfInBounds_toArray, List.set_cons_zero, List.set_cons_succ]
        refine Ch.mid6 (by rfl) (fun K hK => ?_)
        go_simp
        refine hK _ _ ((s41.other _).n1.2) ?_
        clear hK K
        try simp only [Act.put, List.setIfInBounds_toArray, List.set_cons_zero, List.set_cons_succ]
        refine Ch.mid7 (by rfl) (fun K hK => ?_)
        go_simp
        refine hK _ _ ((s41.other _).n1.2) ?_
        clear hK K
        try simp only [Act.put, List.setIfInBounds_toArray, List.set_cons_zero, List.set_cons_succ]
        have cc := s41.n1.2.five
        have cl := s41.n1.2.lt
        refine Ch.post8 rfl (by rfl) (fun K hK => ?_)
        go_simp
        refine hK _ _ ?_
        clear hK K
        try simp only [Act.put, List.setIfInBounds_toArray, List.set_cons_zero, List.set_cons_succ]
        refine Ch.run_end ?_
        have s42 := s41.p1 (.int .i64 36) (.string (W l j)) (.int .i64 (0 : Nat)) (.int .i64 at_) (.slice (some ⟨w37.heap.size, 0, none⟩) 2 2)
        have s43 := s42.built2 (k0 := k) (nm0 := nm) (num0 := num) (a0 := at_) (sv0 := .slice so sn sc) (ts0 := ts) (k1 := k25) (nm1 := nm26) (num1 := num27) (a1 := a28) (sv1 := .slice so30 ts29.length sc31) (ts1 := ts29) (by simp) (by simp) (w37.heap.size) (by simp)
        clear cc cl
        go_wp2_with fail
        go_roundg F
        case measure => omega
        case rel => have a0 := le36.out; exact ⟨i32, 36, W l j, 0, _, _, _, _, by omega, by go_num, by omega, s43.rowsOf (fun _ h => by simp at h; simp [h]), HR⟩
end Go.Proofs.YtneohanphabneaaGreatDoor
/-
  Contracts of the program's parser: a term, a sum.
-/
namespace Go.Proofs.YtneohanphabneaaGreatDoor
open Go.RowKit Ps

theorem enters_factor (p : Nat) (w : World) : (callFunc 186 #[pp p]).run Tryz.prog w = .ok (.enter 186 #[pp p]) w := by kernel_rfl
theorem clo_factor (w : World) (p T : Nat) (l : List Sc.Tok) (d : Nat) (f : List Sc.Tok → Nat → R Tree) (h : CT 186 d f) : Clo w p T l d (.func (.func 186) #[pp p] #[]) (f l) := clo_of (enters_factor p) fun u j _ hp => h u p T l j hp
set_option maxRecDepth 100000 in
set_option maxHeartbeats 1000000 in
theorem pterm_any {w : World} {p T : Nat} {l : List Sc.Tok} {i d : Nat} (h : PS w p T l i d) (fac : List Sc.Tok → Nat → R Tree) (hfac : CT 186 d fac) : Calls Tryz.prog 161 #[pp p] w fun e w' =>
    PT (fun b => w.heap.size ≤ b) p T l i d (Ps.term l (fac l) i) e w' ∧ Kp w.heap.size p w w' := by
  obtain ⟨r, hr⟩ : ∃ r, r = Ps.term l (fac l) i := ⟨_, rfl⟩
  rw [← hr]
  unfold Ps.term at hr
  have HR := Lib.hid hr
  clear hr
  have hmf : ∀ (fn : Fn) (first cap : Array Value) (w : World), (Instr.makeFunc fn first cap).run Tryz.prog w = .ok (.func fn first cap) w := fun _ _ _ _ => rfl
  unfold pp
  go_enter Tryz.func161, Tryz.ntmps161
  go_wp2_with fail
  have s1 := (St.start h).allocAt (w.heap.size) 25 #[.int .i64 0, .string ⟨#[]⟩, .int .i64 0, .int .i64 0, .slice none 0 0] (by simp)
  refine (hfac _ _ _ _ _ s1.ps).mono ?_
  rintro e w14 ⟨ht15, hk16⟩
  rcases ht15.or with ⟨n, a, hr17, g, rfl, hg⟩ | ⟨k2, nm3, num4, a5, ts6, so7, sc8, i9, hn10, rfl, hrow11, hp12, le13⟩
  · exact ⟨rfl, .bad (step_bad HR hr17) ⟨g, rfl, hg⟩, s1.pan hk16⟩
  clear ht15
  replace HR := step_ok HR hn10
  have le13 := Lib.hid le13
  have s18 := s1.callKeep hk16 hp12 hrow11
  unfold nodeV
  go_wp2_with fail
  replace HR := step_tail HR
  refine (pchain_any s18.ps s18.farX k2 nm3 num4 a5 so7 ts6.length sc8 ts6 (s18.rowX (by simp)) 2 (by decide) _ _ (clo_factor _ p T l d fac hfac)).mono ?_
  rintro e w31 ⟨ht32, hk33⟩
  rcases ht32.or with ⟨n, a, hr34, g, rfl, hg⟩ | ⟨k19, nm20, num21, a22, ts23, so24, sc25, i26, hn27, rfl, hrow28, hp29, le30⟩
  · exact ⟨rfl, .bad (step_bad HR hr34) ⟨g, rfl, hg⟩, s18.pan hk33⟩
  clear ht32
  replace HR := step_ok HR hn27
  have le30 := Lib.hid le30
  have s35 := s18.callKeepX hk33 hp29 hrow28
  unfold nodeV
  have c36 := s35.n0.2.five
  have l37 := s35.n0.2.lt
  go_wp2_with fail
  clear c36 l37
  have s38 := s35.p0 (.int .i64 k19) (.string nm20) (.int .i64 num21) (.int .i64 a22) (.slice so24 ts23.length sc25)
  exact bodyPost_ret (res5 Tryz.results161 rfl s38.n0.2) rfl ⟨.ok (HR.out) rfl (s38.treeOf (sv := .slice so24 ts23.length sc25) (by simp)) s38.ps (by have := le13.out; have := le30.out; omega), s38.kp⟩
theorem enters_term (p : Nat) (w : World) : (callFunc 161 #[pp p]).run Tryz.prog w = .ok (.enter 161 #[pp p]) w := by kernel_rfl
theorem clo_term (w : World) (p T : Nat) (l : List Sc.Tok) (d : Nat) (f : List Sc.Tok → Nat → R Tree) (h : CT 161 d f) : Clo w p T l d (.func (.func 161) #[pp p] #[]) (f l) := clo_of (enters_term p) fun u j _ hp => h u p T l j hp
set_option maxRecDepth 100000 in
set_option maxHeartbeats 1000000 in
theorem psimple_any {w : World} {p T : Nat} {l : List Sc.Tok} {i d : Nat} (h : PS w p T l i d) (fac : List Sc.Tok → Nat → R Tree) (hfac : CT 186 d fac) : Calls Tryz.prog 114 #[pp p] w fun e w' =>
    PT (fun b => w.heap.size ≤ b) p T l i d (Ps.simple l (fac l) i) e w' ∧ Kp w.heap.size p w w' := by
  obtain ⟨r, hr⟩ : ∃ r, r = Ps.simple l (fac l) i := ⟨_, rfl⟩
  rw [← hr]
  unfold Ps.simple at hr
  have HR := Lib.hid hr
  clear hr
  have hmf : ∀ (fn : Fn) (first cap : Array Value) (w : World), (Instr.makeFunc fn first cap).run Tryz.prog w = .ok (.func fn first cap) w := fun _ _ _ _ => rfl
  have hterm : CT 161 d (fun l => Ps.term l (fac l)) := fun _ _ _ _ _ h => pterm_any h fac hfac
  unfold pp
  go_enter Tryz.func114, Tryz.ntmps114
  go_wp2_with fail
  have s39 := (St.start h).allocAt (w.heap.size) 25 #[.int .i64 0, .string ⟨#[]⟩, .int .i64 0, .int .i64 0, .slice none 0 0] (by simp)
  refine (pnode_any s39.ps 35).mono ?_
  rintro e w40 ⟨rfl, hb41⟩
  have s42 := s39.below hb41
  unfold nodeV
  go_wp2_with fail
  have s43 := s42.allocAt (w40.heap.size) 25 #[.int .i64 35, .string ⟨#[]⟩, .int .i64 0, .int .i64 (Ps.A l i), .slice none 0 0] (by simp)
  refine (ptake_or s43.ps (⟨#[45]⟩) (by decide)).mono ?_
  rintro e w44 (⟨hi45, rfl, hp46, hk47⟩ | ⟨hi45, rfl, hp46, hk47⟩)
  · have s48 := s43.call hk47 hp46
    replace HR := step_else HR hi45
    go_wp2_with fail
    refine (hterm _ _ _ _ _ s48.ps).mono ?_
    rintro e w61 ⟨ht62, hk63⟩
    rcases ht62.or with ⟨n, a, hr64, g, rfl, hg⟩ | ⟨k49, nm50, num51, a52, ts53, so54, sc55, i56, hn57, rfl, hrow58, hp59, le60⟩
    · exact ⟨rfl, .bad (step_bad HR hr64) ⟨g, rfl, hg⟩, s48.pan hk63⟩
    clear ht62
    replace HR := step_ok HR hn57
    have le60 := Lib.hid le60
    have s65 := s48.callKeep hk63 hp59 hrow58
    unfold nodeV
    go_wp2_with fail
    replace HR := step_tail HR
    refine (pchain_any s65.ps s65.farX k49 nm50 num51 a52 so54 ts53.length sc55 ts53 (s65.rowX (by simp)) 1 (by decide) _ _ (clo_term _ p T l d _ hterm)).mono ?_
    rintro e w78 ⟨ht79, hk80⟩
    rcases ht79.or with ⟨n, a, hr81, g, rfl, hg⟩ | ⟨k66, nm67, num68, a69, ts70, so71, sc72, i73, hn74, rfl, hrow75, hp76, le77⟩
    · exact ⟨rfl, .bad (step_bad HR hr81) ⟨g, rfl, hg⟩, s65.pan hk80⟩
    clear ht79
    replace HR := step_ok HR hn74
    have le77 := Lib.hid le77
    have s82 := s65.callKeepX hk80 hp76 hrow75
    unfold nodeV
    have c83 := s82.n1.2.five
    have l84 := s82.n1.2.lt
    go_wp2_with fail
    clear c83 l84
    have s85 := s82.p1 (.int .i64 k66) (.string nm67) (.int .i64 num68) (.int .i64 a69) (.slice so71 ts70.length sc72)
    exact bodyPost_ret (res5 Tryz.results114 rfl s85.n1.2) rfl ⟨.ok (HR.out) rfl (s85.treeOf (sv := .slice so71 ts70.length sc72) (by simp)) s85.ps (by have := le60.out; have := le77.out; omega), s85.kp⟩
  · have s86 := s43.call hk47 hp46
    replace HR := step_if HR hi45
    go_wp2_with fail
    refine (hterm _ _ _ _ _ s86.ps).mono ?_
    rintro e w99 ⟨ht100, hk101⟩
    rcases ht100.or with ⟨n, a, hr102, g, rfl, hg⟩ | ⟨k87, nm88, num89, a90, ts91, so92, sc93, i94, hn95, rfl, hrow96, hp97, le98⟩
    · exact ⟨rfl, .bad (step_bad HR hr102) ⟨g, rfl, hg⟩, s86.pan hk101⟩
    clear ht100
    replace HR := step_ok HR hn95
    have le98 := Lib.hid le98
    have s103 := s86.callKeep hk101 hp97 hrow96
    unfold nodeV
    have c104 := s103.n0.2.five
    have l105 := s103.n0.2.lt
    go_wp2_with fail
    clear c104 l105
    have s106 := s103.s04 (.slice (some ⟨w99.heap.size, 0, none⟩) 1 1)
    have s107 := s106.built1 (k0 := k87) (nm0 := nm88) (num0 := num89) (a0 := a90) (sv0 := .slice so92 ts91.length sc93) (ts0 := ts91) (by simp) (w99.heap.size) (by simp)
    replace HR := step_tail HR
    refine (pchain_any s107.ps s107.farX 35 ⟨#[]⟩ 0 (Ps.A l i) (some ⟨w99.heap.size, 0, none⟩) 1 1 [Tree.node k87 nm88 num89 a90 ts91] (s107.rowX (by simp)) 1 (by decide) _ _ (clo_term _ p T l d _ hterm)).mono ?_
    rintro e w120 ⟨ht121, hk122⟩
    rcases ht121.or with ⟨n, a, hr123, g, rfl, hg⟩ | ⟨k108, nm109, num110, a111, ts112, so113, sc114, i115, hn116, rfl, hrow117, hp118, le119⟩
    · exact ⟨rfl, .bad (step_bad HR hr123) ⟨g, rfl, hg⟩, s107.pan hk122⟩
    clear ht121
    replace HR := step_ok HR hn116
    have le119 := Lib.hid le119
    have s124 := s107.callKeepX hk122 hp118 hrow117
    unfold nodeV
    have c125 := s124.n1.2.five
    have l126 := s124.n1.2.lt
    go_wp2_with fail
    clear c125 l126
    have s127 := s124.p1 (.int .i64 k108) (.string nm109) (.int .i64 num110) (.int .i64 a111) (.slice so113 ts112.length sc114)
    exact bodyPost_ret (res5 Tryz.results114 rfl s127.n1.2) rfl ⟨.ok (HR.out) rfl (s127.treeOf (sv := .slice so113 ts112.length sc114) (by simp)) s127.ps (by have := le98.out; have := le119.out; omega), s127.kp⟩
end Go.Proofs.YtneohanphabneaaGreatDoor
/-
  Contracts of the program's parser: arguments.
-/
namespace Go.Proofs.YtneohanphabneaaGreatDoor
open Go.RowKit Ps

theorem enters_expr (p : Nat) (w : World) : (callFunc 59 #[pp p]).run Tryz.prog w = .ok (.enter 59 #[pp p]) w := by kernel_rfl
theorem clo_expr (w : World) (p T : Nat) (l : List Sc.Tok) (d : Nat) (f : List Sc.Tok → Nat → R Tree) (h : CT 59 d f) : Clo w p T l d (.func (.func 59) #[pp p] #[]) (f l) := clo_of (enters_expr p) fun u j _ hp => h u p T l j hp
set_option maxRecDepth 100000 in
set_option maxHeartbeats 1000000 in
theorem pargs_any {w : World} {p T : Nat} {l : List Sc.Tok} {i d : Nat} (h : PS w p T l i d) (ex : List Sc.Tok → Nat → R Tree) (hex : CT 59 d ex) : Calls Tryz.prog 166 #[pp p] w fun e w' =>
    PR (fun b => w.heap.size ≤ b) p T l i d (Ps.args l (ex l) i) e w' ∧ Kp w.heap.size p w w' := by
  obtain ⟨r, hr⟩ : ∃ r, r = Ps.args l (ex l) i := ⟨_, rfl⟩
  rw [← hr]
  unfold Ps.args at hr
  have HR := Lib.hid hr
  clear hr
  unfold pp
  go_enter Tryz.func166, Tryz.ntmps166
  go_wp2_with fail
  have s1 := St.start h
  refine (ptake_or s1.ps (⟨#[40]⟩) (by decide)).mono ?_
  rintro e w2 (⟨hi3, rfl, hp4, hk5⟩ | ⟨hi3, rfl, hp4, hk5⟩)
  · have s6 := s1.call hk5 hp4
    replace HR := step_else HR hi3
    go_wp2_with fail
    go_ret
    exact ⟨.ok (HR.out.trans rfl) rfl (.nil _ _) s6.ps (by omega), s6.kp⟩
  · have s7 := s1.call hk5 hp4
    replace HR := step_if HR hi3
    go_wp2_with fail
    refine (ptake_or s7.ps (⟨#[41]⟩) (by decide)).mono ?_
    rintro e w8 (⟨hi9, rfl, hp10, hk11⟩ | ⟨hi9, rfl, hp10, hk11⟩)
    · have s12 := s7.call hk11 hp10
      replace HR := step_else HR hi9
      go_wp2_with fail
      go_loopg [3, 4] (l.length + 1) (fun F v bb wr => ∃ (j Fu : Nat) (acc : List Tree) (go : Option Addr) (gn gc : Nat) (b : Bool), v = .slice go gn gc ∧ bb = .bool b ∧ (b = true → l.length - j ≤ Fu ∧ Fu < F ∧ acc.length ≤ j) ∧ i ≤ j ∧ St w wr p T l j d [] (.slice go gn gc, acc) [] ∧
        Hid (r = (if b = true then argsLoop l (ex l) Fu j acc else .ok acc j).bind fun ts i1 => (must l ⟨#[41]⟩ i1).bind fun _ i2 => R.ok ts i2))
      case atStart => exact ⟨(i + 1), l.length, [], none, 0, 0, true, rfl, rfl, fun _ => ⟨by omega, by omega, Nat.zero_le _⟩, by omega, s12, HR⟩
      case round =>
        obtain ⟨j, Fu, acc, go, gn, gc, b, rfl, rfl, hF, hij, s4, HR⟩ := hrel
        have hjl := s4.ps.hi
        cases b with
        | false =>
          clear hF
          replace HR := step_elseB HR rfl
          replace HR : Hid (r = (must l ⟨#[41]⟩ j).bind fun _ i2 => R.ok acc i2) := HR
          go_wp2_with fail
          refine (pmust_any s4.ps (⟨#[41]⟩) (by decide)).mono ?_
          rintro e w16 ⟨ht17, hk18⟩
          rcases ht17.or with ⟨n, a, hr19, g, rfl, hg⟩ | ⟨i13, hn14, rfl, hp15⟩
          · exact ⟨rfl, .bad (step_bad HR hr19) ⟨g, rfl, hg⟩, s4.pan hk18⟩
          clear ht17
          replace HR := step_ok HR hn14
          have le20 := Lib.hid (Ps.must_ok hn14)
          have s21 := s4.call hk18 hp15
          go_wp2_with fail
          go_ret
          have s22 := s21.grown
          exact ⟨.ok (HR.out.trans rfl) rfl (s22.rowOf (sv := .slice go gn gc) (by simp)) s22.ps (by have := le20.out; omega), s22.kp⟩
        | true =>
          obtain ⟨hF1, hF2, hacc⟩ := hF rfl
          clear hF
          replace HR := step_ifB HR rfl
          cases Fu with
          | zero => omega
          | succ Fu =>
            unfold argsLoop at HR
            replace HR := step_as HR
            go_wp2_with fail
            refine (hex _ _ _ _ _ s4.ps).mono ?_
            rintro e w35 ⟨ht36, hk37⟩
            rcases ht36.or with ⟨n, a, hr38, g, rfl, hg⟩ | ⟨k23, nm24, num25, a26, ts27, so28, sc29, i30, hn31, rfl, hrow32, hp33, le34⟩
            · exact ⟨rfl, .bad (step_bad HR hr38) ⟨g, rfl, hg⟩, s4.pan hk37⟩
            clear ht36
            replace HR := step_ok HR hn31
            have le34 := Lib.hid le34
            have s39 := s4.callKeep hk37 hp33 hrow32
            unfold nodeV
            go_wp2_with (first | (at_builtin; refine s39.app1L (k0 := k23) (nm0 := nm24) (num0 := num25) (a0 := a26) (sv0 := .slice so28 ts27.length sc29) (ts0 := ts27) (by simp) rfl (.tmp 15) (.tmp 18) rfl rfl rfl (by have := s39.ps.small; omega) ?_; intro go40 gc41 w42 s43) | fail)
            refine (ptake_or s43.ps (⟨#[44]⟩) (by decide)).mono ?_
            rintro e w44 (⟨hi45, rfl, hp46, hk47⟩ | ⟨hi45, rfl, hp46, hk47⟩)
            · have s48 := s43.call hk47 hp46
              replace HR := step_elseB HR hi45
              go_wp2_with fail
              go_roundg (Fu + 1)
              case measure => omega
              case rel => have a0 := le34.out; exact ⟨i30, Fu, acc ++ [Tree.node k23 nm24 num25 a26 ts27], go40, acc.length + 1, gc41, false, rfl, rfl, (fun h => by cases h), by omega, s48.rowsOf (fun _ h => by cases h), HR⟩
            · have s49 := s43.call hk47 hp46
              replace HR := step_ifB HR hi45
              go_wp2_with fail
              go_roundg (Fu + 1)
              case measure => omega
              case rel => have a0 := le34.out; exact ⟨(i30 + 1), Fu, acc ++ [Tree.node k23 nm24 num25 a26 ts27], go40, acc.length + 1, gc41, true, rfl, rfl, fun _ => ⟨by omega, by omega, by simp <;> omega⟩, by omega, s49.rowsOf (fun _ h => by cases h), HR⟩
    · have s50 := s7.call hk11 hp10
      replace HR := step_if HR hi9
      go_wp2_with fail
      go_ret
      exact ⟨.ok (HR.out.trans rfl) rfl (.nil _ _) s50.ps (by omega), s50.kp⟩
set_option maxRecDepth 100000 in
set_option maxHeartbeats 1000000 in
theorem pbuilt_any {w : World} {p T : Nat} {l : List Sc.Tok} {i d : Nat} (h : PS w p T l i d) (k0 num0 at_ kind : Nat) (fv : Value) (f : Nat → R Tree) (hf : Clo w p T l d fv f) (hnum : num0 = 0) : Calls Tryz.prog 164 #[pp p, nodeV k0 ⟨#[]⟩ num0 at_ (.slice none 0 0), .int .i64 kind, fv] w fun e w' =>
    PT (fun b => w.heap.size ≤ b) p T l i d (Ps.built l kind at_ f i) e w' ∧ Kp w.heap.size p w w' := by
  obtain ⟨r, hr⟩ : ∃ r, r = Ps.built l kind at_ f i := ⟨_, rfl⟩
  rw [← hr]
  unfold Ps.built at hr
  have HR := Lib.hid hr
  clear hr
  subst hnum
  obtain ⟨K, fs, cap, rfl, hin, hcall⟩ := hf
  have HC := Lib.hid hcall
  clear hcall
  unfold nodeV
  unfold pp
  go_enter Tryz.func164, Tryz.ntmps164
  go_wp2_with fail
  have s51 := (St.start h).allocAt (w.heap.size) 25 #[.int .i64 kind, .string ⟨#[]⟩, .int .i64 (0 : Nat), .int .i64 at_, .slice none 0 0] (by simp)
  have s52 := s51.allocAt (w.heap.size + 1) 25 #[.int .i64 0, .string ⟨#[]⟩, .int .i64 0, .int .i64 0, .slice none 0 0] (by simp)
  refine (pmust_any s52.ps (⟨#[40]⟩) (by decide)).mono ?_
  rintro e w56 ⟨ht57, hk58⟩
  rcases ht57.or with ⟨n, a, hr59, g, rfl, hg⟩ | ⟨i53, hn54, rfl, hp55⟩
  · exact ⟨rfl, .bad (step_bad HR hr59) ⟨g, rfl, hg⟩, s52.pan hk58⟩
  clear ht57
  replace HR := step_ok HR hn54
  have le60 := Lib.hid (Ps.must_ok hn54)
  have s61 := s52.call hk58 hp55
  go_wp2_with fail
  refine (HC.out _ _ s61.kp s61.ps).mono ?_
  rintro e w74 ⟨ht75, hk76⟩
  rcases ht75.or with ⟨n, a, hr77, g, rfl, hg⟩ | ⟨k62, nm63, num64, a65, ts66, so67, sc68, i69, hn70, rfl, hrow71, hp72, le73⟩
  · exact ⟨rfl, .bad (step_bad HR hr77) ⟨g, rfl, hg⟩, s61.pan hk76⟩
  clear ht75
  replace HR := step_ok HR hn70
  have le73 := Lib.hid le73
  have s78 := s61.callKeep hk76 hp72 hrow71
  unfold nodeV
  have c79 := s78.n1.2.five
  have l80 := s78.n1.2.lt
  go_wp2_with fail
  clear c79 l80
  have s81 := s78.s14 (.slice (some ⟨w74.heap.size, 0, none⟩) 1 1)
  have s82 := s81.built1 (k0 := k62) (nm0 := nm63) (num0 := num64) (a0 := a65) (sv0 := .slice so67 ts66.length sc68) (ts0 := ts66) (by simp) (w74.heap.size) (by simp)
  refine (pmust_any s82.ps (⟨#[41]⟩) (by decide)).mono ?_
  rintro e w86 ⟨ht87, hk88⟩
  rcases ht87.or with ⟨n, a, hr89, g, rfl, hg⟩ | ⟨i83, hn84, rfl, hp85⟩
  · exact ⟨rfl, .bad (step_bad HR hr89) ⟨g, rfl, hg⟩, s82.pan hk88⟩
  clear ht87
  replace HR := step_ok HR hn84
  have le90 := Lib.hid (Ps.must_ok hn84)
  have s91 := s82.call hk88 hp85
  have c92 := s91.n0.2.five
  have l93 := s91.n0.2.lt
  have c94 := s91.n1.2.five
  have l95 := s91.n1.2.lt
  have d96 := s91.d01
  go_wp2_with fail
  clear c92 l93 c94 l95 d96
  have s97 := s91.p0 (.int .i64 kind) (.string ⟨#[]⟩) (.int .i64 0) (.int .i64 at_) (.slice (some ⟨w74.heap.size, 0, none⟩) 1 1)
  exact bodyPost_ret (res5 Tryz.results164 rfl s97.n0.2) rfl ⟨.ok (HR.out.trans rfl) rfl (s97.treeOf (sv := .slice (some ⟨w74.heap.size, 0, none⟩) 1 1) (by simp)) s97.ps (by have := le60.out; have := le73.out; have := le90.out; omega), s97.kp⟩
end Go.Proofs.YtneohanphabneaaGreatDoor
