/-
  Contracts of the program's parser: the levels; the end of a body.
-/
import Derived.Test.YtneohanphabneaaGreatDoorP15
namespace Go.Proofs.YtneohanphabneaaGreatDoor
set_option maxHeartbeats 1000000
open Go.RowKit Ps
theorem levels_all : ∀ L,L ≤ 20 → CT 186 (20 - L) (fun l => Ps.F l L) ∧ CT 59 (20 - L) (fun l => Ps.E l L) ∧ CT 65 (20 - L) (fun l => Ps.S l L) := by
 intro L
 induction L with
 | zero =>
  intro _
  have hE : CT 59 (20 - 0) (fun l => Ps.E l 0) := fun w p T l i h => by
   have := pexpr_deep h rfl
   unfold Ps.E; exact this
  refine ⟨fun w p T l i h => ?_,hE,fun w p T l i h => ?_⟩
  ·have := pfactor_any h (fun l => tooDeep l) (fun l => tooDeep l) (fun w p T l i h => pexpr_deep h rfl) (fun h => absurd h (by omega)) (fun _ _ _ => rfl)
   unfold Ps.F; exact this
  ·have := pstmts_deep h rfl
   unfold Ps.S; exact this
 | succ L ih =>
  intro hL
  obtain ⟨hF,hE,hS⟩ := ih (by omega)
  have hd : 20 - (L + 1) < 20 := by omega
  have hs : 20 - (L + 1) + 1 = 20 - L := by omega
  have hE2 : CT 59 (20 - (L + 1)) (fun l => Ps.exprOf l (Ps.F l L)) := fun w p T l i h => pexpr_any h (fun l => Ps.F l L) (by rw [hs]; exact hF) hd
  refine ⟨fun w p T l i h => ?_,fun w p T l i h => ?_,fun w p T l i h => ?_⟩
  ·have := pfactor_any h (fun l => Ps.exprOf l (Ps.F l L)) (fun l => Ps.F l L) hE2 (fun _ => by rw [hs]; exact hF) (fun h => absurd h (by omega))
   exact this
  ·have := hE2 w p T l i h
   unfold Ps.E; exact this
  ·have hst : CT 119 (20 - (L + 1) + 1) (fun l => Ps.stmtOf l (Ps.E l L) (Ps.S l L)) := by
    rw [hs]
    exact fun w p T l i h => pstmt_any h (fun l => Ps.E l L) (fun l => Ps.S l L) hE hS
   have := pstmts_any h (fun l => Ps.stmtOf l (Ps.E l L) (Ps.S l L)) hst hd
   unfold Ps.S; exact this
theorem expr0 : CT 59 0 (fun l => Ps.E l 20) := (levels_all 20 (Nat.le_refl _)).2.1
theorem stmts0 : CT 65 0 (fun l => Ps.S l 20) := (levels_all 20 (Nat.le_refl _)).2.2
theorem ptake_star {w : World} {p T : Nat} {l : List Sc.Tok} {i d : Nat} (h : PS w p T l i d) (s : ByteArray) (hs : s ≠ ⟨#[]⟩) : Calls Tryz.prog 55 #[.pointer (some ⟨p,0,none⟩),.string s] w fun e w' =>
  e = .returned (.bool (Ps.isW l i s)) ∧ PS w' p T l (star l s i).2 d ∧ Kp w.heap.size p w w' := by
 refine (ptake_or h s hs).mono ?_
 rintro e w' (⟨hi,rfl,hp,hk⟩ | ⟨hi,rfl,hp,hk⟩)
 ·rw [hi,star_no hi]; exact ⟨rfl,hp,hk⟩
 ·rw [hi,star_yes hi]; exact ⟨rfl,hp,hk⟩
theorem pends_any {w : World} {p T : Nat} {l : List Sc.Tok} {i d : Nat} (h : PS w p T l i d) (nm : ByteArray) (hnm : isName nm = true) : Calls Tryz.prog 66 #[pp p,.string nm] w fun e w' =>
  PU p T l d (Ps.ends l nm i) e w' ∧ Kp w.heap.size p w w' := by
 obtain ⟨r,hr⟩ : ∃ r,r = Ps.ends l nm i := ⟨_,rfl⟩
 rw [← hr]
 unfold Ps.ends at hr
 have HR := Lib.hid hr
 clear hr
 unfold pp
 go_enter Tryz.func66,Tryz.ntmps66
 go_wp2_with fail
 refine (pmust_any h (⟨#[69,78,68]⟩) (by decide)).mono ?_
 rintro e w1 ⟨hm,hk1⟩
 rcases hm.or with ⟨n,a,hr,g,rfl,hg⟩ | ⟨i1,hn,rfl,h1⟩
 ·have e1 := step_bad HR hr
  exact ⟨rfl,by rw [e1]; exact ⟨g,rfl,hg⟩,hk1⟩
 clear hm
 replace HR := step_ok HR hn
 go_wp2_with fail
 refine (pis_any h1 nm).mono ?_
 rintro e w2 ⟨rfl,rfl⟩
 cases hi : isW l i1 nm with
 | false =>
  go_wp2_with fail
  refine (pwant_any h1).mono ?_
  rintro e w3 ⟨⟨g,rfl,hg⟩,hk3⟩
  have e1 : r = .bad (wantN l i1) (A l i1) := HR.out.trans (must_no hi)
  exact ⟨rfl,by rw [e1]; exact ⟨g,rfl,hg⟩,hk1.call hk1.size hk3⟩
 | true =>
  have hW : W l i1 = nm := by unfold isW at hi; exact of_decide_eq_true hi
  have hN : nameR l i1 = .ok nm (i1 + 1) := by rw [← hW]; exact name_yes (by rw [hW]; exact hnm)
  clear hW
  have H1 := Lib.hid hN
  clear hN
  go_wp2_with fail
  refine (pname_any h1).mono ?_
  rintro e w3 ⟨hn3,hk3⟩
  rw [H1.out] at hn3
  obtain ⟨rfl,h3⟩ := hn3
  have e1 : r = .ok () (i1 + 1) := HR.out.trans (must_yes hi)
  go_wp2_with fail
  go_end0
  exact ⟨by rw [e1]; exact ⟨rfl,h3⟩,hk1.call hk1.size hk3⟩
set_option maxRecDepth 100000
set_option maxHeartbeats 1000000
open Go.RowKit Ps
theorem ptyp_any {w : World} {p T : Nat} {l : List Sc.Tok} {i d : Nat} (h : PS w p T l i d) : Calls Tryz.prog 61 #[pp p] w fun e w' =>
  PT (fun b => w.heap.size ≤ b) p T l i d (Ps.typ l i) e w' ∧ Kp w.heap.size p w w' := by
 obtain ⟨r,hr⟩ : ∃ r,r = Ps.typ l i := ⟨_,rfl⟩
 rw [← hr]
 unfold Ps.typ at hr
 have HR := Lib.hid hr
 clear hr
 have hmf : ∀ (fn : Fn) (first cap : Array Value) (w : World),(Instr.makeFunc fn first cap).run Tryz.prog w = .ok (.func fn first cap) w := fun _ _ _ _ => rfl
 unfold pp
 go_enter Tryz.func61,Tryz.ntmps61
 go_wp2_with fail
 have s1 := (St.start h).allocAt (w.heap.size) 25 #[.int .i64 0,.string ⟨#[]⟩,.int .i64 0,.int .i64 0,.slice none 0 0] (by simp)
 refine (pnode_any s1.ps 9).mono ?_
 rintro e w2 ⟨rfl,hb3⟩
 have s4 := s1.below hb3
 unfold nodeV
 go_wp2_with fail
 have s5 := s4.allocAt (w2.heap.size) 25 #[.int .i64 9,.string ⟨#[]⟩,.int .i64 0,.int .i64 (Ps.A l i),.slice none 0 0] (by simp)
 refine (ptake_or s5.ps (⟨#[65,82,82,65,89]⟩) (by decide)).mono ?_
 rintro e w6 (⟨hi7,rfl,hp8,hk9⟩ | ⟨hi7,rfl,hp8,hk9⟩)
 ·have s10 := s5.call hk9 hp8
  replace HR := step_else HR hi7
  go_wp2_with fail
  refine (ptake_or s10.ps (⟨#[80,79,73,78,84,69,82]⟩) (by decide)).mono ?_
  rintro e w11 (⟨hi12,rfl,hp13,hk14⟩ | ⟨hi12,rfl,hp13,hk14⟩)
  ·have s15 := s10.call hk14 hp13
   replace HR := step_else HR hi12
   go_wp2_with fail
   refine (ptake_or s15.ps (⟨#[82,69,67,79,82,68]⟩) (by decide)).mono ?_
   rintro e w16 (⟨hi17,rfl,hp18,hk19⟩ | ⟨hi17,rfl,hp18,hk19⟩)
   ·have s20 := s15.call hk19 hp18
    replace HR := step_else HR hi17
    go_wp2_with fail
    refine (pwant_any s20.ps).mono ?_
    rintro e w21 ⟨⟨g,rfl,hg⟩,hk22⟩
    exact ⟨rfl,.bad (HR.out.trans rfl) ⟨g,rfl,hg⟩,s20.pan hk22⟩
   ·have s23 := s15.call hk19 hp18
    replace HR := step_if HR hi17
    unfold baseR at HR
    have c24 := s23.n0.2.k5
    have c26 := s23.n1.2.k5
    have d28 := s23.d01
    go_wp2_with fail
    clear c24 c26 d28
    have s29 := s23.s00 (.int .i64 10)
    refine (pnode_any s29.ps 0).mono ?_
    rintro e w30 ⟨rfl,hb31⟩
    have s32 := s29.below hb31
    unfold nodeV
    go_wp2_with fail
    have s33 := s32.allocAt (w30.heap.size) 25 #[.int .i64 0,.string ⟨#[]⟩,.int .i64 0,.int .i64 (Ps.A l (i + 1)),.slice none 0 0] (by simp)
    refine (ptake_or s33.ps (⟨#[40]⟩) (by decide)).mono ?_
    rintro e w34 (⟨hi35,rfl,hp36,hk37⟩ | ⟨hi35,rfl,hp36,hk37⟩)
    ·have s38 := s33.call hk37 hp36
     replace HR := step_elseB HR hi35
     have c39 := s38.n0.2.k5
     have c41 := s38.n1.2.k5
     have d43 := s38.d01
     go_wp2_with fail
     clear c39 c41 d43
     have s44 := s38.s14 (.slice (some ⟨w34.heap.size,0,none⟩) 1 1)
     have s45 := s44.keepNil
     have s46 := s45.builtG1 (k0 := 0) (nm0 := ⟨#[]⟩) (num0 := 0) (a0 := (Ps.A l (i + 1))) (sv0 := .slice none 0 0) (ts0 := []) (by simp) (w34.heap.size) (by simp)
     go_loopg [] l.length (fun F wr => ∃ (j : Nat) (acc : List Tree) (go : Option Addr) (gn gc : Nat),l.length - j ≤ F ∧ i ≤ j ∧ acc.length ≤ j ∧ St w wr p T l j d [(w30.heap.size,25,#[.int .i64 0,.string ⟨#[]⟩,.int .i64 0,.int .i64 (Ps.A l (i + 1)),.slice none 0 0]),(w2.heap.size,25,#[.int .i64 10,.string ⟨#[]⟩,.int .i64 0,.int .i64 (Ps.A l i),.slice go gn gc]),(w.heap.size,25,#[.int .i64 0,.string ⟨#[]⟩,.int .i64 0,.int .i64 0,.slice none 0 0])] (.slice go gn gc,acc) [] ∧
      Hid (r = (fieldsLoop l F j acc).bind fun ts i2 => R.ok (Tree.node 10 ⟨#[]⟩ 0 (Ps.A l i) ts) i2))
     case atStart =>
      skip
      exact ⟨(i + 1),[Tree.node 0 ⟨#[]⟩ 0 (Ps.A l (i + 1)) []],_,_,_,by omega,by omega,by first | omega | (simp <;> omega),s46.rowsOf (fun _ h => by cases h),HR⟩
     case round =>
      obtain ⟨j,acc,go,gn,gc,hF,hij,hacc,s4,HR⟩ := hrel
      have hjl := s4.ps.hi
      cases gk with
      | zero => omega
      | succ F =>
       unfold fieldsLoop at HR
       go_wp2_with fail
       refine (ptake_or s4.ps (⟨#[69,78,68]⟩) (by decide)).mono ?_
       rintro e w47 (⟨hi48,rfl,hp49,hk50⟩ | ⟨hi48,rfl,hp49,hk50⟩)
       ·have s51 := s4.call hk50 hp49
        replace HR := step_as (step_elseB HR hi48)
        have c52 := s51.n1.2.k5
        go_wp2_with fail
        clear c52
        have hC := s51.n1.2
        refine Ch.wp_region_run (fun u => Blk u (w2.heap.size) 25 #[.int .i64 10,.string ⟨#[]⟩,.int .i64 0,.int .i64 (Ps.A l i),.slice go gn gc]) [1] [0,1,2,3,4] [5,6,7,8,9] [7,8,9] (by kernel_rfl) (by kernel_rfl) (fun _ _ d _ _ h => by cases d <;> exact h) (hC) ?_
        clear hC
        have s54 := s51.drew
        refine Ch.take0 (v := ?v55) rfl (by rfl) ?y56 ?_
        case y56 => intro u; go_simp; rfl
        simp only [putq]
        refine Ch.load1 (v := ?v57) rfl (by rfl) ?y58 ?_
        case y58 => intro u hC; have c5 := Blk.five hC; go_simp; rfl
        simp only [putq]
        refine Ch.take2 (v := ?v59) rfl (by rfl) ?y60 ?_
        case y60 => intro u; go_simp; rfl
        simp only [putq]
        refine Ch.take3 (v := ?v61) rfl (by rfl) ?y62 ?_
        case y62 => intro u; go_simp; rfl
        simp only [putq]
        refine Ch.take4 (v := ?v63) rfl (by rfl) ?y64 ?_
        case y64 => intro u; go_simp; rfl
        simp only [putq]
        refine Ch.mid5 (by rfl) (fun K hK => ?_)
        go_simp
        refine (pdeclared_any s54.ps 11 ⟨#[58]⟩ (by decide) _ _ (clo_typeName _ p T l d)).mono ?_
        rintro e w77 ⟨ht78,hk79⟩
        rcases ht78.or with ⟨n,a,hr80,g,rfl,hg⟩ | ⟨k65,nm66,num67,a68,ts69,so70,sc71,i72,hn73,rfl,hrow74,hp75,le76⟩
        ·exact ⟨rfl,.bad (step_bad HR hr80) ⟨g,rfl,hg⟩,s54.pan hk79⟩
        clear ht78
        replace HR := step_as (step_ok HR hn73)
        have le76 := Lib.hid le76
        have s81 := s54.callKeep hk79 hp75 hrow74
        unfold nodeV
        refine hK _ _ (s81.n1.2) ?_
        clear hK K
        try simp only [putq]
        refine Ch.mid6 (by rfl) (fun K hK => ?_)
        go_simp
        refine hK _ _ ((s81.other _).n1.2) ?_
        clear hK K
        try simp only [putq]
        refine Ch.post7 rfl (by rfl) (fun K hK => ?_)
        refine s81.app1 (List.mem_cons_self ..) (.tmp 50) (.tmp 55) rfl rfl rfl (by have := s81.ps.small; omega) (fun go82 gc83 w84 s85 => ?_)
        refine hK _ _ ?_
        clear hK K
        try simp only [putq]
        have c7 := s85.n1.2.five
        refine Ch.post8 rfl (by rfl) (fun K hK => ?_)
        go_simp
        refine hK _ _ ?_
        clear hK K
        try simp only [putq]
        refine Ch.post9 rfl (by rfl) (fun K hK => ?_)
        go_simp
        refine hK _ _ ?_
        clear hK K
        try simp only [putq]
        refine Ch.run_end ?_
        have s86 := s85.s14 (.slice go82 (acc.length + 1) gc83)
        clear c7
        go_wp2_with fail
        refine (pmust_any s86.ps (⟨#[59]⟩) (by decide)).mono ?_
        rintro e w90 ⟨ht91,hk92⟩
        rcases ht91.or with ⟨n,a,hr93,g,rfl,hg⟩ | ⟨i87,hn88,rfl,hp89⟩
        ·exact ⟨rfl,.bad (step_bad HR hr93) ⟨g,rfl,hg⟩,s86.pan hk92⟩
        clear ht91
        replace HR := step_ok HR hn88
        have le94 := Lib.hid (Ps.must_ok hn88)
        have s95 := s86.call hk92 hp89
        go_wp2_with fail
        go_roundg F
        case measure => omega
        case rel =>
         have a0 := le76.out; have a1 := le94.out
         exact ⟨i87,acc ++ [Tree.node k65 nm66 num67 a68 ts69],go82,acc.length + 1,gc83,by omega,by omega,by simp <;> omega,s95.rowsOf (fun _ h => by cases h),HR⟩
       ·have s96 := s4.call hk50 hp49
        replace HR := step_ifB HR hi48
        have c97 := s96.n1.2.k5
        have c99 := s96.n2.2.k5
        have d101 := s96.d12
        go_wp2_with fail
        clear c97 c99 d101
        have s102 := s96.grown
        have s103 := s102.p2 (.int .i64 10) (.string ⟨#[]⟩) (.int .i64 0) (.int .i64 (Ps.A l i)) (.slice go gn gc)
        exact bodyPost_ret (res5 Tryz.results61 rfl s103.n2.2) rfl ⟨.ok (HR.out.trans rfl) rfl (s103.treeOf (sv := .slice go gn gc) (by simp)) s103.ps (by omega),s103.kp⟩
    ·have s104 := s33.call hk37 hp36
     replace HR := step_as (step_ifB HR hi35)
     go_wp2_with fail
     refine (ptypeName_any s104.ps).mono ?_
     rintro e w117 ⟨ht118,hk119⟩
     rcases ht118.or with ⟨n,a,hr120,g,rfl,hg⟩ | ⟨k105,nm106,num107,a108,ts109,so110,sc111,i112,hn113,rfl,hrow114,hp115,le116⟩
     ·exact ⟨rfl,.bad (step_bad HR hr120) ⟨g,rfl,hg⟩,s104.pan hk119⟩
     clear ht118
     replace HR := step_as (step_ok HR hn113)
     have le116 := Lib.hid le116
     have s121 := s104.callKeep hk119 hp115 hrow114
     unfold nodeV
     have c122 := s121.n0.2.k5
     go_wp2_with fail
     clear c122
     have s124 := s121.p0 (.int .i64 k105) (.string nm106) (.int .i64 num107) (.int .i64 a108) (.slice so110 ts109.length sc111)
     refine (pmust_any s124.ps (⟨#[41]⟩) (by decide)).mono ?_
     rintro e w128 ⟨ht129,hk130⟩
     rcases ht129.or with ⟨n,a,hr131,g,rfl,hg⟩ | ⟨i125,hn126,rfl,hp127⟩
     ·exact ⟨rfl,.bad (step_bad HR hr131) ⟨g,rfl,hg⟩,s124.pan hk130⟩
     clear ht129
     replace HR := step_ok HR hn126
     have le132 := Lib.hid (Ps.must_ok hn126)
     have s133 := s124.call hk130 hp127
     have c134 := s133.n0.2.k5
     have c136 := s133.n1.2.k5
     have d138 := s133.d01
     go_wp2_with fail
     clear c134 c136 d138
     have s139 := s133.s14 (.slice (some ⟨w128.heap.size,0,none⟩) 1 1)
     have s140 := s139.builtG1 (k0 := k105) (nm0 := nm106) (num0 := num107) (a0 := a108) (sv0 := .slice so110 ts109.length sc111) (ts0 := ts109) (by simp) (w128.heap.size) (by simp)
     go_loopg [] l.length (fun F wr => ∃ (j : Nat) (acc : List Tree) (go : Option Addr) (gn gc : Nat),l.length - j ≤ F ∧ i ≤ j ∧ acc.length ≤ j ∧ St w wr p T l j d [(w30.heap.size,25,#[.int .i64 k105,.string nm106,.int .i64 num107,.int .i64 a108,.slice so110 ts109.length sc111]),(w2.heap.size,25,#[.int .i64 10,.string ⟨#[]⟩,.int .i64 0,.int .i64 (Ps.A l i),.slice go gn gc]),(w.heap.size,25,#[.int .i64 0,.string ⟨#[]⟩,.int .i64 0,.int .i64 0,.slice none 0 0])] (.slice go gn gc,acc) [] ∧
      Hid (r = (fieldsLoop l F j acc).bind fun ts i2 => R.ok (Tree.node 10 ⟨#[]⟩ 0 (Ps.A l i) ts) i2))
     case atStart =>
      have a0 := le116.out; have a1 := le132.out
      exact ⟨i125,[Tree.node k105 nm106 num107 a108 ts109],_,_,_,by omega,by omega,by first | omega | (simp <;> omega),s140.rowsOf (fun _ h => by cases h),HR⟩
     case round =>
      obtain ⟨j,acc,go,gn,gc,hF,hij,hacc,s4,HR⟩ := hrel
      have hjl := s4.ps.hi
      cases gk with
      | zero => omega
      | succ F =>
       unfold fieldsLoop at HR
       go_wp2_with fail
       refine (ptake_or s4.ps (⟨#[69,78,68]⟩) (by decide)).mono ?_
       rintro e w141 (⟨hi142,rfl,hp143,hk144⟩ | ⟨hi142,rfl,hp143,hk144⟩)
       ·have s145 := s4.call hk144 hp143
        replace HR := step_as (step_elseB HR hi142)
        have c146 := s145.n1.2.k5
        go_wp2_with fail
        clear c146
        have hC := s145.n1.2
        refine Ch.wp_region_run (fun u => Blk u (w2.heap.size) 25 #[.int .i64 10,.string ⟨#[]⟩,.int .i64 0,.int .i64 (Ps.A l i),.slice go gn gc]) [1] [0,1,2,3,4] [5,6,7,8,9] [7,8,9] (by kernel_rfl) (by kernel_rfl) (fun _ _ d _ _ h => by cases d <;> exact h) (hC) ?_
        clear hC
        have s148 := s145.drew
        refine Ch.take0 (v := ?v149) rfl (by rfl) ?y150 ?_
        case y150 => intro u; go_simp; rfl
        simp only [putq]
        refine Ch.load1 (v := ?v151) rfl (by rfl) ?y152 ?_
        case y152 => intro u hC; have c5 := Blk.five hC; go_simp; rfl
        simp only [putq]
        refine Ch.take2 (v := ?v153) rfl (by rfl) ?y154 ?_
        case y154 => intro u; go_simp; rfl
        simp only [putq]
        refine Ch.take3 (v := ?v155) rfl (by rfl) ?y156 ?_
        case y156 => intro u; go_simp; rfl
        simp only [putq]
        refine Ch.take4 (v := ?v157) rfl (by rfl) ?y158 ?_
        case y158 => intro u; go_simp; rfl
        simp only [putq]
        refine Ch.mid5 (by rfl) (fun K hK => ?_)
        go_simp
        refine (pdeclared_any s148.ps 11 ⟨#[58]⟩ (by decide) _ _ (clo_typeName _ p T l d)).mono ?_
        rintro e w171 ⟨ht172,hk173⟩
        rcases ht172.or with ⟨n,a,hr174,g,rfl,hg⟩ | ⟨k159,nm160,num161,a162,ts163,so164,sc165,i166,hn167,rfl,hrow168,hp169,le170⟩
        ·exact ⟨rfl,.bad (step_bad HR hr174) ⟨g,rfl,hg⟩,s148.pan hk173⟩
        clear ht172
        replace HR := step_as (step_ok HR hn167)
        have le170 := Lib.hid le170
        have s175 := s148.callKeep hk173 hp169 hrow168
        unfold nodeV
        refine hK _ _ (s175.n1.2) ?_
        clear hK K
        try simp only [putq]
        refine Ch.mid6 (by rfl) (fun K hK => ?_)
        go_simp
        refine hK _ _ ((s175.other _).n1.2) ?_
        clear hK K
        try simp only [putq]
        refine Ch.post7 rfl (by rfl) (fun K hK => ?_)
        refine s175.app1 (List.mem_cons_self ..) (.tmp 50) (.tmp 55) rfl rfl rfl (by have := s175.ps.small; omega) (fun go176 gc177 w178 s179 => ?_)
        refine hK _ _ ?_
        clear hK K
        try simp only [putq]
        have c7 := s179.n1.2.five
        refine Ch.post8 rfl (by rfl) (fun K hK => ?_)
        go_simp
        refine hK _ _ ?_
        clear hK K
        try simp only [putq]
        refine Ch.post9 rfl (by rfl) (fun K hK => ?_)
        go_simp
        refine hK _ _ ?_
        clear hK K
        try simp only [putq]
        refine Ch.run_end ?_
        have s180 := s179.s14 (.slice go176 (acc.length + 1) gc177)
        clear c7
        go_wp2_with fail
        refine (pmust_any s180.ps (⟨#[59]⟩) (by decide)).mono ?_
        rintro e w184 ⟨ht185,hk186⟩
        rcases ht185.or with ⟨n,a,hr187,g,rfl,hg⟩ | ⟨i181,hn182,rfl,hp183⟩
        ·exact ⟨rfl,.bad (step_bad HR hr187) ⟨g,rfl,hg⟩,s180.pan hk186⟩
        clear ht185
        replace HR := step_ok HR hn182
        have le188 := Lib.hid (Ps.must_ok hn182)
        have s189 := s180.call hk186 hp183
        go_wp2_with fail
        go_roundg F
        case measure => omega
        case rel =>
         have a0 := le170.out; have a1 := le188.out
         exact ⟨i181,acc ++ [Tree.node k159 nm160 num161 a162 ts163],go176,acc.length + 1,gc177,by omega,by omega,by simp <;> omega,s189.rowsOf (fun _ h => by cases h),HR⟩
       ·have s190 := s4.call hk144 hp143
        replace HR := step_ifB HR hi142
        have c191 := s190.n1.2.k5
        have c193 := s190.n2.2.k5
        have d195 := s190.d12
        go_wp2_with fail
        clear c191 c193 d195
        have s196 := s190.grown
        have s197 := s196.p2 (.int .i64 10) (.string ⟨#[]⟩) (.int .i64 0) (.int .i64 (Ps.A l i)) (.slice go gn gc)
        exact bodyPost_ret (res5 Tryz.results61 rfl s197.n2.2) rfl ⟨.ok (HR.out.trans rfl) rfl (s197.treeOf (sv := .slice go gn gc) (by simp)) s197.ps (by omega),s197.kp⟩
  ·have s198 := s10.call hk14 hp13
   replace HR := step_if HR hi12
   have c199 := s198.n0.2.k5
   have c201 := s198.n1.2.k5
   have d203 := s198.d01
   go_wp2_with fail
   clear c199 c201 d203
   have s204 := s198.s00 (.int .i64 12)
   refine (pmust_any s204.ps (⟨#[84,79]⟩) (by decide)).mono ?_
   rintro e w208 ⟨ht209,hk210⟩
   rcases ht209.or with ⟨n,a,hr211,g,rfl,hg⟩ | ⟨i205,hn206,rfl,hp207⟩
   ·exact ⟨rfl,.bad (step_bad HR hr211) ⟨g,rfl,hg⟩,s204.pan hk210⟩
   clear ht209
   replace HR := step_ok HR hn206
   have le212 := Lib.hid (Ps.must_ok hn206)
   have s213 := s204.call hk210 hp207
   go_wp2_with fail
   refine (ptypeName_any s213.ps).mono ?_
   rintro e w226 ⟨ht227,hk228⟩
   rcases ht227.or with ⟨n,a,hr229,g,rfl,hg⟩ | ⟨k214,nm215,num216,a217,ts218,so219,sc220,i221,hn222,rfl,hrow223,hp224,le225⟩
   ·exact ⟨rfl,.bad (step_bad HR hr229) ⟨g,rfl,hg⟩,s213.pan hk228⟩
   clear ht227
   replace HR := step_ok HR hn222
   have le225 := Lib.hid le225
   have s230 := s213.callKeep hk228 hp224 hrow223
   unfold nodeV
   have c231 := s230.n0.2.k5
   have c233 := s230.n1.2.k5
   have d235 := s230.d01
   go_wp2_with fail
   clear c231 c233 d235
   have s236 := s230.s04 (.slice (some ⟨w226.heap.size,0,none⟩) 1 1)
   have s237 := s236.p1 (.int .i64 12) (.string ⟨#[]⟩) (.int .i64 0) (.int .i64 (Ps.A l i)) (.slice (some ⟨w226.heap.size,0,none⟩) 1 1)
   have s238 := s237.built1 (k0 := k214) (nm0 := nm215) (num0 := num216) (a0 := a217) (sv0 := .slice so219 ts218.length sc220) (ts0 := ts218) (by simp) (w226.heap.size) (by simp)
   exact bodyPost_ret (res5 Tryz.results61 rfl s238.n1.2) rfl ⟨.ok (HR.out.trans rfl) rfl (s238.treeOf (sv := .slice (some ⟨w226.heap.size,0,none⟩) 1 1) (by simp)) s238.ps (by have := le212.out; have := le225.out; omega),s238.kp⟩
 ·have s239 := s5.call hk9 hp8
  replace HR := step_if HR hi7
  go_wp2_with fail
  refine (pnumber_any s239.ps).mono ?_
  rintro e w244 ⟨ht245,hk246⟩
  rcases ht245.or with ⟨n,a,hr247,g,rfl,hg⟩ | ⟨v240,i241,hn242,rfl,hp243⟩
  ·exact ⟨rfl,.bad (step_bad HR hr247) ⟨g,rfl,hg⟩,s239.pan hk246⟩
  clear ht245
  replace HR := step_ok HR hn242
  have le248 := Lib.hid (number_ok hn242)
  have s249 := s239.call hk246 hp243
  have c250 := s249.n0.2.k5
  have c252 := s249.n1.2.k5
  have d254 := s249.d01
  go_wp2_with fail
  clear c250 c252 d254
  have s255 := s249.s02 (.int .i64 v240)
  refine (pmust_any s255.ps (⟨#[79,70]⟩) (by decide)).mono ?_
  rintro e w259 ⟨ht260,hk261⟩
  rcases ht260.or with ⟨n,a,hr262,g,rfl,hg⟩ | ⟨i256,hn257,rfl,hp258⟩
  ·exact ⟨rfl,.bad (step_bad HR hr262) ⟨g,rfl,hg⟩,s255.pan hk261⟩
  clear ht260
  replace HR := step_ok HR hn257
  have le263 := Lib.hid (Ps.must_ok hn257)
  have s264 := s255.call hk261 hp258
  go_wp2_with fail
  refine (ptypeName_any s264.ps).mono ?_
  rintro e w277 ⟨ht278,hk279⟩
  rcases ht278.or with ⟨n,a,hr280,g,rfl,hg⟩ | ⟨k265,nm266,num267,a268,ts269,so270,sc271,i272,hn273,rfl,hrow274,hp275,le276⟩
  ·exact ⟨rfl,.bad (step_bad HR hr280) ⟨g,rfl,hg⟩,s264.pan hk279⟩
  clear ht278
  replace HR := step_ok HR hn273
  have le276 := Lib.hid le276
  have s281 := s264.callKeep hk279 hp275 hrow274
  unfold nodeV
  have c282 := s281.n0.2.k5
  have c284 := s281.n1.2.k5
  have d286 := s281.d01
  go_wp2_with fail
  clear c282 c284 d286
  have s287 := s281.s04 (.slice (some ⟨w277.heap.size,0,none⟩) 1 1)
  have s288 := s287.p1 (.int .i64 9) (.string ⟨#[]⟩) (.int .i64 v240) (.int .i64 (Ps.A l i)) (.slice (some ⟨w277.heap.size,0,none⟩) 1 1)
  have s289 := s288.built1 (k0 := k265) (nm0 := nm266) (num0 := num267) (a0 := a268) (sv0 := .slice so270 ts269.length sc271) (ts0 := ts269) (by simp) (w277.heap.size) (by simp)
  exact bodyPost_ret (res5 Tryz.results61 rfl s289.n1.2) rfl ⟨.ok (HR.out.trans rfl) rfl (s289.treeOf (sv := .slice (some ⟨w277.heap.size,0,none⟩) 1 1) (by simp)) s289.ps (by have := le248.out; have := le263.out; have := le276.out; omega),s289.kp⟩
set_option maxRecDepth 100000
set_option maxHeartbeats 1000000
open Go.RowKit Ps
theorem nm_ok {l : List Sc.Tok} {i j : Nat} {nm : ByteArray} (h : nameR l i = .ok nm j) : isName nm = true := by
 obtain ⟨_,h2,h3⟩ := name_ok h
 rw [h3]; exact h2
theorem clo_cap {w : World} {p T : Nat} {l : List Sc.Tok} {d : Nat} {K : FuncId} {B : Nat} {f : Nat → R Tree} (hB : Blk w B 62 #[.pointer (some ⟨p,0,none⟩)]) (hBp : B ≠ p)
  (hin : ∀ w,(callFunc K #[.pointer (some ⟨B,0,none⟩)]).run Tryz.prog w = .ok (.enter K #[.pointer (some ⟨B,0,none⟩)]) w)
  (hc : ∀ u j,Blk u B 62 #[.pointer (some ⟨p,0,none⟩)] → PS u p T l j d → Calls Tryz.prog K #[.pointer (some ⟨B,0,none⟩)] u fun e w' => PT (fun b => u.heap.size ≤ b) p T l j d (f j) e w' ∧ Kp u.heap.size p u w') : Clo w p T l d (.func (.func K) #[] #[.pointer (some ⟨B,0,none⟩)]) f :=
 ⟨K,#[],#[.pointer (some ⟨B,0,none⟩)],rfl,by simpa using hin,fun u j hk hp => by simpa using hc u j (hk.blk hB hBp) hp⟩
theorem pvariable_any {w : World} {p T : Nat} {l : List Sc.Tok} {i d : Nat} (h : PS w p T l i d) (B : Nat) (hbox : Blk w B 62 #[.pointer (some ⟨p,0,none⟩)]) (hBp : B ≠ p) : Calls Tryz.prog 117 #[.pointer (some ⟨B,0,none⟩)] w fun e w' =>
  PT (fun b => w.heap.size ≤ b) p T l i d (Ps.variable_ l i) e w' ∧ Kp w.heap.size p w w' := by
 obtain ⟨r,hr⟩ : ∃ r,r = Ps.variable_ l i := ⟨_,rfl⟩
 rw [← hr]
 unfold Ps.variable_ at hr
 have HR := Lib.hid hr
 clear hr
 have hmf : ∀ (fn : Fn) (first cap : Array Value) (w : World),(Instr.makeFunc fn first cap).run Tryz.prog w = .ok (.func fn first cap) w := fun _ _ _ _ => rfl
 have hbo := hbox.one
 have hbl := hbox.lt
 go_enter Tryz.func117,Tryz.ntmps117
 go_wp2_with fail
 clear hbo hbl
 have s1 := (St.start h).allocAt (w.heap.size) 25 #[.int .i64 0,.string ⟨#[]⟩,.int .i64 0,.int .i64 0,.slice none 0 0] (by simp)
 refine (pnode_any s1.ps 6).mono ?_
 rintro e w2 ⟨rfl,hb3⟩
 have s4 := s1.below hb3
 unfold nodeV
 have cb5 := Kp.blk s4.kp hbox hBp
 have cb5o := cb5.one
 have cb5l := cb5.lt
 go_wp2_with fail
 clear cb5 cb5o cb5l
 have s6 := s4.allocAt (w2.heap.size) 25 #[.int .i64 6,.string ⟨#[]⟩,.int .i64 0,.int .i64 (Ps.A l i),.slice none 0 0] (by simp)
 refine (pname_any s6.ps).mono ?_
 rintro e w11 ⟨ht12,hk13⟩
 rcases ht12.or with ⟨n,a,hr14,g,rfl,hg⟩ | ⟨nm7,i8,hn9,rfl,hp10⟩
 ·exact ⟨rfl,.bad (step_bad HR hr14) ⟨g,rfl,hg⟩,s6.pan hk13⟩
 clear ht12
 replace HR := step_ok HR hn9
 have le15 := Lib.hid (Ps.name_ok hn9).1
 have s16 := s6.call hk13 hp10
 have c17 := s16.n0.2.k5
 have cb19 := Kp.blk s16.kp hbox hBp
 have cb19o := cb19.one
 have cb19l := cb19.lt
 go_wp2_with fail
 clear c17 cb19 cb19o cb19l
 have s20 := s16.s01 (.string nm7)
 refine (pmust_any s20.ps (⟨#[58]⟩) (by decide)).mono ?_
 rintro e w24 ⟨ht25,hk26⟩
 rcases ht25.or with ⟨n,a,hr27,g,rfl,hg⟩ | ⟨i21,hn22,rfl,hp23⟩
 ·exact ⟨rfl,.bad (step_bad HR hr27) ⟨g,rfl,hg⟩,s20.pan hk26⟩
 clear ht25
 replace HR := step_ok HR hn22
 have le28 := Lib.hid (Ps.must_ok hn22)
 have s29 := s20.call hk26 hp23
 have cb30 := Kp.blk s29.kp hbox hBp
 have cb30o := cb30.one
 have cb30l := cb30.lt
 go_wp2_with fail
 clear cb30 cb30o cb30l
 refine (ptypeName_any s29.ps).mono ?_
 rintro e w43 ⟨ht44,hk45⟩
 rcases ht44.or with ⟨n,a,hr46,g,rfl,hg⟩ | ⟨k31,nm32,num33,a34,ts35,so36,sc37,i38,hn39,rfl,hrow40,hp41,le42⟩
 ·exact ⟨rfl,.bad (step_bad HR hr46) ⟨g,rfl,hg⟩,s29.pan hk45⟩
 clear ht44
 replace HR := step_ok HR hn39
 have le42 := Lib.hid le42
 have s47 := s29.callKeep hk45 hp41 hrow40
 unfold nodeV
 have c48 := s47.n0.2.k5
 have c50 := s47.n1.2.k5
 have d52 := s47.d01
 have cb53 := Kp.blk s47.kp hbox hBp
 have cb53o := cb53.one
 have cb53l := cb53.lt
 go_wp2_with fail
 clear c48 c50 d52 cb53 cb53o cb53l
 have s54 := s47.s04 (.slice (some ⟨w43.heap.size,0,none⟩) 1 1)
 have s55 := s54.p1 (.int .i64 6) (.string nm7) (.int .i64 0) (.int .i64 (Ps.A l i)) (.slice (some ⟨w43.heap.size,0,none⟩) 1 1)
 have s56 := s55.built1 (k0 := k31) (nm0 := nm32) (num0 := num33) (a0 := a34) (sv0 := .slice so36 ts35.length sc37) (ts0 := ts35) (by simp) (w43.heap.size) (by simp)
 exact bodyPost_ret (res5 Tryz.results117 rfl s56.n1.2) rfl ⟨.ok (HR.out.trans rfl) rfl (s56.treeOf (sv := .slice (some ⟨w43.heap.size,0,none⟩) 1 1) (by simp)) s56.ps (by have := le15.out; have := le28.out; have := le42.out; omega),s56.kp⟩
theorem enters_variable (B : Nat) (w : World) : (callFunc 117 #[.pointer (some ⟨B,0,none⟩)]).run Tryz.prog w = .ok (.enter 117 #[.pointer (some ⟨B,0,none⟩)]) w := by kernel_rfl
theorem enters_typ (p : Nat) (w : World) : (callFunc 61 #[pp p]).run Tryz.prog w = .ok (.enter 61 #[pp p]) w := by kernel_rfl
theorem clo_typ (w : World) (p T : Nat) (l : List Sc.Tok) (d : Nat) (f : List Sc.Tok → Nat → R Tree) (h : CT 61 d f) : Clo w p T l d (.func (.func 61) #[pp p] #[]) (f l) := clo_of (enters_typ p) fun u j _ hp => h u p T l j hp
theorem pmodule1_any {w : World} {p T : Nat} {l : List Sc.Tok} {i d : Nat} (h : PS w p T l i d) (B : Nat) (hbox : Blk w B 62 #[.pointer (some ⟨p,0,none⟩)]) (hBp : B ≠ p) (hex : CT 59 d (fun l => Ps.E l 20)) : Calls Tryz.prog 57 #[.pointer (some ⟨B,0,none⟩)] w fun e w' =>
  PT (fun b => w.heap.size ≤ b) p T l i d (Ps.declared l 4 ⟨#[61]⟩ (Ps.E l 20) i) e w' ∧ Kp w.heap.size p w w' := by
 obtain ⟨r,hr⟩ : ∃ r,r = Ps.declared l 4 ⟨#[61]⟩ (Ps.E l 20) i := ⟨_,rfl⟩
 rw [← hr]
 have HR := Lib.hid hr
 clear hr
 have hmf : ∀ (fn : Fn) (first cap : Array Value) (w : World),(Instr.makeFunc fn first cap).run Tryz.prog w = .ok (.func fn first cap) w := fun _ _ _ _ => rfl
 have hbo := hbox.one
 have hbl := hbox.lt
 go_enter Tryz.func57,Tryz.ntmps57
 go_wp2_with fail
 clear hbo hbl
 have s57 := (St.start h).allocAt (w.heap.size) 25 #[.int .i64 0,.string ⟨#[]⟩,.int .i64 0,.int .i64 0,.slice none 0 0] (by simp)
 replace HR := step_tail HR
 refine (pdeclared_any s57.ps 4 ⟨#[61]⟩ (by decide) _ _ (clo_expr _ p T l d _ hex)).mono ?_
 rintro e w70 ⟨ht71,hk72⟩
 rcases ht71.or with ⟨n,a,hr73,g,rfl,hg⟩ | ⟨k58,nm59,num60,a61,ts62,so63,sc64,i65,hn66,rfl,hrow67,hp68,le69⟩
 ·exact ⟨rfl,.bad (step_bad HR hr73) ⟨g,rfl,hg⟩,s57.pan hk72⟩
 clear ht71
 replace HR := step_ok HR hn66
 have le69 := Lib.hid le69
 have s74 := s57.callKeep hk72 hp68 hrow67
 unfold nodeV
 have c75 := s74.n0.2.k5
 have cb77 := Kp.blk s74.kp hbox hBp
 have cb77o := cb77.one
 have cb77l := cb77.lt
 go_wp2_with fail
 clear c75 cb77 cb77o cb77l
 have s78 := s74.p0 (.int .i64 k58) (.string nm59) (.int .i64 num60) (.int .i64 a61) (.slice so63 ts62.length sc64)
 exact bodyPost_ret (res5 Tryz.results57 rfl s78.n0.2) rfl ⟨.ok (HR.out) rfl (s78.treeOf (sv := .slice so63 ts62.length sc64) (by simp)) s78.ps (by have := le69.out; omega),s78.kp⟩
theorem enters_module1 (B : Nat) (w : World) : (callFunc 57 #[.pointer (some ⟨B,0,none⟩)]).run Tryz.prog w = .ok (.enter 57 #[.pointer (some ⟨B,0,none⟩)]) w := by kernel_rfl
theorem pmodule2_any {w : World} {p T : Nat} {l : List Sc.Tok} {i d : Nat} (h : PS w p T l i d) (B : Nat) (hbox : Blk w B 62 #[.pointer (some ⟨p,0,none⟩)]) (hBp : B ≠ p) : Calls Tryz.prog 60 #[.pointer (some ⟨B,0,none⟩)] w fun e w' =>
  PT (fun b => w.heap.size ≤ b) p T l i d (Ps.declared l 5 ⟨#[61]⟩ (Ps.typ l) i) e w' ∧ Kp w.heap.size p w w' := by
 obtain ⟨r,hr⟩ : ∃ r,r = Ps.declared l 5 ⟨#[61]⟩ (Ps.typ l) i := ⟨_,rfl⟩
 rw [← hr]
 have HR := Lib.hid hr
 clear hr
 have hmf : ∀ (fn : Fn) (first cap : Array Value) (w : World),(Instr.makeFunc fn first cap).run Tryz.prog w = .ok (.func fn first cap) w := fun _ _ _ _ => rfl
 have hbo := hbox.one
 have hbl := hbox.lt
 go_enter Tryz.func60,Tryz.ntmps60
 go_wp2_with fail
 clear hbo hbl
 have s79 := (St.start h).allocAt (w.heap.size) 25 #[.int .i64 0,.string ⟨#[]⟩,.int .i64 0,.int .i64 0,.slice none 0 0] (by simp)
 replace HR := step_tail HR
 refine (pdeclared_any s79.ps 5 ⟨#[61]⟩ (by decide) _ _ (clo_typ _ p T l d _ (fun _ _ _ _ _ h => ptyp_any h))).mono ?_
 rintro e w92 ⟨ht93,hk94⟩
 rcases ht93.or with ⟨n,a,hr95,g,rfl,hg⟩ | ⟨k80,nm81,num82,a83,ts84,so85,sc86,i87,hn88,rfl,hrow89,hp90,le91⟩
 ·exact ⟨rfl,.bad (step_bad HR hr95) ⟨g,rfl,hg⟩,s79.pan hk94⟩
 clear ht93
 replace HR := step_ok HR hn88
 have le91 := Lib.hid le91
 have s96 := s79.callKeep hk94 hp90 hrow89
 unfold nodeV
 have c97 := s96.n0.2.k5
 have cb99 := Kp.blk s96.kp hbox hBp
 have cb99o := cb99.one
 have cb99l := cb99.lt
 go_wp2_with fail
 clear c97 cb99 cb99o cb99l
 have s100 := s96.p0 (.int .i64 k80) (.string nm81) (.int .i64 num82) (.int .i64 a83) (.slice so85 ts84.length sc86)
 exact bodyPost_ret (res5 Tryz.results60 rfl s100.n0.2) rfl ⟨.ok (HR.out) rfl (s100.treeOf (sv := .slice so85 ts84.length sc86) (by simp)) s100.ps (by have := le91.out; omega),s100.kp⟩
theorem enters_module2 (B : Nat) (w : World) : (callFunc 60 #[.pointer (some ⟨B,0,none⟩)]).run Tryz.prog w = .ok (.enter 60 #[.pointer (some ⟨B,0,none⟩)]) w := by kernel_rfl
theorem pmodule3_any {w : World} {p T : Nat} {l : List Sc.Tok} {i d : Nat} (h : PS w p T l i d) (B : Nat) (hbox : Blk w B 62 #[.pointer (some ⟨p,0,none⟩)]) (hBp : B ≠ p) : Calls Tryz.prog 62 #[.pointer (some ⟨B,0,none⟩)] w fun e w' =>
  PT (fun b => w.heap.size ≤ b) p T l i d (Ps.declared l 6 ⟨#[58]⟩ (Ps.typeName l) i) e w' ∧ Kp w.heap.size p w w' := by
 obtain ⟨r,hr⟩ : ∃ r,r = Ps.declared l 6 ⟨#[58]⟩ (Ps.typeName l) i := ⟨_,rfl⟩
 rw [← hr]
 have HR := Lib.hid hr
 clear hr
 have hmf : ∀ (fn : Fn) (first cap : Array Value) (w : World),(Instr.makeFunc fn first cap).run Tryz.prog w = .ok (.func fn first cap) w := fun _ _ _ _ => rfl
 have hbo := hbox.one
 have hbl := hbox.lt
 go_enter Tryz.func62,Tryz.ntmps62
 go_wp2_with fail
 clear hbo hbl
 have s101 := (St.start h).allocAt (w.heap.size) 25 #[.int .i64 0,.string ⟨#[]⟩,.int .i64 0,.int .i64 0,.slice none 0 0] (by simp)
 replace HR := step_tail HR
 refine (pdeclared_any s101.ps 6 ⟨#[58]⟩ (by decide) _ _ (clo_typeName _ p T l d)).mono ?_
 rintro e w114 ⟨ht115,hk116⟩
 rcases ht115.or with ⟨n,a,hr117,g,rfl,hg⟩ | ⟨k102,nm103,num104,a105,ts106,so107,sc108,i109,hn110,rfl,hrow111,hp112,le113⟩
 ·exact ⟨rfl,.bad (step_bad HR hr117) ⟨g,rfl,hg⟩,s101.pan hk116⟩
 clear ht115
 replace HR := step_ok HR hn110
 have le113 := Lib.hid le113
 have s118 := s101.callKeep hk116 hp112 hrow111
 unfold nodeV
 have c119 := s118.n0.2.k5
 have cb121 := Kp.blk s118.kp hbox hBp
 have cb121o := cb121.one
 have cb121l := cb121.lt
 go_wp2_with fail
 clear c119 cb121 cb121o cb121l
 have s122 := s118.p0 (.int .i64 k102) (.string nm103) (.int .i64 num104) (.int .i64 a105) (.slice so107 ts106.length sc108)
 exact bodyPost_ret (res5 Tryz.results62 rfl s122.n0.2) rfl ⟨.ok (HR.out) rfl (s122.treeOf (sv := .slice so107 ts106.length sc108) (by simp)) s122.ps (by have := le113.out; omega),s122.kp⟩
theorem enters_module3 (B : Nat) (w : World) : (callFunc 62 #[.pointer (some ⟨B,0,none⟩)]).run Tryz.prog w = .ok (.enter 62 #[.pointer (some ⟨B,0,none⟩)]) w := by kernel_rfl
end Go.Proofs.YtneohanphabneaaGreatDoor
