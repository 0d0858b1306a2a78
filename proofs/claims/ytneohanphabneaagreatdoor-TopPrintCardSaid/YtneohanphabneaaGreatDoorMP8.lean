/-
  Contracts of the program's parser: a term, a sum.
-/
import Derived.Test.YtneohanphabneaaGreatDoorMSame
namespace Go.Proofs.YtneohanphabneaaGreatDoor
set_option maxRecDepth 100000
set_option maxHeartbeats 1000000
open Go.RowKit Ps
theorem enters_factor (p : Nat) (w : World) : (callFunc 186 #[pp p]).run Tryz.prog w = .ok (.enter 186 #[pp p]) w := by kernel_rfl
theorem clo_factor (w : World) (p T : Nat) (l : List Sc.Tok) (d : Nat) (f : List Sc.Tok → Nat → R Tree) (h : CT 186 d f) : Clo w p T l d (.func (.func 186) #[pp p] #[]) (f l) := clo_of (enters_factor p) fun u j _ hp => h u p T l j hp
theorem pterm_any {w : World} {p T : Nat} {l : List Sc.Tok} {i d : Nat} (h : PS w p T l i d) (fac : List Sc.Tok → Nat → R Tree) (hfac : CT 186 d fac) : Calls Tryz.prog 161 #[pp p] w fun e w' =>
  PT (fun b => w.heap.size ≤ b) p T l i d (Ps.term l (fac l) i) e w' ∧ Kp w.heap.size p w w' := by
 obtain ⟨r,hr⟩ : ∃ r,r = Ps.term l (fac l) i := ⟨_,rfl⟩
 rw [← hr]
 unfold Ps.term at hr
 have HR := Lib.hid hr
 clear hr
 have hmf : ∀ (fn : Fn) (first cap : Array Value) (w : World),(Instr.makeFunc fn first cap).run Tryz.prog w = .ok (.func fn first cap) w := fun _ _ _ _ => rfl
 unfold pp
 go_enter Tryz.func161,Tryz.ntmps161
 go_wp2_with fail
 have s1 := (St.start h).allocAt (w.heap.size) 25 #[.int .i64 0,.string ⟨#[]⟩,.int .i64 0,.int .i64 0,.slice none 0 0] (by simp)
 refine (hfac _ _ _ _ _ s1.ps).mono ?_
 rintro e w14 ⟨ht15,hk16⟩
 rcases ht15.or with ⟨n,a,hr17,g,rfl,hg⟩ | ⟨k2,nm3,num4,a5,ts6,so7,sc8,i9,hn10,rfl,hrow11,hp12,le13⟩
 ·exact ⟨rfl,.bad (step_bad HR hr17) ⟨g,rfl,hg⟩,s1.pan hk16⟩
 clear ht15
 replace HR := step_ok HR hn10
 have le13 := Lib.hid le13
 have s18 := s1.callKeep hk16 hp12 hrow11
 unfold nodeV
 go_wp2_with fail
 replace HR := step_tail HR
 refine (pchain_any s18.ps s18.farX k2 nm3 num4 a5 so7 ts6.length sc8 ts6 (s18.rowX (by simp)) 2 (by decide) _ _ (clo_factor _ p T l d fac hfac)).mono ?_
 rintro e w31 ⟨ht32,hk33⟩
 rcases ht32.or with ⟨n,a,hr34,g,rfl,hg⟩ | ⟨k19,nm20,num21,a22,ts23,so24,sc25,i26,hn27,rfl,hrow28,hp29,le30⟩
 ·exact ⟨rfl,.bad (step_bad HR hr34) ⟨g,rfl,hg⟩,s18.pan hk33⟩
 clear ht32
 replace HR := step_ok HR hn27
 have le30 := Lib.hid le30
 have s35 := s18.callKeepX hk33 hp29 hrow28
 unfold nodeV
 have c36 := s35.n0.2.k5
 go_wp2_with fail
 clear c36
 have s38 := s35.p0 (.int .i64 k19) (.string nm20) (.int .i64 num21) (.int .i64 a22) (.slice so24 ts23.length sc25)
 exact bodyPost_ret (res5 Tryz.results161 rfl s38.n0.2) rfl ⟨.ok (HR.out) rfl (s38.treeOf (sv := .slice so24 ts23.length sc25) (by simp)) s38.ps (by have := le13.out; have := le30.out; omega),s38.kp⟩
theorem enters_term (p : Nat) (w : World) : (callFunc 161 #[pp p]).run Tryz.prog w = .ok (.enter 161 #[pp p]) w := by kernel_rfl
theorem clo_term (w : World) (p T : Nat) (l : List Sc.Tok) (d : Nat) (f : List Sc.Tok → Nat → R Tree) (h : CT 161 d f) : Clo w p T l d (.func (.func 161) #[pp p] #[]) (f l) := clo_of (enters_term p) fun u j _ hp => h u p T l j hp
theorem psimple_any {w : World} {p T : Nat} {l : List Sc.Tok} {i d : Nat} (h : PS w p T l i d) (fac : List Sc.Tok → Nat → R Tree) (hfac : CT 186 d fac) : Calls Tryz.prog 114 #[pp p] w fun e w' =>
  PT (fun b => w.heap.size ≤ b) p T l i d (Ps.simple l (fac l) i) e w' ∧ Kp w.heap.size p w w' := by
 obtain ⟨r,hr⟩ : ∃ r,r = Ps.simple l (fac l) i := ⟨_,rfl⟩
 rw [← hr]
 unfold Ps.simple at hr
 have HR := Lib.hid hr
 clear hr
 have hmf : ∀ (fn : Fn) (first cap : Array Value) (w : World),(Instr.makeFunc fn first cap).run Tryz.prog w = .ok (.func fn first cap) w := fun _ _ _ _ => rfl
 have hterm : CT 161 d (fun l => Ps.term l (fac l)) := fun _ _ _ _ _ h => pterm_any h fac hfac
 unfold pp
 go_enter Tryz.func114,Tryz.ntmps114
 go_wp2_with fail
 have s39 := (St.start h).allocAt (w.heap.size) 25 #[.int .i64 0,.string ⟨#[]⟩,.int .i64 0,.int .i64 0,.slice none 0 0] (by simp)
 refine (pnode_any s39.ps 35).mono ?_
 rintro e w40 ⟨rfl,hb41⟩
 have s42 := s39.below hb41
 unfold nodeV
 go_wp2_with fail
 have s43 := s42.allocAt (w40.heap.size) 25 #[.int .i64 35,.string ⟨#[]⟩,.int .i64 0,.int .i64 (Ps.A l i),.slice none 0 0] (by simp)
 refine (ptake_or s43.ps (⟨#[45]⟩) (by decide)).mono ?_
 rintro e w44 (⟨hi45,rfl,hp46,hk47⟩ | ⟨hi45,rfl,hp46,hk47⟩)
 ·have s48 := s43.call hk47 hp46
  replace HR := step_else HR hi45
  go_wp2_with fail
  refine (hterm _ _ _ _ _ s48.ps).mono ?_
  rintro e w61 ⟨ht62,hk63⟩
  rcases ht62.or with ⟨n,a,hr64,g,rfl,hg⟩ | ⟨k49,nm50,num51,a52,ts53,so54,sc55,i56,hn57,rfl,hrow58,hp59,le60⟩
  ·exact ⟨rfl,.bad (step_bad HR hr64) ⟨g,rfl,hg⟩,s48.pan hk63⟩
  clear ht62
  replace HR := step_ok HR hn57
  have le60 := Lib.hid le60
  have s65 := s48.callKeep hk63 hp59 hrow58
  unfold nodeV
  go_wp2_with fail
  replace HR := step_tail HR
  refine (pchain_any s65.ps s65.farX k49 nm50 num51 a52 so54 ts53.length sc55 ts53 (s65.rowX (by simp)) 1 (by decide) _ _ (clo_term _ p T l d _ hterm)).mono ?_
  rintro e w78 ⟨ht79,hk80⟩
  rcases ht79.or with ⟨n,a,hr81,g,rfl,hg⟩ | ⟨k66,nm67,num68,a69,ts70,so71,sc72,i73,hn74,rfl,hrow75,hp76,le77⟩
  ·exact ⟨rfl,.bad (step_bad HR hr81) ⟨g,rfl,hg⟩,s65.pan hk80⟩
  clear ht79
  replace HR := step_ok HR hn74
  have le77 := Lib.hid le77
  have s82 := s65.callKeepX hk80 hp76 hrow75
  unfold nodeV
  have c83 := s82.n1.2.k5
  go_wp2_with fail
  clear c83
  have s85 := s82.p1 (.int .i64 k66) (.string nm67) (.int .i64 num68) (.int .i64 a69) (.slice so71 ts70.length sc72)
  exact bodyPost_ret (res5 Tryz.results114 rfl s85.n1.2) rfl ⟨.ok (HR.out) rfl (s85.treeOf (sv := .slice so71 ts70.length sc72) (by simp)) s85.ps (by have := le60.out; have := le77.out; omega),s85.kp⟩
 ·have s86 := s43.call hk47 hp46
  replace HR := step_if HR hi45
  go_wp2_with fail
  refine (hterm _ _ _ _ _ s86.ps).mono ?_
  rintro e w99 ⟨ht100,hk101⟩
  rcases ht100.or with ⟨n,a,hr102,g,rfl,hg⟩ | ⟨k87,nm88,num89,a90,ts91,so92,sc93,i94,hn95,rfl,hrow96,hp97,le98⟩
  ·exact ⟨rfl,.bad (step_bad HR hr102) ⟨g,rfl,hg⟩,s86.pan hk101⟩
  clear ht100
  replace HR := step_ok HR hn95
  have le98 := Lib.hid le98
  have s103 := s86.callKeep hk101 hp97 hrow96
  unfold nodeV
  have c104 := s103.n0.2.k5
  go_wp2_with fail
  clear c104
  have s106 := s103.s04 (.slice (some ⟨w99.heap.size,0,none⟩) 1 1)
  have s107 := s106.built1 (k0 := k87) (nm0 := nm88) (num0 := num89) (a0 := a90) (sv0 := .slice so92 ts91.length sc93) (ts0 := ts91) (by simp) (w99.heap.size) (by simp)
  replace HR := step_tail HR
  refine (pchain_any s107.ps s107.farX 35 ⟨#[]⟩ 0 (Ps.A l i) (some ⟨w99.heap.size,0,none⟩) 1 1 [Tree.node k87 nm88 num89 a90 ts91] (s107.rowX (by simp)) 1 (by decide) _ _ (clo_term _ p T l d _ hterm)).mono ?_
  rintro e w120 ⟨ht121,hk122⟩
  rcases ht121.or with ⟨n,a,hr123,g,rfl,hg⟩ | ⟨k108,nm109,num110,a111,ts112,so113,sc114,i115,hn116,rfl,hrow117,hp118,le119⟩
  ·exact ⟨rfl,.bad (step_bad HR hr123) ⟨g,rfl,hg⟩,s107.pan hk122⟩
  clear ht121
  replace HR := step_ok HR hn116
  have le119 := Lib.hid le119
  have s124 := s107.callKeepX hk122 hp118 hrow117
  unfold nodeV
  have c125 := s124.n1.2.k5
  go_wp2_with fail
  clear c125
  have s127 := s124.p1 (.int .i64 k108) (.string nm109) (.int .i64 num110) (.int .i64 a111) (.slice so113 ts112.length sc114)
  exact bodyPost_ret (res5 Tryz.results114 rfl s127.n1.2) rfl ⟨.ok (HR.out) rfl (s127.treeOf (sv := .slice so113 ts112.length sc114) (by simp)) s127.ps (by have := le98.out; have := le119.out; omega),s127.kp⟩
set_option maxRecDepth 100000
set_option maxHeartbeats 1000000
open Go.RowKit Ps
theorem enters_expr (p : Nat) (w : World) : (callFunc 59 #[pp p]).run Tryz.prog w = .ok (.enter 59 #[pp p]) w := by kernel_rfl
theorem clo_expr (w : World) (p T : Nat) (l : List Sc.Tok) (d : Nat) (f : List Sc.Tok → Nat → R Tree) (h : CT 59 d f) : Clo w p T l d (.func (.func 59) #[pp p] #[]) (f l) := clo_of (enters_expr p) fun u j _ hp => h u p T l j hp
theorem pargs_any {w : World} {p T : Nat} {l : List Sc.Tok} {i d : Nat} (h : PS w p T l i d) (ex : List Sc.Tok → Nat → R Tree) (hex : CT 59 d ex) : Calls Tryz.prog 166 #[pp p] w fun e w' =>
  PR (fun b => w.heap.size ≤ b) p T l i d (Ps.args l (ex l) i) e w' ∧ Kp w.heap.size p w w' := by
 obtain ⟨r,hr⟩ : ∃ r,r = Ps.args l (ex l) i := ⟨_,rfl⟩
 rw [← hr]
 unfold Ps.args at hr
 have HR := Lib.hid hr
 clear hr
 unfold pp
 go_enter Tryz.func166,Tryz.ntmps166
 go_wp2_with fail
 have s1 := St.start h
 refine (ptake_or s1.ps (⟨#[40]⟩) (by decide)).mono ?_
 rintro e w2 (⟨hi3,rfl,hp4,hk5⟩ | ⟨hi3,rfl,hp4,hk5⟩)
 ·have s6 := s1.call hk5 hp4
  replace HR := step_else HR hi3
  go_wp2_with fail
  go_ret
  exact ⟨.ok (HR.out.trans rfl) rfl (.nil _ _) s6.ps (by omega),s6.kp⟩
 ·have s7 := s1.call hk5 hp4
  replace HR := step_if HR hi3
  go_wp2_with fail
  refine (ptake_or s7.ps (⟨#[41]⟩) (by decide)).mono ?_
  rintro e w8 (⟨hi9,rfl,hp10,hk11⟩ | ⟨hi9,rfl,hp10,hk11⟩)
  ·have s12 := s7.call hk11 hp10
   replace HR := step_else HR hi9
   go_wp2_with fail
   go_loopg [3,4] (l.length + 1) (fun F v bb wr => ∃ (j Fu : Nat) (acc : List Tree) (go : Option Addr) (gn gc : Nat) (b : Bool),v = .slice go gn gc ∧ bb = .bool b ∧ (b = true → l.length - j ≤ Fu ∧ Fu < F ∧ acc.length ≤ j) ∧ i ≤ j ∧ St w wr p T l j d [] (.slice go gn gc,acc) [] ∧
    Hid (r = (if b = true then argsLoop l (ex l) Fu j acc else .ok acc j).bind fun ts i1 => (must l ⟨#[41]⟩ i1).bind fun _ i2 => R.ok ts i2))
   case atStart => exact ⟨(i + 1),l.length,[],none,0,0,true,rfl,rfl,fun _ => ⟨by omega,by omega,Nat.zero_le _⟩,by omega,s12,HR⟩
   case round =>
    obtain ⟨j,Fu,acc,go,gn,gc,b,rfl,rfl,hF,hij,s4,HR⟩ := hrel
    have hjl := s4.ps.hi
    cases b with
    | false =>
     clear hF
     replace HR := step_elseB HR rfl
     replace HR : Hid (r = (must l ⟨#[41]⟩ j).bind fun _ i2 => R.ok acc i2) := HR
     go_wp2_with fail
     refine (pmust_any s4.ps (⟨#[41]⟩) (by decide)).mono ?_
     rintro e w16 ⟨ht17,hk18⟩
     rcases ht17.or with ⟨n,a,hr19,g,rfl,hg⟩ | ⟨i13,hn14,rfl,hp15⟩
     ·exact ⟨rfl,.bad (step_bad HR hr19) ⟨g,rfl,hg⟩,s4.pan hk18⟩
     clear ht17
     replace HR := step_ok HR hn14
     have le20 := Lib.hid (Ps.must_ok hn14)
     have s21 := s4.call hk18 hp15
     go_wp2_with fail
     go_ret
     have s22 := s21.grown
     exact ⟨.ok (HR.out.trans rfl) rfl (s22.rowOf (sv := .slice go gn gc) (by simp)) s22.ps (by have := le20.out; omega),s22.kp⟩
    | true =>
     obtain ⟨hF1,hF2,hacc⟩ := hF rfl
     clear hF
     replace HR := step_ifB HR rfl
     cases Fu with
     | zero => omega
     | succ Fu =>
      unfold argsLoop at HR
      replace HR := step_as HR
      go_wp2_with fail
      refine (hex _ _ _ _ _ s4.ps).mono ?_
      rintro e w35 ⟨ht36,hk37⟩
      rcases ht36.or with ⟨n,a,hr38,g,rfl,hg⟩ | ⟨k23,nm24,num25,a26,ts27,so28,sc29,i30,hn31,rfl,hrow32,hp33,le34⟩
      ·exact ⟨rfl,.bad (step_bad HR hr38) ⟨g,rfl,hg⟩,s4.pan hk37⟩
      clear ht36
      replace HR := step_ok HR hn31
      have le34 := Lib.hid le34
      have s39 := s4.callKeep hk37 hp33 hrow32
      unfold nodeV
      go_wp2_with (first | (at_builtin; refine s39.app1L (k0 := k23) (nm0 := nm24) (num0 := num25) (a0 := a26) (sv0 := .slice so28 ts27.length sc29) (ts0 := ts27) (by simp) rfl (.tmp 15) (.tmp 18) rfl rfl rfl (by have := s39.ps.small; omega) ?_; intro go40 gc41 w42 s43) | fail)
      refine (ptake_or s43.ps (⟨#[44]⟩) (by decide)).mono ?_
      rintro e w44 (⟨hi45,rfl,hp46,hk47⟩ | ⟨hi45,rfl,hp46,hk47⟩)
      ·have s48 := s43.call hk47 hp46
       replace HR := step_elseB HR hi45
       go_wp2_with fail
       go_roundg (Fu + 1)
       case measure => omega
       case rel => have a0 := le34.out; exact ⟨i30,Fu,acc ++ [Tree.node k23 nm24 num25 a26 ts27],go40,acc.length + 1,gc41,false,rfl,rfl,(fun h => by cases h),by omega,s48.rowsOf (fun _ h => by cases h),HR⟩
      ·have s49 := s43.call hk47 hp46
       replace HR := step_ifB HR hi45
       go_wp2_with fail
       go_roundg (Fu + 1)
       case measure => omega
       case rel => have a0 := le34.out; exact ⟨(i30 + 1),Fu,acc ++ [Tree.node k23 nm24 num25 a26 ts27],go40,acc.length + 1,gc41,true,rfl,rfl,fun _ => ⟨by omega,by omega,by simp <;> omega⟩,by omega,s49.rowsOf (fun _ h => by cases h),HR⟩
  ·have s50 := s7.call hk11 hp10
   replace HR := step_if HR hi9
   go_wp2_with fail
   go_ret
   exact ⟨.ok (HR.out.trans rfl) rfl (.nil _ _) s50.ps (by omega),s50.kp⟩
theorem pbuilt_any {w : World} {p T : Nat} {l : List Sc.Tok} {i d : Nat} (h : PS w p T l i d) (k0 num0 at_ kind : Nat) (fv : Value) (f : Nat → R Tree) (hf : Clo w p T l d fv f) (hnum : num0 = 0) : Calls Tryz.prog 164 #[pp p,nodeV k0 ⟨#[]⟩ num0 at_ (.slice none 0 0),.int .i64 kind,fv] w fun e w' =>
  PT (fun b => w.heap.size ≤ b) p T l i d (Ps.built l kind at_ f i) e w' ∧ Kp w.heap.size p w w' := by
 obtain ⟨r,hr⟩ : ∃ r,r = Ps.built l kind at_ f i := ⟨_,rfl⟩
 rw [← hr]
 unfold Ps.built at hr
 have HR := Lib.hid hr
 clear hr
 subst hnum
 obtain ⟨K,fs,cap,rfl,hin,hcall⟩ := hf
 have HC := Lib.hid hcall
 clear hcall
 unfold nodeV
 unfold pp
 go_enter Tryz.func164,Tryz.ntmps164
 go_wp2_with fail
 have s51 := (St.start h).allocAt (w.heap.size) 25 #[.int .i64 kind,.string ⟨#[]⟩,.int .i64 (0 : Nat),.int .i64 at_,.slice none 0 0] (by simp)
 have s52 := s51.allocAt (w.heap.size + 1) 25 #[.int .i64 0,.string ⟨#[]⟩,.int .i64 0,.int .i64 0,.slice none 0 0] (by simp)
 refine (pmust_any s52.ps (⟨#[40]⟩) (by decide)).mono ?_
 rintro e w56 ⟨ht57,hk58⟩
 rcases ht57.or with ⟨n,a,hr59,g,rfl,hg⟩ | ⟨i53,hn54,rfl,hp55⟩
 ·exact ⟨rfl,.bad (step_bad HR hr59) ⟨g,rfl,hg⟩,s52.pan hk58⟩
 clear ht57
 replace HR := step_ok HR hn54
 have le60 := Lib.hid (Ps.must_ok hn54)
 have s61 := s52.call hk58 hp55
 go_wp2_with fail
 refine (HC.out _ _ s61.kp s61.ps).mono ?_
 rintro e w74 ⟨ht75,hk76⟩
 rcases ht75.or with ⟨n,a,hr77,g,rfl,hg⟩ | ⟨k62,nm63,num64,a65,ts66,so67,sc68,i69,hn70,rfl,hrow71,hp72,le73⟩
 ·exact ⟨rfl,.bad (step_bad HR hr77) ⟨g,rfl,hg⟩,s61.pan hk76⟩
 clear ht75
 replace HR := step_ok HR hn70
 have le73 := Lib.hid le73
 have s78 := s61.callKeep hk76 hp72 hrow71
 unfold nodeV
 have c79 := s78.n1.2.k5
 go_wp2_with fail
 clear c79
 have s81 := s78.s14 (.slice (some ⟨w74.heap.size,0,none⟩) 1 1)
 have s82 := s81.built1 (k0 := k62) (nm0 := nm63) (num0 := num64) (a0 := a65) (sv0 := .slice so67 ts66.length sc68) (ts0 := ts66) (by simp) (w74.heap.size) (by simp)
 refine (pmust_any s82.ps (⟨#[41]⟩) (by decide)).mono ?_
 rintro e w86 ⟨ht87,hk88⟩
 rcases ht87.or with ⟨n,a,hr89,g,rfl,hg⟩ | ⟨i83,hn84,rfl,hp85⟩
 ·exact ⟨rfl,.bad (step_bad HR hr89) ⟨g,rfl,hg⟩,s82.pan hk88⟩
 clear ht87
 replace HR := step_ok HR hn84
 have le90 := Lib.hid (Ps.must_ok hn84)
 have s91 := s82.call hk88 hp85
 have c92 := s91.n0.2.k5
 have c94 := s91.n1.2.k5
 have d96 := s91.d01
 go_wp2_with fail
 clear c92 c94 d96
 have s97 := s91.p0 (.int .i64 kind) (.string ⟨#[]⟩) (.int .i64 0) (.int .i64 at_) (.slice (some ⟨w74.heap.size,0,none⟩) 1 1)
 exact bodyPost_ret (res5 Tryz.results164 rfl s97.n0.2) rfl ⟨.ok (HR.out.trans rfl) rfl (s97.treeOf (sv := .slice (some ⟨w74.heap.size,0,none⟩) 1 1) (by simp)) s97.ps (by have := le60.out; have := le73.out; have := le90.out; omega),s97.kp⟩
set_option maxRecDepth 100000
set_option maxHeartbeats 1000000
open Go.RowKit Ps
theorem pover_bad {w u : World} {p T : Nat} {l : List Sc.Tok} {j d : Nat} {B1 B2 B3 B4 B5 st at_ k num : Nat} {nm : ByteArray} {so : Option Addr} {sn sc : Nat} {rs : List Rw} (h : St w u p T l j d [(B5,3,#[.int .i64 (st : Nat)]),(B4,3,#[.int .i64 (at_ : Nat)]),(B3,25,#[.int .i64 (k : Nat),.string nm,.int .i64 (num : Nat),.int .i64 (at_ : Nat),.slice so sn sc]),(B2,25,#[.int .i64 0,.string ⟨#[]⟩,.int .i64 0,.int .i64 0,.slice none 0 0]),(B1,62,#[.pointer (some ⟨p,0,none⟩)])] g0 rs) (hst : st = 20) (kind : Nat) (nm' : ByteArray) (lo : Option Addr) (ln lc : Nat) : Calls Tryz.prog 189 #[.int .i64 kind,.string nm',.slice lo ln lc,.pointer (some ⟨B5,0,none⟩),.pointer (some ⟨B1,0,none⟩),.pointer (some ⟨B4,0,none⟩),.pointer (some ⟨B3,0,none⟩)] u fun e u' =>
  Pan u' p 3 (Ps.A l j) e ∧ Kp w.heap.size p w u' := by
 subst hst
 have q0 := h.n0.2.one
 have q1 := h.n0.2.lt
 have q2 := h.n4.2.one
 have q3 := h.n4.2.lt
 have q4 := h.d04
 go_enter Tryz.func189,Tryz.ntmps189
 go_wp2_with fail
 clear q0 q1 q2 q3 q4
 have s1 := h.o0 (.int .i64 21)
 refine (pfail_any s1.ps 3).mono ?_
 rintro e w2 ⟨⟨g,rfl,hg⟩,hk3⟩
 exact ⟨rfl,⟨g,rfl,hg⟩,s1.pan hk3⟩
theorem pover_ok {w u : World} {p T : Nat} {l : List Sc.Tok} {j d : Nat} {B1 B2 B3 B4 B5 st at_ k num : Nat} {nm : ByteArray} {so : Option Addr} {sn sc : Nat} {ts us : List Tree} {rs : List Rw} (h : St w u p T l j d [(B5,3,#[.int .i64 (st : Nat)]),(B4,3,#[.int .i64 (at_ : Nat)]),(B3,25,#[.int .i64 (k : Nat),.string nm,.int .i64 (num : Nat),.int .i64 (at_ : Nat),.slice so sn sc]),(B2,25,#[.int .i64 0,.string ⟨#[]⟩,.int .i64 0,.int .i64 0,.slice none 0 0]),(B1,62,#[.pointer (some ⟨p,0,none⟩)])] g0 rs) (hm : (.slice so sn sc,ts) ∈ rs) (hst : st < 20) (hul : us.length ≤ 1000) (kind : Nat) (nm' : ByteArray) (lo : Option Addr) (ln lc : Nat) (hl : (.slice lo ln lc,us) ∈ rs) : Calls Tryz.prog 189 #[.int .i64 kind,.string nm',.slice lo ln lc,.pointer (some ⟨B5,0,none⟩),.pointer (some ⟨B1,0,none⟩),.pointer (some ⟨B4,0,none⟩),.pointer (some ⟨B3,0,none⟩)] u fun e u' =>
  e = .returned (.tuple #[]) ∧ ∃ go gn gc,St w u' p T l j d [(B5,3,#[.int .i64 (st + 1 : Nat)]),(B4,3,#[.int .i64 (at_ : Nat)]),(B3,25,#[.int .i64 (kind : Nat),.string nm',.int .i64 (0 : Nat),.int .i64 (at_ : Nat),.slice go gn gc]),(B2,25,#[.int .i64 0,.string ⟨#[]⟩,.int .i64 0,.int .i64 0,.slice none 0 0]),(B1,62,#[.pointer (some ⟨p,0,none⟩)])] g0 [(.slice go gn gc,Tree.node k nm num at_ ts :: us)] := by
 have q0 := h.n0.2.one
 have q1 := h.n0.2.lt
 have q2 := h.n4.2.one
 have q3 := h.n4.2.lt
 have q4 := h.d04
 go_enter Tryz.func189,Tryz.ntmps189
 go_wp2_with fail
 clear q0 q1 q2 q3 q4
 have s4 := h.o0 (.int .i64 (st + 1 : Nat))
 refine Ch.wp_region_run (fun u => Blk u B4 3 #[.int .i64 (at_ : Nat)] ∧ Blk u B3 25 #[.int .i64 (k : Nat),.string nm,.int .i64 (num : Nat),.int .i64 (at_ : Nat),.slice so sn sc]) [2,3] [0,1,2,3,5] [4,6,7,8] [8] (by kernel_rfl) (by kernel_rfl) (fun _ _ d _ _ h => by cases d <;> exact h) (⟨s4.n1.2,s4.n2.2⟩) ?_
 refine Ch.take0 (v := ?v5) rfl (by rfl) ?y6 ?_
 case y6 => intro u; go_simp; rfl
 simp only [putq]
 refine Ch.take1 (v := ?v7) rfl (by rfl) ?y8 ?_
 case y8 => intro u; go_simp; rfl
 simp only [putq]
 refine Ch.load2 (v := ?v9) rfl (by rfl) ?y10 ?_
 case y10 => intro u hC; have c5 := Blk.one hC.1; go_simp; rfl
 simp only [putq]
 refine Ch.load3 (v := ?v11) rfl (by rfl) ?y12 ?_
 case y12 => intro u hC; have c5 := Blk.five hC.2; go_simp; rfl
 simp only [putq]
 refine Ch.take5 (v := ?v13) rfl (by rfl) ?y14 ?_
 case y14 => intro u; go_simp; rfl
 simp only [putq]
 refine Ch.mid4 (by rfl) (fun K hK => ?_)
 go_simp
 have s15 := s4.builtG1 (k0 := k) (nm0 := nm) (num0 := num) (a0 := at_) (sv0 := .slice so sn sc) (ts0 := ts) hm (u.heap.size) (by simp)
 have s16 := s15.drew
 refine hK _ _ (⟨s16.n1.2,s16.n2.2⟩) ?_
 clear hK K
 try simp only [putq]
 refine Ch.mid6 (by rfl) (fun K hK => ?_)
 refine s16.appAll hl (.tmp 20) (.tmp 21) rfl rfl rfl (Nat.succ_pos _) (by show 1 + us.length ≤ 1000000; omega) (fun go17 gn18 gc19 w20 s21 => ?_)
 refine hK _ _ (⟨s21.n1.2,s21.n2.2⟩) ?_
 clear hK K
 try simp only [putq]
 refine Ch.mid7 (by rfl) (fun K hK => ?_)
 go_simp
 refine hK _ _ (⟨s21.n1.2,s21.n2.2⟩) ?_
 clear hK K
 try simp only [putq]
 have c7 := s21.n2.2.five
 refine Ch.post8 rfl (by rfl) (fun K hK => ?_)
 go_simp
 refine hK _ _ ?_
 clear hK K
 try simp only [putq]
 refine Ch.run_end ?_
 have s22 := s21.p2 (.int .i64 (kind : Nat)) (.string nm') (.int .i64 (0 : Nat)) (.int .i64 (at_ : Nat)) (.slice go17 gn18 gc19)
 have s23 := s22.grown
 go_wp2_with fail
 go_end0
 exact ⟨rfl,go17,gn18,gc19,s23.rowsOf (fun _ h => by simp at h; simp [h])⟩
theorem pdesignator_any {w : World} {p T : Nat} {l : List Sc.Tok} {i d : Nat} (h : PS w p T l i d) (ex : List Sc.Tok → Nat → R Tree) (hex : CT 59 d ex) : Calls Tryz.prog 165 #[pp p] w fun e w' =>
  PT (fun b => w.heap.size ≤ b) p T l i d (Ps.desig l (ex l) i) e w' ∧ Kp w.heap.size p w w' := by
 obtain ⟨r,hr⟩ : ∃ r,r = Ps.desig l (ex l) i := ⟨_,rfl⟩
 rw [← hr]
 unfold Ps.desig at hr
 have HR := Lib.hid hr
 clear hr
 have hmf : ∀ (fn : Fn) (first cap : Array Value) (w : World),(Instr.makeFunc fn first cap).run Tryz.prog w = .ok (.func fn first cap) w := fun _ _ _ _ => rfl
 unfold pp
 go_enter Tryz.func165,Tryz.ntmps165
 go_wp2_with fail
 have s24 := (St.start h).allocAt (w.heap.size) 62 #[.pointer (some ⟨p,0,none⟩)] (by simp)
 have s25 := s24.allocAt (w.heap.size + 1) 25 #[.int .i64 0,.string ⟨#[]⟩,.int .i64 0,.int .i64 0,.slice none 0 0] (by simp)
 refine (pnode_any s25.ps 24).mono ?_
 rintro e w26 ⟨rfl,hb27⟩
 have s28 := s25.below hb27
 unfold nodeV
 have c29 := s28.n1.2.k1
 go_wp2_with fail
 clear c29
 have s31 := s28.allocAt (w26.heap.size) 25 #[.int .i64 24,.string ⟨#[]⟩,.int .i64 0,.int .i64 (Ps.A l i),.slice none 0 0] (by simp)
 have s32 := s31.allocAt (w26.heap.size + 1) 3 #[.int .i64 (Ps.A l i)] (by simp)
 refine (pname_any s32.ps).mono ?_
 rintro e w37 ⟨ht38,hk39⟩
 rcases ht38.or with ⟨n,a,hr40,g,rfl,hg⟩ | ⟨nm33,i34,hn35,rfl,hp36⟩
 ·exact ⟨rfl,.bad (step_bad HR hr40) ⟨g,rfl,hg⟩,s32.pan hk39⟩
 clear ht38
 replace HR := step_ok HR hn35
 have le41 := Lib.hid (Ps.name_ok hn35).1
 have s42 := s32.call hk39 hp36
 have c43 := s42.n1.2.k5
 go_wp2_with fail
 clear c43
 have s45 := s42.s11 (.string nm33)
 have s46 := s45.allocAt (w37.heap.size) 3 #[.int .i64 0] (by simp)
 go_loopg [] 20 (fun F wr => ∃ (j k : Nat) (nm : ByteArray) (num : Nat) (so : Option Addr) (sn sc : Nat) (ts : List Tree),F ≤ 20 ∧ i ≤ j ∧ St w wr p T l j d [(w37.heap.size,3,#[.int .i64 (20 - F : Nat)]),(w26.heap.size + 1,3,#[.int .i64 (Ps.A l i)]),(w26.heap.size,25,#[.int .i64 (k : Nat),.string nm,.int .i64 (num : Nat),.int .i64 (Ps.A l i : Nat),.slice so sn sc]),(w.heap.size + 1,25,#[.int .i64 0,.string ⟨#[]⟩,.int .i64 0,.int .i64 0,.slice none 0 0]),(w.heap.size,62,#[.pointer (some ⟨p,0,none⟩)])] g0 [(.slice so sn sc,ts)] ∧
  Hid (r = desigLoop l (ex l) (Ps.A l i) F (.node k nm num (Ps.A l i) ts) j))
 case atStart => have a0 := le41.out; exact ⟨i34,24,nm33,0,none,0,0,[],by omega,by omega,s46.keepNil,HR⟩
 case round =>
  obtain ⟨j,k,nm,num,so,sn,sc,ts,hF,hij,s4,HR⟩ := hrel
  unfold desigLoop Ps.step at HR
  have c47 := s4.n4.2.k1
  go_wp2_with fail
  clear c47
  refine (ptake_or s4.ps (⟨#[46]⟩) (by decide)).mono ?_
  rintro e w49 (⟨hi50,rfl,hp51,hk52⟩ | ⟨hi50,rfl,hp51,hk52⟩)
  ·have s53 := s4.call hk52 hp51
   replace HR := step_elseB HR hi50
   have c54 := s53.n4.2.k1
   go_wp2_with fail
   clear c54
   refine (ptake_or s53.ps (⟨#[91]⟩) (by decide)).mono ?_
   rintro e w56 (⟨hi57,rfl,hp58,hk59⟩ | ⟨hi57,rfl,hp58,hk59⟩)
   ·have s60 := s53.call hk59 hp58
    replace HR := step_elseB HR hi57
    have c61 := s60.n4.2.k1
    go_wp2_with fail
    clear c61
    refine (ptake_or s60.ps (⟨#[94]⟩) (by decide)).mono ?_
    rintro e w63 (⟨hi64,rfl,hp65,hk66⟩ | ⟨hi64,rfl,hp65,hk66⟩)
    ·have s67 := s60.call hk66 hp65
     replace HR := step_elseB HR hi64
     have c68 := s67.n4.2.k1
     go_wp2_with fail
     clear c68
     refine (ptake_or s67.ps (⟨#[123]⟩) (by decide)).mono ?_
     rintro e w70 (⟨hi71,rfl,hp72,hk73⟩ | ⟨hi71,rfl,hp72,hk73⟩)
     ·have s74 := s67.call hk73 hp72
      replace HR := step_elseB HR hi71
      have c75 := s74.n2.2.k5
      have c77 := s74.n3.2.k5
      have d79 := s74.d23
      go_wp2_with fail
      clear c75 c77 d79
      have s80 := s74.p3 (.int .i64 (k : Nat)) (.string nm) (.int .i64 (num : Nat)) (.int .i64 (Ps.A l i : Nat)) (.slice so sn sc)
      exact bodyPost_ret (res5 Tryz.results165 rfl s80.n3.2) rfl ⟨.ok (HR.out.trans rfl) rfl (s80.treeOf (sv := .slice so sn sc) (by simp)) s80.ps (by omega),s80.kp⟩
     ·have s81 := s67.call hk73 hp72
      replace HR := step_as (step_ifB HR hi71)
      have c82 := s81.n4.2.k1
      go_wp2_with fail
      clear c82
      refine (ptypeName_any s81.ps).mono ?_
      rintro e w96 ⟨ht97,hk98⟩
      rcases ht97.or with ⟨n,a,hr99,g,rfl,hg⟩ | ⟨k84,nm85,num86,a87,ts88,so89,sc90,i91,hn92,rfl,hrow93,hp94,le95⟩
      ·exact ⟨rfl,.bad (step_bad HR hr99) ⟨g,rfl,hg⟩,s81.pan hk98⟩
      clear ht97
      replace HR := step_as (step_ok HR hn92)
      have le95 := Lib.hid le95
      have s100 := s81.callKeep hk98 hp94 hrow93
      unfold nodeV
      have c101 := s100.n4.2.k1
      go_wp2_with fail
      clear c101
      have s103 := s100.allocAt (w96.heap.size) 25 #[.int .i64 k84,.string nm85,.int .i64 num86,.int .i64 a87,.slice so89 ts88.length sc90] (by simp)
      refine (pmust_any s103.ps (⟨#[125]⟩) (by decide)).mono ?_
      rintro e w107 ⟨ht108,hk109⟩
      rcases ht108.or with ⟨n,a,hr110,g,rfl,hg⟩ | ⟨i104,hn105,rfl,hp106⟩
      ·exact ⟨rfl,.bad (step_bad HR hr110) ⟨g,rfl,hg⟩,s103.pan hk109⟩
      clear ht108
      replace HR := step_ok HR hn105
      have le111 := Lib.hid (Ps.must_ok hn105)
      have s112 := s103.call hk109 hp106
      have c113 := s112.n0.2.k5
      go_wp2_with fail
      clear c113
      have s115 := s112.built1 (k0 := k84) (nm0 := nm85) (num0 := num86) (a0 := a87) (sv0 := .slice so89 ts88.length sc90) (ts0 := ts88) (by simp) (w107.heap.size) (by simp)
      have s116 := s115.drop
      cases gk with
      | zero =>
       refine (pover_bad s116 (by decide) 28 (⟨#[]⟩) _ _ _).mono ?_
       rintro e w117 ⟨⟨g,rfl,hg⟩,hk118⟩
       exact ⟨rfl,.bad (HR.out.trans rfl) ⟨g,rfl,hg⟩,hk118⟩
      | succ F =>
       refine (pover_ok s116 (ts := ts) (us := [Tree.node k84 nm85 num86 a87 ts88]) (by simp) (by omega) (by simp) 28 (⟨#[]⟩) _ _ _ (List.mem_cons_self ..)).mono ?_
       rintro e w119 ⟨rfl,go121,gn122,gc123,s120⟩
       rw [show 20 - (F + 1) + 1 = 20 - F from by omega] at s120
       go_wp2_with fail
       go_roundg F
       case measure => omega
       case rel => have a0 := le95.out; have a1 := le111.out; exact ⟨i104,28,⟨#[]⟩,0,go121,gn122,gc123,_,by omega,by omega,s120,HR⟩
    ·have s124 := s60.call hk66 hp65
     replace HR := step_ifB HR hi64
     go_wp2_with fail
     have s125 := s124.keepNil
     cases gk with
     | zero =>
      refine (pover_bad s125 (by decide) 27 (⟨#[]⟩) _ _ _).mono ?_
      rintro e w126 ⟨⟨g,rfl,hg⟩,hk127⟩
      exact ⟨rfl,.bad (HR.out.trans rfl) ⟨g,rfl,hg⟩,hk127⟩
     | succ F =>
      refine (pover_ok s125 (ts := ts) (us := []) (by simp) (by omega) (by simp) 27 (⟨#[]⟩) _ _ _ (by simp)).mono ?_
      rintro e w128 ⟨rfl,go130,gn131,gc132,s129⟩
      rw [show 20 - (F + 1) + 1 = 20 - F from by omega] at s129
      go_wp2_with fail
      go_roundg F
      case measure => omega
      case rel => skip; exact ⟨(j + 1),27,⟨#[]⟩,0,go130,gn131,gc132,_,by omega,by omega,s129,HR⟩
   ·have s133 := s53.call hk59 hp58
    replace HR := step_as (step_ifB HR hi57)
    have c134 := s133.n4.2.k1
    go_wp2_with fail
    clear c134
    refine (hex _ _ _ _ _ s133.ps).mono ?_
    rintro e w148 ⟨ht149,hk150⟩
    rcases ht149.or with ⟨n,a,hr151,g,rfl,hg⟩ | ⟨k136,nm137,num138,a139,ts140,so141,sc142,i143,hn144,rfl,hrow145,hp146,le147⟩
    ·exact ⟨rfl,.bad (step_bad HR hr151) ⟨g,rfl,hg⟩,s133.pan hk150⟩
    clear ht149
    replace HR := step_as (step_ok HR hn144)
    have le147 := Lib.hid le147
    have s152 := s133.callKeep hk150 hp146 hrow145
    unfold nodeV
    have c153 := s152.n4.2.k1
    go_wp2_with fail
    clear c153
    have s155 := s152.allocAt (w148.heap.size) 25 #[.int .i64 k136,.string nm137,.int .i64 num138,.int .i64 a139,.slice so141 ts140.length sc142] (by simp)
    refine (pmust_any s155.ps (⟨#[93]⟩) (by decide)).mono ?_
    rintro e w159 ⟨ht160,hk161⟩
    rcases ht160.or with ⟨n,a,hr162,g,rfl,hg⟩ | ⟨i156,hn157,rfl,hp158⟩
    ·exact ⟨rfl,.bad (step_bad HR hr162) ⟨g,rfl,hg⟩,s155.pan hk161⟩
    clear ht160
    replace HR := step_ok HR hn157
    have le163 := Lib.hid (Ps.must_ok hn157)
    have s164 := s155.call hk161 hp158
    have c165 := s164.n0.2.k5
    go_wp2_with fail
    clear c165
    have s167 := s164.built1 (k0 := k136) (nm0 := nm137) (num0 := num138) (a0 := a139) (sv0 := .slice so141 ts140.length sc142) (ts0 := ts140) (by simp) (w159.heap.size) (by simp)
    have s168 := s167.drop
    cases gk with
    | zero =>
     refine (pover_bad s168 (by decide) 26 (⟨#[]⟩) _ _ _).mono ?_
     rintro e w169 ⟨⟨g,rfl,hg⟩,hk170⟩
     exact ⟨rfl,.bad (HR.out.trans rfl) ⟨g,rfl,hg⟩,hk170⟩
    | succ F =>
     refine (pover_ok s168 (ts := ts) (us := [Tree.node k136 nm137 num138 a139 ts140]) (by simp) (by omega) (by simp) 26 (⟨#[]⟩) _ _ _ (List.mem_cons_self ..)).mono ?_
     rintro e w171 ⟨rfl,go173,gn174,gc175,s172⟩
     rw [show 20 - (F + 1) + 1 = 20 - F from by omega] at s172
     go_wp2_with fail
     go_roundg F
     case measure => omega
     case rel => have a0 := le147.out; have a1 := le163.out; exact ⟨i156,26,⟨#[]⟩,0,go173,gn174,gc175,_,by omega,by omega,s172,HR⟩
  ·have s176 := s4.call hk52 hp51
   replace HR := step_as (step_ifB HR hi50)
   have c177 := s176.n4.2.k1
   go_wp2_with fail
   clear c177
   refine (pname_any s176.ps).mono ?_
   rintro e w183 ⟨ht184,hk185⟩
   rcases ht184.or with ⟨n,a,hr186,g,rfl,hg⟩ | ⟨nm179,i180,hn181,rfl,hp182⟩
   ·exact ⟨rfl,.bad (step_bad HR hr186) ⟨g,rfl,hg⟩,s176.pan hk185⟩
   clear ht184
   replace HR := step_ok HR hn181
   have le187 := Lib.hid (Ps.name_ok hn181).1
   have s188 := s176.call hk185 hp182
   go_wp2_with fail
   have s189 := s188.keepNil
   cases gk with
   | zero =>
    refine (pover_bad s189 (by decide) 25 (nm179) _ _ _).mono ?_
    rintro e w190 ⟨⟨g,rfl,hg⟩,hk191⟩
    exact ⟨rfl,.bad (HR.out.trans rfl) ⟨g,rfl,hg⟩,hk191⟩
   | succ F =>
    refine (pover_ok s189 (ts := ts) (us := []) (by simp) (by omega) (by simp) 25 (nm179) _ _ _ (by simp)).mono ?_
    rintro e w192 ⟨rfl,go194,gn195,gc196,s193⟩
    rw [show 20 - (F + 1) + 1 = 20 - F from by omega] at s193
    go_wp2_with fail
    go_roundg F
    case measure => omega
    case rel => have a0 := le187.out; exact ⟨i180,25,nm179,0,go194,gn195,gc196,_,by omega,by omega,s193,HR⟩
set_option maxHeartbeats 1000000
open Go.RowKit Ps
theorem pfail_gen {w : World} {p T : Nat} {l : List Sc.Tok} {i c : Nat} {y : Int} (hb : Blk w p 64 #[.slice (some ⟨T,2 * i,none⟩) (l.length - i) c,.int .i64 y]) (ht : TB w T l) (hi : i < l.length) (n : Nat) :
  Calls Tryz.prog 67 #[pp p,.int .i64 n] w fun e w' => Pan w' p n (Ps.A l i) e ∧ Kp w.heap.size p w w' := by
 obtain ⟨⟨h1,h2⟩,h3,h4⟩ := hb.two
 obtain ⟨h5,h6⟩ := ht.cells i hi
 have h7 : (0 : Int) < ((l.length - i : Nat) : Int) ∧ 0 < l.length - i := ⟨by omega,by omega⟩
 unfold pp
 go_enter Tryz.func67,Tryz.ntmps67
 go_wp2
 exact ⟨rfl,⟨_,rfl,Blk.new _ _ _,_,_,hb.alloc _⟩,(Kp.refl _ _ _).alloc (Nat.le_refl _) _⟩
abbrev upV (B : Nat) : Value := .func (.func 160) #[] #[.pointer (some ⟨B,0,none⟩)]
abbrev upD (B : Nat) : Deferred := { target := .fn (.func 160) #[.pointer (some ⟨B,0,none⟩)],args := #[] }
theorem pdown_bad {w : World} {p T : Nat} {l : List Sc.Tok} {i d : Nat} (h : PS w p T l i d) (hd : d = 20) : Calls Tryz.prog 113 #[pp p] w fun e w' => Pan w' p 3 (Ps.A l i) e ∧ Kp w.heap.size p w w' := by
 obtain ⟨c,hc,hb,⟨h1,h2⟩,⟨h3,h4⟩,h5,h6,h7,hlt⟩ := h.facts
 subst hd
 have hi := h.hi
 have hT := h.tok
 have hne := h.ne
 have hmf : ∀ (fn : Fn) (first cap : Array Value) (w : World),(Instr.makeFunc fn first cap).run Tryz.prog w = .ok (.func fn first cap) w := fun _ _ _ _ => rfl
 unfold pp
 go_enter Tryz.func113,Tryz.ntmps113
 go_wp2_with fail
 have hb2 := ((hb.set 1 (.int .i64 21)).alloc (.cells #[pp p] 62))
 refine (pfail_gen (y := 21) hb2 ((hT.same (Below.heap_setCell w _ _ T (by show T ≠ p; omega))).same (Below.heap_alloc _ _ _ (by simp; omega))) hi 3).mono ?_
 rintro e w1 ⟨⟨g,rfl,hg⟩,hk⟩
 exact ⟨rfl,⟨g,rfl,hg⟩,((Kp.refl w.heap.size p w).setCell (x := ⟨p,1,none⟩) (.inr rfl) _).trans (((Kp.refl _ p _).alloc (by simp) _).trans (hk.mono (by simp)))⟩
theorem pdown_ok {w : World} {p T : Nat} {l : List Sc.Tok} {i d : Nat} (h : PS w p T l i d) (hd : d < 20) : Calls Tryz.prog 113 #[pp p] w fun e w' =>
  ∃ B,e = .returned (upV B) ∧ w.heap.size ≤ B ∧ Blk w' B 62 #[.pointer (some ⟨p,0,none⟩)] ∧ Kp w.heap.size p w w' ∧ PS w' p T l i (d + 1) := by
 obtain ⟨c,hc,hb,⟨h1,h2⟩,⟨h3,h4⟩,h5,h6,h7,hlt⟩ := h.facts
 have hne := h.ne
 have hmf : ∀ (fn : Fn) (first cap : Array Value) (w : World),(Instr.makeFunc fn first cap).run Tryz.prog w = .ok (.func fn first cap) w := fun _ _ _ _ => rfl
 unfold pp
 go_enter Tryz.func113,Tryz.ntmps113
 go_wp2_with fail
 go_ret
 have hn := Blk.new (w.setCell ⟨p,1,none⟩ (.int .i64 ((d + 1 : Nat) : Int))) 62 #[.pointer (some ⟨p,0,none⟩)]
 rw [show (w.setCell ⟨p,1,none⟩ (.int .i64 ((d + 1 : Nat) : Int))).heap.size = w.heap.size from by simp] at hn
 refine ⟨w.heap.size,rfl,Nat.le_refl _,hn,(((Kp.refl w.heap.size p w).setCell (x := ⟨p,1,none⟩) (.inr rfl) _).trans ((Kp.refl _ p _).alloc (by simp) _)),?_⟩
 have hq : PS (w.setCell ⟨p,1,none⟩ (.int .i64 ((d + 1 : Nat) : Int))) p T l i (d + 1) :=
  ⟨⟨c,hc,hb.set 1 _⟩,h.tok.same (Below.heap_setCell w _ _ T (by show T ≠ p; omega)),h.ne,h.hi,by omega,h.last,h.good,h.small,h.lv.same fun k hk => Below.heap_setCell w _ _ k (by show k ≠ p; omega)⟩
 exact hq.alloc _
theorem pup_ok {u : FrameMode} {w : World} {p T : Nat} {l : List Sc.Tok} {i d B : Nat} (h : PS w p T l i (d + 1)) (hB : Blk w B 62 #[.pointer (some ⟨p,0,none⟩)]) : CallsD Tryz.prog 160 #[.pointer (some ⟨B,0,none⟩)] u w fun e u' w' =>
  u' = u ∧ e = .returned (.tuple #[]) ∧ Kp w.heap.size p w w' ∧ PS w' p T l i d := by
 obtain ⟨c,hc,hb,⟨h1,h2⟩,⟨h3,h4⟩,h5,h6,h7,hlt⟩ := h.facts
 have hne := h.ne
 have hd := h.hd
 have hB1 := hB.one
 refine (callsD_of_wp (R := fun e w' => e = .returned (.tuple #[]) ∧ Kp w.heap.size p w w' ∧ PS w' p T l i d) Tryz.func160 rfl ?_).mono fun e u' w' h => h
 go_wp2_with fail
 go_end0
 refine ⟨rfl,((Kp.refl w.heap.size p w).setCell (x := ⟨p,1,none⟩) (.inr rfl) _),?_⟩
 exact ⟨⟨c,hc,by have := hb.set 1 (.int .i64 (d : Nat)); exact this⟩,h.tok.same (Below.heap_setCell w _ _ T (by show T ≠ p; omega)),h.ne,h.hi,by omega,h.last,h.good,h.small,h.lv.same fun k hk => Below.heap_setCell w _ _ k (by show k ≠ p; omega)⟩
theorem pup_bad {u : FrameMode} {w : World} {p n a B : Nat} {e0 : Ending} (h : Pan w p n a e0) (hB : Blk w B 62 #[.pointer (some ⟨p,0,none⟩)]) : CallsD Tryz.prog 160 #[.pointer (some ⟨B,0,none⟩)] u w fun e u' w' =>
  u' = u ∧ e = .returned (.tuple #[]) ∧ Kp w.heap.size p w w' ∧ Pan w' p n a e0 := by
 obtain ⟨g,he,hg,x,y,hb⟩ := h
 obtain ⟨⟨h1,h2⟩,h3,h4⟩ := hb.two
 have hB1 := hB.one
 have hgp : g ≠ p := fun e => by
  subst e
  have := hg.symm.trans hb
  simp at this
 refine (callsD_of_wp (R := fun e w' => e = .returned (.tuple #[]) ∧ Kp w.heap.size p w w' ∧ Pan w' p n a e0) Tryz.func160 rfl ?_).mono fun e u' w' h => h
 go_wp2_with fail
 go_end0
 exact ⟨rfl,((Kp.refl w.heap.size p w).setCell (x := ⟨p,1,none⟩) (.inr rfl) _),g,he,hg.setOther _ _ hgp,_,_,hb.set 1 _⟩
section
variable {fn : Func} {tmps : Array Value} {R : Ending → World → Prop} {w : World} {p T i d B : Nat} {l : List Sc.Tok}
theorem leave_ok (hp : PS w p T l i (d + 1)) (hB : Blk w B 62 #[.pointer (some ⟨p,0,none⟩)])
  (hfin : ∀ w',PS w' p T l i d → Kp w.heap.size p w w' → ∃ v,(results fn tmps).run Tryz.prog w' = .ok v w' ∧ R (.returned v) w') : Leaves Tryz.prog fn tmps R [upD B] .returning w := by
 refine leaves_cons (f := 160) (args := #[.pointer (some ⟨B,0,none⟩)]) (by simp) (by simp [go_sem]) ?_
 refine (pup_ok hp hB).mono ?_
 rintro e u' w' ⟨rfl,rfl,hk,hp'⟩
 exact hfin w' hp' hk
theorem leave_bad {n a : Nat} {c : List PanicEntry} (hP : Pan w p n a (.panicked c)) (hB : Blk w B 62 #[.pointer (some ⟨p,0,none⟩)])
  (hR : ∀ w',Pan w' p n a (.panicked c) → Kp w.heap.size p w w' → R (.panicked c) w') : Leaves Tryz.prog fn tmps R [upD B] (.panicking c) w := by
 refine leaves_cons (f := 160) (args := #[.pointer (some ⟨B,0,none⟩)]) (by simp) (by simp [go_sem]) ?_
 refine (pup_bad hP hB).mono ?_
 rintro e u' w' ⟨rfl,rfl,hk,hP'⟩
 have hs : settle (.panicking c) = .panicking c := by
  obtain ⟨g,he,_⟩ := hP
  injection he with he
  subst he
  rfl
 show Leaves _ _ _ _ [] (settle (.panicking c)) w'
 rw [hs]
 exact hR w' hP' hk
end
theorem bad_leaves {fn : Func} {R : Ending → World → Prop} {a : Act} {c : List PanicEntry} {w w' : World} {p B : Nat} {r : Ps.R Tree}
  (hb : a.defers = [upD B] ∧ ∃ n a',r = .bad n a' ∧ Pan w' p n a' (.panicked c) ∧ Kp w.heap.size p w w' ∧ Blk w' B 62 #[.pointer (some ⟨p,0,none⟩)])
  (hR : ∀ n a' w9,r = .bad n a' → Pan w9 p n a' (.panicked c) → Kp w.heap.size p w w9 → R (.panicked c) w9) : Leaves Tryz.prog fn a.tmps R a.defers (.panicking c) w' := by
 obtain ⟨hd,n,a',hr,hP,hk,hB⟩ := hb
 rw [hd]
 exact leave_bad hP hB fun w9 hP9 hk9 => hR n a' w9 hr hP9 (hk.call hk.size hk9)
theorem bad_leaves0 {fn : Func} {R : Ending → World → Prop} {a : Act} {c : List PanicEntry} {w w' : World} {p : Nat} {r : Ps.R Tree}
  (hb : a.defers = [] ∧ ∃ n a',r = .bad n a' ∧ Pan w' p n a' (.panicked c) ∧ Kp w.heap.size p w w')
  (hR : ∀ n a' w9,r = .bad n a' → Pan w9 p n a' (.panicked c) → Kp w.heap.size p w w9 → R (.panicked c) w9) : Leaves Tryz.prog fn a.tmps R a.defers (.panicking c) w' := by
 obtain ⟨hd,n,a',hr,hP,hk⟩ := hb
 rw [hd]
 exact hR n a' w' hr hP hk
theorem pfollows_any (s : ByteArray) (w : World) : Calls Tryz.prog 118 #[.string s] w fun e w' => e = .returned (.bool (Ps.follows s)) ∧ w = w' := by
 have h0 : s.toList.isEmpty = decide (s = ⟨#[]⟩) := by
  rw [← bytes_beq,show (ByteArray.mk #[]).toList = [] from by rw [Lib.toList_data],Bool.eq_iff_iff]
  simp
 have h1 := bytes_beq s ⟨#[69,78,68]⟩
 have h2 := bytes_beq s ⟨#[69,76,83,73,70]⟩
 have h3 := bytes_beq s ⟨#[69,76,83,69]⟩
 have h4 := bytes_beq s ⟨#[85,78,84,73,76]⟩
 rw [show (ByteArray.mk #[69,78,68]).toList = [69,78,68] from by rw [Lib.toList_data]] at h1
 rw [show (ByteArray.mk #[69,76,83,73,70]).toList = [69,76,83,73,70] from by rw [Lib.toList_data]] at h2
 rw [show (ByteArray.mk #[69,76,83,69]).toList = [69,76,83,69] from by rw [Lib.toList_data]] at h3
 rw [show (ByteArray.mk #[85,78,84,73,76]).toList = [85,78,84,73,76] from by rw [Lib.toList_data]] at h4
 unfold Ps.follows
 rcases k0 : decide (s = ⟨#[]⟩) with _ | _ <;> rcases k1 : decide (s = ⟨#[69,78,68]⟩) with _ | _ <;> rcases k2 : decide (s = ⟨#[69,76,83,73,70]⟩) with _ | _ <;> rcases k3 : decide (s = ⟨#[69,76,83,69]⟩) with _ | _ <;> rcases k4 : decide (s = ⟨#[85,78,84,73,76]⟩) with _ | _
 all_goals
  rw [k0] at h0
  rw [k1] at h1
  rw [k2] at h2
  rw [k3] at h3
  rw [k4] at h4
  clear k0 k1 k2 k3 k4
  go_enter Tryz.func118,Tryz.ntmps118
  go_wp2_with fail
  go_ret
  exact ⟨rfl,rfl⟩
end Go.Proofs.YtneohanphabneaaGreatDoor
