/-
  Contracts of the program's parser: a statement.
-/
import Derived.Test.YtneohanphabneaaGreatDoorMP12
namespace Go.Proofs.YtneohanphabneaaGreatDoor
set_option maxRecDepth 100000
set_option maxHeartbeats 4000000
open Go.RowKit Ps
theorem enters_designator (p : Nat) (w : World) : (callFunc 165 #[pp p]).run Tryz.prog w = .ok (.enter 165 #[pp p]) w := by kernel_rfl
theorem clo_designator (w : World) (p T : Nat) (l : List Sc.Tok) (d : Nat) (f : List Sc.Tok → Nat → R Tree) (h : CT 165 d f) : Clo w p T l d (.func (.func 165) #[pp p] #[]) (f l) := clo_of (enters_designator p) fun u j _ hp => h u p T l j hp
theorem pstmt_any {w : World} {p T : Nat} {l : List Sc.Tok} {i d : Nat} (h : PS w p T l i d) (ex sts : List Sc.Tok → Nat → R Tree) (hex : CT 59 d ex) (hsts : CT 65 d sts) : Calls Tryz.prog 119 #[pp p] w fun e w' =>
  PT (fun b => w.heap.size ≤ b) p T l i d (Ps.stmtOf l (ex l) (sts l) i) e w' ∧ Kp w.heap.size p w w' := by
 obtain ⟨r,hr⟩ : ∃ r,r = Ps.stmtOf l (ex l) (sts l) i := ⟨_,rfl⟩
 rw [← hr]
 unfold Ps.stmtOf at hr
 have HR := Lib.hid hr
 clear hr
 have hmf : ∀ (fn : Fn) (first cap : Array Value) (w : World),(Instr.makeFunc fn first cap).run Tryz.prog w = .ok (.func fn first cap) w := fun _ _ _ _ => rfl
 have hdes : CT 165 d (fun l => Ps.desig l (ex l)) := fun _ _ _ _ _ h => pdesignator_any h ex hex
 unfold pp
 go_enter Tryz.func119,Tryz.ntmps119
 go_wp2_with fail
 have s1 := (St.start h).allocAt (w.heap.size) 25 #[.int .i64 0,.string ⟨#[]⟩,.int .i64 0,.int .i64 0,.slice none 0 0] (by simp)
 refine (pnode_any s1.ps 16).mono ?_
 rintro e w2 ⟨rfl,hb3⟩
 have s4 := s1.below hb3
 unfold nodeV
 go_wp2_with fail
 have s5 := s4.allocAt (w2.heap.size) 25 #[.int .i64 16,.string ⟨#[]⟩,.int .i64 0,.int .i64 (Ps.A l i),.slice none 0 0] (by simp)
 refine (ptake_or s5.ps (⟨#[73,70]⟩) (by decide)).mono ?_
 rintro e w6 (⟨hi7,rfl,hp8,hk9⟩ | ⟨hi7,rfl,hp8,hk9⟩)
 ·have s10 := s5.call hk9 hp8
  replace HR := step_else HR hi7
  go_wp2_with fail
  refine (ptake_or s10.ps (⟨#[87,72,73,76,69]⟩) (by decide)).mono ?_
  rintro e w11 (⟨hi12,rfl,hp13,hk14⟩ | ⟨hi12,rfl,hp13,hk14⟩)
  ·have s15 := s10.call hk14 hp13
   replace HR := step_else HR hi12
   go_wp2_with fail
   refine (ptake_or s15.ps (⟨#[82,69,80,69,65,84]⟩) (by decide)).mono ?_
   rintro e w16 (⟨hi17,rfl,hp18,hk19⟩ | ⟨hi17,rfl,hp18,hk19⟩)
   ·have s20 := s15.call hk19 hp18
    replace HR := step_else HR hi17
    go_wp2_with fail
    refine (ptake_or s20.ps (⟨#[82,69,84,85,82,78]⟩) (by decide)).mono ?_
    rintro e w21 (⟨hi22,rfl,hp23,hk24⟩ | ⟨hi22,rfl,hp23,hk24⟩)
    ·have s25 := s20.call hk24 hp23
     replace HR := step_else HR hi22
     go_wp2_with fail
     refine (ptake_or s25.ps (⟨#[78,69,87]⟩) (by decide)).mono ?_
     rintro e w26 (⟨hi27,rfl,hp28,hk29⟩ | ⟨hi27,rfl,hp28,hk29⟩)
     ·have s30 := s25.call hk29 hp28
      replace HR := step_else HR hi27
      go_wp2_with fail
      refine (ptake_or s30.ps (⟨#[79,85,84]⟩) (by decide)).mono ?_
      rintro e w31 (⟨hi32,rfl,hp33,hk34⟩ | ⟨hi32,rfl,hp33,hk34⟩)
      ·have s35 := s30.call hk34 hp33
       replace HR := step_else HR hi32
       go_wp2_with fail
       refine (ptake_or s35.ps (⟨#[71,69,84]⟩) (by decide)).mono ?_
       rintro e w36 (⟨hi37,rfl,hp38,hk39⟩ | ⟨hi37,rfl,hp38,hk39⟩)
       ·have s40 := s35.call hk39 hp38
        replace HR := step_else HR hi37
        go_wp2_with fail
        refine (ptake_or s40.ps (⟨#[65,83,83,69,82,84]⟩) (by decide)).mono ?_
        rintro e w41 (⟨hi42,rfl,hp43,hk44⟩ | ⟨hi42,rfl,hp43,hk44⟩)
        ·have s45 := s40.call hk44 hp43
         replace HR := step_else HR hi42
         go_wp2_with fail
         refine (hdes _ _ _ _ _ s45.ps).mono ?_
         rintro e w58 ⟨ht59,hk60⟩
         rcases ht59.or with ⟨n,a,hr61,g,rfl,hg⟩ | ⟨k46,nm47,num48,a49,ts50,so51,sc52,i53,hn54,rfl,hrow55,hp56,le57⟩
         ·exact ⟨rfl,.bad (step_bad HR hr61) ⟨g,rfl,hg⟩,s45.pan hk60⟩
         clear ht59
         replace HR := step_ok HR hn54
         have le57 := Lib.hid le57
         have s62 := s45.callKeep hk60 hp56 hrow55
         unfold nodeV
         go_wp2_with fail
         have s63 := s62.allocAt (w58.heap.size) 25 #[.int .i64 k46,.string nm47,.int .i64 num48,.int .i64 a49,.slice so51 ts50.length sc52] (by simp)
         refine (ptake_or s63.ps (⟨#[58,61]⟩) (by decide)).mono ?_
         rintro e w64 (⟨hi65,rfl,hp66,hk67⟩ | ⟨hi65,rfl,hp66,hk67⟩)
         ·have s68 := s63.call hk67 hp66
          replace HR := step_else HR hi65
          have c69 := s68.n0.2.k5
          go_wp2_with fail
          clear c69
          have hC := s68.n0.2
          refine Ch.wp_region_tree (fun u => Blk u (w58.heap.size) 25 #[.int .i64 k46,.string nm47,.int .i64 num48,.int .i64 a49,.slice so51 ts50.length sc52]) [0] [] (.take 0 (.take 2 (.take 5 (.two 1 (.one 3 (.one 4 (.one 6 (.take 7 (.one 8 .done))))) 3 (.one 1 (.one 4 (.one 6 (.take 7 (.one 8 .done))))))))) (by kernel_rfl) (by kernel_rfl) (fun _ _ d _ _ h => by cases d <;> exact h) (hC) ?_
          clear hC
          refine Ch.ld0 (v := ?v71) rfl (by rfl) ?y72 ?_
          case y72 => intro u hC; have c5 := Blk.five hC; go_simp; rfl
          simp only [putq]
          refine Ch.tk2 (v := ?v73) rfl (by rfl) ?y74 ?_
          case y74 => intro u; go_simp; rfl
          simp only [putq]
          refine Ch.tk5 (v := ?v75) rfl (by rfl) ?y76 ?_
          case y76 => intro u; go_simp; rfl
          simp only [putq]
          refine Ch.tree_two ?_ ?_
          ·refine Ch.md1 (by rfl) (fun K hK => ?_)
           go_simp
           have s77 := s68.builtG1 (k0 := k46) (nm0 := nm47) (num0 := num48) (a0 := a49) (sv0 := .slice so51 ts50.length sc52) (ts0 := ts50) (by simp) (w64.heap.size) (by simp)
           have s78 := s77.drew
           refine hK _ _ (s78.n0.2) ?_
           clear hK K
           try simp only [putq]
           refine Ch.md3 (by rfl) (fun K hK => ?_)
           go_simp
           refine (pargs_any s78.ps ex hex).mono ?_
           rintro e w87 ⟨ht88,hk89⟩
           rcases ht88.or with ⟨n,a,hr90,g,rfl,hg⟩ | ⟨ts79,so80,sc81,i82,hn83,rfl,hrow84,hp85,le86⟩
           ·exact ⟨rfl,.bad (step_bad HR hr90) ⟨g,rfl,hg⟩,s78.pan hk89⟩
           clear ht88
           replace HR := step_ok HR hn83
           have le86 := Lib.hid le86
           have s91 := s78.callKeep hk89 hp85 hrow84
           have ln92 := Lib.hid (args_len hn83)
           refine hK _ _ (s91.n0.2) ?_
           clear hK K
           try simp only [putq]
           refine Ch.md4 (by rfl) (fun K hK => ?_)
           refine s91.appAll (sn := ts79.length) (us := ts79) (by simp) (.tmp 22) (.tmp 24) rfl rfl rfl (Nat.succ_pos _) (by have := ln92.out; have := s91.ps.small; show 1 + _ ≤ 1000000; omega) (fun go93 gn94 gc95 w96 s97 => ?_)
           refine hK _ _ (s97.n0.2) ?_
           clear hK K
           try simp only [putq]
           have cc := s97.n1.2.five
           have cl := s97.n1.2.lt
           have cd := s97.d01
           refine Ch.md6 (by rfl) (fun K hK => ?_)
           go_simp
           have s98 := s97.s10 (.int .i64 15)
           refine hK _ _ (s98.n0.2) ?_
           clear hK K
           try simp only [putq]
           refine Ch.tk7 (v := ?v99) rfl (by rfl) ?y100 ?_
           case y100 => intro u; go_simp; rfl
           simp only [putq]
           refine Ch.md8 (by rfl) (fun K hK => ?_)
           go_simp
           have s101 := s98.s14 (.slice go93 gn94 gc95)
           refine hK _ _ (s101.n0.2) ?_
           clear hK K
           try simp only [putq]
           refine Ch.tree_end ?_
           clear cc cl cd
           have s102 := s101.grown
           have c103 := s102.n1.2.k5
           have c105 := s102.n2.2.k5
           have d107 := s102.d12
           go_wp2_with fail
           clear c103 c105 d107
           have s108 := s102.p2 (.int .i64 15) (.string ⟨#[]⟩) (.int .i64 0) (.int .i64 (Ps.A l i)) (.slice go93 gn94 gc95)
           exact bodyPost_ret (res5 Tryz.results119 rfl s108.n2.2) rfl ⟨.ok (HR.out.trans rfl) rfl (s108.treeOf (sv := .slice go93 gn94 gc95) (by simp)) s108.ps (by have := le57.out; have := le86.out; omega),s108.kp⟩
          ·have s109 := s68.drew
           refine Ch.md3 (by rfl) (fun K hK => ?_)
           go_simp
           refine (pargs_any s109.ps ex hex).mono ?_
           rintro e w118 ⟨ht119,hk120⟩
           rcases ht119.or with ⟨n,a,hr121,g,rfl,hg⟩ | ⟨ts110,so111,sc112,i113,hn114,rfl,hrow115,hp116,le117⟩
           ·exact ⟨rfl,.bad (step_bad HR hr121) ⟨g,rfl,hg⟩,s109.pan hk120⟩
           clear ht119
           replace HR := step_ok HR hn114
           have le117 := Lib.hid le117
           have s122 := s109.callKeep hk120 hp116 hrow115
           have ln123 := Lib.hid (args_len hn114)
           refine hK _ _ (s122.n0.2) ?_
           clear hK K
           try simp only [putq]
           refine Ch.md1 (by rfl) (fun K hK => ?_)
           go_simp
           have s124 := s122.builtG1 (k0 := k46) (nm0 := nm47) (num0 := num48) (a0 := a49) (sv0 := .slice so51 ts50.length sc52) (ts0 := ts50) (by simp) (w118.heap.size) (by simp)
           refine hK _ _ (s124.n0.2) ?_
           clear hK K
           try simp only [putq]
           refine Ch.md4 (by rfl) (fun K hK => ?_)
           refine s124.appAll (sn := ts110.length) (us := ts110) (by simp) (.tmp 22) (.tmp 24) rfl rfl rfl (Nat.succ_pos _) (by have := ln123.out; have := s124.ps.small; show 1 + _ ≤ 1000000; omega) (fun go125 gn126 gc127 w128 s129 => ?_)
           refine hK _ _ (s129.n0.2) ?_
           clear hK K
           try simp only [putq]
           have cc := s129.n1.2.five
           have cl := s129.n1.2.lt
           have cd := s129.d01
           refine Ch.md6 (by rfl) (fun K hK => ?_)
           go_simp
           have s130 := s129.s10 (.int .i64 15)
           refine hK _ _ (s130.n0.2) ?_
           clear hK K
           try simp only [putq]
           refine Ch.tk7 (v := ?v131) rfl (by rfl) ?y132 ?_
           case y132 => intro u; go_simp; rfl
           simp only [putq]
           refine Ch.md8 (by rfl) (fun K hK => ?_)
           go_simp
           have s133 := s130.s14 (.slice go125 gn126 gc127)
           refine hK _ _ (s133.n0.2) ?_
           clear hK K
           try simp only [putq]
           refine Ch.tree_end ?_
           clear cc cl cd
           have s134 := s133.grown
           have c135 := s134.n1.2.k5
           have c137 := s134.n2.2.k5
           have d139 := s134.d12
           go_wp2_with fail
           clear c135 c137 d139
           have s140 := s134.p2 (.int .i64 15) (.string ⟨#[]⟩) (.int .i64 0) (.int .i64 (Ps.A l i)) (.slice go125 gn126 gc127)
           exact bodyPost_ret (res5 Tryz.results119 rfl s140.n2.2) rfl ⟨.ok (HR.out.trans rfl) rfl (s140.treeOf (sv := .slice go125 gn126 gc127) (by simp)) s140.ps (by have := le57.out; have := le117.out; omega),s140.kp⟩
         ·have s141 := s63.call hk67 hp66
          replace HR := step_if HR hi65
          have c142 := s141.n0.2.k5
          go_wp2_with fail
          clear c142
          have hC := s141.n0.2
          refine Ch.wp_region_tree (fun u => Blk u (w58.heap.size) 25 #[.int .i64 k46,.string nm47,.int .i64 num48,.int .i64 a49,.slice so51 ts50.length sc52]) [0] [] (.take 0 (.take 1 (.take 4 (.one 2 (.two 3 (.one 5 (.take 6 (.one 7 .done))) 5 (.one 3 (.take 6 (.one 7 .done)))))))) (by kernel_rfl) (by kernel_rfl) (fun _ _ d _ _ h => by cases d <;> exact h) (hC) ?_
          clear hC
          have s144 := s141.drew
          refine Ch.ld0 (v := ?v145) rfl (by rfl) ?y146 ?_
          case y146 => intro u hC; have c5 := Blk.five hC; go_simp; rfl
          simp only [putq]
          refine Ch.tk1 (v := ?v147) rfl (by rfl) ?y148 ?_
          case y148 => intro u; go_simp; rfl
          simp only [putq]
          refine Ch.tk4 (v := ?v149) rfl (by rfl) ?y150 ?_
          case y150 => intro u; go_simp; rfl
          simp only [putq]
          refine Ch.md2 (by rfl) (fun K hK => ?_)
          go_simp
          refine (hex _ _ _ _ _ s144.ps).mono ?_
          rintro e w163 ⟨ht164,hk165⟩
          rcases ht164.or with ⟨n,a,hr166,g,rfl,hg⟩ | ⟨k151,nm152,num153,a154,ts155,so156,sc157,i158,hn159,rfl,hrow160,hp161,le162⟩
          ·exact ⟨rfl,.bad (step_bad HR hr166) ⟨g,rfl,hg⟩,s144.pan hk165⟩
          clear ht164
          replace HR := step_ok HR hn159
          have le162 := Lib.hid le162
          have s167 := s144.callKeep hk165 hp161 hrow160
          unfold nodeV
          refine hK _ _ (s167.n0.2) ?_
          clear hK K
          try simp only [putq]
          have cc := s167.n1.2.five
          have cl := s167.n1.2.lt
          have cd := s167.d01
          have cr := s167.n2.2.five
          have cq := s167.n2.2.lt
          have ce := s167.d12
          have cf := s167.d02
          refine Ch.tree_two ?_ ?_
          ·refine Ch.md3 (by rfl) (fun K hK => ?_)
           go_simp
           refine hK _ _ ((s167.other _).n0.2) ?_
           clear hK K
           try simp only [putq]
           refine Ch.md5 (by rfl) (fun K hK => ?_)
           go_simp
           have s168 := s167.s10 (.int .i64 14)
           refine hK _ _ ((s168.other _).n0.2) ?_
           clear hK K
           try simp only [putq]
           refine Ch.tk6 (v := ?v169) rfl (by rfl) ?y170 ?_
           case y170 => intro u; go_simp; rfl
           simp only [putq]
           refine Ch.md7 (by rfl) (fun K hK => ?_)
           go_simp
           have s171 := s168.s14 (.slice (some ⟨w163.heap.size,0,none⟩) 2 2)
           refine hK _ _ ((s171.other _).n0.2) ?_
           clear hK K
           try simp only [putq]
           refine Ch.tree_end ?_
           go_wp2_with fail
           have s172 := s171.p2 (.int .i64 14) (.string ⟨#[]⟩) (.int .i64 0) (.int .i64 (Ps.A l i)) (.slice (some ⟨w163.heap.size,0,none⟩) 2 2)
           have s173 := s172.built2 (k0 := k46) (nm0 := nm47) (num0 := num48) (a0 := a49) (sv0 := .slice so51 ts50.length sc52) (ts0 := ts50) (k1 := k151) (nm1 := nm152) (num1 := num153) (a1 := a154) (sv1 := .slice so156 ts155.length sc157) (ts1 := ts155) (by simp) (by simp) (w163.heap.size) (by simp)
           exact bodyPost_ret (res5 Tryz.results119 rfl s173.n2.2) rfl ⟨.ok (HR.out.trans rfl) rfl (s173.treeOf (sv := .slice (some ⟨w163.heap.size,0,none⟩) 2 2) (by simp)) s173.ps (by have := le57.out; have := le162.out; omega),s173.kp⟩
          ·refine Ch.md5 (by rfl) (fun K hK => ?_)
           go_simp
           have s174 := s167.s10 (.int .i64 14)
           refine hK _ _ (s174.n0.2) ?_
           clear hK K
           try simp only [putq]
           refine Ch.md3 (by rfl) (fun K hK => ?_)
           go_simp
           refine hK _ _ ((s174.other _).n0.2) ?_
           clear hK K
           try simp only [putq]
           refine Ch.tk6 (v := ?v175) rfl (by rfl) ?y176 ?_
           case y176 => intro u; go_simp; rfl
           simp only [putq]
           refine Ch.md7 (by rfl) (fun K hK => ?_)
           go_simp
           have s177 := s174.s14 (.slice (some ⟨w163.heap.size,0,none⟩) 2 2)
           refine hK _ _ ((s177.other _).n0.2) ?_
           clear hK K
           try simp only [putq]
           refine Ch.tree_end ?_
           go_wp2_with fail
           have s178 := s177.p2 (.int .i64 14) (.string ⟨#[]⟩) (.int .i64 0) (.int .i64 (Ps.A l i)) (.slice (some ⟨w163.heap.size,0,none⟩) 2 2)
           have s179 := s178.built2 (k0 := k46) (nm0 := nm47) (num0 := num48) (a0 := a49) (sv0 := .slice so51 ts50.length sc52) (ts0 := ts50) (k1 := k151) (nm1 := nm152) (num1 := num153) (a1 := a154) (sv1 := .slice so156 ts155.length sc157) (ts1 := ts155) (by simp) (by simp) (w163.heap.size) (by simp)
           exact bodyPost_ret (res5 Tryz.results119 rfl s179.n2.2) rfl ⟨.ok (HR.out.trans rfl) rfl (s179.treeOf (sv := .slice (some ⟨w163.heap.size,0,none⟩) 2 2) (by simp)) s179.ps (by have := le57.out; have := le162.out; omega),s179.kp⟩
        ·have s180 := s40.call hk44 hp43
         replace HR := step_if HR hi42
         have c181 := s180.n0.2.k5
         go_wp2_with fail
         clear c181
         replace HR := step_tail HR
         refine (pbuilt_any s180.ps 16 0 (Ps.A l i) 23 _ _ (clo_expr _ p T l d ex hex) rfl).mono ?_
         rintro e w195 ⟨ht196,hk197⟩
         rcases ht196.or with ⟨n,a,hr198,g,rfl,hg⟩ | ⟨k183,nm184,num185,a186,ts187,so188,sc189,i190,hn191,rfl,hrow192,hp193,le194⟩
         ·exact ⟨rfl,.bad (step_bad HR hr198) ⟨g,rfl,hg⟩,s180.pan hk197⟩
         clear ht196
         replace HR := step_ok HR hn191
         have le194 := Lib.hid le194
         have s199 := s180.callKeep hk197 hp193 hrow192
         unfold nodeV
         have c200 := s199.n1.2.k5
         go_wp2_with fail
         clear c200
         have s202 := s199.p1 (.int .i64 k183) (.string nm184) (.int .i64 num185) (.int .i64 a186) (.slice so188 ts187.length sc189)
         exact bodyPost_ret (res5 Tryz.results119 rfl s202.n1.2) rfl ⟨.ok (HR.out) rfl (s202.treeOf (sv := .slice so188 ts187.length sc189) (by simp)) s202.ps (by have := le194.out; omega),s202.kp⟩
       ·have s203 := s35.call hk39 hp38
        replace HR := step_if HR hi37
        have c204 := s203.n0.2.k5
        go_wp2_with fail
        clear c204
        replace HR := step_tail HR
        refine (pbuilt_any s203.ps 16 0 (Ps.A l i) 22 _ _ (clo_designator _ p T l d _ hdes) rfl).mono ?_
        rintro e w218 ⟨ht219,hk220⟩
        rcases ht219.or with ⟨n,a,hr221,g,rfl,hg⟩ | ⟨k206,nm207,num208,a209,ts210,so211,sc212,i213,hn214,rfl,hrow215,hp216,le217⟩
        ·exact ⟨rfl,.bad (step_bad HR hr221) ⟨g,rfl,hg⟩,s203.pan hk220⟩
        clear ht219
        replace HR := step_ok HR hn214
        have le217 := Lib.hid le217
        have s222 := s203.callKeep hk220 hp216 hrow215
        unfold nodeV
        have c223 := s222.n1.2.k5
        go_wp2_with fail
        clear c223
        have s225 := s222.p1 (.int .i64 k206) (.string nm207) (.int .i64 num208) (.int .i64 a209) (.slice so211 ts210.length sc212)
        exact bodyPost_ret (res5 Tryz.results119 rfl s225.n1.2) rfl ⟨.ok (HR.out) rfl (s225.treeOf (sv := .slice so211 ts210.length sc212) (by simp)) s225.ps (by have := le217.out; omega),s225.kp⟩
      ·have s226 := s30.call hk34 hp33
       replace HR := step_if HR hi32
       have c227 := s226.n0.2.k5
       go_wp2_with fail
       clear c227
       replace HR := step_tail HR
       refine (pbuilt_any s226.ps 16 0 (Ps.A l i) 21 _ _ (clo_expr _ p T l d ex hex) rfl).mono ?_
       rintro e w241 ⟨ht242,hk243⟩
       rcases ht242.or with ⟨n,a,hr244,g,rfl,hg⟩ | ⟨k229,nm230,num231,a232,ts233,so234,sc235,i236,hn237,rfl,hrow238,hp239,le240⟩
       ·exact ⟨rfl,.bad (step_bad HR hr244) ⟨g,rfl,hg⟩,s226.pan hk243⟩
       clear ht242
       replace HR := step_ok HR hn237
       have le240 := Lib.hid le240
       have s245 := s226.callKeep hk243 hp239 hrow238
       unfold nodeV
       have c246 := s245.n1.2.k5
       go_wp2_with fail
       clear c246
       have s248 := s245.p1 (.int .i64 k229) (.string nm230) (.int .i64 num231) (.int .i64 a232) (.slice so234 ts233.length sc235)
       exact bodyPost_ret (res5 Tryz.results119 rfl s248.n1.2) rfl ⟨.ok (HR.out) rfl (s248.treeOf (sv := .slice so234 ts233.length sc235) (by simp)) s248.ps (by have := le240.out; omega),s248.kp⟩
     ·have s249 := s25.call hk29 hp28
      replace HR := step_if HR hi27
      have c250 := s249.n0.2.k5
      go_wp2_with fail
      clear c250
      replace HR := step_tail HR
      refine (pbuilt_any s249.ps 16 0 (Ps.A l i) 20 _ _ (clo_designator _ p T l d _ hdes) rfl).mono ?_
      rintro e w264 ⟨ht265,hk266⟩
      rcases ht265.or with ⟨n,a,hr267,g,rfl,hg⟩ | ⟨k252,nm253,num254,a255,ts256,so257,sc258,i259,hn260,rfl,hrow261,hp262,le263⟩
      ·exact ⟨rfl,.bad (step_bad HR hr267) ⟨g,rfl,hg⟩,s249.pan hk266⟩
      clear ht265
      replace HR := step_ok HR hn260
      have le263 := Lib.hid le263
      have s268 := s249.callKeep hk266 hp262 hrow261
      unfold nodeV
      have c269 := s268.n1.2.k5
      go_wp2_with fail
      clear c269
      have s271 := s268.p1 (.int .i64 k252) (.string nm253) (.int .i64 num254) (.int .i64 a255) (.slice so257 ts256.length sc258)
      exact bodyPost_ret (res5 Tryz.results119 rfl s271.n1.2) rfl ⟨.ok (HR.out) rfl (s271.treeOf (sv := .slice so257 ts256.length sc258) (by simp)) s271.ps (by have := le263.out; omega),s271.kp⟩
    ·have s272 := s20.call hk24 hp23
     replace HR := step_if HR hi22
     have c273 := s272.n0.2.k5
     have c275 := s272.n1.2.k5
     have d277 := s272.d01
     go_wp2_with fail
     clear c273 c275 d277
     have s278 := s272.s00 (.int .i64 19)
     refine (pis_any s278.ps (⟨#[59]⟩)).mono ?_
     rintro e w279 ⟨rfl,rfl⟩
     cases h280 : Ps.isW l (i + 1) (⟨#[59]⟩) with
     | true =>
      have hns : noStmt l (i + 1) = true := by unfold noStmt; rw [h280]; rfl
      replace HR := step_if HR hns
      have c281 := s278.n0.2.k5
      have c283 := s278.n1.2.k5
      have d285 := s278.d01
      go_wp2_with fail
      clear c281 c283 d285
      have s286 := s278.keepNil
      have s287 := s286.p1 (.int .i64 19) (.string ⟨#[]⟩) (.int .i64 0) (.int .i64 (Ps.A l i)) (.slice none 0 0)
      exact bodyPost_ret (res5 Tryz.results119 rfl s287.n1.2) rfl ⟨.ok (HR.out.trans rfl) rfl (s287.treeOf (sv := .slice none 0 0) (by simp)) s287.ps (by omega),s287.kp⟩
     | false =>
      obtain ⟨c,hc,hb,⟨q1,q2⟩,⟨q3,q4⟩,q5,q6,q7,hlt⟩ := s278.ps.facts
      go_wp2_with fail
      clear hb q1 q2 q3 q4 q5 q6 q7
      refine (pfollows_any (W l (i + 1)) _).mono ?_
      rintro e w288 ⟨rfl,rfl⟩
      cases h289 : Ps.follows (W l (i + 1)) with
      | true =>
       have hns : noStmt l (i + 1) = true := by unfold noStmt; rw [h280,h289]; rfl
       replace HR := step_if HR hns
       have c290 := s278.n0.2.k5
       have c292 := s278.n1.2.k5
       have d294 := s278.d01
       go_wp2_with fail
       clear c290 c292 d294
       have s295 := s278.keepNil
       have s296 := s295.p1 (.int .i64 19) (.string ⟨#[]⟩) (.int .i64 0) (.int .i64 (Ps.A l i)) (.slice none 0 0)
       exact bodyPost_ret (res5 Tryz.results119 rfl s296.n1.2) rfl ⟨.ok (HR.out.trans rfl) rfl (s296.treeOf (sv := .slice none 0 0) (by simp)) s296.ps (by omega),s296.kp⟩
      | false =>
       have hns : noStmt l (i + 1) = false := by unfold noStmt; rw [h280,h289]; rfl
       replace HR := step_else HR hns
       go_wp2_with fail
       refine (hex _ _ _ _ _ s278.ps).mono ?_
       rintro e w309 ⟨ht310,hk311⟩
       rcases ht310.or with ⟨n,a,hr312,g,rfl,hg⟩ | ⟨k297,nm298,num299,a300,ts301,so302,sc303,i304,hn305,rfl,hrow306,hp307,le308⟩
       ·exact ⟨rfl,.bad (step_bad HR hr312) ⟨g,rfl,hg⟩,s278.pan hk311⟩
       clear ht310
       replace HR := step_ok HR hn305
       have le308 := Lib.hid le308
       have s313 := s278.callKeep hk311 hp307 hrow306
       unfold nodeV
       have c314 := s313.n0.2.k5
       have c316 := s313.n1.2.k5
       have d318 := s313.d01
       go_wp2_with fail
       clear c314 c316 d318
       have s319 := s313.s04 (.slice (some ⟨w309.heap.size,0,none⟩) 1 1)
       have s320 := s319.p1 (.int .i64 19) (.string ⟨#[]⟩) (.int .i64 0) (.int .i64 (Ps.A l i)) (.slice (some ⟨w309.heap.size,0,none⟩) 1 1)
       have s321 := s320.built1 (k0 := k297) (nm0 := nm298) (num0 := num299) (a0 := a300) (sv0 := .slice so302 ts301.length sc303) (ts0 := ts301) (by simp) (w309.heap.size) (by simp)
       exact bodyPost_ret (res5 Tryz.results119 rfl s321.n1.2) rfl ⟨.ok (HR.out.trans rfl) rfl (s321.treeOf (sv := .slice (some ⟨w309.heap.size,0,none⟩) 1 1) (by simp)) s321.ps (by have := le308.out; omega),s321.kp⟩
   ·have s322 := s15.call hk19 hp18
    replace HR := step_if HR hi17
    have c323 := s322.n0.2.k5
    have c325 := s322.n1.2.k5
    have d327 := s322.d01
    go_wp2_with fail
    clear c323 c325 d327
    have s328 := s322.s00 (.int .i64 18)
    refine (hsts _ _ _ _ _ s328.ps).mono ?_
    rintro e w341 ⟨ht342,hk343⟩
    rcases ht342.or with ⟨n,a,hr344,g,rfl,hg⟩ | ⟨k329,nm330,num331,a332,ts333,so334,sc335,i336,hn337,rfl,hrow338,hp339,le340⟩
    ·exact ⟨rfl,.bad (step_bad HR hr344) ⟨g,rfl,hg⟩,s328.pan hk343⟩
    clear ht342
    replace HR := step_ok HR hn337
    have le340 := Lib.hid le340
    have s345 := s328.callKeep hk343 hp339 hrow338
    unfold nodeV
    go_wp2_with fail
    have s346 := s345.allocAt (w341.heap.size) 25 #[.int .i64 k329,.string nm330,.int .i64 num331,.int .i64 a332,.slice so334 ts333.length sc335] (by simp)
    refine (pmust_any s346.ps (⟨#[85,78,84,73,76]⟩) (by decide)).mono ?_
    rintro e w350 ⟨ht351,hk352⟩
    rcases ht351.or with ⟨n,a,hr353,g,rfl,hg⟩ | ⟨i347,hn348,rfl,hp349⟩
    ·exact ⟨rfl,.bad (step_bad HR hr353) ⟨g,rfl,hg⟩,s346.pan hk352⟩
    clear ht351
    replace HR := step_ok HR hn348
    have le354 := Lib.hid (Ps.must_ok hn348)
    have s355 := s346.call hk352 hp349
    have c356 := s355.n0.2.k5
    go_wp2_with fail
    clear c356
    have hC := s355.n0.2
    refine Ch.wp_region_run (fun u => Blk u (w341.heap.size) 25 #[.int .i64 k329,.string nm330,.int .i64 num331,.int .i64 a332,.slice so334 ts333.length sc335]) [0] [0,1] [2,3,4,5] [] (by kernel_rfl) (by kernel_rfl) (fun _ _ d _ _ h => by cases d <;> exact h) (hC) ?_
    clear hC
    have s358 := s355.drew
    refine Ch.load0 (v := ?v359) rfl (by rfl) ?y360 ?_
    case y360 => intro u hC; have c5 := Blk.five hC; go_simp; rfl
    simp only [putq]
    refine Ch.take1 (v := ?v361) rfl (by rfl) ?y362 ?_
    case y362 => intro u; go_simp; rfl
    simp only [putq]
    refine Ch.mid2 (by rfl) (fun K hK => ?_)
    go_simp
    refine (hex _ _ _ _ _ s358.ps).mono ?_
    rintro e w375 ⟨ht376,hk377⟩
    rcases ht376.or with ⟨n,a,hr378,g,rfl,hg⟩ | ⟨k363,nm364,num365,a366,ts367,so368,sc369,i370,hn371,rfl,hrow372,hp373,le374⟩
    ·exact ⟨rfl,.bad (step_bad HR hr378) ⟨g,rfl,hg⟩,s358.pan hk377⟩
    clear ht376
    replace HR := step_ok HR hn371
    have le374 := Lib.hid le374
    have s379 := s358.callKeep hk377 hp373 hrow372
    unfold nodeV
    refine hK _ _ (s379.n0.2) ?_
    clear hK K
    try simp only [putq]
    refine Ch.mid3 (by rfl) (fun K hK => ?_)
    go_simp
    refine hK _ _ ((s379.other _).n0.2) ?_
    clear hK K
    try simp only [putq]
    have cc := s379.n1.2.five
    have cl := s379.n1.2.lt
    have cd := s379.d01
    have cr := s379.n2.2.five
    have cq := s379.n2.2.lt
    have ce := s379.d12
    have cf := s379.d02
    refine Ch.mid4 (by rfl) (fun K hK => ?_)
    go_simp
    refine hK _ _ ((s379.other _).n0.2) ?_
    clear hK K
    try simp only [putq]
    refine Ch.mid5 (by rfl) (fun K hK => ?_)
    go_simp
    have s380 := s379.s14 (.slice (some ⟨w375.heap.size,0,none⟩) 2 2)
    refine hK _ _ ((s380.other _).n0.2) ?_
    clear hK K
    try simp only [putq]
    refine Ch.run_end ?_
    go_wp2_with fail
    have s381 := s380.p2 (.int .i64 18) (.string ⟨#[]⟩) (.int .i64 0) (.int .i64 (Ps.A l i)) (.slice (some ⟨w375.heap.size,0,none⟩) 2 2)
    have s382 := s381.built2 (k0 := k329) (nm0 := nm330) (num0 := num331) (a0 := a332) (sv0 := .slice so334 ts333.length sc335) (ts0 := ts333) (k1 := k363) (nm1 := nm364) (num1 := num365) (a1 := a366) (sv1 := .slice so368 ts367.length sc369) (ts1 := ts367) (by simp) (by simp) (w375.heap.size) (by simp)
    exact bodyPost_ret (res5 Tryz.results119 rfl s382.n2.2) rfl ⟨.ok (HR.out.trans rfl) rfl (s382.treeOf (sv := .slice (some ⟨w375.heap.size,0,none⟩) 2 2) (by simp)) s382.ps (by have := le340.out; have := le354.out; have := le374.out; omega),s382.kp⟩
  ·have s383 := s10.call hk14 hp13
   replace HR := step_if HR hi12
   have c384 := s383.n0.2.k5
   have c386 := s383.n1.2.k5
   have d388 := s383.d01
   go_wp2_with fail
   clear c384 c386 d388
   have s389 := s383.s00 (.int .i64 17)
   refine (hex _ _ _ _ _ s389.ps).mono ?_
   rintro e w402 ⟨ht403,hk404⟩
   rcases ht403.or with ⟨n,a,hr405,g,rfl,hg⟩ | ⟨k390,nm391,num392,a393,ts394,so395,sc396,i397,hn398,rfl,hrow399,hp400,le401⟩
   ·exact ⟨rfl,.bad (step_bad HR hr405) ⟨g,rfl,hg⟩,s389.pan hk404⟩
   clear ht403
   replace HR := step_ok HR hn398
   have le401 := Lib.hid le401
   have s406 := s389.callKeep hk404 hp400 hrow399
   unfold nodeV
   go_wp2_with fail
   have s407 := s406.allocAt (w402.heap.size) 25 #[.int .i64 k390,.string nm391,.int .i64 num392,.int .i64 a393,.slice so395 ts394.length sc396] (by simp)
   refine (pmust_any s407.ps (⟨#[68,79]⟩) (by decide)).mono ?_
   rintro e w411 ⟨ht412,hk413⟩
   rcases ht412.or with ⟨n,a,hr414,g,rfl,hg⟩ | ⟨i408,hn409,rfl,hp410⟩
   ·exact ⟨rfl,.bad (step_bad HR hr414) ⟨g,rfl,hg⟩,s407.pan hk413⟩
   clear ht412
   replace HR := step_ok HR hn409
   have le415 := Lib.hid (Ps.must_ok hn409)
   have s416 := s407.call hk413 hp410
   have c417 := s416.n0.2.k5
   go_wp2_with fail
   clear c417
   have hC := s416.n0.2
   refine Ch.wp_region_run (fun u => Blk u (w402.heap.size) 25 #[.int .i64 k390,.string nm391,.int .i64 num392,.int .i64 a393,.slice so395 ts394.length sc396]) [0] [0,1] [2,3,4,5] [] (by kernel_rfl) (by kernel_rfl) (fun _ _ d _ _ h => by cases d <;> exact h) (hC) ?_
   clear hC
   have s419 := s416.drew
   refine Ch.load0 (v := ?v420) rfl (by rfl) ?y421 ?_
   case y421 => intro u hC; have c5 := Blk.five hC; go_simp; rfl
   simp only [putq]
   refine Ch.take1 (v := ?v422) rfl (by rfl) ?y423 ?_
   case y423 => intro u; go_simp; rfl
   simp only [putq]
   refine Ch.mid2 (by rfl) (fun K hK => ?_)
   go_simp
   refine (hsts _ _ _ _ _ s419.ps).mono ?_
   rintro e w436 ⟨ht437,hk438⟩
   rcases ht437.or with ⟨n,a,hr439,g,rfl,hg⟩ | ⟨k424,nm425,num426,a427,ts428,so429,sc430,i431,hn432,rfl,hrow433,hp434,le435⟩
   ·exact ⟨rfl,.bad (step_bad HR hr439) ⟨g,rfl,hg⟩,s419.pan hk438⟩
   clear ht437
   replace HR := step_ok HR hn432
   have le435 := Lib.hid le435
   have s440 := s419.callKeep hk438 hp434 hrow433
   unfold nodeV
   refine hK _ _ (s440.n0.2) ?_
   clear hK K
   try simp only [putq]
   refine Ch.mid3 (by rfl) (fun K hK => ?_)
   go_simp
   refine hK _ _ ((s440.other _).n0.2) ?_
   clear hK K
   try simp only [putq]
   have cc := s440.n1.2.five
   have cl := s440.n1.2.lt
   have cd := s440.d01
   have cr := s440.n2.2.five
   have cq := s440.n2.2.lt
   have ce := s440.d12
   have cf := s440.d02
   refine Ch.mid4 (by rfl) (fun K hK => ?_)
   go_simp
   refine hK _ _ ((s440.other _).n0.2) ?_
   clear hK K
   try simp only [putq]
   refine Ch.mid5 (by rfl) (fun K hK => ?_)
   go_simp
   have s441 := s440.s14 (.slice (some ⟨w436.heap.size,0,none⟩) 2 2)
   refine hK _ _ ((s441.other _).n0.2) ?_
   clear hK K
   try simp only [putq]
   refine Ch.run_end ?_
   clear cc cl cd cr cq ce cf
   have s442 := s441.built2 (k0 := k390) (nm0 := nm391) (num0 := num392) (a0 := a393) (sv0 := .slice so395 ts394.length sc396) (ts0 := ts394) (k1 := k424) (nm1 := nm425) (num1 := num426) (a1 := a427) (sv1 := .slice so429 ts428.length sc430) (ts1 := ts428) (by simp) (by simp) (w436.heap.size) (by simp)
   go_wp2_with fail
   refine (pmust_any s442.ps (⟨#[69,78,68]⟩) (by decide)).mono ?_
   rintro e w446 ⟨ht447,hk448⟩
   rcases ht447.or with ⟨n,a,hr449,g,rfl,hg⟩ | ⟨i443,hn444,rfl,hp445⟩
   ·exact ⟨rfl,.bad (step_bad HR hr449) ⟨g,rfl,hg⟩,s442.pan hk448⟩
   clear ht447
   replace HR := step_ok HR hn444
   have le450 := Lib.hid (Ps.must_ok hn444)
   have s451 := s442.call hk448 hp445
   have c452 := s451.n1.2.k5
   have c454 := s451.n2.2.k5
   have d456 := s451.d12
   go_wp2_with fail
   clear c452 c454 d456
   have s457 := s451.p2 (.int .i64 17) (.string ⟨#[]⟩) (.int .i64 0) (.int .i64 (Ps.A l i)) (.slice (some ⟨w436.heap.size,0,none⟩) 2 2)
   exact bodyPost_ret (res5 Tryz.results119 rfl s457.n2.2) rfl ⟨.ok (HR.out.trans rfl) rfl (s457.treeOf (sv := .slice (some ⟨w436.heap.size,0,none⟩) 2 2) (by simp)) s457.ps (by have := le401.out; have := le415.out; have := le435.out; have := le450.out; omega),s457.kp⟩
 ·have s458 := s5.call hk9 hp8
  replace HR := step_if HR hi7
  go_wp2_with fail
  go_loopg [4] (l.length + 1) (fun F bb wr => ∃ (j Fu : Nat) (acc : List Tree) (go : Option Addr) (gn gc : Nat) (b : Bool),bb = .bool b ∧ (b = true → l.length - j ≤ Fu ∧ Fu < F ∧ acc.length ≤ j) ∧ i ≤ j ∧ acc.length ≤ j + 1 ∧ St w wr p T l j d [(w2.heap.size,25,#[.int .i64 16,.string ⟨#[]⟩,.int .i64 0,.int .i64 (Ps.A l i),.slice go gn gc]),(w.heap.size,25,#[.int .i64 0,.string ⟨#[]⟩,.int .i64 0,.int .i64 0,.slice none 0 0])] (.slice go gn gc,acc) [] ∧
   Hid (r = (if b = true then ifLoop l (ex l) (sts l) Fu j acc else .ok acc j).bind fun ts i1 => elseR l (sts l) (Ps.A l i) ts i1))
  case atStart => exact ⟨i + 1,l.length,[],none,0,0,true,rfl,fun _ => ⟨by omega,by omega,Nat.zero_le _⟩,by omega,Nat.zero_le _,s458,HR⟩
  case round =>
   obtain ⟨j,Fu,acc,go,gn,gc,b,rfl,hF,hij,hacc,s4,HR⟩ := hrel
   have hjl := s4.ps.hi
   cases b with
   | false =>
    clear hF
    replace HR := step_elseB HR rfl
    replace HR : Hid (r = elseR l (sts l) (Ps.A l i) acc j) := HR
    unfold elseR at HR
    go_wp2_with fail
    refine (ptake_or s4.ps (⟨#[69,76,83,69]⟩) (by decide)).mono ?_
    rintro e w459 (⟨hi460,rfl,hp461,hk462⟩ | ⟨hi460,rfl,hp461,hk462⟩)
    ·have s463 := s4.call hk462 hp461
     replace HR := step_else HR hi460
     go_wp2_with fail
     refine (pmust_any s463.ps (⟨#[69,78,68]⟩) (by decide)).mono ?_
     rintro e w467 ⟨ht468,hk469⟩
     rcases ht468.or with ⟨n,a,hr470,g,rfl,hg⟩ | ⟨i464,hn465,rfl,hp466⟩
     ·exact ⟨rfl,.bad (step_bad HR hr470) ⟨g,rfl,hg⟩,s463.pan hk469⟩
     clear ht468
     replace HR := step_ok HR hn465
     have le471 := Lib.hid (Ps.must_ok hn465)
     have s472 := s463.call hk469 hp466
     have c473 := s472.n0.2.k5
     have c475 := s472.n1.2.k5
     have d477 := s472.d01
     go_wp2_with fail
     clear c473 c475 d477
     have s478 := s472.grown
     have s479 := s478.p1 (.int .i64 16) (.string ⟨#[]⟩) (.int .i64 0) (.int .i64 (Ps.A l i)) (.slice go gn gc)
     exact bodyPost_ret (res5 Tryz.results119 rfl s479.n1.2) rfl ⟨.ok (HR.out.trans rfl) rfl (s479.treeOf (sv := .slice go gn gc) (by simp)) s479.ps (by have := le471.out; omega),s479.kp⟩
    ·have s480 := s4.call hk462 hp461
     replace HR := step_if HR hi460
     have c481 := s480.n0.2.k5
     go_wp2_with fail
     clear c481
     have s483 := s480.s02 (.int .i64 1)
     have hC := s483.n0.2
     refine Ch.wp_region_run (fun u => Blk u (w2.heap.size) 25 #[.int .i64 16,.string ⟨#[]⟩,.int .i64 1,.int .i64 (Ps.A l i),.slice go gn gc]) [1] [0,1,2] [3,4,5,6,7] [5,6,7] (by kernel_rfl) (by kernel_rfl) (fun _ _ d _ _ h => by cases d <;> exact h) (hC) ?_
     clear hC
     have s484 := s483.drew
     refine Ch.take0 (v := ?v485) rfl (by rfl) ?y486 ?_
     case y486 => intro u; go_simp; rfl
     simp only [putq]
     refine Ch.load1 (v := ?v487) rfl (by rfl) ?y488 ?_
     case y488 => intro u hC; have c5 := Blk.five hC; go_simp; rfl
     simp only [putq]
     refine Ch.take2 (v := ?v489) rfl (by rfl) ?y490 ?_
     case y490 => intro u; go_simp; rfl
     simp only [putq]
     refine Ch.mid3 (by rfl) (fun K hK => ?_)
     go_simp
     refine (hsts _ _ _ _ _ s484.ps).mono ?_
     rintro e w503 ⟨ht504,hk505⟩
     rcases ht504.or with ⟨n,a,hr506,g,rfl,hg⟩ | ⟨k491,nm492,num493,a494,ts495,so496,sc497,i498,hn499,rfl,hrow500,hp501,le502⟩
     ·exact ⟨rfl,.bad (step_bad HR hr506) ⟨g,rfl,hg⟩,s484.pan hk505⟩
     clear ht504
     replace HR := step_ok HR hn499
     have le502 := Lib.hid le502
     have s507 := s484.callKeep hk505 hp501 hrow500
     unfold nodeV
     refine hK _ _ (s507.n0.2) ?_
     clear hK K
     try simp only [putq]
     refine Ch.mid4 (by rfl) (fun K hK => ?_)
     go_simp
     refine hK _ _ ((s507.other _).n0.2) ?_
     clear hK K
     try simp only [putq]
     refine Ch.post5 rfl (by rfl) (fun K hK => ?_)
     refine s507.app1 (List.mem_cons_self ..) (.tmp 50) (.tmp 53) rfl rfl rfl (by have := s507.ps.small; omega) (fun go508 gc509 w510 s511 => ?_)
     refine hK _ _ ?_
     clear hK K
     try simp only [putq]
     have c7 := s511.n0.2.five
     refine Ch.post6 rfl (by rfl) (fun K hK => ?_)
     go_simp
     refine hK _ _ ?_
     clear hK K
     try simp only [putq]
     refine Ch.post7 rfl (by rfl) (fun K hK => ?_)
     go_simp
     refine hK _ _ ?_
     clear hK K
     try simp only [putq]
     refine Ch.run_end ?_
     have s512 := s511.s04 (.slice go508 (acc.length + 1) gc509)
     clear c7
     go_wp2_with fail
     refine (pmust_any s512.ps (⟨#[69,78,68]⟩) (by decide)).mono ?_
     rintro e w516 ⟨ht517,hk518⟩
     rcases ht517.or with ⟨n,a,hr519,g,rfl,hg⟩ | ⟨i513,hn514,rfl,hp515⟩
     ·exact ⟨rfl,.bad (step_bad HR hr519) ⟨g,rfl,hg⟩,s512.pan hk518⟩
     clear ht517
     replace HR := step_ok HR hn514
     have le520 := Lib.hid (Ps.must_ok hn514)
     have s521 := s512.call hk518 hp515
     have c522 := s521.n0.2.k5
     have c524 := s521.n1.2.k5
     have d526 := s521.d01
     go_wp2_with fail
     clear c522 c524 d526
     have s527 := s521.grown
     have s528 := s527.p1 (.int .i64 16) (.string ⟨#[]⟩) (.int .i64 1) (.int .i64 (Ps.A l i)) (.slice go508 (acc.length + 1) gc509)
     exact bodyPost_ret (res5 Tryz.results119 rfl s528.n1.2) rfl ⟨.ok (HR.out.trans rfl) rfl (s528.treeOf (sv := .slice go508 (acc.length + 1) gc509) (by simp)) s528.ps (by have := le502.out; have := le520.out; omega),s528.kp⟩
   | true =>
    obtain ⟨hF1,hF2,hacc2⟩ := hF rfl
    clear hF
    replace HR := step_ifB HR rfl
    cases Fu with
    | zero => omega
    | succ Fu =>
     unfold ifLoop at HR
     replace HR := step_as HR
     go_wp2_with fail
     refine (hex _ _ _ _ _ s4.ps).mono ?_
     rintro e w541 ⟨ht542,hk543⟩
     rcases ht542.or with ⟨n,a,hr544,g,rfl,hg⟩ | ⟨k529,nm530,num531,a532,ts533,so534,sc535,i536,hn537,rfl,hrow538,hp539,le540⟩
     ·exact ⟨rfl,.bad (step_bad HR hr544) ⟨g,rfl,hg⟩,s4.pan hk543⟩
     clear ht542
     replace HR := step_as (step_ok HR hn537)
     have le540 := Lib.hid le540
     have s545 := s4.callKeep hk543 hp539 hrow538
     unfold nodeV
     go_wp2_with fail
     have s546 := s545.allocAt (w541.heap.size) 25 #[.int .i64 k529,.string nm530,.int .i64 num531,.int .i64 a532,.slice so534 ts533.length sc535] (by simp)
     refine (pmust_any s546.ps (⟨#[84,72,69,78]⟩) (by decide)).mono ?_
     rintro e w550 ⟨ht551,hk552⟩
     rcases ht551.or with ⟨n,a,hr553,g,rfl,hg⟩ | ⟨i547,hn548,rfl,hp549⟩
     ·exact ⟨rfl,.bad (step_bad HR hr553) ⟨g,rfl,hg⟩,s546.pan hk552⟩
     clear ht551
     replace HR := step_as (step_ok HR hn548)
     have le554 := Lib.hid (Ps.must_ok hn548)
     have s555 := s546.call hk552 hp549
     have c556 := s555.n0.2.k5
     have c558 := s555.n1.2.k5
     have d560 := s555.d01
     go_wp2_with fail
     clear c556 c558 d560
     have hC := And.intro s555.n1.2 s555.n0.2
     refine Ch.wp_region_run (fun u => Blk u (w2.heap.size) 25 #[.int .i64 16,.string ⟨#[]⟩,.int .i64 0,.int .i64 (Ps.A l i),.slice go gn gc] ∧ Blk u (w541.heap.size) 25 #[.int .i64 k529,.string nm530,.int .i64 num531,.int .i64 a532,.slice so534 ts533.length sc535]) [1,2] [0,1,2,3] [4,5,6,7,8] [8] (by kernel_rfl) (by kernel_rfl) (fun _ _ d _ _ h => by cases d <;> exact h) (hC) ?_
     clear hC
     have s561 := s555.drew
     refine Ch.take0 (v := ?v562) rfl (by rfl) ?y563 ?_
     case y563 => intro u; go_simp; rfl
     simp only [putq]
     refine Ch.load1 (v := ?v564) rfl (by rfl) ?y565 ?_
     case y565 => intro u hC; have c5 := Blk.five hC.1; go_simp; rfl
     simp only [putq]
     refine Ch.load2 (v := ?v566) rfl (by rfl) ?y567 ?_
     case y567 => intro u hC; have c5 := Blk.five hC.2; go_simp; rfl
     simp only [putq]
     refine Ch.take3 (v := ?v568) rfl (by rfl) ?y569 ?_
     case y569 => intro u; go_simp; rfl
     simp only [putq]
     refine Ch.mid4 (by rfl) (fun K hK => ?_)
     go_simp
     refine (hsts _ _ _ _ _ s561.ps).mono ?_
     rintro e w582 ⟨ht583,hk584⟩
     rcases ht583.or with ⟨n,a,hr585,g,rfl,hg⟩ | ⟨k570,nm571,num572,a573,ts574,so575,sc576,i577,hn578,rfl,hrow579,hp580,le581⟩
     ·exact ⟨rfl,.bad (step_bad HR hr585) ⟨g,rfl,hg⟩,s561.pan hk584⟩
     clear ht583
     replace HR := step_ok HR hn578
     have le581 := Lib.hid le581
     have s586 := s561.callKeep hk584 hp580 hrow579
     unfold nodeV
     refine hK _ _ (⟨s586.n1.2,s586.n0.2⟩) ?_
     clear hK K
     try simp only [putq]
     refine Ch.mid5 (by rfl) (fun K hK => ?_)
     go_simp
     refine hK _ _ (⟨(s586.other _).n1.2,(s586.other _).n0.2⟩) ?_
     clear hK K
     try simp only [putq]
     refine Ch.mid6 (by rfl) (fun K hK => ?_)
     refine s586.app2 (k0 := k529) (nm0 := nm530) (num0 := num531) (a0 := a532) (sv0 := .slice so534 ts533.length sc535) (ts0 := ts533) (by simp) (List.mem_cons_self ..) (.tmp 39) (.tmp 43) rfl rfl rfl (by have := s586.ps.small; omega) (fun go587 gc588 w589 s590 => ?_)
     refine hK _ _ (⟨s590.n1.2,s590.n0.2⟩) ?_
     clear hK K
     try simp only [putq]
     have c7 := s590.n1.2.five
     refine Ch.mid7 (by rfl) (fun K hK => ?_)
     go_simp
     refine hK _ _ (⟨s590.n1.2,s590.n0.2⟩) ?_
     clear hK K
     try simp only [putq]
     refine Ch.post8 rfl (by rfl) (fun K hK => ?_)
     go_simp
     refine hK _ _ ?_
     clear hK K
     try simp only [putq]
     refine Ch.run_end ?_
     have s591 := s590.s14 (.slice go587 (acc.length + 2) gc588)
     clear c7
     have s592 := s591.drop
     go_wp2_with fail
     refine (ptake_or s592.ps (⟨#[69,76,83,73,70]⟩) (by decide)).mono ?_
     rintro e w593 (⟨hi594,rfl,hp595,hk596⟩ | ⟨hi594,rfl,hp595,hk596⟩)
     ·have s597 := s592.call hk596 hp595
      replace HR := step_elseB HR hi594
      go_wp2_with fail
      go_roundg (Fu + 1)
      case measure => omega
      case rel => have a0 := le540.out; have a1 := le554.out; have a2 := le581.out; exact ⟨i577,Fu,acc ++ [Tree.node k529 nm530 num531 a532 ts533,Tree.node k570 nm571 num572 a573 ts574],go587,acc.length + 2,gc588,false,rfl,(fun h => by cases h),by omega,by simp <;> omega,s597.rowsOf (fun _ h => by cases h),HR⟩
     ·have s598 := s592.call hk596 hp595
      replace HR := step_ifB HR hi594
      go_wp2_with fail
      go_roundg (Fu + 1)
      case measure => omega
      case rel => have a0 := le540.out; have a1 := le554.out; have a2 := le581.out; exact ⟨(i577 + 1),Fu,acc ++ [Tree.node k529 nm530 num531 a532 ts533,Tree.node k570 nm571 num572 a573 ts574],go587,acc.length + 2,gc588,true,rfl,fun _ => ⟨by omega,by omega,by simp <;> omega⟩,by omega,by simp <;> omega,s598.rowsOf (fun _ h => by cases h),HR⟩
end Go.Proofs.YtneohanphabneaaGreatDoor
