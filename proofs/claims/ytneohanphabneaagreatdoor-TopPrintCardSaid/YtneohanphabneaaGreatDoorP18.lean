/-
  Contracts of the program's parser: a procedure.
-/
import Derived.Test.YtneohanphabneaaGreatDoorMP16
namespace Go.Proofs.YtneohanphabneaaGreatDoor
set_option maxRecDepth 100000
set_option maxHeartbeats 4000000
open Go.RowKit Ps
theorem ends_le {l : List Sc.Tok} {nm : ByteArray} {i j : Nat} {u : Unit} (h : Ps.ends l nm i = .ok u j) : i ≤ j := by
 unfold Ps.ends at h
 cases h1 : must l ⟨#[69,78,68]⟩ i with
 | bad n a => rw [h1] at h; cases h
 | ok v i1 =>
  rw [h1,R.bind_ok] at h
  have := must_ok h1
  have := must_ok h
  omega
theorem pproc_any {w : World} {p T : Nat} {l : List Sc.Tok} {i d : Nat} (h : PS w p T l i d) (hsts : CT 65 d (fun l => Ps.S l 20)) : Calls Tryz.prog 64 #[pp p] w fun e w' =>
  PT (fun b => w.heap.size ≤ b) p T l i d (Ps.proc l i) e w' ∧ Kp w.heap.size p w w' := by
 obtain ⟨r,hr⟩ : ∃ r,r = Ps.proc l i := ⟨_,rfl⟩
 rw [← hr]
 unfold Ps.proc at hr
 have HR := Lib.hid hr
 clear hr
 have hmf : ∀ (fn : Fn) (first cap : Array Value) (w : World),(Instr.makeFunc fn first cap).run Tryz.prog w = .ok (.func fn first cap) w := fun _ _ _ _ => rfl
 unfold pp
 go_enter Tryz.func64,Tryz.ntmps64
 go_wp2_with fail
 have s1 := (St.start h).allocAt (w.heap.size) 62 #[.pointer (some ⟨p,0,none⟩)] (by simp)
 have s2 := s1.allocAt (w.heap.size + 1) 25 #[.int .i64 0,.string ⟨#[]⟩,.int .i64 0,.int .i64 0,.slice none 0 0] (by simp)
 refine (pnode_any s2.ps 7).mono ?_
 rintro e w3 ⟨rfl,hb4⟩
 have s5 := s2.below hb4
 unfold nodeV
 have c6 := s5.n1.2.k1
 go_wp2_with fail
 clear c6
 have s8 := s5.allocAt (w3.heap.size) 25 #[.int .i64 7,.string ⟨#[]⟩,.int .i64 0,.int .i64 (Ps.A l i),.slice none 0 0] (by simp)
 refine (pmust_any s8.ps (⟨#[80,82,79,67,69,68,85,82,69]⟩) (by decide)).mono ?_
 rintro e w12 ⟨ht13,hk14⟩
 rcases ht13.or with ⟨n,a,hr15,g,rfl,hg⟩ | ⟨i9,hn10,rfl,hp11⟩
 ·exact ⟨rfl,.bad (step_bad HR hr15) ⟨g,rfl,hg⟩,s8.pan hk14⟩
 clear ht13
 replace HR := step_ok HR hn10
 have le16 := Lib.hid (Ps.must_ok hn10)
 have s17 := s8.call hk14 hp11
 have c18 := s17.n2.2.k1
 go_wp2_with fail
 clear c18
 refine (pname_any s17.ps).mono ?_
 rintro e w24 ⟨ht25,hk26⟩
 rcases ht25.or with ⟨n,a,hr27,g,rfl,hg⟩ | ⟨nm20,i21,hn22,rfl,hp23⟩
 ·exact ⟨rfl,.bad (step_bad HR hr27) ⟨g,rfl,hg⟩,s17.pan hk26⟩
 clear ht25
 replace HR := step_ok HR hn22
 have le28 := Lib.hid (Ps.name_ok hn22).1
 have s29 := s17.call hk26 hp23
 have c30 := s29.n0.2.k5
 have c32 := s29.n2.2.k1
 have d34 := s29.d02
 go_wp2_with fail
 clear c30 c32 d34
 have s35 := s29.s01 (.string nm20)
 refine (ptake_star s35.ps (⟨#[42]⟩) (by decide)).mono ?_
 rintro e w36 ⟨rfl,hp37,hk38⟩
 have le39 := Lib.hid (star_le l (⟨#[42]⟩) i21)
 have s40 := s35.call hk38 hp37
 go_upto_if 17 with fail
 go_cut [17] from 18 to 18 (fun _ wc => St w wc p T l (star l (⟨#[42]⟩) i21).2 d [(w3.heap.size,25,#[.int .i64 7,.string nm20,.int .i64 (star l (⟨#[42]⟩) i21).1,.int .i64 (Ps.A l i),.slice none 0 0]),(w.heap.size + 1,25,#[.int .i64 0,.string ⟨#[]⟩,.int .i64 0,.int .i64 0,.slice none 0 0]),(w.heap.size,62,#[.pointer (some ⟨p,0,none⟩)])] g0 [])
 case first =>
  cases hi41 : isW l i21 (⟨#[42]⟩) with
  | false =>
   go_wp2_with fail
   go_meet
   case rel =>
    have hq := s40
    rw [star_no hi41] at hq ⊢
    exact hq
  | true =>
   have c42 := s40.n0.2.k5
   go_wp2_with fail
   clear c42
   go_meet
   case rel =>
    have hq := s40.s02 (.int .i64 1)
    rw [star_yes hi41] at hq ⊢
    exact hq
 case rest =>
  have s44 := hcut
  clear hcut
  have c45 := s44.n2.2.k1
  go_wp2_with fail
  clear c45
  refine (pnode_any s44.ps 1).mono ?_
  rintro e w47 ⟨rfl,hb48⟩
  have s49 := s44.below hb48
  unfold nodeV
  have c50 := s49.n2.2.k1
  go_wp2_with fail
  clear c50
  have s52 := s49.allocAt (w47.heap.size) 25 #[.int .i64 1,.string ⟨#[]⟩,.int .i64 0,.int .i64 (Ps.A l (star l (⟨#[42]⟩) i21).2),.slice none 0 0] (by simp)
  unfold Ps.params at HR
  have c53 := s52.n3.2.k1
  go_wp2_with fail
  clear c53
  refine (ptake_or s52.ps (⟨#[40]⟩) (by decide)).mono ?_
  rintro e w55 (⟨hi56,rfl,hp57,hk58⟩ | ⟨hi56,rfl,hp57,hk58⟩)
  ·have s59 := s52.call hk58 hp57
   replace HR := step_elseB HR hi56
   have s60 := s59.keepNil
   replace HR := step_ok HR rfl
   have c61 := s60.n3.2.k1
   go_wp2_with fail
   clear c61
   refine (pnode_any s60.ps 0).mono ?_
   rintro e w63 ⟨rfl,hb64⟩
   have s65 := s60.below hb64
   unfold nodeV
   have c66 := s65.n3.2.k1
   go_wp2_with fail
   clear c66
   have s68 := s65.allocAt (w63.heap.size) 25 #[.int .i64 0,.string ⟨#[]⟩,.int .i64 0,.int .i64 (Ps.A l (star l (⟨#[42]⟩) i21).2),.slice none 0 0] (by simp)
   obtain ⟨r69,h70⟩ : ∃ r69,r69 = Ps.result l (star l (⟨#[42]⟩) i21).2 := ⟨_,rfl⟩
   rw [← h70] at HR
   unfold Ps.result at h70
   have HRr69 := Lib.hid h70
   clear h70
   refine (ptake_star s68.ps (⟨#[58]⟩) (by decide)).mono ?_
   rintro e w71 ⟨rfl,hp72,hk73⟩
   have le74 := Lib.hid (star_le l (⟨#[58]⟩) (star l (⟨#[42]⟩) i21).2)
   have s75 := s68.call hk73 hp72
   go_upto_if 56 with fail
   go_cut [56] from 57 to 58 (fun _ wc => ∃ (k : Nat) (nm : ByteArray) (num a : Nat) (so : Option Addr) (sc : Nat) (ts : List Tree) (i4 : Nat),St w wc p T l i4 d [(w63.heap.size,25,#[.int .i64 (k : Nat),.string nm,.int .i64 (num : Nat),.int .i64 (a : Nat),.slice so ts.length sc]),(w47.heap.size,25,#[.int .i64 1,.string ⟨#[]⟩,.int .i64 0,.int .i64 (Ps.A l (star l (⟨#[42]⟩) i21).2),.slice none 0 0]),(w3.heap.size,25,#[.int .i64 7,.string nm20,.int .i64 (star l (⟨#[42]⟩) i21).1,.int .i64 (Ps.A l i),.slice none 0 0]),(w.heap.size + 1,25,#[.int .i64 0,.string ⟨#[]⟩,.int .i64 0,.int .i64 0,.slice none 0 0]),(w.heap.size,62,#[.pointer (some ⟨p,0,none⟩)])] g0 [(.slice so ts.length sc,ts),(.slice none 0 0,[])] ∧ Hid (r69 = R.ok (Tree.node k nm num a ts) i4) ∧ Hid ((star l (⟨#[42]⟩) i21).2 ≤ i4))
   case first =>
    cases hi76 : isW l (star l (⟨#[42]⟩) i21).2 (⟨#[58]⟩) with
    | false =>
     replace HRr69 := step_else HRr69 hi76
     go_wp2_with fail
     go_meet
     have s77 := s75.keepNil
     case rel =>
      have hq := s77
      rw [star_no hi76] at hq
      exact ⟨0,⟨#[]⟩,0,Ps.A l (star l (⟨#[42]⟩) i21).2,none,0,[],(star l (⟨#[42]⟩) i21).2,hq.rowsOf (fun _ h => by simp at h; simp [h]),HRr69,Nat.le_refl _⟩
    | true =>
     replace HRr69 := step_tail (step_if HRr69 hi76)
     have s78 := s75
     rw [star_yes hi76] at s78
     have c79 := s78.n4.2.k1
     go_wp2_with fail
     clear c79
     refine (ptypeName_any s78.ps).mono ?_
     rintro e w93 ⟨ht94,hk95⟩
     rcases ht94.or with ⟨n,a,hr96,g,rfl,hg⟩ | ⟨k81,nm82,num83,a84,ts85,so86,sc87,i88,hn89,rfl,hrow90,hp91,le92⟩
     ·exact ⟨rfl,.bad (step_bad HR (step_bad HRr69 hr96)) ⟨g,rfl,hg⟩,s78.pan hk95⟩
     clear ht94
     replace HRr69 := step_ok HRr69 hn89
     have le92 := Lib.hid le92
     have s97 := s78.callKeep hk95 hp91 hrow90
     unfold nodeV
     have c98 := s97.n0.2.k5
     go_wp2_with fail
     clear c98
     go_meet
     have s100 := s97.p0 (.int .i64 k81) (.string nm82) (.int .i64 num83) (.int .i64 a84) (.slice so86 ts85.length sc87)
     case rel => exact ⟨k81,nm82,num83,a84,_,_,ts85,i88,s100.rowsOf (fun _ h => by simp at h; rcases h with h | h <;> simp [h]),HRr69,by have := le92.out; show _ ≤ _; omega⟩
   case rest =>
    obtain ⟨k101,nm102,num103,a104,so105,sc106,ts107,i108,s109,hr110,le111⟩ := hcut
    replace HR := step_ok HR hr110.out
    have c112 := s109.n4.2.k1
    go_wp2_with fail
    clear c112
    refine (pmust_any s109.ps (⟨#[59]⟩) (by decide)).mono ?_
    rintro e w117 ⟨ht118,hk119⟩
    rcases ht118.or with ⟨n,a,hr120,g,rfl,hg⟩ | ⟨i114,hn115,rfl,hp116⟩
    ·exact ⟨rfl,.bad (step_bad HR hr120) ⟨g,rfl,hg⟩,s109.pan hk119⟩
    clear ht118
    replace HR := step_ok HR hn115
    have le121 := Lib.hid (Ps.must_ok hn115)
    have s122 := s109.call hk119 hp116
    have c123 := s122.n4.2.k1
    go_wp2_with fail
    clear c123
    have hBp := s122.ne _ (by simp : ((w.heap.size),62,#[.pointer (some ⟨p,0,none⟩)]) ∈ _)
    refine (psection_any s122.ps (⟨#[86,65,82]⟩) (by decide) _ (Ps.variable_ l) (clo_cap s122.n4.2 hBp (enters_variable _) fun u j hb hp => pvariable_any hp _ hb hBp)).mono ?_
    rintro e w137 ⟨ht138,hk139⟩
    rcases ht138.or with ⟨n,a,hr140,g,rfl,hg⟩ | ⟨k125,nm126,num127,a128,ts129,so130,sc131,i132,hn133,rfl,hrow134,hp135,le136⟩
    ·exact ⟨rfl,.bad (step_bad HR hr140) ⟨g,rfl,hg⟩,s122.pan hk139⟩
    clear ht138
    replace HR := step_ok HR hn133
    have le136 := Lib.hid le136
    have s141 := s122.callKeep hk139 hp135 hrow134
    unfold nodeV
    have c142 := s141.n4.2.k1
    go_wp2_with fail
    clear c142
    have s144 := s141.allocAt (w137.heap.size) 25 #[.int .i64 k125,.string nm126,.int .i64 num127,.int .i64 a128,.slice so130 ts129.length sc131] (by simp)
    refine (pmust_any s144.ps (⟨#[66,69,71,73,78]⟩) (by decide)).mono ?_
    rintro e w148 ⟨ht149,hk150⟩
    rcases ht149.or with ⟨n,a,hr151,g,rfl,hg⟩ | ⟨i145,hn146,rfl,hp147⟩
    ·exact ⟨rfl,.bad (step_bad HR hr151) ⟨g,rfl,hg⟩,s144.pan hk150⟩
    clear ht149
    replace HR := step_ok HR hn146
    have le152 := Lib.hid (Ps.must_ok hn146)
    have s153 := s144.call hk150 hp147
    have c154 := s153.n2.2.k5
    have c156 := s153.n1.2.k5
    have c158 := s153.n0.2.k5
    have c160 := s153.n5.2.k1
    have d162 := s153.d12
    have d163 := s153.d02
    have d164 := s153.d25
    have d165 := s153.d01
    have d166 := s153.d15
    have d167 := s153.d05
    go_wp2_with fail
    clear c154 c156 c158 c160 d162 d163 d164 d165 d166 d167
    have hC := And.intro s153.n2.2 (And.intro s153.n1.2 (And.intro s153.n0.2 s153.n5.2))
    refine Ch.wp_region_run (fun u => Blk u (w47.heap.size) 25 #[.int .i64 1,.string ⟨#[]⟩,.int .i64 0,.int .i64 (Ps.A l (star l (⟨#[42]⟩) i21).2),.slice none 0 0] ∧ Blk u (w63.heap.size) 25 #[.int .i64 k101,.string nm102,.int .i64 num103,.int .i64 a104,.slice so105 ts107.length sc106] ∧ Blk u (w137.heap.size) 25 #[.int .i64 k125,.string nm126,.int .i64 num127,.int .i64 a128,.slice so130 ts129.length sc131] ∧ Blk u (w.heap.size) 62 #[.pointer (some ⟨p,0,none⟩)]) [0,1,2,3] [0,1,2,3] [4,5,6,7] [] (by kernel_rfl) (by kernel_rfl) (fun _ _ d _ _ h => by cases d <;> exact h) (hC) ?_
    clear hC
    have s168 := s153.drew
    refine Ch.load0 (v := ?v169) rfl (by rfl) ?y170 ?_
    case y170 => intro u hC; have c5 := Blk.five hC.1; go_simp; rfl
    simp only [putq]
    refine Ch.load1 (v := ?v171) rfl (by rfl) ?y172 ?_
    case y172 => intro u hC; have c5 := Blk.five hC.2.1; go_simp; rfl
    simp only [putq]
    refine Ch.load2 (v := ?v173) rfl (by rfl) ?y174 ?_
    case y174 => intro u hC; have c5 := Blk.five hC.2.2.1; go_simp; rfl
    simp only [putq]
    refine Ch.load3 (v := ?v175) rfl (by rfl) ?y176 ?_
    case y176 => intro u hC; have c5 := Blk.one hC.2.2.2; go_simp; rfl
    simp only [putq]
    refine Ch.mid4 (by rfl) (fun K hK => ?_)
    go_simp
    refine (hsts _ _ _ _ _ s168.ps).mono ?_
    rintro e w189 ⟨ht190,hk191⟩
    rcases ht190.or with ⟨n,a,hr192,g,rfl,hg⟩ | ⟨k177,nm178,num179,a180,ts181,so182,sc183,i184,hn185,rfl,hrow186,hp187,le188⟩
    ·exact ⟨rfl,.bad (step_bad HR hr192) ⟨g,rfl,hg⟩,s168.pan hk191⟩
    clear ht190
    replace HR := step_ok HR hn185
    have le188 := Lib.hid le188
    have s193 := s168.callKeep hk191 hp187 hrow186
    unfold nodeV
    refine hK _ _ (⟨s193.n2.2,s193.n1.2,s193.n0.2,s193.n5.2⟩) ?_
    clear hK K
    try simp only [putq]
    refine Ch.mid5 (by rfl) (fun K hK => ?_)
    go_simp
    refine hK _ _ (⟨(s193.other _).n2.2,(s193.other _).n1.2,(s193.other _).n0.2,(s193.other _).n5.2⟩) ?_
    clear hK K
    try simp only [putq]
    have cc := s193.n3.2.five
    have cl := s193.n3.2.lt
    have cb := s193.n5.2.one
    have cbl := s193.n5.2.lt
    have cd := s193.d35
    refine Ch.mid6 (by rfl) (fun K hK => ?_)
    go_simp
    refine hK _ _ (⟨(s193.other _).n2.2,(s193.other _).n1.2,(s193.other _).n0.2,(s193.other _).n5.2⟩) ?_
    clear hK K
    try simp only [putq]
    refine Ch.mid7 (by rfl) (fun K hK => ?_)
    go_simp
    have s194 := s193.s34 (.slice (some ⟨w189.heap.size,0,none⟩) 4 4)
    refine hK _ _ (⟨(s194.other _).n2.2,(s194.other _).n1.2,(s194.other _).n0.2,(s194.other _).n5.2⟩) ?_
    clear hK K
    try simp only [putq]
    refine Ch.run_end ?_
    have s195 := s194.built4 (k0 := 1) (nm0 := ⟨#[]⟩) (num0 := 0) (a0 := (Ps.A l (star l (⟨#[42]⟩) i21).2)) (sv0 := .slice none 0 0) (ts0 := []) (k1 := k101) (nm1 := nm102) (num1 := num103) (a1 := a104) (sv1 := .slice so105 ts107.length sc106) (ts1 := ts107) (k2 := k125) (nm2 := nm126) (num2 := num127) (a2 := a128) (sv2 := .slice so130 ts129.length sc131) (ts2 := ts129) (k3 := k177) (nm3 := nm178) (num3 := num179) (a3 := a180) (sv3 := .slice so182 ts181.length sc183) (ts3 := ts181) (by simp) (by simp) (by simp) (by simp) (w189.heap.size) (by simp)
    go_wp2_with fail
    clear cc cl cb cbl cd
    refine (pends_any s195.ps nm20 (nm_ok hn22)).mono ?_
    rintro e w199 ⟨ht200,hk201⟩
    rcases ht200.or with ⟨n,a,hr202,g,rfl,hg⟩ | ⟨i196,hn197,rfl,hp198⟩
    ·exact ⟨rfl,.bad (step_bad HR hr202) ⟨g,rfl,hg⟩,s195.pan hk201⟩
    clear ht200
    replace HR := step_ok HR hn197
    have le203 := Lib.hid (ends_le hn197)
    have s204 := s195.call hk201 hp198
    have c205 := s204.n3.2.k5
    have c207 := s204.n4.2.k5
    have d209 := s204.d34
    go_wp2_with fail
    clear c205 c207 d209
    have s210 := s204.p4 (.int .i64 7) (.string nm20) (.int .i64 (star l (⟨#[42]⟩) i21).1) (.int .i64 (Ps.A l i)) (.slice (some ⟨w189.heap.size,0,none⟩) 4 4)
    exact bodyPost_ret (res5 Tryz.results64 rfl s210.n4.2) rfl ⟨.ok (HR.out.trans rfl) rfl (s210.treeOf (sv := .slice (some ⟨w189.heap.size,0,none⟩) 4 4) (by simp)) s210.ps (by have := le16.out; have := le28.out; have := le39.out; have := le74.out; have := le111.out; have := le121.out; have := le136.out; have := le152.out; have := le188.out; have := le203.out; omega),s210.kp⟩
  ·have s211 := s52.call hk58 hp57
   replace HR := step_ifB HR hi56
   have c212 := s211.n3.2.k1
   go_wp2_with fail
   clear c212
   refine (ptake_or s211.ps (⟨#[41]⟩) (by decide)).mono ?_
   rintro e w214 (⟨hi215,rfl,hp216,hk217⟩ | ⟨hi215,rfl,hp216,hk217⟩)
   ·have s218 := s211.call hk217 hp216
    replace HR := step_elseB HR hi215
    replace HR := step_as HR
    obtain ⟨r219,h220⟩ : ∃ r219,r219 = paramsLoop l l.length ((star l (⟨#[42]⟩) i21).2 + 1) [] := ⟨_,rfl⟩
    rw [← h220] at HR
    have HRr219 := Lib.hid h220
    clear h220
    go_wp2_with fail
    go_loopg [5] (l.length + 1) (fun F bb wr => ∃ (j Fu : Nat) (acc : List Tree) (go : Option Addr) (gn gc : Nat) (b : Bool),bb = .bool b ∧ (b = true → l.length - j ≤ Fu ∧ Fu < F ∧ acc.length ≤ j) ∧ Hid (((star l (⟨#[42]⟩) i21).2 + 1) ≤ j) ∧ St w wr p T l j d [(w47.heap.size,25,#[.int .i64 1,.string ⟨#[]⟩,.int .i64 0,.int .i64 (Ps.A l (star l (⟨#[42]⟩) i21).2),.slice go gn gc]),(w3.heap.size,25,#[.int .i64 7,.string nm20,.int .i64 (star l (⟨#[42]⟩) i21).1,.int .i64 (Ps.A l i),.slice none 0 0]),(w.heap.size + 1,25,#[.int .i64 0,.string ⟨#[]⟩,.int .i64 0,.int .i64 0,.slice none 0 0]),(w.heap.size,62,#[.pointer (some ⟨p,0,none⟩)])] (.slice go gn gc,acc) [] ∧
     Hid (r219 = (if b = true then paramsLoop l Fu j acc else .ok acc j)))
    case atStart => exact ⟨((star l (⟨#[42]⟩) i21).2 + 1),l.length,[],none,0,0,true,rfl,fun _ => ⟨by omega,by omega,Nat.zero_le _⟩,Nat.le_refl _,s218,HRr219⟩
    case round =>
     clear HRr219
     obtain ⟨j221,Fu,acc,go,gn,gc,b,rfl,hF,lj222,s4,HRr219⟩ := hrel
     have hjl := s4.ps.hi
     cases b with
     | false =>
      clear hF
      replace HRr219 := step_else HRr219 rfl
      replace HR := step_as (step_ok HR HRr219.out)
      have c223 := s4.n3.2.k1
      go_wp2_with fail
      clear c223
      refine (pmust_any s4.ps (⟨#[41]⟩) (by decide)).mono ?_
      rintro e w228 ⟨ht229,hk230⟩
      rcases ht229.or with ⟨n,a,hr231,g,rfl,hg⟩ | ⟨i225,hn226,rfl,hp227⟩
      ·exact ⟨rfl,.bad (step_bad HR hr231) ⟨g,rfl,hg⟩,s4.pan hk230⟩
      clear ht229
      replace HR := step_ok HR hn226
      have le232 := Lib.hid (Ps.must_ok hn226)
      have s233 := s4.call hk230 hp227
      have s234 := s233.grown
      replace HR := step_ok HR rfl
      have c235 := s234.n3.2.k1
      go_wp2_with fail
      clear c235
      refine (pnode_any s234.ps 0).mono ?_
      rintro e w237 ⟨rfl,hb238⟩
      have s239 := s234.below hb238
      unfold nodeV
      have c240 := s239.n3.2.k1
      go_wp2_with fail
      clear c240
      have s242 := s239.allocAt (w237.heap.size) 25 #[.int .i64 0,.string ⟨#[]⟩,.int .i64 0,.int .i64 (Ps.A l i225),.slice none 0 0] (by simp)
      obtain ⟨r243,h244⟩ : ∃ r243,r243 = Ps.result l i225 := ⟨_,rfl⟩
      rw [← h244] at HR
      unfold Ps.result at h244
      have HRr243 := Lib.hid h244
      clear h244
      refine (ptake_star s242.ps (⟨#[58]⟩) (by decide)).mono ?_
      rintro e w245 ⟨rfl,hp246,hk247⟩
      have le248 := Lib.hid (star_le l (⟨#[58]⟩) i225)
      have s249 := s242.call hk247 hp246
      go_upto_if 56 with fail
      go_cut [56] from 57 to 58 (fun _ wc => ∃ (k : Nat) (nm : ByteArray) (num a : Nat) (so : Option Addr) (sc : Nat) (ts : List Tree) (i4 : Nat),St w wc p T l i4 d [(w237.heap.size,25,#[.int .i64 (k : Nat),.string nm,.int .i64 (num : Nat),.int .i64 (a : Nat),.slice so ts.length sc]),(w47.heap.size,25,#[.int .i64 1,.string ⟨#[]⟩,.int .i64 0,.int .i64 (Ps.A l (star l (⟨#[42]⟩) i21).2),.slice go gn gc]),(w3.heap.size,25,#[.int .i64 7,.string nm20,.int .i64 (star l (⟨#[42]⟩) i21).1,.int .i64 (Ps.A l i),.slice none 0 0]),(w.heap.size + 1,25,#[.int .i64 0,.string ⟨#[]⟩,.int .i64 0,.int .i64 0,.slice none 0 0]),(w.heap.size,62,#[.pointer (some ⟨p,0,none⟩)])] g0 [(.slice so ts.length sc,ts),(.slice go gn gc,acc)] ∧ Hid (r243 = R.ok (Tree.node k nm num a ts) i4) ∧ Hid (i225 ≤ i4))
      case first =>
       cases hi250 : isW l i225 (⟨#[58]⟩) with
       | false =>
        replace HRr243 := step_else HRr243 hi250
        go_wp2_with fail
        go_meet
        have s251 := s249.keepNil
        case rel =>
         have hq := s251
         rw [star_no hi250] at hq
         exact ⟨0,⟨#[]⟩,0,Ps.A l i225,none,0,[],i225,hq.rowsOf (fun _ h => by simp at h; simp [h]),HRr243,Nat.le_refl _⟩
       | true =>
        replace HRr243 := step_tail (step_if HRr243 hi250)
        have s252 := s249
        rw [star_yes hi250] at s252
        have c253 := s252.n4.2.k1
        go_wp2_with fail
        clear c253
        refine (ptypeName_any s252.ps).mono ?_
        rintro e w267 ⟨ht268,hk269⟩
        rcases ht268.or with ⟨n,a,hr270,g,rfl,hg⟩ | ⟨k255,nm256,num257,a258,ts259,so260,sc261,i262,hn263,rfl,hrow264,hp265,le266⟩
        ·exact ⟨rfl,.bad (step_bad HR (step_bad HRr243 hr270)) ⟨g,rfl,hg⟩,s252.pan hk269⟩
        clear ht268
        replace HRr243 := step_ok HRr243 hn263
        have le266 := Lib.hid le266
        have s271 := s252.callKeep hk269 hp265 hrow264
        unfold nodeV
        have c272 := s271.n0.2.k5
        go_wp2_with fail
        clear c272
        go_meet
        have s274 := s271.p0 (.int .i64 k255) (.string nm256) (.int .i64 num257) (.int .i64 a258) (.slice so260 ts259.length sc261)
        case rel => exact ⟨k255,nm256,num257,a258,_,_,ts259,i262,s274.rowsOf (fun _ h => by simp at h; rcases h with h | h <;> simp [h]),HRr243,by have := le266.out; show _ ≤ _; omega⟩
      case rest =>
       obtain ⟨k275,nm276,num277,a278,so279,sc280,ts281,i282,s283,hr284,le285⟩ := hcut
       replace HR := step_ok HR hr284.out
       have c286 := s283.n4.2.k1
       go_wp2_with fail
       clear c286
       refine (pmust_any s283.ps (⟨#[59]⟩) (by decide)).mono ?_
       rintro e w291 ⟨ht292,hk293⟩
       rcases ht292.or with ⟨n,a,hr294,g,rfl,hg⟩ | ⟨i288,hn289,rfl,hp290⟩
       ·exact ⟨rfl,.bad (step_bad HR hr294) ⟨g,rfl,hg⟩,s283.pan hk293⟩
       clear ht292
       replace HR := step_ok HR hn289
       have le295 := Lib.hid (Ps.must_ok hn289)
       have s296 := s283.call hk293 hp290
       have c297 := s296.n4.2.k1
       go_wp2_with fail
       clear c297
       have hBp := s296.ne _ (by simp : ((w.heap.size),62,#[.pointer (some ⟨p,0,none⟩)]) ∈ _)
       refine (psection_any s296.ps (⟨#[86,65,82]⟩) (by decide) _ (Ps.variable_ l) (clo_cap s296.n4.2 hBp (enters_variable _) fun u j hb hp => pvariable_any hp _ hb hBp)).mono ?_
       rintro e w311 ⟨ht312,hk313⟩
       rcases ht312.or with ⟨n,a,hr314,g,rfl,hg⟩ | ⟨k299,nm300,num301,a302,ts303,so304,sc305,i306,hn307,rfl,hrow308,hp309,le310⟩
       ·exact ⟨rfl,.bad (step_bad HR hr314) ⟨g,rfl,hg⟩,s296.pan hk313⟩
       clear ht312
       replace HR := step_ok HR hn307
       have le310 := Lib.hid le310
       have s315 := s296.callKeep hk313 hp309 hrow308
       unfold nodeV
       have c316 := s315.n4.2.k1
       go_wp2_with fail
       clear c316
       have s318 := s315.allocAt (w311.heap.size) 25 #[.int .i64 k299,.string nm300,.int .i64 num301,.int .i64 a302,.slice so304 ts303.length sc305] (by simp)
       refine (pmust_any s318.ps (⟨#[66,69,71,73,78]⟩) (by decide)).mono ?_
       rintro e w322 ⟨ht323,hk324⟩
       rcases ht323.or with ⟨n,a,hr325,g,rfl,hg⟩ | ⟨i319,hn320,rfl,hp321⟩
       ·exact ⟨rfl,.bad (step_bad HR hr325) ⟨g,rfl,hg⟩,s318.pan hk324⟩
       clear ht323
       replace HR := step_ok HR hn320
       have le326 := Lib.hid (Ps.must_ok hn320)
       have s327 := s318.call hk324 hp321
       have c328 := s327.n2.2.k5
       have c330 := s327.n1.2.k5
       have c332 := s327.n0.2.k5
       have c334 := s327.n5.2.k1
       have d336 := s327.d12
       have d337 := s327.d02
       have d338 := s327.d25
       have d339 := s327.d01
       have d340 := s327.d15
       have d341 := s327.d05
       go_wp2_with fail
       clear c328 c330 c332 c334 d336 d337 d338 d339 d340 d341
       have hC := And.intro s327.n2.2 (And.intro s327.n1.2 (And.intro s327.n0.2 s327.n5.2))
       refine Ch.wp_region_run (fun u => Blk u (w47.heap.size) 25 #[.int .i64 1,.string ⟨#[]⟩,.int .i64 0,.int .i64 (Ps.A l (star l (⟨#[42]⟩) i21).2),.slice go gn gc] ∧ Blk u (w237.heap.size) 25 #[.int .i64 k275,.string nm276,.int .i64 num277,.int .i64 a278,.slice so279 ts281.length sc280] ∧ Blk u (w311.heap.size) 25 #[.int .i64 k299,.string nm300,.int .i64 num301,.int .i64 a302,.slice so304 ts303.length sc305] ∧ Blk u (w.heap.size) 62 #[.pointer (some ⟨p,0,none⟩)]) [0,1,2,3] [0,1,2,3] [4,5,6,7] [] (by kernel_rfl) (by kernel_rfl) (fun _ _ d _ _ h => by cases d <;> exact h) (hC) ?_
       clear hC
       have s342 := s327.drew
       refine Ch.load0 (v := ?v343) rfl (by rfl) ?y344 ?_
       case y344 => intro u hC; have c5 := Blk.five hC.1; go_simp; rfl
       simp only [putq]
       refine Ch.load1 (v := ?v345) rfl (by rfl) ?y346 ?_
       case y346 => intro u hC; have c5 := Blk.five hC.2.1; go_simp; rfl
       simp only [putq]
       refine Ch.load2 (v := ?v347) rfl (by rfl) ?y348 ?_
       case y348 => intro u hC; have c5 := Blk.five hC.2.2.1; go_simp; rfl
       simp only [putq]
       refine Ch.load3 (v := ?v349) rfl (by rfl) ?y350 ?_
       case y350 => intro u hC; have c5 := Blk.one hC.2.2.2; go_simp; rfl
       simp only [putq]
       refine Ch.mid4 (by rfl) (fun K hK => ?_)
       go_simp
       refine (hsts _ _ _ _ _ s342.ps).mono ?_
       rintro e w363 ⟨ht364,hk365⟩
       rcases ht364.or with ⟨n,a,hr366,g,rfl,hg⟩ | ⟨k351,nm352,num353,a354,ts355,so356,sc357,i358,hn359,rfl,hrow360,hp361,le362⟩
       ·exact ⟨rfl,.bad (step_bad HR hr366) ⟨g,rfl,hg⟩,s342.pan hk365⟩
       clear ht364
       replace HR := step_ok HR hn359
       have le362 := Lib.hid le362
       have s367 := s342.callKeep hk365 hp361 hrow360
       unfold nodeV
       refine hK _ _ (⟨s367.n2.2,s367.n1.2,s367.n0.2,s367.n5.2⟩) ?_
       clear hK K
       try simp only [putq]
       refine Ch.mid5 (by rfl) (fun K hK => ?_)
       go_simp
       refine hK _ _ (⟨(s367.other _).n2.2,(s367.other _).n1.2,(s367.other _).n0.2,(s367.other _).n5.2⟩) ?_
       clear hK K
       try simp only [putq]
       have cc := s367.n3.2.five
       have cl := s367.n3.2.lt
       have cb := s367.n5.2.one
       have cbl := s367.n5.2.lt
       have cd := s367.d35
       refine Ch.mid6 (by rfl) (fun K hK => ?_)
       go_simp
       refine hK _ _ (⟨(s367.other _).n2.2,(s367.other _).n1.2,(s367.other _).n0.2,(s367.other _).n5.2⟩) ?_
       clear hK K
       try simp only [putq]
       refine Ch.mid7 (by rfl) (fun K hK => ?_)
       go_simp
       have s368 := s367.s34 (.slice (some ⟨w363.heap.size,0,none⟩) 4 4)
       refine hK _ _ (⟨(s368.other _).n2.2,(s368.other _).n1.2,(s368.other _).n0.2,(s368.other _).n5.2⟩) ?_
       clear hK K
       try simp only [putq]
       refine Ch.run_end ?_
       have s369 := s368.built4 (k0 := 1) (nm0 := ⟨#[]⟩) (num0 := 0) (a0 := (Ps.A l (star l (⟨#[42]⟩) i21).2)) (sv0 := .slice go gn gc) (ts0 := acc) (k1 := k275) (nm1 := nm276) (num1 := num277) (a1 := a278) (sv1 := .slice so279 ts281.length sc280) (ts1 := ts281) (k2 := k299) (nm2 := nm300) (num2 := num301) (a2 := a302) (sv2 := .slice so304 ts303.length sc305) (ts2 := ts303) (k3 := k351) (nm3 := nm352) (num3 := num353) (a3 := a354) (sv3 := .slice so356 ts355.length sc357) (ts3 := ts355) (by simp) (by simp) (by simp) (by simp) (w363.heap.size) (by simp)
       go_wp2_with fail
       clear cc cl cb cbl cd
       refine (pends_any s369.ps nm20 (nm_ok hn22)).mono ?_
       rintro e w373 ⟨ht374,hk375⟩
       rcases ht374.or with ⟨n,a,hr376,g,rfl,hg⟩ | ⟨i370,hn371,rfl,hp372⟩
       ·exact ⟨rfl,.bad (step_bad HR hr376) ⟨g,rfl,hg⟩,s369.pan hk375⟩
       clear ht374
       replace HR := step_ok HR hn371
       have le377 := Lib.hid (ends_le hn371)
       have s378 := s369.call hk375 hp372
       have c379 := s378.n3.2.k5
       have c381 := s378.n4.2.k5
       have d383 := s378.d34
       go_wp2_with fail
       clear c379 c381 d383
       have s384 := s378.p4 (.int .i64 7) (.string nm20) (.int .i64 (star l (⟨#[42]⟩) i21).1) (.int .i64 (Ps.A l i)) (.slice (some ⟨w363.heap.size,0,none⟩) 4 4)
       exact bodyPost_ret (res5 Tryz.results64 rfl s384.n4.2) rfl ⟨.ok (HR.out.trans rfl) rfl (s384.treeOf (sv := .slice (some ⟨w363.heap.size,0,none⟩) 4 4) (by simp)) s384.ps (by have := le16.out; have := le28.out; have := le39.out; have := lj222.out; have := le232.out; have := le248.out; have := le285.out; have := le295.out; have := le310.out; have := le326.out; have := le362.out; have := le377.out; omega),s384.kp⟩
     | true =>
      obtain ⟨hF1,hF2,hacc⟩ := hF rfl
      clear hF
      replace HRr219 := step_if HRr219 rfl
      cases Fu with
      | zero => omega
      | succ Fu =>
       unfold paramsLoop Ps.param at HRr219
       replace HRr219 := step_as HRr219
       have c385 := s4.n3.2.k1
       go_wp2_with fail
       clear c385
       refine (pnode_any s4.ps 8).mono ?_
       rintro e w387 ⟨rfl,hb388⟩
       have s389 := s4.below hb388
       unfold nodeV
       have c390 := s389.n3.2.k1
       go_wp2_with fail
       clear c390
       have s392 := s389.allocAt (w387.heap.size) 25 #[.int .i64 8,.string ⟨#[]⟩,.int .i64 0,.int .i64 (Ps.A l j221),.slice none 0 0] (by simp)
       refine (ptake_or s392.ps (⟨#[86,65,82]⟩) (by decide)).mono ?_
       rintro e w393 (⟨hi394,rfl,hp395,hk396⟩ | ⟨hi394,rfl,hp395,hk396⟩)
       ·have s397 := s392.call hk396 hp395
        replace HRr219 := by rw [star_no hi394] at HRr219; exact HRr219
        have c398 := s397.n4.2.k1
        go_wp2_with fail
        clear c398
        refine (pname_any s397.ps).mono ?_
        rintro e w404 ⟨ht405,hk406⟩
        rcases ht405.or with ⟨n,a,hr407,g,rfl,hg⟩ | ⟨nm400,i401,hn402,rfl,hp403⟩
        ·exact ⟨rfl,.bad (step_bad HR (step_bad HRr219 hr407)) ⟨g,rfl,hg⟩,s397.pan hk406⟩
        clear ht405
        replace HRr219 := step_as (step_ok HRr219 hn402)
        have le408 := Lib.hid (Ps.name_ok hn402).1
        have s409 := s397.call hk406 hp403
        have c410 := s409.n0.2.k5
        have c412 := s409.n4.2.k1
        have d414 := s409.d04
        go_wp2_with fail
        clear c410 c412 d414
        have s415 := s409.s01 (.string nm400)
        refine (pmust_any s415.ps (⟨#[58]⟩) (by decide)).mono ?_
        rintro e w419 ⟨ht420,hk421⟩
        rcases ht420.or with ⟨n,a,hr422,g,rfl,hg⟩ | ⟨i416,hn417,rfl,hp418⟩
        ·exact ⟨rfl,.bad (step_bad HR (step_bad HRr219 hr422)) ⟨g,rfl,hg⟩,s415.pan hk421⟩
        clear ht420
        replace HRr219 := step_as (step_ok HRr219 hn417)
        have le423 := Lib.hid (Ps.must_ok hn417)
        have s424 := s415.call hk421 hp418
        have c425 := s424.n4.2.k1
        go_wp2_with fail
        clear c425
        refine (ptypeName_any s424.ps).mono ?_
        rintro e w439 ⟨ht440,hk441⟩
        rcases ht440.or with ⟨n,a,hr442,g,rfl,hg⟩ | ⟨k427,nm428,num429,a430,ts431,so432,sc433,i434,hn435,rfl,hrow436,hp437,le438⟩
        ·exact ⟨rfl,.bad (step_bad HR (step_bad HRr219 hr442)) ⟨g,rfl,hg⟩,s424.pan hk441⟩
        clear ht440
        replace HRr219 := step_ok HRr219 hn435
        have le438 := Lib.hid le438
        have s443 := s424.callKeep hk441 hp437 hrow436
        unfold nodeV
        have c444 := s443.n0.2.five
        have c444l := s443.n0.2.lt
        have c445 := s443.n1.2.five
        have c445l := s443.n1.2.lt
        have c446 := s443.n4.2.one
        have c446l := s443.n4.2.lt
        have cd := s443.d01
        have ce := s443.d04
        have cf := s443.d14
        have s447 := s443.s04 (.slice (some ⟨w439.heap.size,0,none⟩) 1 1)
        have s448 := s447.built1 (k0 := k427) (nm0 := nm428) (num0 := num429) (a0 := a430) (sv0 := .slice so432 ts431.length sc433) (ts0 := ts431) (by simp) (w439.heap.size) (by simp)
        go_wp2_with (first | (at_builtin; refine s448.app1L (k0 := 8) (nm0 := nm400) (num0 := 0) (a0 := (Ps.A l j221)) (sv0 := .slice (some ⟨w439.heap.size,0,none⟩) 1 1) (ts0 := [Tree.node k427 nm428 num429 a430 ts431]) (by simp) rfl (.tmp 46) (.tmp 48) rfl rfl (by simp [Act.eval]) (by have := s448.ps.small; omega) ?_; intro go449 gc450 w451 s452; have cz := s452.n1.2.five; have czb := s452.n4.2.one) | fail)
        clear cz czb c444 c444l c445 c445l c446 c446l cd ce cf
        have s453 := s452.s14 (.slice go449 (acc.length + 1) gc450)
        have s454 := s453.drop
        refine (ptake_or s454.ps (⟨#[59]⟩) (by decide)).mono ?_
        rintro e w455 (⟨hi456,rfl,hp457,hk458⟩ | ⟨hi456,rfl,hp457,hk458⟩)
        ·have s459 := s454.call hk458 hp457
         replace HRr219 := step_else HRr219 hi456
         go_wp2_with fail
         go_roundg (Fu + 1)
         case measure => omega
         case rel => have a0 := le408.out; have a1 := le423.out; have a2 := le438.out; have ax := lj222.out; exact ⟨i434,Fu,acc ++ [Tree.node 8 nm400 0 (Ps.A l j221) [Tree.node k427 nm428 num429 a430 ts431]],go449,acc.length + 1,gc450,false,rfl,(fun h => by cases h),(by show _ ≤ _; omega),s459.rowsOf (fun _ h => by cases h),HRr219⟩
        ·have s460 := s454.call hk458 hp457
         replace HRr219 := step_if HRr219 hi456
         go_wp2_with fail
         go_roundg (Fu + 1)
         case measure => omega
         case rel => have a0 := le408.out; have a1 := le423.out; have a2 := le438.out; have ax := lj222.out; exact ⟨(i434 + 1),Fu,acc ++ [Tree.node 8 nm400 0 (Ps.A l j221) [Tree.node k427 nm428 num429 a430 ts431]],go449,acc.length + 1,gc450,true,rfl,fun _ => ⟨by omega,by omega,by simp <;> omega⟩,(by show _ ≤ _; omega),s460.rowsOf (fun _ h => by cases h),HRr219⟩
       ·have s461 := s392.call hk396 hp395
        replace HRr219 := by rw [star_yes hi394] at HRr219; exact HRr219
        have c462 := s461.n0.2.k5
        have c464 := s461.n4.2.k1
        have d466 := s461.d04
        go_wp2_with fail
        clear c462 c464 d466
        have s467 := s461.s02 (.int .i64 1)
        refine (pname_any s467.ps).mono ?_
        rintro e w472 ⟨ht473,hk474⟩
        rcases ht473.or with ⟨n,a,hr475,g,rfl,hg⟩ | ⟨nm468,i469,hn470,rfl,hp471⟩
        ·exact ⟨rfl,.bad (step_bad HR (step_bad HRr219 hr475)) ⟨g,rfl,hg⟩,s467.pan hk474⟩
        clear ht473
        replace HRr219 := step_as (step_ok HRr219 hn470)
        have le476 := Lib.hid (Ps.name_ok hn470).1
        have s477 := s467.call hk474 hp471
        have c478 := s477.n0.2.k5
        have c480 := s477.n4.2.k1
        have d482 := s477.d04
        go_wp2_with fail
        clear c478 c480 d482
        have s483 := s477.s01 (.string nm468)
        refine (pmust_any s483.ps (⟨#[58]⟩) (by decide)).mono ?_
        rintro e w487 ⟨ht488,hk489⟩
        rcases ht488.or with ⟨n,a,hr490,g,rfl,hg⟩ | ⟨i484,hn485,rfl,hp486⟩
        ·exact ⟨rfl,.bad (step_bad HR (step_bad HRr219 hr490)) ⟨g,rfl,hg⟩,s483.pan hk489⟩
        clear ht488
        replace HRr219 := step_as (step_ok HRr219 hn485)
        have le491 := Lib.hid (Ps.must_ok hn485)
        have s492 := s483.call hk489 hp486
        have c493 := s492.n4.2.k1
        go_wp2_with fail
        clear c493
        refine (ptypeName_any s492.ps).mono ?_
        rintro e w507 ⟨ht508,hk509⟩
        rcases ht508.or with ⟨n,a,hr510,g,rfl,hg⟩ | ⟨k495,nm496,num497,a498,ts499,so500,sc501,i502,hn503,rfl,hrow504,hp505,le506⟩
        ·exact ⟨rfl,.bad (step_bad HR (step_bad HRr219 hr510)) ⟨g,rfl,hg⟩,s492.pan hk509⟩
        clear ht508
        replace HRr219 := step_ok HRr219 hn503
        have le506 := Lib.hid le506
        have s511 := s492.callKeep hk509 hp505 hrow504
        unfold nodeV
        have c512 := s511.n0.2.five
        have c512l := s511.n0.2.lt
        have c513 := s511.n1.2.five
        have c513l := s511.n1.2.lt
        have c514 := s511.n4.2.one
        have c514l := s511.n4.2.lt
        have cd := s511.d01
        have ce := s511.d04
        have cf := s511.d14
        have s515 := s511.s04 (.slice (some ⟨w507.heap.size,0,none⟩) 1 1)
        have s516 := s515.built1 (k0 := k495) (nm0 := nm496) (num0 := num497) (a0 := a498) (sv0 := .slice so500 ts499.length sc501) (ts0 := ts499) (by simp) (w507.heap.size) (by simp)
        go_wp2_with (first | (at_builtin; refine s516.app1L (k0 := 8) (nm0 := nm468) (num0 := 1) (a0 := (Ps.A l j221)) (sv0 := .slice (some ⟨w507.heap.size,0,none⟩) 1 1) (ts0 := [Tree.node k495 nm496 num497 a498 ts499]) (by simp) rfl (.tmp 46) (.tmp 48) rfl rfl (by simp [Act.eval]) (by have := s516.ps.small; omega) ?_; intro go517 gc518 w519 s520; have cz := s520.n1.2.five; have czb := s520.n4.2.one) | fail)
        clear cz czb c512 c512l c513 c513l c514 c514l cd ce cf
        have s521 := s520.s14 (.slice go517 (acc.length + 1) gc518)
        have s522 := s521.drop
        refine (ptake_or s522.ps (⟨#[59]⟩) (by decide)).mono ?_
        rintro e w523 (⟨hi524,rfl,hp525,hk526⟩ | ⟨hi524,rfl,hp525,hk526⟩)
        ·have s527 := s522.call hk526 hp525
         replace HRr219 := step_else HRr219 hi524
         go_wp2_with fail
         go_roundg (Fu + 1)
         case measure => omega
         case rel => have a0 := le476.out; have a1 := le491.out; have a2 := le506.out; have ax := lj222.out; exact ⟨i502,Fu,acc ++ [Tree.node 8 nm468 1 (Ps.A l j221) [Tree.node k495 nm496 num497 a498 ts499]],go517,acc.length + 1,gc518,false,rfl,(fun h => by cases h),(by show _ ≤ _; omega),s527.rowsOf (fun _ h => by cases h),HRr219⟩
        ·have s528 := s522.call hk526 hp525
         replace HRr219 := step_if HRr219 hi524
         go_wp2_with fail
         go_roundg (Fu + 1)
         case measure => omega
         case rel => have a0 := le476.out; have a1 := le491.out; have a2 := le506.out; have ax := lj222.out; exact ⟨(i502 + 1),Fu,acc ++ [Tree.node 8 nm468 1 (Ps.A l j221) [Tree.node k495 nm496 num497 a498 ts499]],go517,acc.length + 1,gc518,true,rfl,fun _ => ⟨by omega,by omega,by simp <;> omega⟩,(by show _ ≤ _; omega),s528.rowsOf (fun _ h => by cases h),HRr219⟩
   ·have s529 := s211.call hk217 hp216
    replace HR := step_ifB HR hi215
    have s530 := s529.keepNil
    replace HR := step_ok HR rfl
    have c531 := s530.n3.2.k1
    go_wp2_with fail
    clear c531
    refine (pnode_any s530.ps 0).mono ?_
    rintro e w533 ⟨rfl,hb534⟩
    have s535 := s530.below hb534
    unfold nodeV
    have c536 := s535.n3.2.k1
    go_wp2_with fail
    clear c536
    have s538 := s535.allocAt (w533.heap.size) 25 #[.int .i64 0,.string ⟨#[]⟩,.int .i64 0,.int .i64 (Ps.A l (((star l (⟨#[42]⟩) i21).2 + 1) + 1)),.slice none 0 0] (by simp)
    obtain ⟨r539,h540⟩ : ∃ r539,r539 = Ps.result l (((star l (⟨#[42]⟩) i21).2 + 1) + 1) := ⟨_,rfl⟩
    rw [← h540] at HR
    unfold Ps.result at h540
    have HRr539 := Lib.hid h540
    clear h540
    refine (ptake_star s538.ps (⟨#[58]⟩) (by decide)).mono ?_
    rintro e w541 ⟨rfl,hp542,hk543⟩
    have le544 := Lib.hid (star_le l (⟨#[58]⟩) (((star l (⟨#[42]⟩) i21).2 + 1) + 1))
    have s545 := s538.call hk543 hp542
    go_upto_if 56 with fail
    go_cut [56] from 57 to 58 (fun _ wc => ∃ (k : Nat) (nm : ByteArray) (num a : Nat) (so : Option Addr) (sc : Nat) (ts : List Tree) (i4 : Nat),St w wc p T l i4 d [(w533.heap.size,25,#[.int .i64 (k : Nat),.string nm,.int .i64 (num : Nat),.int .i64 (a : Nat),.slice so ts.length sc]),(w47.heap.size,25,#[.int .i64 1,.string ⟨#[]⟩,.int .i64 0,.int .i64 (Ps.A l (star l (⟨#[42]⟩) i21).2),.slice none 0 0]),(w3.heap.size,25,#[.int .i64 7,.string nm20,.int .i64 (star l (⟨#[42]⟩) i21).1,.int .i64 (Ps.A l i),.slice none 0 0]),(w.heap.size + 1,25,#[.int .i64 0,.string ⟨#[]⟩,.int .i64 0,.int .i64 0,.slice none 0 0]),(w.heap.size,62,#[.pointer (some ⟨p,0,none⟩)])] g0 [(.slice so ts.length sc,ts),(.slice none 0 0,[])] ∧ Hid (r539 = R.ok (Tree.node k nm num a ts) i4) ∧ Hid ((((star l (⟨#[42]⟩) i21).2 + 1) + 1) ≤ i4))
    case first =>
     cases hi546 : isW l (((star l (⟨#[42]⟩) i21).2 + 1) + 1) (⟨#[58]⟩) with
     | false =>
      replace HRr539 := step_else HRr539 hi546
      go_wp2_with fail
      go_meet
      have s547 := s545.keepNil
      case rel =>
       have hq := s547
       rw [star_no hi546] at hq
       exact ⟨0,⟨#[]⟩,0,Ps.A l (((star l (⟨#[42]⟩) i21).2 + 1) + 1),none,0,[],(((star l (⟨#[42]⟩) i21).2 + 1) + 1),hq.rowsOf (fun _ h => by simp at h; simp [h]),HRr539,Nat.le_refl _⟩
     | true =>
      replace HRr539 := step_tail (step_if HRr539 hi546)
      have s548 := s545
      rw [star_yes hi546] at s548
      have c549 := s548.n4.2.k1
      go_wp2_with fail
      clear c549
      refine (ptypeName_any s548.ps).mono ?_
      rintro e w563 ⟨ht564,hk565⟩
      rcases ht564.or with ⟨n,a,hr566,g,rfl,hg⟩ | ⟨k551,nm552,num553,a554,ts555,so556,sc557,i558,hn559,rfl,hrow560,hp561,le562⟩
      ·exact ⟨rfl,.bad (step_bad HR (step_bad HRr539 hr566)) ⟨g,rfl,hg⟩,s548.pan hk565⟩
      clear ht564
      replace HRr539 := step_ok HRr539 hn559
      have le562 := Lib.hid le562
      have s567 := s548.callKeep hk565 hp561 hrow560
      unfold nodeV
      have c568 := s567.n0.2.k5
      go_wp2_with fail
      clear c568
      go_meet
      have s570 := s567.p0 (.int .i64 k551) (.string nm552) (.int .i64 num553) (.int .i64 a554) (.slice so556 ts555.length sc557)
      case rel => exact ⟨k551,nm552,num553,a554,_,_,ts555,i558,s570.rowsOf (fun _ h => by simp at h; rcases h with h | h <;> simp [h]),HRr539,by have := le562.out; show _ ≤ _; omega⟩
    case rest =>
     obtain ⟨k571,nm572,num573,a574,so575,sc576,ts577,i578,s579,hr580,le581⟩ := hcut
     replace HR := step_ok HR hr580.out
     have c582 := s579.n4.2.k1
     go_wp2_with fail
     clear c582
     refine (pmust_any s579.ps (⟨#[59]⟩) (by decide)).mono ?_
     rintro e w587 ⟨ht588,hk589⟩
     rcases ht588.or with ⟨n,a,hr590,g,rfl,hg⟩ | ⟨i584,hn585,rfl,hp586⟩
     ·exact ⟨rfl,.bad (step_bad HR hr590) ⟨g,rfl,hg⟩,s579.pan hk589⟩
     clear ht588
     replace HR := step_ok HR hn585
     have le591 := Lib.hid (Ps.must_ok hn585)
     have s592 := s579.call hk589 hp586
     have c593 := s592.n4.2.k1
     go_wp2_with fail
     clear c593
     have hBp := s592.ne _ (by simp : ((w.heap.size),62,#[.pointer (some ⟨p,0,none⟩)]) ∈ _)
     refine (psection_any s592.ps (⟨#[86,65,82]⟩) (by decide) _ (Ps.variable_ l) (clo_cap s592.n4.2 hBp (enters_variable _) fun u j hb hp => pvariable_any hp _ hb hBp)).mono ?_
     rintro e w607 ⟨ht608,hk609⟩
     rcases ht608.or with ⟨n,a,hr610,g,rfl,hg⟩ | ⟨k595,nm596,num597,a598,ts599,so600,sc601,i602,hn603,rfl,hrow604,hp605,le606⟩
     ·exact ⟨rfl,.bad (step_bad HR hr610) ⟨g,rfl,hg⟩,s592.pan hk609⟩
     clear ht608
     replace HR := step_ok HR hn603
     have le606 := Lib.hid le606
     have s611 := s592.callKeep hk609 hp605 hrow604
     unfold nodeV
     have c612 := s611.n4.2.k1
     go_wp2_with fail
     clear c612
     have s614 := s611.allocAt (w607.heap.size) 25 #[.int .i64 k595,.string nm596,.int .i64 num597,.int .i64 a598,.slice so600 ts599.length sc601] (by simp)
     refine (pmust_any s614.ps (⟨#[66,69,71,73,78]⟩) (by decide)).mono ?_
     rintro e w618 ⟨ht619,hk620⟩
     rcases ht619.or with ⟨n,a,hr621,g,rfl,hg⟩ | ⟨i615,hn616,rfl,hp617⟩
     ·exact ⟨rfl,.bad (step_bad HR hr621) ⟨g,rfl,hg⟩,s614.pan hk620⟩
     clear ht619
     replace HR := step_ok HR hn616
     have le622 := Lib.hid (Ps.must_ok hn616)
     have s623 := s614.call hk620 hp617
     have c624 := s623.n2.2.k5
     have c626 := s623.n1.2.k5
     have c628 := s623.n0.2.k5
     have c630 := s623.n5.2.k1
     have d632 := s623.d12
     have d633 := s623.d02
     have d634 := s623.d25
     have d635 := s623.d01
     have d636 := s623.d15
     have d637 := s623.d05
     go_wp2_with fail
     clear c624 c626 c628 c630 d632 d633 d634 d635 d636 d637
     have hC := And.intro s623.n2.2 (And.intro s623.n1.2 (And.intro s623.n0.2 s623.n5.2))
     refine Ch.wp_region_run (fun u => Blk u (w47.heap.size) 25 #[.int .i64 1,.string ⟨#[]⟩,.int .i64 0,.int .i64 (Ps.A l (star l (⟨#[42]⟩) i21).2),.slice none 0 0] ∧ Blk u (w533.heap.size) 25 #[.int .i64 k571,.string nm572,.int .i64 num573,.int .i64 a574,.slice so575 ts577.length sc576] ∧ Blk u (w607.heap.size) 25 #[.int .i64 k595,.string nm596,.int .i64 num597,.int .i64 a598,.slice so600 ts599.length sc601] ∧ Blk u (w.heap.size) 62 #[.pointer (some ⟨p,0,none⟩)]) [0,1,2,3] [0,1,2,3] [4,5,6,7] [] (by kernel_rfl) (by kernel_rfl) (fun _ _ d _ _ h => by cases d <;> exact h) (hC) ?_
     clear hC
     have s638 := s623.drew
     refine Ch.load0 (v := ?v639) rfl (by rfl) ?y640 ?_
     case y640 => intro u hC; have c5 := Blk.five hC.1; go_simp; rfl
     simp only [putq]
     refine Ch.load1 (v := ?v641) rfl (by rfl) ?y642 ?_
     case y642 => intro u hC; have c5 := Blk.five hC.2.1; go_simp; rfl
     simp only [putq]
     refine Ch.load2 (v := ?v643) rfl (by rfl) ?y644 ?_
     case y644 => intro u hC; have c5 := Blk.five hC.2.2.1; go_simp; rfl
     simp only [putq]
     refine Ch.load3 (v := ?v645) rfl (by rfl) ?y646 ?_
     case y646 => intro u hC; have c5 := Blk.one hC.2.2.2; go_simp; rfl
     simp only [putq]
     refine Ch.mid4 (by rfl) (fun K hK => ?_)
     go_simp
     refine (hsts _ _ _ _ _ s638.ps).mono ?_
     rintro e w659 ⟨ht660,hk661⟩
     rcases ht660.or with ⟨n,a,hr662,g,rfl,hg⟩ | ⟨k647,nm648,num649,a650,ts651,so652,sc653,i654,hn655,rfl,hrow656,hp657,le658⟩
     ·exact ⟨rfl,.bad (step_bad HR hr662) ⟨g,rfl,hg⟩,s638.pan hk661⟩
     clear ht660
     replace HR := step_ok HR hn655
     have le658 := Lib.hid le658
     have s663 := s638.callKeep hk661 hp657 hrow656
     unfold nodeV
     refine hK _ _ (⟨s663.n2.2,s663.n1.2,s663.n0.2,s663.n5.2⟩) ?_
     clear hK K
     try simp only [putq]
     refine Ch.mid5 (by rfl) (fun K hK => ?_)
     go_simp
     refine hK _ _ (⟨(s663.other _).n2.2,(s663.other _).n1.2,(s663.other _).n0.2,(s663.other _).n5.2⟩) ?_
     clear hK K
     try simp only [putq]
     have cc := s663.n3.2.five
     have cl := s663.n3.2.lt
     have cb := s663.n5.2.one
     have cbl := s663.n5.2.lt
     have cd := s663.d35
     refine Ch.mid6 (by rfl) (fun K hK => ?_)
     go_simp
     refine hK _ _ (⟨(s663.other _).n2.2,(s663.other _).n1.2,(s663.other _).n0.2,(s663.other _).n5.2⟩) ?_
     clear hK K
     try simp only [putq]
     refine Ch.mid7 (by rfl) (fun K hK => ?_)
     go_simp
     have s664 := s663.s34 (.slice (some ⟨w659.heap.size,0,none⟩) 4 4)
     refine hK _ _ (⟨(s664.other _).n2.2,(s664.other _).n1.2,(s664.other _).n0.2,(s664.other _).n5.2⟩) ?_
     clear hK K
     try simp only [putq]
     refine Ch.run_end ?_
     have s665 := s664.built4 (k0 := 1) (nm0 := ⟨#[]⟩) (num0 := 0) (a0 := (Ps.A l (star l (⟨#[42]⟩) i21).2)) (sv0 := .slice none 0 0) (ts0 := []) (k1 := k571) (nm1 := nm572) (num1 := num573) (a1 := a574) (sv1 := .slice so575 ts577.length sc576) (ts1 := ts577) (k2 := k595) (nm2 := nm596) (num2 := num597) (a2 := a598) (sv2 := .slice so600 ts599.length sc601) (ts2 := ts599) (k3 := k647) (nm3 := nm648) (num3 := num649) (a3 := a650) (sv3 := .slice so652 ts651.length sc653) (ts3 := ts651) (by simp) (by simp) (by simp) (by simp) (w659.heap.size) (by simp)
     go_wp2_with fail
     clear cc cl cb cbl cd
     refine (pends_any s665.ps nm20 (nm_ok hn22)).mono ?_
     rintro e w669 ⟨ht670,hk671⟩
     rcases ht670.or with ⟨n,a,hr672,g,rfl,hg⟩ | ⟨i666,hn667,rfl,hp668⟩
     ·exact ⟨rfl,.bad (step_bad HR hr672) ⟨g,rfl,hg⟩,s665.pan hk671⟩
     clear ht670
     replace HR := step_ok HR hn667
     have le673 := Lib.hid (ends_le hn667)
     have s674 := s665.call hk671 hp668
     have c675 := s674.n3.2.k5
     have c677 := s674.n4.2.k5
     have d679 := s674.d34
     go_wp2_with fail
     clear c675 c677 d679
     have s680 := s674.p4 (.int .i64 7) (.string nm20) (.int .i64 (star l (⟨#[42]⟩) i21).1) (.int .i64 (Ps.A l i)) (.slice (some ⟨w659.heap.size,0,none⟩) 4 4)
     exact bodyPost_ret (res5 Tryz.results64 rfl s680.n4.2) rfl ⟨.ok (HR.out.trans rfl) rfl (s680.treeOf (sv := .slice (some ⟨w659.heap.size,0,none⟩) 4 4) (by simp)) s680.ps (by have := le16.out; have := le28.out; have := le39.out; have := le544.out; have := le581.out; have := le591.out; have := le606.out; have := le622.out; have := le658.out; have := le673.out; omega),s680.kp⟩
end Go.Proofs.YtneohanphabneaaGreatDoor
