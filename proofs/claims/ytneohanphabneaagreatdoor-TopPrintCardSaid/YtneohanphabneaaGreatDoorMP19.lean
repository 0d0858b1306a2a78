/-
  Contracts of the program's parser: a module.
-/
import Derived.Test.YtneohanphabneaaGreatDoorP18
import Derived.Deep.QuietTactic
import Derived.BigQuiet
import Derived.WalkMore
namespace Go.Proofs.YtneohanphabneaaGreatDoor
set_option maxRecDepth 100000
set_option maxHeartbeats 8000000
open Go.RowKit Ps
section
variable {X : Nat → Prop} {w u : World} {p T : Nat} {l : List Sc.Tok} {i d : Nat} {g : Rw} {rs : List Rw} {b0 b1 b2 b3 b4 b5 b6 b7 b8 : Bl} {bs : List Bl}
theorem StX.n8 (h : StX X w u p T l i d (b0 :: b1 :: b2 :: b3 :: b4 :: b5 :: b6 :: b7 :: b8 :: bs) g rs) : w.heap.size ≤ b8.1 ∧ Blk u b8.1 b8.2.1 b8.2.2 := h.blk _ (by simp)
theorem StX.d68 (h : StX X w u p T l i d (b0 :: b1 :: b2 :: b3 :: b4 :: b5 :: b6 :: b7 :: b8 :: bs) g rs) : ¬ b6.1 = b8.1 ∧ ¬ b8.1 = b6.1 := by
 have := List.pairwise_iff_getElem.1 h.apart 6 8 (by simp) (by simp) (by decide)
 exact ⟨this,fun e => this e.symm⟩
end
theorem pmodule_any {w : World} {p T : Nat} {l : List Sc.Tok} {i d : Nat} (h : PS w p T l i d) (hex : CT 59 d (fun l => Ps.E l 20)) (hsts : CT 65 d (fun l => Ps.S l 20)) : Calls Tryz.prog 23 #[pp p] w fun e w' =>
  PT (fun b => w.heap.size ≤ b) p T l i d (Ps.module l i) e w' ∧ Kp w.heap.size p w w' := by
 obtain ⟨r,hr⟩ : ∃ r,r = Ps.module l i := ⟨_,rfl⟩
 rw [← hr]
 unfold Ps.module at hr
 have HR := Lib.hid hr
 clear hr
 have hmf : ∀ (fn : Fn) (first cap : Array Value) (w : World),(Instr.makeFunc fn first cap).run Tryz.prog w = .ok (.func fn first cap) w := fun _ _ _ _ => rfl
 unfold pp
 go_enter Tryz.func23,Tryz.ntmps23
 go_wp2_with fail
 have s1 := (St.start h).allocAt (w.heap.size) 62 #[.pointer (some ⟨p,0,none⟩)] (by simp)
 have s2 := s1.allocAt (w.heap.size + 1) 25 #[.int .i64 0,.string ⟨#[]⟩,.int .i64 0,.int .i64 0,.slice none 0 0] (by simp)
 refine (pnode_any s2.ps 2).mono ?_
 rintro e w3 ⟨rfl,hb4⟩
 have s5 := s2.below hb4
 unfold nodeV
 have c6 := s5.n1.2.k1
 go_wp2_with fail
 clear c6
 have s8 := s5.allocAt (w3.heap.size) 25 #[.int .i64 2,.string ⟨#[]⟩,.int .i64 0,.int .i64 (Ps.A l i),.slice none 0 0] (by simp)
 refine (pmust_any s8.ps (⟨#[77,79,68,85,76,69]⟩) (by decide)).mono ?_
 rintro e w12 ⟨ht13,hk14⟩
 rcases ht13.or with ⟨n,a,hr15,g,rfl,hg⟩ | ⟨i9,hn10,rfl,hp11⟩
 ·exact ⟨rfl,.bad (step_bad HR hr15) ⟨g,rfl,hg⟩,s8.pan hk14⟩
 clear ht13
 replace HR := step_ok HR hn10
 have le16 := Lib.hid (Ps.must_ok hn10)
 have s17 := s8.call hk14 hp11
 have c18 := s17.n2.2.k1
 go_wp2_with fail
 clear c18
 refine (pname_any s17.ps).mono ?_
 rintro e w24 ⟨ht25,hk26⟩
 rcases ht25.or with ⟨n,a,hr27,g,rfl,hg⟩ | ⟨nm20,i21,hn22,rfl,hp23⟩
 ·exact ⟨rfl,.bad (step_bad HR hr27) ⟨g,rfl,hg⟩,s17.pan hk26⟩
 clear ht25
 replace HR := step_ok HR hn22
 have le28 := Lib.hid (Ps.name_ok hn22).1
 have s29 := s17.call hk26 hp23
 have c30 := s29.n0.2.k5
 have c32 := s29.n2.2.k1
 have d34 := s29.d02
 go_wp2_with fail
 clear c30 c32 d34
 have s35 := s29.s01 (.string nm20)
 refine (pmust_any s35.ps (⟨#[59]⟩) (by decide)).mono ?_
 rintro e w39 ⟨ht40,hk41⟩
 rcases ht40.or with ⟨n,a,hr42,g,rfl,hg⟩ | ⟨i36,hn37,rfl,hp38⟩
 ·exact ⟨rfl,.bad (step_bad HR hr42) ⟨g,rfl,hg⟩,s35.pan hk41⟩
 clear ht40
 replace HR := step_ok HR hn37
 have le43 := Lib.hid (Ps.must_ok hn37)
 have s44 := s35.call hk41 hp38
 have c45 := s44.n2.2.k1
 go_wp2_with fail
 clear c45
 refine (pnode_any s44.ps 1).mono ?_
 rintro e w47 ⟨rfl,hb48⟩
 have s49 := s44.below hb48
 unfold nodeV
 have c50 := s49.n2.2.k1
 go_wp2_with fail
 clear c50
 have s52 := s49.allocAt (w47.heap.size) 25 #[.int .i64 1,.string ⟨#[]⟩,.int .i64 0,.int .i64 (Ps.A l i36),.slice none 0 0] (by simp)
 obtain ⟨r53,h54⟩ : ∃ r53,r53 = Ps.imports l i36 := ⟨_,rfl⟩
 rw [← h54] at HR
 unfold Ps.imports at h54
 have HRr53 := Lib.hid h54
 clear h54
 refine (ptake_star s52.ps (⟨#[73,77,80,79,82,84]⟩) (by decide)).mono ?_
 rintro e w55 ⟨rfl,hp56,hk57⟩
 have le58 := Lib.hid (star_le l (⟨#[73,77,80,79,82,84]⟩) i36)
 have s59 := s52.call hk57 hp56
 go_upto_if 24 with fail
 go_cut [24] from 25 to 40 (fun _ wc => ∃ (so : Option Addr) (sc : Nat) (ts : List Tree) (i4 : Nat),St w wc p T l i4 d [(w47.heap.size,25,#[.int .i64 1,.string ⟨#[]⟩,.int .i64 0,.int .i64 (Ps.A l i36),.slice so ts.length sc]),(w3.heap.size,25,#[.int .i64 2,.string nm20,.int .i64 0,.int .i64 (Ps.A l i),.slice none 0 0]),(w.heap.size + 1,25,#[.int .i64 0,.string ⟨#[]⟩,.int .i64 0,.int .i64 0,.slice none 0 0]),(w.heap.size,62,#[.pointer (some ⟨p,0,none⟩)])] g0 [(.slice so ts.length sc,ts)] ∧ Hid (r53 = R.ok (Tree.node 1 ⟨#[]⟩ 0 (Ps.A l i36) ts) i4) ∧ Hid (i36 ≤ i4))
 case first =>
  cases hi60 : isW l i36 (⟨#[73,77,80,79,82,84]⟩) with
  | false =>
   replace HRr53 := step_else HRr53 hi60
   go_wp2_with fail
   go_meet
   have s61 := s59.keepNil
   case rel =>
    have hq := s61
    rw [star_no hi60] at hq
    exact ⟨none,0,[],i36,hq,HRr53,Nat.le_refl _⟩
  | true =>
   replace HRr53 := step_if HRr53 hi60
   have s62 := s59
   rw [star_yes hi60] at s62
   obtain ⟨r63,h64⟩ : ∃ r63,r63 = importsLoop l l.length (i36 + 1) [] := ⟨_,rfl⟩
   rw [← h64] at HRr53
   have H3r63 := Lib.hid h64
   clear h64
   go_wp2_with fail
   go_loopg [5] (l.length + 1) (fun F bb wr => ∃ (j Fu : Nat) (acc : List Tree) (go : Option Addr) (gn gc : Nat) (b : Bool),bb = .bool b ∧ (b = true → l.length - j ≤ Fu ∧ Fu < F ∧ acc.length ≤ j) ∧ Hid ((i36 + 1) ≤ j) ∧ St w wr p T l j d [(w47.heap.size,25,#[.int .i64 1,.string ⟨#[]⟩,.int .i64 0,.int .i64 (Ps.A l i36),.slice go gn gc]),(w3.heap.size,25,#[.int .i64 2,.string nm20,.int .i64 0,.int .i64 (Ps.A l i),.slice none 0 0]),(w.heap.size + 1,25,#[.int .i64 0,.string ⟨#[]⟩,.int .i64 0,.int .i64 0,.slice none 0 0]),(w.heap.size,62,#[.pointer (some ⟨p,0,none⟩)])] (.slice go gn gc,acc) [] ∧
    Hid (r63 = (if b = true then importsLoop l Fu j acc else .ok acc j)))
   case atStart => exact ⟨(i36 + 1),l.length,[],none,0,0,true,rfl,fun _ => ⟨by omega,by omega,Nat.zero_le _⟩,Nat.le_refl _,s62,H3r63⟩
   case round =>
    clear H3r63
    obtain ⟨j65,Fu,acc,go,gn,gc,b,rfl,hF,lj66,s4,H3r63⟩ := hrel
    have hjl := s4.ps.hi
    cases b with
    | false =>
     clear hF
     replace H3r63 := step_else H3r63 rfl
     replace HRr53 := step_ok HRr53 H3r63.out
     have c67 := s4.n3.2.k1
     go_wp2_with fail
     clear c67
     refine (pmust_any s4.ps (⟨#[59]⟩) (by decide)).mono ?_
     rintro e w72 ⟨ht73,hk74⟩
     rcases ht73.or with ⟨n,a,hr75,g,rfl,hg⟩ | ⟨i69,hn70,rfl,hp71⟩
     ·exact ⟨rfl,.bad (step_bad HR (step_bad HRr53 hr75)) ⟨g,rfl,hg⟩,s4.pan hk74⟩
     clear ht73
     replace HRr53 := step_ok HRr53 hn70
     have le76 := Lib.hid (Ps.must_ok hn70)
     have s77 := s4.call hk74 hp71
     go_wp2_with fail
     go_meet
     have s78 := s77.grown
     have hfm := RowIn.form (s78.rows _ (List.mem_cons_self ..))
     obtain ⟨fo,fc,hfm⟩ := hfm
     dsimp only at hfm
     case rel =>
      have hq := s78
      rw [hfm] at hq
      exact ⟨fo,fc,acc,i69,hq,HRr53,by have a0 := lj66.out; have a1 := le76.out; show _ ≤ _; omega⟩
    | true =>
     obtain ⟨hF1,hF2,hacc⟩ := hF rfl
     clear hF
     replace H3r63 := step_if H3r63 rfl
     cases Fu with
     | zero => omega
     | succ Fu =>
      unfold importsLoop at H3r63
      have c79 := s4.n3.2.k1
      go_wp2_with fail
      clear c79
      refine (pnode_any s4.ps 3).mono ?_
      rintro e w81 ⟨rfl,hb82⟩
      have s83 := s4.below hb82
      unfold nodeV
      have c84 := s83.n3.2.k1
      go_wp2_with fail
      clear c84
      have s86 := s83.allocAt (w81.heap.size) 25 #[.int .i64 3,.string ⟨#[]⟩,.int .i64 0,.int .i64 (Ps.A l j65),.slice none 0 0] (by simp)
      refine (pname_any s86.ps).mono ?_
      rintro e w91 ⟨ht92,hk93⟩
      rcases ht92.or with ⟨n,a,hr94,g,rfl,hg⟩ | ⟨nm87,i88,hn89,rfl,hp90⟩
      ·exact ⟨rfl,.bad (step_bad HR (step_bad HRr53 (step_bad H3r63 hr94))) ⟨g,rfl,hg⟩,s86.pan hk93⟩
      clear ht92
      replace H3r63 := step_ok H3r63 hn89
      have le95 := Lib.hid (Ps.name_ok hn89).1
      have s96 := s86.call hk93 hp90
      have c97 := s96.n0.2.five
      have c97l := s96.n0.2.lt
      have c98 := s96.n1.2.five
      have c98l := s96.n1.2.lt
      have c99 := s96.n4.2.one
      have c99l := s96.n4.2.lt
      have cd := s96.d01
      have ce := s96.d04
      have cf := s96.d14
      have s100 := s96.s01 (.string nm87)
      have s101 := s100.keepNil
      go_wp2_with (first | (at_builtin; refine s101.app1L (k0 := 3) (nm0 := nm87) (num0 := 0) (a0 := (Ps.A l j65)) (sv0 := .slice none 0 0) (ts0 := []) (by simp) rfl (.tmp 34) (.tmp 36) rfl rfl (by simp [Act.eval]) (by have := s101.ps.small; omega) ?_; intro go102 gc103 w104 s105; have cz := s105.n1.2.five; have czb := s105.n4.2.one) | fail)
      clear cz czb c97 c97l c98 c98l c99 c99l cd ce cf
      have s106 := s105.s14 (.slice go102 (acc.length + 1) gc103)
      have s107 := s106.drop
      refine (ptake_or s107.ps (⟨#[44]⟩) (by decide)).mono ?_
      rintro e w108 (⟨hi109,rfl,hp110,hk111⟩ | ⟨hi109,rfl,hp110,hk111⟩)
      ·have s112 := s107.call hk111 hp110
       replace H3r63 := step_else H3r63 hi109
       go_wp2_with fail
       go_roundg (Fu + 1)
       case measure => omega
       case rel => have a0 := le95.out; have ax := lj66.out; exact ⟨i88,Fu,acc ++ [Tree.node 3 nm87 0 (Ps.A l j65) []],go102,acc.length + 1,gc103,false,rfl,(fun h => by cases h),(by show _ ≤ _; omega),s112.rowsOf (fun _ h => by cases h),H3r63⟩
      ·have s113 := s107.call hk111 hp110
       replace H3r63 := step_if H3r63 hi109
       go_wp2_with fail
       go_roundg (Fu + 1)
       case measure => omega
       case rel => have a0 := le95.out; have ax := lj66.out; exact ⟨(i88 + 1),Fu,acc ++ [Tree.node 3 nm87 0 (Ps.A l j65) []],go102,acc.length + 1,gc103,true,rfl,fun _ => ⟨by omega,by omega,by simp <;> omega⟩,(by show _ ≤ _; omega),s113.rowsOf (fun _ h => by cases h),H3r63⟩
 case rest =>
  obtain ⟨so114,sc115,ts116,i117,s118,hr119,le120⟩ := hcut
  replace HR := step_ok HR hr119.out
  have c121 := s118.n3.2.k1
  go_wp2_with fail
  clear c121
  have hBp := s118.ne _ (by simp : ((w.heap.size),62,#[.pointer (some ⟨p,0,none⟩)]) ∈ _)
  refine (psection_any s118.ps (⟨#[67,79,78,83,84]⟩) (by decide) _ (Ps.declared l 4 ⟨#[61]⟩ (Ps.E l 20)) (clo_cap s118.n3.2 hBp (enters_module1 _) fun u j hb hp => pmodule1_any hp _ hb hBp hex)).mono ?_
  rintro e w135 ⟨ht136,hk137⟩
  rcases ht136.or with ⟨n,a,hr138,g,rfl,hg⟩ | ⟨k123,nm124,num125,a126,ts127,so128,sc129,i130,hn131,rfl,hrow132,hp133,le134⟩
  ·exact ⟨rfl,.bad (step_bad HR hr138) ⟨g,rfl,hg⟩,s118.pan hk137⟩
  clear ht136
  replace HR := step_ok HR hn131
  have le134 := Lib.hid le134
  have s139 := s118.callKeep hk137 hp133 hrow132
  unfold nodeV
  have c140 := s139.n3.2.k1
  go_wp2_with fail
  clear c140
  have s142 := s139.allocAt (w135.heap.size) 25 #[.int .i64 k123,.string nm124,.int .i64 num125,.int .i64 a126,.slice so128 ts127.length sc129] (by simp)
  have c143 := s142.n4.2.k1
  go_wp2_with fail
  clear c143
  refine (psection_any s142.ps (⟨#[84,89,80,69]⟩) (by decide) _ (Ps.declared l 5 ⟨#[61]⟩ (Ps.typ l)) (clo_cap s142.n4.2 hBp (enters_module2 _) fun u j hb hp => pmodule2_any hp _ hb hBp)).mono ?_
  rintro e w157 ⟨ht158,hk159⟩
  rcases ht158.or with ⟨n,a,hr160,g,rfl,hg⟩ | ⟨k145,nm146,num147,a148,ts149,so150,sc151,i152,hn153,rfl,hrow154,hp155,le156⟩
  ·exact ⟨rfl,.bad (step_bad HR hr160) ⟨g,rfl,hg⟩,s142.pan hk159⟩
  clear ht158
  replace HR := step_ok HR hn153
  have le156 := Lib.hid le156
  have s161 := s142.callKeep hk159 hp155 hrow154
  unfold nodeV
  have c162 := s161.n4.2.k1
  go_wp2_with fail
  clear c162
  have s164 := s161.allocAt (w157.heap.size) 25 #[.int .i64 k145,.string nm146,.int .i64 num147,.int .i64 a148,.slice so150 ts149.length sc151] (by simp)
  have c165 := s164.n5.2.k1
  go_wp2_with fail
  clear c165
  refine (psection_any s164.ps (⟨#[86,65,82]⟩) (by decide) _ (Ps.declared l 6 ⟨#[58]⟩ (Ps.typeName l)) (clo_cap s164.n5.2 hBp (enters_module3 _) fun u j hb hp => pmodule3_any hp _ hb hBp)).mono ?_
  rintro e w179 ⟨ht180,hk181⟩
  rcases ht180.or with ⟨n,a,hr182,g,rfl,hg⟩ | ⟨k167,nm168,num169,a170,ts171,so172,sc173,i174,hn175,rfl,hrow176,hp177,le178⟩
  ·exact ⟨rfl,.bad (step_bad HR hr182) ⟨g,rfl,hg⟩,s164.pan hk181⟩
  clear ht180
  replace HR := step_ok HR hn175
  have le178 := Lib.hid le178
  have s183 := s164.callKeep hk181 hp177 hrow176
  unfold nodeV
  have c184 := s183.n5.2.k1
  go_wp2_with fail
  clear c184
  have s186 := s183.allocAt (w179.heap.size) 25 #[.int .i64 k167,.string nm168,.int .i64 num169,.int .i64 a170,.slice so172 ts171.length sc173] (by simp)
  refine (pnode_any s186.ps 1).mono ?_
  rintro e w187 ⟨rfl,hb188⟩
  have s189 := s186.below hb188
  unfold nodeV
  have c190 := s189.n6.2.k1
  go_wp2_with fail
  clear c190
  have s192 := s189.allocAt (w187.heap.size) 25 #[.int .i64 1,.string ⟨#[]⟩,.int .i64 0,.int .i64 (Ps.A l i174),.slice none 0 0] (by simp)
  unfold Ps.procs at HR
  replace HR := step_as HR
  obtain ⟨r193,h194⟩ : ∃ r193,r193 = procsLoop l l.length i174 [] := ⟨_,rfl⟩
  rw [← h194] at HR
  have HRr193 := Lib.hid h194
  clear h194
  go_loopg [] l.length (fun F wr => ∃ (j : Nat) (acc : List Tree) (go : Option Addr) (gn gc : Nat),l.length - j ≤ F ∧ Hid (i174 ≤ j) ∧ acc.length ≤ j ∧ St w wr p T l j d [(w187.heap.size,25,#[.int .i64 1,.string ⟨#[]⟩,.int .i64 0,.int .i64 (Ps.A l i174),.slice go gn gc]),(w179.heap.size,25,#[.int .i64 k167,.string nm168,.int .i64 num169,.int .i64 a170,.slice so172 ts171.length sc173]),(w157.heap.size,25,#[.int .i64 k145,.string nm146,.int .i64 num147,.int .i64 a148,.slice so150 ts149.length sc151]),(w135.heap.size,25,#[.int .i64 k123,.string nm124,.int .i64 num125,.int .i64 a126,.slice so128 ts127.length sc129]),(w47.heap.size,25,#[.int .i64 1,.string ⟨#[]⟩,.int .i64 0,.int .i64 (Ps.A l i36),.slice so114 ts116.length sc115]),(w3.heap.size,25,#[.int .i64 2,.string nm20,.int .i64 0,.int .i64 (Ps.A l i),.slice none 0 0]),(w.heap.size + 1,25,#[.int .i64 0,.string ⟨#[]⟩,.int .i64 0,.int .i64 0,.slice none 0 0]),(w.heap.size,62,#[.pointer (some ⟨p,0,none⟩)])] (.slice go gn gc,acc) [(.slice so172 ts171.length sc173,ts171),(.slice so150 ts149.length sc151,ts149),(.slice so128 ts127.length sc129,ts127),(.slice so114 ts116.length sc115,ts116)] ∧ Hid (r193 = procsLoop l F j acc))
  case atStart => exact ⟨i174,[],none,0,0,by omega,Nat.le_refl _,Nat.zero_le _,s192,HRr193⟩
  case round =>
   clear HRr193
   obtain ⟨j195,acc,go,gn,gc,hF,lj196,hacc,s4,HRr193⟩ := hrel
   have hjl := s4.ps.hi
   cases gk with
   | zero => omega
   | succ F =>
    unfold procsLoop at HRr193
    have c197 := s4.n7.2.k1
    go_wp2_with fail
    clear c197
    refine (pis_any s4.ps (⟨#[80,82,79,67,69,68,85,82,69]⟩)).mono ?_
    rintro e w200 ⟨rfl,rfl⟩
    cases hi199 : Ps.isW l j195 (⟨#[80,82,79,67,69,68,85,82,69]⟩) with
    | false =>
     replace HRr193 := step_else HRr193 hi199
     replace HR := step_ok (step_ok HR HRr193.out) rfl
     have c201 := s4.n7.2.k1
     go_wp2_with fail
     clear c201
     have s203 := s4.grown
     refine (pnode_any s203.ps 1).mono ?_
     rintro e w204 ⟨rfl,hb205⟩
     have s206 := s203.below hb205
     unfold nodeV
     have c207 := s206.n7.2.k1
     go_wp2_with fail
     clear c207
     have s209 := s206.allocAt (w204.heap.size) 25 #[.int .i64 1,.string ⟨#[]⟩,.int .i64 0,.int .i64 (Ps.A l j195),.slice none 0 0] (by simp)
     obtain ⟨r210,h211⟩ : ∃ r210,r210 = Ps.body l j195 := ⟨_,rfl⟩
     rw [← h211] at HR
     unfold Ps.body at h211
     have HRr210 := Lib.hid h211
     clear h211
     refine (ptake_star s209.ps (⟨#[66,69,71,73,78]⟩) (by decide)).mono ?_
     rintro e w212 ⟨rfl,hp213,hk214⟩
     have le215 := Lib.hid (star_le l (⟨#[66,69,71,73,78]⟩) j195)
     have s216 := s209.call hk214 hp213
     go_upto_if 66 with fail
     go_cut [66] from 67 to 68 (fun _ wc => ∃ (k : Nat) (nm : ByteArray) (num a : Nat) (so : Option Addr) (sc : Nat) (ts : List Tree) (i9 : Nat),St w wc p T l i9 d [(w204.heap.size,25,#[.int .i64 (k : Nat),.string nm,.int .i64 (num : Nat),.int .i64 (a : Nat),.slice so ts.length sc]),(w187.heap.size,25,#[.int .i64 1,.string ⟨#[]⟩,.int .i64 0,.int .i64 (Ps.A l i174),.slice go gn gc]),(w179.heap.size,25,#[.int .i64 k167,.string nm168,.int .i64 num169,.int .i64 a170,.slice so172 ts171.length sc173]),(w157.heap.size,25,#[.int .i64 k145,.string nm146,.int .i64 num147,.int .i64 a148,.slice so150 ts149.length sc151]),(w135.heap.size,25,#[.int .i64 k123,.string nm124,.int .i64 num125,.int .i64 a126,.slice so128 ts127.length sc129]),(w47.heap.size,25,#[.int .i64 1,.string ⟨#[]⟩,.int .i64 0,.int .i64 (Ps.A l i36),.slice so114 ts116.length sc115]),(w3.heap.size,25,#[.int .i64 2,.string nm20,.int .i64 0,.int .i64 (Ps.A l i),.slice none 0 0]),(w.heap.size + 1,25,#[.int .i64 0,.string ⟨#[]⟩,.int .i64 0,.int .i64 0,.slice none 0 0]),(w.heap.size,62,#[.pointer (some ⟨p,0,none⟩)])] g0 ((.slice so ts.length sc,ts) :: [(.slice go gn gc,acc),(.slice so172 ts171.length sc173,ts171),(.slice so150 ts149.length sc151,ts149),(.slice so128 ts127.length sc129,ts127),(.slice so114 ts116.length sc115,ts116)]) ∧ Hid (r210 = R.ok (Tree.node k nm num a ts) i9) ∧ Hid (j195 ≤ i9))
     case first =>
      cases hi217 : isW l j195 (⟨#[66,69,71,73,78]⟩) with
      | false =>
       replace HRr210 := step_else HRr210 hi217
       go_wp2_with fail
       go_meet
       have s218 := s216.keepNil
       case rel =>
        have hq := s218
        rw [star_no hi217] at hq
        exact ⟨1,⟨#[]⟩,0,(Ps.A l j195),none,0,[],j195,hq.rowsOf (fun _ h => by simp at h; rcases h with h | h | h | h | h | h <;> simp [h]),HRr210,Nat.le_refl _⟩
      | true =>
       replace HRr210 := step_tail (step_if HRr210 hi217)
       have s219 := s216
       rw [star_yes hi217] at s219
       have c220 := s219.n8.2.k1
       go_wp2_with fail
       clear c220
       refine (hsts _ _ _ _ _ s219.ps).mono ?_
       rintro e w234 ⟨ht235,hk236⟩
       rcases ht235.or with ⟨n,a,hr237,g,rfl,hg⟩ | ⟨k222,nm223,num224,a225,ts226,so227,sc228,i229,hn230,rfl,hrow231,hp232,le233⟩
       ·exact ⟨rfl,.bad (step_bad HR (step_bad HRr210 hr237)) ⟨g,rfl,hg⟩,s219.pan hk236⟩
       clear ht235
       replace HRr210 := step_ok HRr210 hn230
       have le233 := Lib.hid le233
       have s238 := s219.callKeep hk236 hp232 hrow231
       unfold nodeV
       have c239 := s238.n0.2.k5
       go_wp2_with fail
       clear c239
       go_meet
       have s241 := s238.p0 (.int .i64 k222) (.string nm223) (.int .i64 num224) (.int .i64 a225) (.slice so227 ts226.length sc228)
       case rel => exact ⟨k222,nm223,num224,a225,_,_,ts226,i229,s241.rowsOf (fun _ h => by simp at h; rcases h with h | h | h | h | h | h <;> simp [h]),HRr210,by have := le233.out; show _ ≤ _; omega⟩
     case rest =>
      obtain ⟨k242,nm243,num244,a245,so246,sc247,ts248,i249,s250,hr251,le252⟩ := hcut
      replace HR := step_ok HR hr251.out
      have cf0 := s250.n0.2.five
      have cl0 := s250.n0.2.lt
      have cf1 := s250.n1.2.five
      have cl1 := s250.n1.2.lt
      have cf2 := s250.n2.2.five
      have cl2 := s250.n2.2.lt
      have cf3 := s250.n3.2.five
      have cl3 := s250.n3.2.lt
      have cf4 := s250.n4.2.five
      have cl4 := s250.n4.2.lt
      have cf5 := s250.n5.2.five
      have cl5 := s250.n5.2.lt
      have cf6 := s250.n6.2.five
      have cl6 := s250.n6.2.lt
      have cb := s250.n8.2.one
      have cbl := s250.n8.2.lt
      have cd := s250.d68
      have s253 := s250.s64 (.slice (some ⟨wc.heap.size,0,none⟩) 6 6)
      have s254 := s253.built6 (k0 := 1) (nm0 := ⟨#[]⟩) (num0 := 0) (a0 := (Ps.A l i36)) (sv0 := .slice so114 ts116.length sc115) (ts0 := ts116) (k1 := k123) (nm1 := nm124) (num1 := num125) (a1 := a126) (sv1 := .slice so128 ts127.length sc129) (ts1 := ts127) (k2 := k145) (nm2 := nm146) (num2 := num147) (a2 := a148) (sv2 := .slice so150 ts149.length sc151) (ts2 := ts149) (k3 := k167) (nm3 := nm168) (num3 := num169) (a3 := a170) (sv3 := .slice so172 ts171.length sc173) (ts3 := ts171) (k4 := 1) (nm4 := ⟨#[]⟩) (num4 := 0) (a4 := (Ps.A l i174)) (sv4 := .slice go gn gc) (ts4 := acc) (k5 := k242) (nm5 := nm243) (num5 := num244) (a5 := a245) (sv5 := .slice so246 ts248.length sc247) (ts5 := ts248) (by simp) (by simp) (by simp) (by simp) (by simp) (by simp) (wc.heap.size) (by simp)
      go_wp2_with fail
      clear cf0 cl0 cf1 cl1 cf2 cl2 cf3 cl3 cf4 cl4 cf5 cl5 cf6 cl6 cb cbl cd
      refine (pends_any s254.ps nm20 (nm_ok hn22)).mono ?_
      rintro e w258 ⟨ht259,hk260⟩
      rcases ht259.or with ⟨n,a,hr261,g,rfl,hg⟩ | ⟨i255,hn256,rfl,hp257⟩
      ·exact ⟨rfl,.bad (step_bad HR hr261) ⟨g,rfl,hg⟩,s254.pan hk260⟩
      clear ht259
      replace HR := step_ok HR hn256
      have le262 := Lib.hid (ends_le hn256)
      have s263 := s254.call hk260 hp257
      have c264 := s263.n8.2.k1
      go_wp2_with fail
      clear c264
      refine (pmust_any s263.ps (⟨#[46]⟩) (by decide)).mono ?_
      rintro e w269 ⟨ht270,hk271⟩
      rcases ht270.or with ⟨n,a,hr272,g,rfl,hg⟩ | ⟨i266,hn267,rfl,hp268⟩
      ·exact ⟨rfl,.bad (step_bad HR hr272) ⟨g,rfl,hg⟩,s263.pan hk271⟩
      clear ht270
      replace HR := step_ok HR hn267
      have le273 := Lib.hid (Ps.must_ok hn267)
      have s274 := s263.call hk271 hp268
      have c275 := s274.n6.2.k5
      have c277 := s274.n7.2.k5
      have d279 := s274.d67
      go_wp2_with fail
      clear c275 c277 d279
      have s280 := s274.p7 (.int .i64 2) (.string nm20) (.int .i64 0) (.int .i64 (Ps.A l i)) (.slice (some ⟨wc.heap.size,0,none⟩) 6 6)
      exact bodyPost_ret (res5 Tryz.results23 rfl s280.n7.2) rfl ⟨.ok (HR.out.trans rfl) rfl (s280.treeOf (sv := .slice (some ⟨wc.heap.size,0,none⟩) 6 6) (by simp)) s280.ps (by have := le16.out; have := le28.out; have := le43.out; have := le58.out; have := le120.out; have := le134.out; have := le156.out; have := le178.out; have := lj196.out; have := le215.out; have := le252.out; have := le262.out; have := le273.out; omega),s280.kp⟩
    | true =>
     replace HRr193 := step_if HRr193 hi199
     have c281 := s4.n0.2.k5
     have c283 := s4.n7.2.k1
     have d285 := s4.d07
     go_wp2_with fail
     clear c281 c283 d285
     have hC := And.intro s4.n0.2 s4.n7.2
     refine Ch.wp_region_run (fun u => Blk u (w187.heap.size) 25 #[.int .i64 1,.string ⟨#[]⟩,.int .i64 0,.int .i64 (Ps.A l i174),.slice go gn gc] ∧ Blk u (w.heap.size) 62 #[.pointer (some ⟨p,0,none⟩)]) [1,2] [0,1,2] [3,4,5,6,7] [7] (by kernel_rfl) (by kernel_rfl) (fun _ _ d _ _ h => by cases d <;> exact h) (hC) ?_
     clear hC
     have s286 := s4.drew
     refine Ch.take0 (v := ?v287) rfl (by rfl) ?y288 ?_
     case y288 => intro u; go_simp; rfl
     simp only [putq]
     refine Ch.load1 (v := ?v289) rfl (by rfl) ?y290 ?_
     case y290 => intro u hC; have c5 := Blk.five hC.1; go_simp; rfl
     simp only [putq]
     refine Ch.load2 (v := ?v291) rfl (by rfl) ?y292 ?_
     case y292 => intro u hC; have c5 := Blk.one hC.2; go_simp; rfl
     simp only [putq]
     refine Ch.mid3 (by rfl) (fun K hK => ?_)
     go_simp
     refine (pproc_any s286.ps hsts).mono ?_
     rintro e w305 ⟨ht306,hk307⟩
     rcases ht306.or with ⟨n,a,hr308,g,rfl,hg⟩ | ⟨k293,nm294,num295,a296,ts297,so298,sc299,i300,hn301,rfl,hrow302,hp303,le304⟩
     ·exact ⟨rfl,.bad (step_bad HR (step_bad HRr193 hr308)) ⟨g,rfl,hg⟩,s286.pan hk307⟩
     clear ht306
     replace HRr193 := step_ok HRr193 hn301
     have le304 := Lib.hid le304
     have s309 := s286.callKeep hk307 hp303 hrow302
     unfold nodeV
     refine hK _ _ (⟨s309.n0.2,s309.n7.2⟩) ?_
     clear hK K
     try simp only [putq]
     refine Ch.mid4 (by rfl) (fun K hK => ?_)
     go_simp
     refine hK _ _ (⟨(s309.other _).n0.2,(s309.other _).n7.2⟩) ?_
     clear hK K
     try simp only [putq]
     refine Ch.mid5 (by rfl) (fun K hK => ?_)
     refine s309.app1 (List.mem_cons_self ..) (.tmp 55) (.tmp 58) rfl rfl rfl (by have := s309.ps.small; omega) (fun go310 gc311 w312 s313 => ?_)
     refine hK _ _ (⟨s313.n0.2,s313.n7.2⟩) ?_
     clear hK K
     try simp only [putq]
     have c7 := s313.n0.2.five
     refine Ch.mid6 (by rfl) (fun K hK => ?_)
     go_simp
     refine hK _ _ (⟨s313.n0.2,s313.n7.2⟩) ?_
     clear hK K
     try simp only [putq]
     refine Ch.post7 rfl (by rfl) (fun K hK => ?_)
     go_simp
     refine hK _ _ ?_
     clear hK K
     try simp only [putq]
     refine Ch.run_end ?_
     have s314 := s313.s04 (.slice go310 (acc.length + 1) gc311)
     clear c7
     have c315 := s314.n7.2.k1
     go_wp2_with fail
     clear c315
     refine (pmust_any s314.ps (⟨#[59]⟩) (by decide)).mono ?_
     rintro e w320 ⟨ht321,hk322⟩
     rcases ht321.or with ⟨n,a,hr323,g,rfl,hg⟩ | ⟨i317,hn318,rfl,hp319⟩
     ·exact ⟨rfl,.bad (step_bad HR (step_bad HRr193 hr323)) ⟨g,rfl,hg⟩,s314.pan hk322⟩
     clear ht321
     replace HRr193 := step_ok HRr193 hn318
     have le324 := Lib.hid (Ps.must_ok hn318)
     have s325 := s314.call hk322 hp319
     go_wp2_with fail
     go_roundg F
     case measure => omega
     case rel => have a0 := le304.out; have a1 := le324.out; have ax := lj196.out; exact ⟨i317,acc ++ [Tree.node k293 nm294 num295 a296 ts297],go310,acc.length + 1,gc311,by omega,(by show _ ≤ _; omega),by simp <;> omega,s325.rowsOf (fun _ h => by simp at h; rcases h with h | h | h | h <;> simp [h]),HRr193⟩
end Go.Proofs.YtneohanphabneaaGreatDoor
namespace Go.Proofs.YtneohanphabneaaGreatDoor
set_option maxRecDepth 1000000
set_option maxHeartbeats 1000000
open Go.RowKit
theorem encode_two (c : UInt8) (hc : 128 ≤ c.toNat) : ∃ b0 b1 : UInt8,Utf8.encode (c.toNat : Int) = ⟨#[b0,b1]⟩ ∧ 128 ≤ b1.toNat := by
 have hlt : c.toNat < 256 := c.toNat_lt
 refine ⟨(192 + c.toNat / 64).toUInt8,(128 + c.toNat % 64).toUInt8,?_,?_⟩
 ·unfold Utf8.encode
  have hv : Utf8.valid (c.toNat : Int) = true := by unfold Utf8.valid; simp; omega
  rw [if_pos hv]
  simp only [Int.toNat_natCast]
  rw [if_neg (by omega),if_pos (by omega)]
 ·simp; omega
theorem quiet_add_same {P : Program} {f : FuncId} {args : Array Value} {w : World} {a n : Nat} {v : Value}
  (h : Calls P f args (w.drewN (a + n)) fun e w' => e = .returned v ∧ w' = w.drewN (a + n)) :
  Calls P f args (w.drewN (a + n)) fun e w'' => e = .returned v ∧ ∃ m,w'' = w.drewN (a + m) :=
 h.mono fun _ _ ⟨he,hm⟩ => ⟨he,n,hm⟩
theorem indexByte_out : ∀ (l : List UInt8) (c : UInt8),(∀ x ∈ l,x ≠ c) → Lib.indexByte l c = -1
 | [],_,_ => rfl
 | b :: l,c,h => by
  have hb : (b == c) = false := beq_eq_false_iff_ne.2 (h b (by simp))
  have ih := indexByte_out l c (fun x hx => h x (by simp [hx]))
  simp [Lib.indexByte,hb,ih]
theorem ib_high (b1 : UInt8) (h : 128 ≤ b1.toNat) (w : World) : Calls Tryz.prog 105 #[.string ((⟨#[61,35,60,62,43,45,42,38,126,40,41,91,93,123,125,44,59,58,46,94]⟩ : ByteArray).extract 2 20),.int .u8 b1.toNat] w fun e w' => e = .returned (.int .i64 (-1)) ∧ w' = w := by
 refine (Tryz.strings_IndexByte _ _ w).mono ?_
 rintro e w' ⟨rfl,rfl⟩
 refine ⟨ret_int ?_,rfl⟩
 have hc : (b1.toNat : Int).toNat.toUInt8 = b1 := by simp
 rw [hc]
 apply indexByte_out
 intro x hx e
 rw [e] at hx
 have hall : ∀ y ∈ ((⟨#[61,35,60,62,43,45,42,38,126,40,41,91,93,123,125,44,59,58,46,94]⟩ : ByteArray).extract 2 20).data.toList,y.toNat < 128 := by decide
 have := hall b1 hx
 omega
theorem below_drewN {B : Nat} {a w : World} (h : Below B a w) (n : Nat) : Below B a (w.drewN n) := ⟨h.os,h.tape,h.output,h.size,h.block⟩
theorem indexRune_high (c : UInt8) (w : World) (hc : 128 ≤ c.toNat) : Calls Tryz.prog 155 #[.string ⟨#[61,35,60,62,43,45,42,38,126,40,41,91,93,123,125,44,59,58,46,94]⟩,.int .i32 c.toNat] w fun e w' => e = .returned (.int .i64 (-1)) ∧ Below w.heap.size w w' := by
 have hlt : (c.toNat : Int) < 256 := by have := c.toNat_lt; omega
 have h0 : (128 : Int) ≤ c.toNat := by omega
 have h1 : ((c.toNat : Int) == 65533) = false := beq_eq_false_iff_ne.2 (by omega)
 have hv : Lib.validRune c.toNat = true := by unfold Lib.validRune; simp; omega
 obtain ⟨b0,b1,henc,hb1⟩ := encode_two c hc
 have hb2 : (((35 : Int)) != (b1.toNat : Int)) = true := by rw [bne_iff_ne]; omega
 have e1 : (⟨#[61,35,60,62,43,45,42,38,126,40,41,91,93,123,125,44,59,58,46,94]⟩ : ByteArray)[1] = 35 := rfl
 have e2 : (⟨#[b0,b1]⟩ : ByteArray)[1]'(by show 1 < 2; omega) = b1 := rfl
 have HB := Lib.hid hb1
 clear hb1 hc
 go_enter Tryz.func155,Tryz.ntmps155
 go_wp2_with (first | (go_at_call 181; refine (Tryz.utf8_ValidRune _ _).mono ?_; rintro e w' ⟨rfl,rfl⟩))
 go_step3
 go_wp2_with fail
 refine wp_loop_rounds 1 ?_
 rw [rounds_succ]
 go_wp2_with fail
 go_step3
 go_wp2_with fail
 go_quiet (fail)
 go_wp2_with fail
 go_quiet ((go_at_call 105; exact quiet_add_same (ib_high b1 HB.out _)))
 go_wp2_with fail
 rw [Exit.noGoto_ret]
 go_wp2_with fail
 rw [Exit.noGoto_ret]
 go_wp2_with fail
 go_ret
 exact ⟨rfl,below_drewN (Below.refl _ _) _⟩
theorem containsRune_high (c : UInt8) (w : World) (hc : 128 ≤ c.toNat) : Calls Tryz.prog 111 #[.string ⟨#[61,35,60,62,43,45,42,38,126,40,41,91,93,123,125,44,59,58,46,94]⟩,.int .i32 c.toNat] w fun e w' => e = .returned (.bool false) ∧ Below w.heap.size w w' := by
 have C := Lib.hid (indexRune_high c w hc)
 go_enter Tryz.func111,Tryz.ntmps111
 go_wp2_with (first | (go_at_call 155; refine C.out.mono ?_; rintro e w' ⟨rfl,hb⟩))
 go_ret
 exact ⟨rfl,hb⟩
theorem contains_index : ∀ (l : List UInt8) (c : UInt8),decide (0 ≤ Lib.indexByte l c) = l.contains c
 | [],_ => rfl
 | b :: l,c => by
  have ih := contains_index l c
  have hge : -1 ≤ Lib.indexByte l c := Lib.indexByte_ge l c
  unfold Lib.indexByte
  rw [List.contains_cons,← ih]
  by_cases h : b = c
  ·rw [h]; simp
  ·have h1 : (b == c) = false := beq_eq_false_iff_ne.2 h
   have h2 : (c == b) = false := beq_eq_false_iff_ne.2 (Ne.symm h)
   rw [h1,h2,Bool.false_or]
   rw [Bool.eq_iff_iff]
   by_cases h3 : Lib.indexByte l c = -1
   ·rw [h3]; simp
   ·have h4 : (Lib.indexByte l c == -1) = false := beq_eq_false_iff_ne.2 h3
    rw [h4]
    simp only [Bool.false_eq_true,if_false,decide_eq_true_eq]
    omega
theorem containsRune_low (c : UInt8) (w : World) (hc : c.toNat < 128) : Calls Tryz.prog 111 #[.string ⟨#[61,35,60,62,43,45,42,38,126,40,41,91,93,123,125,44,59,58,46,94]⟩,.int .i32 c.toNat] w fun e w' => e = .returned (.bool (Sc.isSign c)) ∧ w = w' := by
 refine (Tryz.strings_ContainsRune_ascii _ _ w (by omega) (by omega)).mono ?_
 rintro e w' ⟨rfl,rfl⟩
 refine ⟨ret_bool ?_,rfl⟩
 have hx : (c.toNat : Int).toNat.toUInt8 = c := by simp
 rw [hx,contains_index]
 rfl
theorem isSign_low {c : UInt8} (h : Sc.isSign c = true) : c.toNat < 128 := by
 unfold Sc.isSign at h
 rw [List.contains_iff_mem] at h
 have hall : ∀ y ∈ ([61,35,60,62,43,45,42,38,126,40,41,91,93,123,125,44,59,58,46,94] : List UInt8),y.toNat < 128 := by decide
 exact hall c h
set_option maxRecDepth 100000
set_option maxHeartbeats 1000000
open Go.RowKit
theorem wrap32_byte (c : UInt8) : wrap32 (c.toNat : Int) = c.toNat := by
 have := c.toNat_lt
 unfold wrap32
 omega
theorem contains_pair (a b : UInt8) : Lib.contains [32,58,61,32,60,61,32,62,61,32] [32,a,b,32] = decide (b = 61 ∧ (a = 58 ∨ a = 60 ∨ a = 62)) := by
 unfold Lib.contains
 rw [Bool.eq_iff_iff,decide_eq_true_eq,decide_eq_true_eq]
 by_cases hb : b = 61
 ·subst hb
  by_cases h1 : a = 58
  ·subst h1; decide
  ·by_cases h2 : a = 60
   ·subst h2; decide
   ·by_cases h3 : a = 62
    ·subst h3; decide
    ·simp [Lib.index,List.isPrefixOf,h1,h2,h3]
 ·simp [Lib.index,List.isPrefixOf,hb]
def pairB (t : ByteArray) : Bool := decide (∃ h : 0 + 1 < t.size,t[0 + 1] = 61 ∧ (t[0] = 58 ∨ t[0] = 60 ∨ t[0] = 62))
theorem pairB_iff (t : ByteArray) : pairB t = true ↔ Sc.pairAt t 0 := by unfold pairB Sc.pairAt; rw [decide_eq_true_eq]
theorem contains_any (t : ByteArray) (m : Int) (h : 1 < t.size) (w : World) (hm : w.cell? ⟨3,0,none⟩ = some (.int .i64 m)) :
  Calls Tryz.prog 110 #[.string ⟨#[32,58,61,32,60,61,32,62,61,32]⟩,.string (⟨#[32]⟩ ++ t.extract 0 2 ++ ⟨#[32]⟩)] w fun e w' => e = .returned (.bool (pairB t)) ∧ w = w' := by
 refine (Tryz.strings_Contains _ _ m w (by decide) hm).mono ?_
 rintro e w' ⟨rfl,rfl⟩
 refine ⟨ret_bool ?_,rfl⟩
 have e1 : (⟨#[32]⟩ ++ t.extract 0 2 ++ ⟨#[32]⟩ : ByteArray).data.toList = ([32,t[0],t[1],32] : List UInt8) := by
  rw [ByteArray.data_append,ByteArray.data_append,Array.toList_append,Array.toList_append,Lib.extract_data,List.drop_zero]
  have h0 := Sc.drop_cons t 0 (by omega)
  rw [List.drop_zero] at h0
  rw [h0,Sc.drop_cons t 1 h]
  rfl
 rw [e1,contains_pair]
 unfold pairB
 rw [Bool.eq_iff_iff,decide_eq_true_eq,decide_eq_true_eq]
 constructor
 ·rintro ⟨a,b⟩; exact ⟨h,a,b⟩
 ·rintro ⟨_,a,b⟩; exact ⟨a,b⟩
theorem len_ld (t : ByteArray) (h : 0 < t.size) (hl : Sc.isL t[0] = true) : run Sc.isLD t = 1 + Sc.lenLD t 0 := by
 have := Sc.tw_step t 0 Sc.isLD h (by unfold Sc.isLD; rw [hl]; rfl)
 rw [List.drop_zero] at this
 exact this
theorem len_d (t : ByteArray) (h : 0 < t.size) (hl : Sc.isD t[0] = true) : run Sc.isD t = 1 + Sc.lenD t 0 := by
 have := Sc.tw_step t 0 Sc.isD h hl
 rw [List.drop_zero] at this
 exact this
def lenOf (t : ByteArray) (h : 0 < t.size) : Nat :=
 if Sc.isL t[0] then 1 + Sc.lenLD t 0 else if Sc.isD t[0] then 1 + Sc.lenD t 0 else if pairB t then 2 else if Sc.isSign t[0] then 1 else 0
theorem length_any (t : ByteArray) (m : Int) (w : World) (ht : t.size ≤ 100000) (hm : w.cell? ⟨3,0,none⟩ = some (.int .i64 m)) (h : 0 < t.size) : Calls Tryz.prog 48 #[.string t] w fun e w' => e = .returned (.int .i64 (lenOf t h)) ∧ Below w.heap.size w w' := by
 have hmf : ∀ (fn : Fn) (first cap : Array Value) (w : World),(Instr.makeFunc fn first cap).run Tryz.prog w = .ok (.func fn first cap) w := fun _ _ _ _ => rfl
 have hwr := wrap32_byte t[0]
 have hb0 : Below w.heap.size w (w.alloc (.cells #[.string t] 9)) := (Below.refl _ _).alloc (Nat.le_refl _) _
 have HB := Lib.hid hb0
 have hcell : (w.alloc (.cells #[.string t] 9)).cell? ⟨w.heap.size,0,none⟩ = some (.string t) := by simp
 have HC := Lib.hid hcell
 have hlt1 : 3 < w.heap.size := by
  rcases Nat.lt_or_ge 3 w.heap.size with h | h
  ·exact h
  ·simp [World.cell?,Array.getElem?_eq_none h] at hm
 have HM : Hid ((w.alloc (.cells #[.string t] 9)).cell? ⟨3,0,none⟩ = some (.int .i64 m)) := (hb0.cell (p := ⟨3,0,none⟩) hlt1).trans hm
 clear hb0 hcell hm hlt1
 rcases hl : Sc.isL t[0] with _ | _
 ·rcases hd : Sc.isD t[0] with _ | _
  ·rcases hp : pairB t with _ | _
   ·by_cases h128 : t[0].toNat < 128
    ·have CR := Lib.hid (fun w => containsRune_low t[0] w h128)
     have hvl : lenOf t h = if Sc.isSign t[0] then 1 else 0 := by unfold lenOf; rw [hl,hd,hp]; rfl
     rcases hs : Sc.isSign t[0] with _ | _
     all_goals
      rw [hs] at hvl
      have HV := Lib.hid hvl
      clear hvl
      rw [isL_li] at hl
      rw [isD_di] at hd
      by_cases h2 : 1 < t.size
      all_goals
       go_enter Tryz.func48,Tryz.ntmps48
       go_wp2_with (first | (go_at_call 49; refine (letter_any _ _).mono ?_; rintro e w' ⟨rfl,rfl⟩) | (go_at_call 50; refine (digit_any _ _).mono ?_; rintro e w' ⟨rfl,rfl⟩) | (go_at_call 110; refine (contains_any t m (by omega) _ HM.out).mono ?_; rintro e w' ⟨rfl,rfl⟩) | (go_at_call 111; refine (CR.out _).mono ?_; rintro e w' ⟨rfl,rfl⟩))
       go_ret
       exact ⟨ret_int (by rw [HV.out]; rfl),HB.out⟩
    ·have CR := Lib.hid (fun w => containsRune_high t[0] w (by omega))
     have hs : Sc.isSign t[0] = false := Bool.eq_false_iff.2 (fun x => h128 (isSign_low x))
     have hvl : lenOf t h = 0 := by unfold lenOf; rw [hl,hd,hp,hs]; rfl
     have HV := Lib.hid hvl
     clear hvl hs
     rw [isL_li] at hl
     rw [isD_di] at hd
     by_cases h2 : 1 < t.size
     all_goals
      go_enter Tryz.func48,Tryz.ntmps48
      go_wp2_with (first | (go_at_call 49; refine (letter_any _ _).mono ?_; rintro e w' ⟨rfl,rfl⟩) | (go_at_call 50; refine (digit_any _ _).mono ?_; rintro e w' ⟨rfl,rfl⟩) | (go_at_call 110; refine (contains_any t m (by omega) _ HM.out).mono ?_; rintro e w' ⟨rfl,rfl⟩) | (go_at_call 111; refine (CR.out _).mono ?_; rintro e w' ⟨rfl,hb⟩))
      go_ret
      exact ⟨ret_int (by rw [HV.out]; rfl),HB.out.trans (hb.mono (by simp))⟩
   ·have h2 : 1 < t.size := ((pairB_iff t).1 hp).1
    have hvl : lenOf t h = 2 := by unfold lenOf; rw [hl,hd,hp]; rfl
    have HV := Lib.hid hvl
    clear hvl
    rw [isL_li] at hl
    rw [isD_di] at hd
    go_enter Tryz.func48,Tryz.ntmps48
    go_wp2_with (first | (go_at_call 49; refine (letter_any _ _).mono ?_; rintro e w' ⟨rfl,rfl⟩) | (go_at_call 50; refine (digit_any _ _).mono ?_; rintro e w' ⟨rfl,rfl⟩) | (go_at_call 110; refine (contains_any t m (by omega) _ HM.out).mono ?_; rintro e w' ⟨rfl,rfl⟩))
    go_ret
    exact ⟨ret_int (by rw [HV.out]; rfl),HB.out⟩
  ·have hvl : lenOf t h = run Sc.isD t := by rw [len_d t h hd]; unfold lenOf; rw [hl,hd]; rfl
   have HV := Lib.hid hvl
   clear hvl
   rw [isL_li] at hl
   rw [isD_di] at hd
   go_enter Tryz.func48,Tryz.ntmps48
   go_wp2_with (first | (go_at_call 49; refine (letter_any _ _).mono ?_; rintro e w' ⟨rfl,rfl⟩) | (go_at_call 50; refine (digit_any _ _).mono ?_; rintro e w' ⟨rfl,rfl⟩) | (go_at_call 108; refine (run_d t _ _ ht HC.out).mono ?_; rintro e w' ⟨rfl,hb⟩))
   go_ret
   exact ⟨ret_int (by rw [HV.out]),HB.out.trans (hb.mono (by simp))⟩
 ·have hvl : lenOf t h = run Sc.isLD t := by rw [len_ld t h hl]; unfold lenOf; rw [hl]; rfl
  have HV := Lib.hid hvl
  clear hvl
  rw [isL_li] at hl
  go_enter Tryz.func48,Tryz.ntmps48
  go_wp2_with (first | (go_at_call 49; refine (letter_any _ _).mono ?_; rintro e w' ⟨rfl,rfl⟩) | (go_at_call 50; refine (digit_any _ _).mono ?_; rintro e w' ⟨rfl,rfl⟩) | (go_at_call 108; refine (run_ld t _ _ ht HC.out).mono ?_; rintro e w' ⟨rfl,hb⟩))
  go_ret
  exact ⟨ret_int (by rw [HV.out]),HB.out.trans (hb.mono (by simp))⟩
end Go.Proofs.YtneohanphabneaaGreatDoor
