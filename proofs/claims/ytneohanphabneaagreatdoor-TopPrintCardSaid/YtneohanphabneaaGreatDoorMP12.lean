/-
  Contracts of the program's parser: an expression.
-/
import Derived.Test.YtneohanphabneaaGreatDoorMP8
import Derived.Deep.CutRange
namespace Go.Proofs.YtneohanphabneaaGreatDoor
set_option maxRecDepth 100000
set_option maxHeartbeats 1000000
open Go.RowKit Ps
theorem pexpr_deep {w : World} {p T : Nat} {l : List Sc.Tok} {i d : Nat} (h : PS w p T l i d) (hd : d = 20) : Calls Tryz.prog 59 #[pp p] w fun e w' =>
  PT (fun b => w.heap.size ≤ b) p T l i d (Ps.tooDeep l i) e w' ∧ Kp w.heap.size p w w' := by
 unfold pp
 go_enter_defers Tryz.func59,Tryz.ntmps59
 go_wp2_with fail
 have s1 := (St.start h).allocAt (w.heap.size) 25 #[.int .i64 0,.string ⟨#[]⟩,.int .i64 0,.int .i64 0,.slice none 0 0] (by simp)
 refine (pdown_bad s1.ps hd).mono ?_
 rintro e w1 ⟨⟨g,rfl,hg⟩,hk⟩
 exact ⟨.bad rfl ⟨g,rfl,hg⟩,s1.pan hk⟩
theorem pexpr_any {w : World} {p T : Nat} {l : List Sc.Tok} {i d : Nat} (h : PS w p T l i d) (fac : List Sc.Tok → Nat → R Tree) (hfac : CT 186 (d + 1) fac) (hd : d < 20) : Calls Tryz.prog 59 #[pp p] w fun e w' =>
  PT (fun b => w.heap.size ≤ b) p T l i d (Ps.exprOf l (fac l) i) e w' ∧ Kp w.heap.size p w w' := by
 obtain ⟨r,hr⟩ : ∃ r,r = Ps.exprOf l (fac l) i := ⟨_,rfl⟩
 rw [← hr]
 unfold Ps.exprOf at hr
 have HR := Lib.hid hr
 clear hr
 have hsimple : CT 114 (d + 1) (fun l => Ps.simple l (fac l)) := fun _ _ _ _ _ h => psimple_any h fac hfac
 unfold pp
 go_enter_defers Tryz.func59,Tryz.ntmps59
 go_wp2_with fail
 have s2 := (St.start h).allocAt (w.heap.size) 25 #[.int .i64 0,.string ⟨#[]⟩,.int .i64 0,.int .i64 0,.slice none 0 0] (by simp)
 refine (pdown_ok s2.ps hd).mono ?_
 rintro e w3 ⟨Bd,rfl,hB4,hK5,hk6,hp7⟩
 have s8 := s2.callBlk hk6 hp7 Bd _ _ hB4 hK5
 clear hB4 hK5
 go_wp2_with fail
 refine (hsimple _ _ _ _ _ s8.ps).mono ?_
 rintro e w21 ⟨ht22,hk23⟩
 rcases ht22.or with ⟨n,a,hr24,g,rfl,hg⟩ | ⟨k9,nm10,num11,a12,ts13,so14,sc15,i16,hn17,rfl,hrow18,hp19,le20⟩
 ·have hBB : w.heap.size ≤ Bd := s8.n0.1
  exact leave_bad ⟨g,rfl,hg⟩ (hk23.blk s8.n0.2 (by have := s8.lt; show Bd ≠ p; omega)) (fun w9 hP9 hk9 => ⟨.bad (step_bad HR hr24) hP9,(s8.pan hk23).call (s8.pan hk23).size hk9⟩)
 clear ht22
 replace HR := step_ok HR hn17
 have le20 := Lib.hid le20
 have s25 := s8.callKeep hk23 hp19 hrow18
 unfold nodeV
 go_wp2_with fail
 have s26 := s25.allocAt (w21.heap.size) 25 #[.int .i64 k9,.string nm10,.int .i64 num11,.int .i64 a12,.slice so14 ts13.length sc15] (by simp)
 refine (ptake_or s26.ps (⟨#[73,83]⟩) (by decide)).mono ?_
 rintro e w27 (⟨hi28,rfl,hp29,hk30⟩ | ⟨hi28,rfl,hp29,hk30⟩)
 ·have s31 := s26.call hk30 hp29
  replace HR := step_else HR hi28
  go_wp2_with fail
  have hO := opK_any s31.ps 0 (by decide)
  refine hO.mono ?_
  rintro e w5 ⟨hno,hyes⟩
  cases hop : isOp l 0 i16 with
  | false =>
   obtain ⟨rfl,rfl⟩ := hno hop
   clear hno hyes hO
   replace HR := step_else HR hop
   have c32 := s31.n0.2.k5
   have c34 := s31.n2.2.k5
   have d36 := s31.d02
   go_wp2_with fail
   clear c32 c34 d36
   have s37 := s31.p2 (.int .i64 k9) (.string nm10) (.int .i64 num11) (.int .i64 a12) (.slice so14 ts13.length sc15)
   refine leave_ok s37.ps s37.n1.2 (fun w9 hp9 hk9 => ?_)
   have s38 := s37.call hk9 hp9
   exact ⟨_,res5 Tryz.results59 rfl s38.n2.2,.ok (HR.out.trans rfl) rfl (s38.treeOf (sv := .slice so14 ts13.length sc15) (by simp)) s38.ps (by have := le20.out; omega),s38.kp⟩
  | true =>
   obtain ⟨rfl,hk5,hp5⟩ := hyes hop
   clear hno hyes hO
   replace HR := step_if HR hop
   have hne := op_ne hop
   have s39 := s31.call hk5 hp5
   have c40 := s39.n0.2.k5
   go_wp2_with fail
   clear c40
   have hC := s39.n0.2
   refine Ch.wp_region_run_d (fun c ds w' => ds = [upD Bd] ∧ ∃ n a,r = .bad n a ∧ Pan w' p n a (.panicked c) ∧ Kp w.heap.size p w w' ∧ Blk w' Bd 62 #[.pointer (some ⟨p,0,none⟩)]) (fun u => Blk u (w21.heap.size) 25 #[.int .i64 k9,.string nm10,.int .i64 num11,.int .i64 a12,.slice so14 ts13.length sc15]) [2,3] [0,1,2,3,4] [5,6,7,8] [] (by kernel_rfl) (by kernel_rfl) (fun _ _ _ hb => bad_leaves hb fun _ _ _ hr hP hk => ⟨.bad hr hP,hk⟩) (hC) ?_
   clear hC
   have s42 := s39.drew
   refine Ch.take0 (v := ?v43) rfl (by rfl) ?y44 ?_
   case y44 => intro u; go_simp; rfl
   simp only [putq]
   refine Ch.take1 (v := ?v45) rfl (by rfl) ?y46 ?_
   case y46 => intro u; go_simp; rfl
   simp only [putq]
   refine Ch.load2 (v := ?v47) rfl (by rfl) ?y48 ?_
   case y48 => intro u hC; have c5 := Blk.five hC; go_simp; rfl
   simp only [putq]
   refine Ch.load3 (v := ?v49) rfl (by rfl) ?y50 ?_
   case y50 => intro u hC; have c5 := Blk.five hC; go_simp; rfl
   simp only [putq]
   refine Ch.take4 (v := ?v51) rfl (by rfl) ?y52 ?_
   case y52 => intro u; go_simp; rfl
   simp only [putq]
   refine Ch.mid5 (by rfl) (fun K hK => ?_)
   go_simp
   refine (hsimple _ _ _ _ _ s42.ps).mono ?_
   rintro e w65 ⟨ht66,hk67⟩
   rcases ht66.or with ⟨n,a,hr68,g,rfl,hg⟩ | ⟨k53,nm54,num55,a56,ts57,so58,sc59,i60,hn61,rfl,hrow62,hp63,le64⟩
   ·have hBB : w.heap.size ≤ Bd := s42.n1.1
    exact Ch.qd_bad ⟨rfl,n,a,step_bad HR hr68,⟨g,rfl,hg⟩,s42.pan hk67,(hk67.blk s42.n1.2 (by have := s42.lt; show Bd ≠ p; omega))⟩
   clear ht66
   replace HR := step_ok HR hn61
   have le64 := Lib.hid le64
   have s69 := s42.callKeep hk67 hp63 hrow62
   unfold nodeV
   refine hK _ _ (s69.n0.2) ?_
   clear hK K
   try simp only [putq]
   refine Ch.mid6 (by rfl) (fun K hK => ?_)
   go_simp
   refine hK _ _ ((s69.other _).n0.2) ?_
   clear hK K
   try simp only [putq]
   refine Ch.mid7 (by rfl) (fun K hK => ?_)
   go_simp
   refine hK _ _ ((s69.other _).n0.2) ?_
   clear hK K
   try simp only [putq]
   have cc := s69.n2.2.five
   have cl := s69.n2.2.lt
   refine Ch.mid8 (by rfl) (fun K hK => ?_)
   go_simp
   have s70 := s69.p2 (.int .i64 36) (.string (W l i16)) (.int .i64 0) (.int .i64 a12) (.slice (some ⟨w65.heap.size,0,none⟩) 2 2)
   have s71 := s70.built2 (k0 := k9) (nm0 := nm10) (num0 := num11) (a0 := a12) (sv0 := .slice so14 ts13.length sc15) (ts0 := ts13) (k1 := k53) (nm1 := nm54) (num1 := num55) (a1 := a56) (sv1 := .slice so58 ts57.length sc59) (ts1 := ts57) (by simp) (by simp) (w65.heap.size) (by simp)
   refine hK _ _ (s71.n0.2) ?_
   clear hK K
   try simp only [putq]
   refine Ch.run_end_d ?_
   clear cc cl
   go_wp2_with fail
   refine leave_ok s71.ps s71.n1.2 (fun w9 hp9 hk9 => ?_)
   have s72 := s71.call hk9 hp9
   exact ⟨_,res5 Tryz.results59 rfl s72.n2.2,.ok (HR.out.trans rfl) rfl (s72.treeOf (sv := .slice (some ⟨w65.heap.size,0,none⟩) 2 2) (by simp)) s72.ps (by have := le20.out; have := le64.out; omega),s72.kp⟩
 ·have s73 := s26.call hk30 hp29
  replace HR := step_if HR hi28
  have c74 := s73.n0.2.k5
  go_wp2_with fail
  clear c74
  have hC := s73.n0.2
  refine Ch.wp_region_run_d (fun c ds w' => ds = [upD Bd] ∧ ∃ n a,r = .bad n a ∧ Pan w' p n a (.panicked c) ∧ Kp w.heap.size p w w' ∧ Blk w' Bd 62 #[.pointer (some ⟨p,0,none⟩)]) (fun u => Blk u (w21.heap.size) 25 #[.int .i64 k9,.string nm10,.int .i64 num11,.int .i64 a12,.slice so14 ts13.length sc15]) [1,2] [0,1,2,3] [4,5,6,7] [] (by kernel_rfl) (by kernel_rfl) (fun _ _ _ hb => bad_leaves hb fun _ _ _ hr hP hk => ⟨.bad hr hP,hk⟩) (hC) ?_
  clear hC
  have s76 := s73.drew
  refine Ch.take0 (v := ?v77) rfl (by rfl) ?y78 ?_
  case y78 => intro u; go_simp; rfl
  simp only [putq]
  refine Ch.load1 (v := ?v79) rfl (by rfl) ?y80 ?_
  case y80 => intro u hC; have c5 := Blk.five hC; go_simp; rfl
  simp only [putq]
  refine Ch.load2 (v := ?v81) rfl (by rfl) ?y82 ?_
  case y82 => intro u hC; have c5 := Blk.five hC; go_simp; rfl
  simp only [putq]
  refine Ch.take3 (v := ?v83) rfl (by rfl) ?y84 ?_
  case y84 => intro u; go_simp; rfl
  simp only [putq]
  refine Ch.mid4 (by rfl) (fun K hK => ?_)
  go_simp
  refine (ptypeName_any s76.ps).mono ?_
  rintro e w97 ⟨ht98,hk99⟩
  rcases ht98.or with ⟨n,a,hr100,g,rfl,hg⟩ | ⟨k85,nm86,num87,a88,ts89,so90,sc91,i92,hn93,rfl,hrow94,hp95,le96⟩
  ·have hBB : w.heap.size ≤ Bd := s76.n1.1
   exact Ch.qd_bad ⟨rfl,n,a,step_bad HR hr100,⟨g,rfl,hg⟩,s76.pan hk99,(hk99.blk s76.n1.2 (by have := s76.lt; show Bd ≠ p; omega))⟩
  clear ht98
  replace HR := step_ok HR hn93
  have le96 := Lib.hid le96
  have s101 := s76.callKeep hk99 hp95 hrow94
  unfold nodeV
  refine hK _ _ (s101.n0.2) ?_
  clear hK K
  try simp only [putq]
  refine Ch.mid5 (by rfl) (fun K hK => ?_)
  go_simp
  refine hK _ _ ((s101.other _).n0.2) ?_
  clear hK K
  try simp only [putq]
  refine Ch.mid6 (by rfl) (fun K hK => ?_)
  go_simp
  refine hK _ _ ((s101.other _).n0.2) ?_
  clear hK K
  try simp only [putq]
  have cc := s101.n2.2.five
  have cl := s101.n2.2.lt
  refine Ch.mid7 (by rfl) (fun K hK => ?_)
  go_simp
  have s102 := s101.p2 (.int .i64 37) (.string ⟨#[]⟩) (.int .i64 0) (.int .i64 a12) (.slice (some ⟨w97.heap.size,0,none⟩) 2 2)
  have s103 := s102.built2 (k0 := k9) (nm0 := nm10) (num0 := num11) (a0 := a12) (sv0 := .slice so14 ts13.length sc15) (ts0 := ts13) (k1 := k85) (nm1 := nm86) (num1 := num87) (a1 := a88) (sv1 := .slice so90 ts89.length sc91) (ts1 := ts89) (by simp) (by simp) (w97.heap.size) (by simp)
  refine hK _ _ (s103.n0.2) ?_
  clear hK K
  try simp only [putq]
  refine Ch.run_end_d ?_
  clear cc cl
  go_wp2_with fail
  refine leave_ok s103.ps s103.n1.2 (fun w9 hp9 hk9 => ?_)
  have s104 := s103.call hk9 hp9
  exact ⟨_,res5 Tryz.results59 rfl s104.n2.2,.ok (HR.out.trans rfl) rfl (s104.treeOf (sv := .slice (some ⟨w97.heap.size,0,none⟩) 2 2) (by simp)) s104.ps (by have := le20.out; have := le96.out; omega),s104.kp⟩
set_option maxRecDepth 100000
set_option maxHeartbeats 2000000
open Go.RowKit Ps
theorem argsLoop_len {l : List Sc.Tok} {ex : Nat → R Tree} : ∀ (F i : Nat) (acc ts : List Tree) (j : Nat),argsLoop l ex F i acc = .ok ts j → ts.length ≤ acc.length + F
 | 0,i,acc,ts,j,h => by unfold argsLoop at h; injection h with h _; rw [← h]; omega
 | F + 1,i,acc,ts,j,h => by
  unfold argsLoop at h
  cases hx : ex i with
  | bad n a => rw [hx] at h; cases h
  | ok t i1 =>
   rw [hx,R.bind_ok] at h
   split at h
   ·have := argsLoop_len F _ _ _ _ h
    rw [List.length_append,List.length_singleton] at this
    omega
   ·injection h with h _
    rw [← h,List.length_append,List.length_singleton]
    omega
theorem args_len {l : List Sc.Tok} {ex : Nat → R Tree} {i j : Nat} {ts : List Tree} (h : Ps.args l ex i = .ok ts j) : ts.length ≤ l.length := by
 unfold Ps.args at h
 split at h
 ·split at h
  ·injection h with h _; rw [← h]; exact Nat.zero_le _
  ·cases hx : argsLoop l ex l.length (i + 1) [] with
   | bad n a => rw [hx] at h; cases h
   | ok us i1 =>
    rw [hx,R.bind_ok] at h
    have := argsLoop_len _ _ _ _ _ hx
    unfold Ps.must at h
    split at h
    ·injection h with h _; rw [← h]; simpa using this
    ·unfold Ps.want at h; cases h
 ·injection h with h _; rw [← h]; exact Nat.zero_le _
theorem num_facts (s : ByteArray) : (s.toList.isEmpty = true ∧ isNum s = false) ∨ (s.toList.isEmpty = false ∧ ∃ h : 0 < s.size,(isNum s = true ∧ (48 : Int) ≤ (s[0].toNat : Int) ∧ (s[0].toNat : Int) ≤ 57) ∨ (isNum s = false ∧ ¬ (48 : Int) ≤ (s[0].toNat : Int)) ∨ (isNum s = false ∧ (48 : Int) ≤ (s[0].toNat : Int) ∧ ¬ (s[0].toNat : Int) ≤ 57)) := by
 have hE : s.toList.isEmpty = decide (s = ⟨#[]⟩) := by
  rw [← bytes_beq,show (ByteArray.mk #[]).toList = [] from by rw [Lib.toList_data],Bool.eq_iff_iff]
  simp
 by_cases h0 : s = ⟨#[]⟩
 ·exact .inl ⟨by rw [hE]; exact decide_eq_true h0,by rw [h0]; rfl⟩
 ·have hp := Ps.size_pos h0
  refine .inr ⟨by rw [hE]; exact decide_eq_false h0,hp,?_⟩
  have hI := isD_first hp
  unfold isDi at hI
  rw [hI]
  by_cases h1 : (48 : Int) ≤ (s[0].toNat : Int)
  ·by_cases h2 : (s[0].toNat : Int) ≤ 57
   ·exact .inl ⟨by simp [h1,h2],h1,h2⟩
   ·exact .inr (.inr ⟨by simp [h2],h1,h2⟩)
  ·exact .inr (.inl ⟨by simp [h1],h1⟩)
theorem pfactor_any {w : World} {p T : Nat} {l : List Sc.Tok} {i d : Nat} (h : PS w p T l i d) (ex dn : List Sc.Tok → Nat → R Tree) (hex : CT 59 d ex) (hdn : d < 20 → CT 186 (d + 1) dn) (hdn0 : d = 20 → ∀ l i,dn l i = tooDeep l i) : Calls Tryz.prog 186 #[pp p] w fun e w' =>
  PT (fun b => w.heap.size ≤ b) p T l i d (Ps.factorOf l (ex l) (dn l) i) e w' ∧ Kp w.heap.size p w w' := by
 obtain ⟨r,hr⟩ : ∃ r,r = Ps.factorOf l (ex l) (dn l) i := ⟨_,rfl⟩
 rw [← hr]
 unfold Ps.factorOf at hr
 have HR := Lib.hid hr
 clear hr
 have hdes : CT 165 d (fun l => Ps.desig l (ex l)) := fun _ _ _ _ _ h => pdesignator_any h ex hex
 have HDN := Lib.hid hdn
 have HDN0 := Lib.hid hdn0
 clear hdn hdn0
 unfold pp
 go_enter_defers Tryz.func186,Tryz.ntmps186
 go_wp2_with fail
 have s1 := (St.start h).allocAt (w.heap.size) 25 #[.int .i64 0,.string ⟨#[]⟩,.int .i64 0,.int .i64 0,.slice none 0 0] (by simp)
 refine (pnode_any s1.ps 29).mono ?_
 rintro e w2 ⟨rfl,hb3⟩
 have s4 := s1.below hb3
 unfold nodeV
 obtain ⟨c,hc,hb,⟨q1,q2⟩,⟨q3,q4⟩,q5,q6,q7,hlt⟩ := s4.ps.facts
 go_upto_region 7 with fail
 clear hb q1 q2 q3 q4 q5 q6 q7
 have s5 := s4.allocAt (w2.heap.size) 25 #[.int .i64 29,.string ⟨#[]⟩,.int .i64 0,.int .i64 (Ps.A l i),.slice none 0 0] (by simp)
 go_cut [29] from 30 to 41 (fun v wc => v = .bool (isNum (W l i)) ∧ St w wc p T l i d [(w2.heap.size,25,#[.int .i64 29,.string ⟨#[]⟩,.int .i64 0,.int .i64 (Ps.A l i),.slice none 0 0]),(w.heap.size,25,#[.int .i64 0,.string ⟨#[]⟩,.int .i64 0,.int .i64 0,.slice none 0 0])] g0 [])
 case first =>
  rcases num_facts (W l i) with ⟨hE,hn⟩ | ⟨hE,hp,⟨hn,ha,hb⟩ | ⟨hn,ha⟩ | ⟨hn,ha,hb⟩⟩
  ·go_wp2_with fail
   go_meet
   case rel => exact ⟨by rw [hn],s5⟩
  ·go_wp2_with fail
   go_meet
   case rel => exact ⟨by rw [hn],s5⟩
  ·go_wp2_with fail
   go_meet
   case rel => exact ⟨by rw [hn],s5⟩
  ·go_wp2_with fail
   go_meet
   case rel => exact ⟨by rw [hn],s5⟩
 case rest =>
  obtain ⟨rfl,s0⟩ := hcut
  cases hn : isNum (W l i) with
  | true =>
   replace HR := step_if HR hn
   go_wp2_with fail
   refine (pnumber_any s0.ps).mono ?_
   rintro e w10 ⟨ht11,hk12⟩
   rcases ht11.or with ⟨n,a,hr13,g,rfl,hg⟩ | ⟨v6,i7,hn8,rfl,hp9⟩
   ·exact ⟨.bad (step_bad HR hr13) ⟨g,rfl,hg⟩,s0.pan hk12⟩
   clear ht11
   replace HR := step_ok HR hn8
   have le14 := Lib.hid (number_ok hn8)
   have s15 := s0.call hk12 hp9
   have c16 := s15.n0.2.k5
   have c18 := s15.n1.2.k5
   have d20 := s15.d01
   go_wp2_with fail
   clear c16 c18 d20
   have s21 := s15.s02 (.int .i64 v6)
   have s22 := s21.keepNil
   have s23 := s22.p1 (.int .i64 29) (.string ⟨#[]⟩) (.int .i64 v6) (.int .i64 (Ps.A l i)) (.slice none 0 0)
   exact ⟨_,res5 Tryz.results186 rfl s23.n1.2,.ok (HR.out.trans rfl) rfl (s23.treeOf (sv := .slice none 0 0) (by simp)) s23.ps (by have := le14.out; omega),s23.kp⟩
  | false =>
   replace HR := step_else HR hn
   go_wp2_with fail
   refine (ptake_or s0.ps (⟨#[84,82,85,69]⟩) (by decide)).mono ?_
   rintro e w24 (⟨hi25,rfl,hp26,hk27⟩ | ⟨hi25,rfl,hp26,hk27⟩)
   ·have s28 := s0.call hk27 hp26
    replace HR := step_else HR hi25
    go_wp2_with fail
    refine (ptake_or s28.ps (⟨#[70,65,76,83,69]⟩) (by decide)).mono ?_
    rintro e w29 (⟨hi30,rfl,hp31,hk32⟩ | ⟨hi30,rfl,hp31,hk32⟩)
    ·have s33 := s28.call hk32 hp31
     replace HR := step_else HR hi30
     go_wp2_with fail
     refine (ptake_or s33.ps (⟨#[78,73,76]⟩) (by decide)).mono ?_
     rintro e w34 (⟨hi35,rfl,hp36,hk37⟩ | ⟨hi35,rfl,hp36,hk37⟩)
     ·have s38 := s33.call hk37 hp36
      replace HR := step_else HR hi35
      go_wp2_with fail
      refine (ptake_or s38.ps (⟨#[126]⟩) (by decide)).mono ?_
      rintro e w39 (⟨hi40,rfl,hp41,hk42⟩ | ⟨hi40,rfl,hp41,hk42⟩)
      ·have s43 := s38.call hk42 hp41
       replace HR := step_else HR hi40
       go_wp2_with fail
       refine (ptake_or s43.ps (⟨#[40]⟩) (by decide)).mono ?_
       rintro e w44 (⟨hi45,rfl,hp46,hk47⟩ | ⟨hi45,rfl,hp46,hk47⟩)
       ·have s48 := s43.call hk47 hp46
        replace HR := step_else HR hi45
        go_wp2_with fail
        refine (hdes _ _ _ _ _ s48.ps).mono ?_
        rintro e w61 ⟨ht62,hk63⟩
        rcases ht62.or with ⟨n,a,hr64,g,rfl,hg⟩ | ⟨k49,nm50,num51,a52,ts53,so54,sc55,i56,hn57,rfl,hrow58,hp59,le60⟩
        ·exact ⟨.bad (step_bad HR hr64) ⟨g,rfl,hg⟩,s48.pan hk63⟩
        clear ht62
        replace HR := step_ok HR hn57
        have le60 := Lib.hid le60
        have s65 := s48.callKeep hk63 hp59 hrow58
        unfold nodeV
        go_wp2_with fail
        have s66 := s65.allocAt (w61.heap.size) 25 #[.int .i64 k49,.string nm50,.int .i64 num51,.int .i64 a52,.slice so54 ts53.length sc55] (by simp)
        refine (pis_any s66.ps (⟨#[40]⟩)).mono ?_
        rintro e w68 ⟨rfl,rfl⟩
        cases hi67 : Ps.isW l i56 (⟨#[40]⟩) with
        | false =>
         replace HR := step_else HR hi67
         have c69 := s66.n0.2.k5
         have c71 := s66.n2.2.k5
         have d73 := s66.d02
         go_wp2_with fail
         clear c69 c71 d73
         have s74 := s66.p2 (.int .i64 k49) (.string nm50) (.int .i64 num51) (.int .i64 a52) (.slice so54 ts53.length sc55)
         exact ⟨_,res5 Tryz.results186 rfl s74.n2.2,.ok (HR.out.trans rfl) rfl (s74.treeOf (sv := .slice so54 ts53.length sc55) (by simp)) s74.ps (by have := le60.out; omega),s74.kp⟩
        | true =>
         replace HR := step_if HR hi67
         skip
         have c75 := s66.n0.2.k5
         go_wp2_with fail
         clear c75
         have hC := s66.n0.2
         refine Ch.wp_region_tree_d (fun c ds w' => ds = [] ∧ ∃ n a,r = .bad n a ∧ Pan w' p n a (.panicked c) ∧ Kp w.heap.size p w w') (fun u => Blk u (w61.heap.size) 25 #[.int .i64 k49,.string nm50,.int .i64 num51,.int .i64 a52,.slice so54 ts53.length sc55]) [0] [] (.take 0 (.take 2 (.take 5 (.two 1 (.one 3 (.one 4 (.one 6 (.take 7 (.one 8 .done))))) 3 (.one 1 (.one 4 (.one 6 (.take 7 (.one 8 .done))))))))) (by kernel_rfl) (by kernel_rfl) (fun _ _ _ hb => bad_leaves0 hb fun _ _ _ hr hP hk => ⟨.bad hr hP,hk⟩) (hC) ?_
         clear hC
         refine Ch.ld0 (v := ?v77) rfl (by rfl) ?y78 ?_
         case y78 => intro u hC; have c5 := Blk.five hC; go_simp; rfl
         simp only [putq]
         refine Ch.tk2 (v := ?v79) rfl (by rfl) ?y80 ?_
         case y80 => intro u; go_simp; rfl
         simp only [putq]
         refine Ch.tk5 (v := ?v81) rfl (by rfl) ?y82 ?_
         case y82 => intro u; go_simp; rfl
         simp only [putq]
         refine Ch.tree_two ?_ ?_
         ·refine Ch.md1 (by rfl) (fun K hK => ?_)
          go_simp
          have s83 := s66.builtG1 (k0 := k49) (nm0 := nm50) (num0 := num51) (a0 := a52) (sv0 := .slice so54 ts53.length sc55) (ts0 := ts53) (by simp) (w61.heap.size + 1) (by simp)
          have s84 := s83.drew
          refine hK _ _ (s84.n0.2) ?_
          clear hK K
          try simp only [putq]
          refine Ch.md3 (by rfl) (fun K hK => ?_)
          go_simp
          refine (pargs_any s84.ps ex hex).mono ?_
          rintro e w93 ⟨ht94,hk95⟩
          rcases ht94.or with ⟨n,a,hr96,g,rfl,hg⟩ | ⟨ts85,so86,sc87,i88,hn89,rfl,hrow90,hp91,le92⟩
          ·exact Ch.qd_bad ⟨rfl,n,a,step_bad HR hr96,⟨g,rfl,hg⟩,s84.pan hk95⟩
          clear ht94
          replace HR := step_ok HR hn89
          have le92 := Lib.hid le92
          have s97 := s84.callKeep hk95 hp91 hrow90
          have ln98 := Lib.hid (args_len hn89)
          refine hK _ _ (s97.n0.2) ?_
          clear hK K
          try simp only [putq]
          refine Ch.md4 (by rfl) (fun K hK => ?_)
          refine s97.appAll (sn := ts85.length) (us := ts85) (by simp) (.tmp 23) (.tmp 25) rfl rfl rfl (Nat.succ_pos _) (by have := ln98.out; have := s97.ps.small; show 1 + _ ≤ 1000000; omega) (fun go99 gn100 gc101 w102 s103 => ?_)
          refine hK _ _ (s103.n0.2) ?_
          clear hK K
          try simp only [putq]
          have cc := s103.n1.2.five
          have cl := s103.n1.2.lt
          have cd := s103.d01
          refine Ch.md6 (by rfl) (fun K hK => ?_)
          go_simp
          have s104 := s103.s10 (.int .i64 33)
          refine hK _ _ (s104.n0.2) ?_
          clear hK K
          try simp only [putq]
          refine Ch.tk7 (v := ?v105) rfl (by rfl) ?y106 ?_
          case y106 => intro u; go_simp; rfl
          simp only [putq]
          refine Ch.md8 (by rfl) (fun K hK => ?_)
          go_simp
          have s107 := s104.s14 (.slice go99 gn100 gc101)
          refine hK _ _ (s107.n0.2) ?_
          clear hK K
          try simp only [putq]
          refine Ch.tree_end_d ?_
          clear cc cl cd
          have s108 := s107.grown
          have c109 := s108.n1.2.k5
          have c111 := s108.n2.2.k5
          have d113 := s108.d12
          go_wp2_with fail
          clear c109 c111 d113
          have s114 := s108.p2 (.int .i64 33) (.string ⟨#[]⟩) (.int .i64 0) (.int .i64 (Ps.A l i)) (.slice go99 gn100 gc101)
          exact ⟨_,res5 Tryz.results186 rfl s114.n2.2,.ok (HR.out.trans rfl) rfl (s114.treeOf (sv := .slice go99 gn100 gc101) (by simp)) s114.ps (by have := le60.out; have := le92.out; omega),s114.kp⟩
         ·have s115 := s66.drew
          refine Ch.md3 (by rfl) (fun K hK => ?_)
          go_simp
          refine (pargs_any s115.ps ex hex).mono ?_
          rintro e w124 ⟨ht125,hk126⟩
          rcases ht125.or with ⟨n,a,hr127,g,rfl,hg⟩ | ⟨ts116,so117,sc118,i119,hn120,rfl,hrow121,hp122,le123⟩
          ·exact Ch.qd_bad ⟨rfl,n,a,step_bad HR hr127,⟨g,rfl,hg⟩,s115.pan hk126⟩
          clear ht125
          replace HR := step_ok HR hn120
          have le123 := Lib.hid le123
          have s128 := s115.callKeep hk126 hp122 hrow121
          have ln129 := Lib.hid (args_len hn120)
          refine hK _ _ (s128.n0.2) ?_
          clear hK K
          try simp only [putq]
          refine Ch.md1 (by rfl) (fun K hK => ?_)
          go_simp
          have s130 := s128.builtG1 (k0 := k49) (nm0 := nm50) (num0 := num51) (a0 := a52) (sv0 := .slice so54 ts53.length sc55) (ts0 := ts53) (by simp) (w124.heap.size) (by simp)
          refine hK _ _ (s130.n0.2) ?_
          clear hK K
          try simp only [putq]
          refine Ch.md4 (by rfl) (fun K hK => ?_)
          refine s130.appAll (sn := ts116.length) (us := ts116) (by simp) (.tmp 23) (.tmp 25) rfl rfl rfl (Nat.succ_pos _) (by have := ln129.out; have := s130.ps.small; show 1 + _ ≤ 1000000; omega) (fun go131 gn132 gc133 w134 s135 => ?_)
          refine hK _ _ (s135.n0.2) ?_
          clear hK K
          try simp only [putq]
          have cc := s135.n1.2.five
          have cl := s135.n1.2.lt
          have cd := s135.d01
          refine Ch.md6 (by rfl) (fun K hK => ?_)
          go_simp
          have s136 := s135.s10 (.int .i64 33)
          refine hK _ _ (s136.n0.2) ?_
          clear hK K
          try simp only [putq]
          refine Ch.tk7 (v := ?v137) rfl (by rfl) ?y138 ?_
          case y138 => intro u; go_simp; rfl
          simp only [putq]
          refine Ch.md8 (by rfl) (fun K hK => ?_)
          go_simp
          have s139 := s136.s14 (.slice go131 gn132 gc133)
          refine hK _ _ (s139.n0.2) ?_
          clear hK K
          try simp only [putq]
          refine Ch.tree_end_d ?_
          clear cc cl cd
          have s140 := s139.grown
          have c141 := s140.n1.2.k5
          have c143 := s140.n2.2.k5
          have d145 := s140.d12
          go_wp2_with fail
          clear c141 c143 d145
          have s146 := s140.p2 (.int .i64 33) (.string ⟨#[]⟩) (.int .i64 0) (.int .i64 (Ps.A l i)) (.slice go131 gn132 gc133)
          exact ⟨_,res5 Tryz.results186 rfl s146.n2.2,.ok (HR.out.trans rfl) rfl (s146.treeOf (sv := .slice go131 gn132 gc133) (by simp)) s146.ps (by have := le60.out; have := le123.out; omega),s146.kp⟩
       ·have s147 := s43.call hk47 hp46
        replace HR := step_if HR hi45
        go_wp2_with fail
        refine (hex _ _ _ _ _ s147.ps).mono ?_
        rintro e w160 ⟨ht161,hk162⟩
        rcases ht161.or with ⟨n,a,hr163,g,rfl,hg⟩ | ⟨k148,nm149,num150,a151,ts152,so153,sc154,i155,hn156,rfl,hrow157,hp158,le159⟩
        ·exact ⟨.bad (step_bad HR hr163) ⟨g,rfl,hg⟩,s147.pan hk162⟩
        clear ht161
        replace HR := step_ok HR hn156
        have le159 := Lib.hid le159
        have s164 := s147.callKeep hk162 hp158 hrow157
        unfold nodeV
        go_wp2_with fail
        have s165 := s164.allocAt (w160.heap.size) 25 #[.int .i64 k148,.string nm149,.int .i64 num150,.int .i64 a151,.slice so153 ts152.length sc154] (by simp)
        refine (pmust_any s165.ps (⟨#[41]⟩) (by decide)).mono ?_
        rintro e w169 ⟨ht170,hk171⟩
        rcases ht170.or with ⟨n,a,hr172,g,rfl,hg⟩ | ⟨i166,hn167,rfl,hp168⟩
        ·exact ⟨.bad (step_bad HR hr172) ⟨g,rfl,hg⟩,s165.pan hk171⟩
        clear ht170
        replace HR := step_ok HR hn167
        have le173 := Lib.hid (Ps.must_ok hn167)
        have s174 := s165.call hk171 hp168
        have c175 := s174.n0.2.k5
        have c177 := s174.n2.2.k5
        have d179 := s174.d02
        go_wp2_with fail
        clear c175 c177 d179
        have s180 := s174.p2 (.int .i64 k148) (.string nm149) (.int .i64 num150) (.int .i64 a151) (.slice so153 ts152.length sc154)
        exact ⟨_,res5 Tryz.results186 rfl s180.n2.2,.ok (HR.out.trans rfl) rfl (s180.treeOf (sv := .slice so153 ts152.length sc154) (by simp)) s180.ps (by have := le159.out; have := le173.out; omega),s180.kp⟩
      ·have s181 := s38.call hk42 hp41
       replace HR := step_if HR hi40
       go_wp2_with fail
       rcases Nat.lt_or_ge d 20 with hd | hd
       ·refine (pdown_ok s181.ps hd).mono ?_
        rintro e w182 ⟨Bd,rfl,hB183,hK184,hk185,hp186⟩
        have s187 := s181.callBlk hk185 hp186 Bd _ _ hB183 hK184
        clear hB183 hK184
        go_wp2_with fail
        refine (HDN.out hd _ _ _ _ _ s187.ps).mono ?_
        rintro e w200 ⟨ht201,hk202⟩
        rcases ht201.or with ⟨n,a,hr203,g,rfl,hg⟩ | ⟨k188,nm189,num190,a191,ts192,so193,sc194,i195,hn196,rfl,hrow197,hp198,le199⟩
        ·have hBB : w.heap.size ≤ Bd := s187.n0.1
         exact leave_bad ⟨g,rfl,hg⟩ (hk202.blk s187.n0.2 (by have := s187.lt; show Bd ≠ p; omega)) (fun w9 hP9 hk9 => ⟨.bad (step_bad HR hr203) hP9,(s187.pan hk202).call (s187.pan hk202).size hk9⟩)
        clear ht201
        replace HR := step_ok HR hn196
        have le199 := Lib.hid le199
        have s204 := s187.callKeep hk202 hp198 hrow197
        unfold nodeV
        have c205 := s204.n1.2.k5
        have c207 := s204.n2.2.k5
        have d209 := s204.d12
        go_wp2_with fail
        clear c205 c207 d209
        have s210 := s204.s10 (.int .i64 34)
        have s211 := s210.s14 (.slice (some ⟨w200.heap.size,0,none⟩) 1 1)
        have s212 := s211.p2 (.int .i64 34) (.string ⟨#[]⟩) (.int .i64 0) (.int .i64 (Ps.A l i)) (.slice (some ⟨w200.heap.size,0,none⟩) 1 1)
        have s213 := s212.built1 (k0 := k188) (nm0 := nm189) (num0 := num190) (a0 := a191) (sv0 := .slice so193 ts192.length sc194) (ts0 := ts192) (by simp) (w200.heap.size) (by simp)
        refine leave_ok s213.ps s213.n0.2 (fun w9 hp9 hk9 => ?_)
        have s214 := s213.call hk9 hp9
        exact ⟨_,res5 Tryz.results186 rfl s214.n2.2,.ok (HR.out.trans rfl) rfl (s214.treeOf (sv := .slice (some ⟨w200.heap.size,0,none⟩) 1 1) (by simp)) s214.ps (by have := le199.out; omega),s214.kp⟩
       ·have hd2 : d = 20 := by have := s181.ps.hd; omega
        refine (pdown_bad s181.ps hd2).mono ?_
        rintro e w1 ⟨⟨g,rfl,hg⟩,hk215⟩
        exact ⟨.bad (step_bad HR (HDN0.out hd2 _ _)) ⟨g,rfl,hg⟩,s181.pan hk215⟩
     ·have s216 := s33.call hk37 hp36
      replace HR := step_if HR hi35
      have c217 := s216.n0.2.k5
      have c219 := s216.n1.2.k5
      have d221 := s216.d01
      go_wp2_with fail
      clear c217 c219 d221
      have s222 := s216.s00 (.int .i64 32)
      have s223 := s222.keepNil
      have s224 := s223.p1 (.int .i64 32) (.string ⟨#[]⟩) (.int .i64 0) (.int .i64 (Ps.A l i)) (.slice none 0 0)
      exact ⟨_,res5 Tryz.results186 rfl s224.n1.2,.ok (HR.out.trans rfl) rfl (s224.treeOf (sv := .slice none 0 0) (by simp)) s224.ps (by omega),s224.kp⟩
    ·have s225 := s28.call hk32 hp31
     replace HR := step_if HR hi30
     have c226 := s225.n0.2.k5
     have c228 := s225.n1.2.k5
     have d230 := s225.d01
     go_wp2_with fail
     clear c226 c228 d230
     have s231 := s225.s00 (.int .i64 31)
     have s232 := s231.keepNil
     have s233 := s232.p1 (.int .i64 31) (.string ⟨#[]⟩) (.int .i64 0) (.int .i64 (Ps.A l i)) (.slice none 0 0)
     exact ⟨_,res5 Tryz.results186 rfl s233.n1.2,.ok (HR.out.trans rfl) rfl (s233.treeOf (sv := .slice none 0 0) (by simp)) s233.ps (by omega),s233.kp⟩
   ·have s234 := s0.call hk27 hp26
    replace HR := step_if HR hi25
    have c235 := s234.n0.2.k5
    have c237 := s234.n1.2.k5
    have d239 := s234.d01
    go_wp2_with fail
    clear c235 c237 d239
    have s240 := s234.s00 (.int .i64 30)
    have s241 := s240.keepNil
    have s242 := s241.p1 (.int .i64 30) (.string ⟨#[]⟩) (.int .i64 0) (.int .i64 (Ps.A l i)) (.slice none 0 0)
    exact ⟨_,res5 Tryz.results186 rfl s242.n1.2,.ok (HR.out.trans rfl) rfl (s242.treeOf (sv := .slice none 0 0) (by simp)) s242.ps (by omega),s242.kp⟩
set_option maxRecDepth 100000
set_option maxHeartbeats 1000000
open Go.RowKit Ps
theorem pstmts_deep {w : World} {p T : Nat} {l : List Sc.Tok} {i d : Nat} (h : PS w p T l i d) (hd : d = 20) : Calls Tryz.prog 65 #[pp p] w fun e w' =>
  PT (fun b => w.heap.size ≤ b) p T l i d (Ps.tooDeep l i) e w' ∧ Kp w.heap.size p w w' := by
 unfold pp
 go_enter_defers Tryz.func65,Tryz.ntmps65
 go_wp2_with fail
 have s1 := (St.start h).allocAt (w.heap.size) 25 #[.int .i64 0,.string ⟨#[]⟩,.int .i64 0,.int .i64 0,.slice none 0 0] (by simp)
 refine (pdown_bad s1.ps hd).mono ?_
 rintro e w1 ⟨⟨g,rfl,hg⟩,hk⟩
 exact ⟨.bad rfl ⟨g,rfl,hg⟩,s1.pan hk⟩
theorem pstmts_any {w : World} {p T : Nat} {l : List Sc.Tok} {i d : Nat} (h : PS w p T l i d) (st : List Sc.Tok → Nat → R Tree) (hst : CT 119 (d + 1) st) (hd : d < 20) : Calls Tryz.prog 65 #[pp p] w fun e w' =>
  PT (fun b => w.heap.size ≤ b) p T l i d (Ps.stmtsOf l (st l) i) e w' ∧ Kp w.heap.size p w w' := by
 obtain ⟨r,hr⟩ : ∃ r,r = Ps.stmtsOf l (st l) i := ⟨_,rfl⟩
 rw [← hr]
 unfold Ps.stmtsOf at hr
 have HR := Lib.hid hr
 clear hr
 unfold pp
 go_enter_defers Tryz.func65,Tryz.ntmps65
 go_wp2_with fail
 have s2 := (St.start h).allocAt (w.heap.size) 25 #[.int .i64 0,.string ⟨#[]⟩,.int .i64 0,.int .i64 0,.slice none 0 0] (by simp)
 refine (pdown_ok s2.ps hd).mono ?_
 rintro e w3 ⟨Bd,rfl,hB4,hK5,hk6,hp7⟩
 have s8 := s2.callBlk hk6 hp7 Bd _ _ hB4 hK5
 clear hB4 hK5
 go_wp2_with fail
 refine (pnode_any s8.ps 1).mono ?_
 rintro e w9 ⟨rfl,hb10⟩
 have s11 := s8.below hb10
 unfold nodeV
 go_wp2_with fail
 have s12 := s11.allocAt (w9.heap.size) 25 #[.int .i64 1,.string ⟨#[]⟩,.int .i64 0,.int .i64 (Ps.A l i),.slice none 0 0] (by simp)
 go_loopg [] l.length (fun F wr => ∃ (j : Nat) (acc : List Tree) (go : Option Addr) (gn gc : Nat),l.length - j ≤ F ∧ i ≤ j ∧ acc.length ≤ j ∧ St w wr p T l j (d + 1) [(w9.heap.size,25,#[.int .i64 1,.string ⟨#[]⟩,.int .i64 0,.int .i64 (Ps.A l i),.slice go gn gc]),(Bd,62,#[.pointer (some ⟨p,0,none⟩)]),(w.heap.size,25,#[.int .i64 0,.string ⟨#[]⟩,.int .i64 0,.int .i64 0,.slice none 0 0])] (.slice go gn gc,acc) [] ∧
  Hid (r = (stmtsLoop l (st l) F j acc).bind fun ts i1 => R.ok (Tree.node 1 ⟨#[]⟩ 0 (Ps.A l i) ts) i1))
 case atStart => exact ⟨i,[],none,0,0,by omega,by omega,Nat.zero_le _,s12,HR⟩
 case round =>
  obtain ⟨j,acc,go,gn,gc,hF,hij,hacc,s4,HR⟩ := hrel
  have hjl := s4.ps.hi
  cases gk with
  | zero => omega
  | succ F =>
   unfold stmtsLoop at HR
   go_wp2_with fail
   refine (pis_any s4.ps (⟨#[59]⟩)).mono ?_
   rintro e w13 ⟨rfl,rfl⟩
   cases h14 : Ps.isW l j (⟨#[59]⟩) with
   | true =>
    have hns : noStmt l j = true := by unfold noStmt; rw [h14]; rfl
    replace HR := step_ifB HR hns
    replace HR := step_ifB HR h14
    go_wp2_with fail
    refine (ptake_yes s4.ps h14 (by decide)).mono ?_
    rintro e w15 ⟨rfl,hk16,hp17⟩
    have s18 := s4.call hk16 hp17
    go_wp2_with fail
    go_roundg F
    case measure => omega
    case rel => exact ⟨j + 1,acc,go,gn,gc,by omega,by omega,by omega,s18,HR⟩
   | false =>
    obtain ⟨c,hc,hb,⟨q1,q2⟩,⟨q3,q4⟩,q5,q6,q7,hlt⟩ := s4.ps.facts
    go_wp2_with fail
    clear hb q1 q2 q3 q4 q5 q6 q7
    refine (pfollows_any (W l j) _).mono ?_
    rintro e w19 ⟨rfl,rfl⟩
    cases h20 : Ps.follows (W l j) with
    | true =>
     have hns : noStmt l j = true := by unfold noStmt; rw [h14,h20]; rfl
     replace HR := step_ifB HR hns
     replace HR := step_elseB HR h14
     go_wp2_with fail
     refine (ptake_no s4.ps h14).mono ?_
     rintro e w21 ⟨rfl,rfl⟩
     have c24 := s4.n0.2.k5
     have c26 := s4.n2.2.k5
     have d28 := s4.d02
     go_wp2_with fail
     clear c24 c26 d28
     have s29 := s4.grown
     have s30 := s29.p2 (.int .i64 1) (.string ⟨#[]⟩) (.int .i64 0) (.int .i64 (Ps.A l i)) (.slice go gn gc)
     refine leave_ok s30.ps s30.n1.2 (fun w9 hp9 hk9 => ?_)
     have s31 := s30.call hk9 hp9
     exact ⟨_,res5 Tryz.results65 rfl s31.n2.2,.ok (HR.out.trans rfl) rfl (s31.treeOf (sv := .slice go gn gc) (by simp)) s31.ps (by omega),s31.kp⟩
    | false =>
     have hns : noStmt l j = false := by unfold noStmt; rw [h14,h20]; rfl
     replace HR := step_as (step_elseB HR hns)
     have c32 := s4.n0.2.k5
     go_wp2_with fail
     clear c32
     have hC := s4.n0.2
     refine Ch.wp_region_run_d (fun c ds w' => ds = [upD Bd] ∧ ∃ n a,r = .bad n a ∧ Pan w' p n a (.panicked c) ∧ Kp w.heap.size p w w' ∧ Blk w' Bd 62 #[.pointer (some ⟨p,0,none⟩)]) (fun u => Blk u (w9.heap.size) 25 #[.int .i64 1,.string ⟨#[]⟩,.int .i64 0,.int .i64 (Ps.A l i),.slice go gn gc]) [1] [0,1,2] [3,4,5,6,7] [5,6,7] (by kernel_rfl) (by kernel_rfl) (fun _ _ _ hb => bad_leaves hb fun _ _ _ hr hP hk => ⟨.bad hr hP,hk⟩) (hC) ?_
     clear hC
     have s34 := s4.drew
     refine Ch.take0 (v := ?v35) rfl (by rfl) ?y36 ?_
     case y36 => intro u; go_simp; rfl
     simp only [putq]
     refine Ch.load1 (v := ?v37) rfl (by rfl) ?y38 ?_
     case y38 => intro u hC; have c5 := Blk.five hC; go_simp; rfl
     simp only [putq]
     refine Ch.take2 (v := ?v39) rfl (by rfl) ?y40 ?_
     case y40 => intro u; go_simp; rfl
     simp only [putq]
     refine Ch.mid3 (by rfl) (fun K hK => ?_)
     go_simp
     refine (hst _ _ _ _ _ s34.ps).mono ?_
     rintro e w53 ⟨ht54,hk55⟩
     rcases ht54.or with ⟨n,a,hr56,g,rfl,hg⟩ | ⟨k41,nm42,num43,a44,ts45,so46,sc47,i48,hn49,rfl,hrow50,hp51,le52⟩
     ·have hBB : w.heap.size ≤ Bd := s34.n1.1
      exact Ch.qd_bad ⟨rfl,n,a,step_bad HR hr56,⟨g,rfl,hg⟩,s34.pan hk55,(hk55.blk s34.n1.2 (by have := s34.lt; show Bd ≠ p; omega))⟩
     clear ht54
     replace HR := step_ok HR hn49
     have le52 := Lib.hid le52
     have s57 := s34.callKeep hk55 hp51 hrow50
     unfold nodeV
     refine hK _ _ (s57.n0.2) ?_
     clear hK K
     try simp only [putq]
     refine Ch.mid4 (by rfl) (fun K hK => ?_)
     go_simp
     refine hK _ _ ((s57.other _).n0.2) ?_
     clear hK K
     try simp only [putq]
     refine Ch.post5 rfl (by rfl) (fun K hK => ?_)
     refine s57.app1 (List.mem_cons_self ..) (.tmp 23) (.tmp 26) rfl rfl rfl (by have := s57.ps.small; omega) (fun go58 gc59 w60 s61 => ?_)
     refine hK _ _ ?_
     clear hK K
     try simp only [putq]
     have c7 := s61.n0.2.five
     refine Ch.post6 rfl (by rfl) (fun K hK => ?_)
     go_simp
     refine hK _ _ ?_
     clear hK K
     try simp only [putq]
     refine Ch.post7 rfl (by rfl) (fun K hK => ?_)
     go_simp
     refine hK _ _ ?_
     clear hK K
     try simp only [putq]
     refine Ch.run_end_d ?_
     have s62 := s61.s04 (.slice go58 (acc.length + 1) gc59)
     clear c7
     go_wp2_with fail
     refine (ptake_or s62.ps (⟨#[59]⟩) (by decide)).mono ?_
     rintro e w63 (⟨hi64,rfl,hp65,hk66⟩ | ⟨hi64,rfl,hp65,hk66⟩)
     ·have s67 := s62.call hk66 hp65
      replace HR := step_elseB HR hi64
      have c68 := s67.n0.2.k5
      have c70 := s67.n2.2.k5
      have d72 := s67.d02
      go_wp2_with fail
      clear c68 c70 d72
      have s73 := s67.grown
      have s74 := s73.p2 (.int .i64 1) (.string ⟨#[]⟩) (.int .i64 0) (.int .i64 (Ps.A l i)) (.slice go58 (acc.length + 1) gc59)
      refine leave_ok s74.ps s74.n1.2 (fun w9 hp9 hk9 => ?_)
      have s75 := s74.call hk9 hp9
      exact ⟨_,res5 Tryz.results65 rfl s75.n2.2,.ok (HR.out.trans rfl) rfl (s75.treeOf (sv := .slice go58 (acc.length + 1) gc59) (by simp)) s75.ps (by have := le52.out; omega),s75.kp⟩
     ·have s76 := s62.call hk66 hp65
      replace HR := step_ifB HR hi64
      go_wp2_with fail
      go_roundg F
      case measure => omega
      case rel => have a0 := le52.out; exact ⟨(i48 + 1),acc ++ [Tree.node k41 nm42 num43 a44 ts45],go58,acc.length + 1,gc59,by omega,by omega,by simp <;> omega,s76.lose,HR⟩
end Go.Proofs.YtneohanphabneaaGreatDoor
