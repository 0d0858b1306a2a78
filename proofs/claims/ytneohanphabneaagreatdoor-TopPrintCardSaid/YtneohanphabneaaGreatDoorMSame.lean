/-
  The reference's SameTree says yes for two trees that are one but for places. Printed by tools/gen_same.py.
-/
import Derived.Test.YtneohanphabneaaGreatDoorMEq
import Derived.Test.YtneohanphabneaaGreatDoorMQ11
import Derived.Deep.LoopGhost
namespace Go.Proofs.YtneohanphabneaaGreatDoor
set_option maxRecDepth 100000
set_option maxHeartbeats 2000000
open Go.RowKit Ps
def SaC (N : Nat) : Prop := ∀ (t t' : Tree),SizeOf.sizeOf t ≤ N → Pr.strip t' = Pr.strip t → ∀ (w : World) (S S' : Nat → Prop) (v v' : Value),TreeIn w S v t → TreeIn w S' v' t' → Calls Tryz.prog 14 #[v,v'] w fun e w' => e = .returned (.bool true) ∧ Below w.heap.size w w'
theorem sametree_step (N : Nat) (ih : SaC N) : SaC (N + 1) := by
  intro t t' hN hst w S S' v v' h1 h2
  obtain ⟨k,nm,num,a,ts,sv,rfl,rfl,r1⟩ := h1.parts
  obtain ⟨a2,ts',rfl,hmap⟩ := Pr.strip_inv hst
  obtain ⟨k',nm',num',a3,ts2,sv',e,rfl,r2⟩ := h2.parts
  injection e with e1 e2 e3 e4 e5
  subst e1 e2 e3 e4 e5
  have hlen : ts'.length = ts.length := by have := congrArg List.length hmap; simpa using this
  have hE : ∀ j (h : j < ts.length) (h' : j < ts'.length),Pr.strip ts'[j] = Pr.strip ts[j] := fun j h h' => by
   have := congrArg (fun l => l[j]?) hmap
   simp only [List.getElem?_map,List.getElem?_eq_getElem h,List.getElem?_eq_getElem h',Option.map_some,Option.some.injEq] at this
   exact this
  have HE := Lib.hid hE
  clear h1 h2 hE hmap hst
  obtain ⟨o,c,rfl⟩ := r1.form
  obtain ⟨o',c',rfl⟩ := r2.form
  rw [hlen] at r2 ⊢
  have hmax := r1.max
  have HLN := Lib.hid hlen
  clear hlen
  have IH := Lib.hid ih
  have R1 := Lib.hid r1
  have R2 := Lib.hid r2
  clear ih r1 r2
  unfold nodeV
  go_enter Tryz.func14,Tryz.ntmps14
  go_wp2_with fail
  obtain ⟨w2,hw2⟩ : ∃ w2,w2 = (w.alloc (.cells #[.int .i64 k,.string nm,.int .i64 num,.int .i64 a,.slice o ts.length c] 25)).alloc (.cells #[.int .i64 k,.string nm,.int .i64 num,.int .i64 a2,.slice o' ts.length c'] 25) := ⟨_,rfl⟩
  have hN : Blk w2 w.heap.size 25 #[.int .i64 k,.string nm,.int .i64 num,.int .i64 a,.slice o ts.length c] := by rw [hw2]; exact (Blk.new w _ _).alloc _
  have hM : Blk w2 (w.heap.size + 1) 25 #[.int .i64 k,.string nm,.int .i64 num,.int .i64 a2,.slice o' ts.length c'] := by
   rw [hw2]
   have h := Blk.new (w.alloc (.cells #[.int .i64 k,.string nm,.int .i64 num,.int .i64 a,.slice o ts.length c] 25)) 25 #[.int .i64 k,.string nm,.int .i64 num,.int .i64 a2,.slice o' ts.length c']
   rw [show (w.alloc (.cells #[.int .i64 k,.string nm,.int .i64 num,.int .i64 a,.slice o ts.length c] 25)).heap.size = w.heap.size + 1 from by simp] at h
   exact h
  have hb2 : Below w.heap.size w w2 := by rw [hw2]; exact ((Below.refl _ _).alloc (Nat.le_refl _) _).alloc (by simp) _
  have hz2 : w2.heap.size = w.heap.size + 2 := by rw [hw2]; simp
  rw [← hw2]
  clear hw2
  have HN := Lib.hid hN
  have HM := Lib.hid hM
  have HB2 := Lib.hid hb2
  clear hN hM hb2
  go_loopw [5] (fun i wr => ∃ j : Nat,j ≤ ts.length ∧ i = .int .i64 j ∧ Hid (Below w2.heap.size w2 wr)) (fun i _ => ts.length - (intOf i).toNat)
  case atStart => exact ⟨0,Nat.zero_le _,rfl,Lib.hid (Below.refl _ _)⟩
  case round =>
   obtain ⟨j,hj,rfl,HB⟩ := hrel
   have hN := HN.out.below HB.out (by omega)
   have hM := HM.out.below HB.out (by omega)
   have hb : Below w.heap.size w wr := HB2.out.trans (HB.out.mono (by omega))
   obtain ⟨q1,q2⟩ := hN.five
   obtain ⟨q3,q4⟩ := hM.five
   have l1 := hN.lt
   have l2 := hM.lt
   by_cases hlt : j < ts.length
   ·obtain ⟨g,kk,nn,nu,na,ns,us,rfl,hg,et,f5,t1⟩ := R1.out.nth j hlt
    obtain ⟨g',kk',nn',nu',na',ns',us',rfl,hg',et',f5',t2⟩ := R2.out.nth j (by have := HLN.out; omega)
    have hst := HE.out j hlt (by have := HLN.out; omega)
    have hst2 := hst
    rw [et,et',Pr.strip_node,Pr.strip_node] at hst2
    obtain ⟨e1,e2,e3⟩ : kk = kk' ∧ nn = nn' ∧ nu = nu' := by injection hst2 with x y z; exact ⟨x.symm,y.symm,z.symm⟩
    subst e1 e2 e3
    have hsz : SizeOf.sizeOf ts[j] ≤ N := by
     have := List.sizeOf_lt_of_mem (List.getElem_mem hlt)
     have e : SizeOf.sizeOf (Tree.node k nm num a ts) = 1 + SizeOf.sizeOf k + SizeOf.sizeOf nm + SizeOf.sizeOf num + SizeOf.sizeOf a + SizeOf.sizeOf ts := Tree.node.sizeOf_spec _ _ _ _ _
     omega
    have f5 := f5.below hb hg
    have f5' := f5'.below hb hg'
    have t1 := TreeIn.turn (w' := wr.drew) (S' := S) t1 (fun b hlt hs => ⟨hs,hb.block b hlt⟩)
    have t2 := TreeIn.turn (w' := wr.drew) (S' := S') t2 (fun b hlt hs => ⟨hs,hb.block b hlt⟩)
    have CC := Lib.hid (IH.out ts[j] _ hsz hst wr.drew S S' _ _ t1 t2)
    clear t1 t2 hst hst2
    unfold nodeV at CC
    have i0 : (0 : Int) ≤ (j : Int) := by omega
    have i1 : (j : Int) < (ts.length : Int) := by omega
    have i2 : (j : Int) < (ts.length : Int) := by omega
    go_wp2_with fail
    refine Ch.wp_region_run (fun u => (Blk u w.heap.size 25 #[.int .i64 k,.string nm,.int .i64 num,.int .i64 a,.slice (some ⟨g,0,none⟩) ts.length c] ∧ Blk u (w.heap.size + 1) 25 #[.int .i64 k,.string nm,.int .i64 num,.int .i64 a2,.slice (some ⟨g',0,none⟩) ts.length c']) ∧ Five u g j kk nn nu na ns ∧ Five u g' j kk nn nu na' ns') [1,4,6,9] [0,1,2,3,4,5,6,7,8,9] [10,11] [] (by kernel_rfl) (by kernel_rfl) (fun _ _ d _ _ h => by cases d <;> exact h) ⟨⟨hN,hM⟩,f5,f5'⟩ ?_
    refine Ch.take0 (v := ?v0) rfl (by rfl) ?y0 ?_
    case y0 => intro u; go_simp; rfl
    simp only [putq]
    refine Ch.load1 (v := ?v1) rfl (by rfl) ?y1 ?_
    case y1 => rintro u ⟨⟨hC,hD⟩,⟨x0,x1,x2,x3,x4⟩,⟨b0,b1,b2,b3,b4⟩⟩; obtain ⟨c5,_⟩ := Blk.five hC; obtain ⟨d5,_⟩ := Blk.five hD; go_simp; rfl
    simp only [putq]
    refine Ch.take2 (v := ?v2) rfl (by rfl) ?y2 ?_
    case y2 => intro u; go_simp; rfl
    simp only [putq]
    refine Ch.take3 (v := ?v3) rfl (by rfl) ?y3 ?_
    case y3 => intro u; go_simp; rfl
    simp only [putq]
    refine Ch.load4 (v := ?v4) rfl (by rfl) ?y4 ?_
    case y4 => rintro u ⟨⟨hC,hD⟩,⟨x0,x1,x2,x3,x4⟩,⟨b0,b1,b2,b3,b4⟩⟩; obtain ⟨c5,_⟩ := Blk.five hC; obtain ⟨d5,_⟩ := Blk.five hD; go_simp; rfl
    simp only [putq]
    refine Ch.take5 (v := ?v5) rfl (by rfl) ?y5 ?_
    case y5 => intro u; go_simp; rfl
    simp only [putq]
    refine Ch.load6 (v := ?v6) rfl (by rfl) ?y6 ?_
    case y6 => rintro u ⟨⟨hC,hD⟩,⟨x0,x1,x2,x3,x4⟩,⟨b0,b1,b2,b3,b4⟩⟩; obtain ⟨c5,_⟩ := Blk.five hC; obtain ⟨d5,_⟩ := Blk.five hD; go_simp; rfl
    simp only [putq]
    refine Ch.take7 (v := ?v7) rfl (by rfl) ?y7 ?_
    case y7 => intro u; go_simp; rfl
    simp only [putq]
    refine Ch.take8 (v := ?v8) rfl (by rfl) ?y8 ?_
    case y8 => intro u; go_simp; rfl
    simp only [putq]
    refine Ch.load9 (v := ?v9) rfl (by rfl) ?y9 ?_
    case y9 => rintro u ⟨⟨hC,hD⟩,⟨x0,x1,x2,x3,x4⟩,⟨b0,b1,b2,b3,b4⟩⟩; obtain ⟨c5,_⟩ := Blk.five hC; obtain ⟨d5,_⟩ := Blk.five hD; go_simp; rfl
    simp only [putq]
    refine Ch.mid10 (by rfl) (fun K hK => ?_)
    go_simp
    refine CC.out.mono ?_
    rintro e w5 ⟨rfl,hb5⟩
    have hC5 : (Blk w5 w.heap.size 25 #[.int .i64 k,.string nm,.int .i64 num,.int .i64 a,.slice (some ⟨g,0,none⟩) ts.length c] ∧ Blk w5 (w.heap.size + 1) 25 #[.int .i64 k,.string nm,.int .i64 num,.int .i64 a2,.slice (some ⟨g',0,none⟩) ts.length c']) ∧ Five w5 g j kk nn nu na ns ∧ Five w5 g' j kk nn nu na' ns' := ⟨⟨Blk.below (w := wr.drew) hN hb5 l1,Blk.below (w := wr.drew) hM hb5 l2⟩,Five.below (w := wr.drew) f5 hb5 (show g < wr.heap.size from by have := hb.size; omega),Five.below (w := wr.drew) f5' hb5 (show g' < wr.heap.size from by have := hb.size; omega)⟩
    refine hK _ _ hC5 ?_
    clear hK K
    try simp only [putq]
    refine Ch.mid11 (by rfl) (fun K hK => ?_)
    go_simp
    refine hK _ _ hC5 ?_
    clear hK K
    try simp only [putq]
    refine Ch.run_end ?_
    go_wp2_with fail
    go_roundw
    case rel => exact ⟨j + 1,by omega,by go_num,Lib.hid ((HB.out.trans ((⟨rfl,rfl,rfl,Nat.le_refl _,fun _ _ => rfl⟩ : Below wr.heap.size wr wr.drew).mono HB.out.size)).trans (hb5.mono HB.out.size))⟩
    case measure => simp [intOf]; omega
   ·have i1 : ¬ (j : Int) < (ts.length : Int) := by omega
    go_wp2_with fail
    go_ret
    exact ⟨rfl,hb⟩
theorem sametree_all : ∀ N : Nat,SaC N
 | 0 => fun t t' h => by cases t; simp at h
 | N + 1 => sametree_step N (sametree_all N)
theorem sametree_any {t t' : Tree} (hst : Pr.strip t' = Pr.strip t) (w : World) (S S' : Nat → Prop) (v v' : Value) (h : TreeIn w S v t) (h' : TreeIn w S' v' t') : Calls Tryz.prog 14 #[v,v'] w fun e w' => e = .returned (.bool true) ∧ Below w.heap.size w w' := sametree_all _ t t' (Nat.le_refl _) hst w S S' v v' h h'
set_option maxRecDepth 100000
set_option maxHeartbeats 1000000
open Go.RowKit Ps
def Clo (w0 : World) (p T : Nat) (l : List Sc.Tok) (d : Nat) (fv : Value) (f : Nat → R Tree) : Prop := ∃ K fs cap,fv = .func (.func K) fs cap ∧ (∀ w,(callFunc K (fs ++ cap)).run Tryz.prog w = .ok (.enter K (fs ++ cap)) w) ∧
 ∀ u j,Kp w0.heap.size p w0 u → PS u p T l j d → Calls Tryz.prog K (fs ++ cap) u fun e w' => PT (fun b => u.heap.size ≤ b) p T l j d (f j) e w' ∧ Kp u.heap.size p u w'
theorem step_ok {α β : Type} {r : R β} {x : R α} {f : α → Nat → R β} {v : α} {i : Nat} (h : Hid (r = x.bind f)) (hx : x = .ok v i) : Hid (r = f v i) := by
 show _ = _; rw [h.out,hx]; rfl
theorem step_bad {α β : Type} {r : R β} {x : R α} {f : α → Nat → R β} {n a : Nat} (h : Hid (r = x.bind f)) (hx : x = .bad n a) : r = .bad n a := by
 rw [h.out,hx]; rfl
theorem step_if {β : Type} {r a b : R β} {c : Bool} (h : Hid (r = if c = true then a else b)) (hc : c = true) : Hid (r = a) := by
 show _ = _; rw [h.out,if_pos hc]
theorem step_else {β : Type} {r a b : R β} {c : Bool} (h : Hid (r = if c = true then a else b)) (hc : c = false) : Hid (r = b) := by
 show _ = _; rw [h.out,if_neg (by rw [hc]; simp)]
theorem step_ifB {α β : Type} {r : R β} {a b : R α} {k : α → Nat → R β} {c : Bool} (h : Hid (r = (if c = true then a else b).bind k)) (hc : c = true) : Hid (r = a.bind k) := by
 show _ = _; rw [h.out,if_pos hc]
theorem step_elseB {α β : Type} {r : R β} {a b : R α} {k : α → Nat → R β} {c : Bool} (h : Hid (r = (if c = true then a else b).bind k)) (hc : c = false) : Hid (r = b.bind k) := by
 show _ = _; rw [h.out,if_neg (by rw [hc]; simp)]
theorem step_as {α β γ : Type} {r : R γ} {x : R α} {f : α → Nat → R β} {k : β → Nat → R γ} (h : Hid (r = (x.bind f).bind k)) : Hid (r = x.bind fun v i => (f v i).bind k) := by
 show _ = _; rw [h.out]; cases x <;> rfl
theorem ptake_or {w : World} {p T : Nat} {l : List Sc.Tok} {i d : Nat} (h : PS w p T l i d) (s : ByteArray) (hs : s ≠ ⟨#[]⟩) : Calls Tryz.prog 55 #[.pointer (some ⟨p,0,none⟩),.string s] w fun e w' =>
  (Ps.isW l i s = false ∧ e = .returned (.bool false) ∧ PS w' p T l i d ∧ Kp w.heap.size p w w') ∨ (Ps.isW l i s = true ∧ e = .returned (.bool true) ∧ PS w' p T l (i + 1) d ∧ Kp w.heap.size p w w') := by
 rcases hw : Ps.isW l i s with _ | _
 ·refine (ptake_no h hw).mono ?_
  rintro e w' ⟨rfl,rfl⟩
  exact .inl ⟨rfl,rfl,h,Kp.refl _ _ _⟩
 ·refine (ptake_yes h hw hs).mono ?_
  rintro e w' ⟨rfl,hk,hp⟩
  exact .inr ⟨rfl,rfl,hp,hk⟩
theorem star_no {l : List Sc.Tok} {s : ByteArray} {i : Nat} (h : isW l i s = false) : star l s i = (0,i) := by unfold star; rw [h]; rfl
theorem star_yes {l : List Sc.Tok} {s : ByteArray} {i : Nat} (h : isW l i s = true) : star l s i = (1,i + 1) := by unfold star; rw [h]; rfl
theorem star_le (l : List Sc.Tok) (s : ByteArray) (i : Nat) : i ≤ (star l s i).2 := by unfold star; split <;> simp
theorem number_ok {l : List Sc.Tok} {i j v : Nat} (h : number l i = .ok v j) : j = i + 1 := by
 unfold number at h
 split at h
 ·injection h with _ h; exact h.symm
 ·unfold want at h; cases h
theorem step_tail {α : Type} {r x : R α} (h : Hid (r = x)) : Hid (r = x.bind R.ok) := by
 show _ = _; rw [h.out]; cases x <;> rfl
theorem pdeclared_any {w : World} {p T : Nat} {l : List Sc.Tok} {i d : Nat} (h : PS w p T l i d) (kind : Nat) (sign : ByteArray) (hs : sign ≠ ⟨#[]⟩) (fv : Value) (f : Nat → R Tree) (hf : Clo w p T l d fv f) : Calls Tryz.prog 58 #[pp p,.int .i64 kind,.string sign,fv] w fun e w' =>
  PT (fun b => w.heap.size ≤ b) p T l i d (Ps.declared l kind sign f i) e w' ∧ Kp w.heap.size p w w' := by
 obtain ⟨r,hr⟩ : ∃ r,r = Ps.declared l kind sign f i := ⟨_,rfl⟩
 rw [← hr]
 unfold Ps.declared at hr
 have HR := Lib.hid hr
 clear hr
 obtain ⟨K,fs,cap,rfl,hin,hcall⟩ := hf
 have HC := Lib.hid hcall
 clear hcall
 unfold pp
 go_enter Tryz.func58,Tryz.ntmps58
 go_wp2_with fail
 have s1 := (St.start h).allocAt (w.heap.size) 25 #[.int .i64 0,.string ⟨#[]⟩,.int .i64 0,.int .i64 0,.slice none 0 0] (by simp)
 refine (pnode_any s1.ps kind).mono ?_
 rintro e w2 ⟨rfl,hb3⟩
 have s4 := s1.below hb3
 unfold nodeV
 go_wp2_with fail
 have s5 := s4.allocAt (w2.heap.size) 25 #[.int .i64 kind,.string ⟨#[]⟩,.int .i64 0,.int .i64 (Ps.A l i),.slice none 0 0] (by simp)
 refine (pname_any s5.ps).mono ?_
 rintro e w10 ⟨ht11,hk12⟩
 rcases ht11.or with ⟨n,a,hr13,g,rfl,hg⟩ | ⟨nm6,i7,hn8,rfl,hp9⟩
 ·exact ⟨rfl,.bad (step_bad HR hr13) ⟨g,rfl,hg⟩,s5.pan hk12⟩
 clear ht11
 replace HR := step_ok HR hn8
 have le14 := Lib.hid (Ps.name_ok hn8).1
 have s15 := s5.call hk12 hp9
 have c16 := s15.n0.2.k5
 go_wp2_with fail
 clear c16
 have s18 := s15.s01 (.string nm6)
 refine (ptake_or s18.ps (⟨#[42]⟩) (by decide)).mono ?_
 rintro e w19 (⟨hi20,rfl,hp21,hk22⟩ | ⟨hi20,rfl,hp21,hk22⟩)
 ·have s23 := s18.call hk22 hp21
  replace HR := by rw [star_no hi20] at HR; exact HR
  go_wp2_with fail
  refine (pmust_any s23.ps (sign) hs).mono ?_
  rintro e w27 ⟨ht28,hk29⟩
  rcases ht28.or with ⟨n,a,hr30,g,rfl,hg⟩ | ⟨i24,hn25,rfl,hp26⟩
  ·exact ⟨rfl,.bad (step_bad HR hr30) ⟨g,rfl,hg⟩,s23.pan hk29⟩
  clear ht28
  replace HR := step_ok HR hn25
  have le31 := Lib.hid (Ps.must_ok hn25)
  have s32 := s23.call hk29 hp26
  go_wp2_with fail
  refine (HC.out _ i24 s32.kp s32.ps).mono ?_
  rintro e w45 ⟨ht46,hk47⟩
  rcases ht46.or with ⟨n,a,hr48,g,rfl,hg⟩ | ⟨k33,nm34,num35,a36,ts37,so38,sc39,i40,hn41,rfl,hrow42,hp43,le44⟩
  ·exact ⟨rfl,.bad (step_bad HR hr48) ⟨g,rfl,hg⟩,s32.pan hk47⟩
  clear ht46
  replace HR := step_ok HR hn41
  have le44 := Lib.hid le44
  have s49 := s32.callKeep hk47 hp43 hrow42
  unfold nodeV
  have c50 := s49.n0.2.k5
  have c52 := s49.n1.2.k5
  have d54 := s49.d01
  go_wp2_with fail
  clear c50 c52 d54
  have s55 := s49.s04 (.slice (some ⟨w45.heap.size,0,none⟩) 1 1)
  have s56 := s55.p1 (.int .i64 kind) (.string nm6) (.int .i64 0) (.int .i64 (Ps.A l i)) (.slice (some ⟨w45.heap.size,0,none⟩) 1 1)
  have s57 := s56.built1 (k0 := k33) (nm0 := nm34) (num0 := num35) (a0 := a36) (sv0 := .slice so38 ts37.length sc39) (ts0 := ts37) (by simp) (w45.heap.size) (by simp)
  exact bodyPost_ret (res5 Tryz.results58 rfl s57.n1.2) rfl ⟨.ok (HR.out.trans rfl) rfl (s57.treeOf (sv := .slice (some ⟨w45.heap.size,0,none⟩) 1 1) (by simp)) s57.ps (by have := le14.out; have := le31.out; have := le44.out; omega),s57.kp⟩
 ·have s58 := s18.call hk22 hp21
  replace HR := by rw [star_yes hi20] at HR; exact HR
  have c59 := s58.n0.2.k5
  go_wp2_with fail
  clear c59
  have s61 := s58.s02 (.int .i64 1)
  go_wp2_with fail
  refine (pmust_any s61.ps (sign) hs).mono ?_
  rintro e w65 ⟨ht66,hk67⟩
  rcases ht66.or with ⟨n,a,hr68,g,rfl,hg⟩ | ⟨i62,hn63,rfl,hp64⟩
  ·exact ⟨rfl,.bad (step_bad HR hr68) ⟨g,rfl,hg⟩,s61.pan hk67⟩
  clear ht66
  replace HR := step_ok HR hn63
  have le69 := Lib.hid (Ps.must_ok hn63)
  have s70 := s61.call hk67 hp64
  go_wp2_with fail
  refine (HC.out _ i62 s70.kp s70.ps).mono ?_
  rintro e w83 ⟨ht84,hk85⟩
  rcases ht84.or with ⟨n,a,hr86,g,rfl,hg⟩ | ⟨k71,nm72,num73,a74,ts75,so76,sc77,i78,hn79,rfl,hrow80,hp81,le82⟩
  ·exact ⟨rfl,.bad (step_bad HR hr86) ⟨g,rfl,hg⟩,s70.pan hk85⟩
  clear ht84
  replace HR := step_ok HR hn79
  have le82 := Lib.hid le82
  have s87 := s70.callKeep hk85 hp81 hrow80
  unfold nodeV
  have c88 := s87.n0.2.k5
  have c90 := s87.n1.2.k5
  have d92 := s87.d01
  go_wp2_with fail
  clear c88 c90 d92
  have s93 := s87.s04 (.slice (some ⟨w83.heap.size,0,none⟩) 1 1)
  have s94 := s93.p1 (.int .i64 kind) (.string nm6) (.int .i64 1) (.int .i64 (Ps.A l i)) (.slice (some ⟨w83.heap.size,0,none⟩) 1 1)
  have s95 := s94.built1 (k0 := k71) (nm0 := nm72) (num0 := num73) (a0 := a74) (sv0 := .slice so76 ts75.length sc77) (ts0 := ts75) (by simp) (w83.heap.size) (by simp)
  exact bodyPost_ret (res5 Tryz.results58 rfl s95.n1.2) rfl ⟨.ok (HR.out.trans rfl) rfl (s95.treeOf (sv := .slice (some ⟨w83.heap.size,0,none⟩) 1 1) (by simp)) s95.ps (by have := le14.out; have := le69.out; have := le82.out; omega),s95.kp⟩
set_option maxRecDepth 100000
set_option maxHeartbeats 4000000
open Go.RowKit Ps
theorem psection_any {w : World} {p T : Nat} {l : List Sc.Tok} {i d : Nat} (h : PS w p T l i d) (word : ByteArray) (hs : word ≠ ⟨#[]⟩) (fv : Value) (f : Nat → R Tree) (hf : Clo w p T l d fv f) :
  Calls Tryz.prog 56 #[pp p,.string word,fv] w fun e w' =>
   PT (fun b => w.heap.size ≤ b) p T l i d (Ps.section_ l word f i) e w' ∧ Kp w.heap.size p w w' := by
 obtain ⟨r,hr⟩ : ∃ r,r = Ps.section_ l word f i := ⟨_,rfl⟩
 rw [← hr]
 unfold section_ at hr
 have HR := Lib.hid hr
 clear hr
 obtain ⟨K,fs,cap,rfl,hin,hcall⟩ := hf
 have HC := Lib.hid hcall
 clear hcall
 unfold pp
 go_enter Tryz.func56,Tryz.ntmps56
 go_wp2_with fail
 have s0 := (St.start h).alloc 25 #[.int .i64 0,.string ⟨#[]⟩,.int .i64 0,.int .i64 0,.slice none 0 0]
 refine (pnode_any s0.ps 1).mono ?_
 rintro e w1 ⟨rfl,hb1⟩
 have s1 := s0.below hb1
 unfold nodeV
 go_wp2_with fail
 have s2 := s1.alloc 25 #[.int .i64 1,.string ⟨#[]⟩,.int .i64 0,.int .i64 (Ps.A l i),.slice none 0 0]
 refine (ptake_or s2.ps word hs).mono ?_
 rintro e w2 (⟨hi,rfl,h3,hk3⟩ | ⟨hi,rfl,h3,hk3⟩)
 ·have HR := step_else HR hi
  have s3 := s2.call hk3 h3
  have c0 := s3.n0.2.five
  have c1 := s3.n1.2.five
  go_wp2_with fail
  have s6 := (s3.p1 (.int .i64 1) (.string ⟨#[]⟩) (.int .i64 0) (.int .i64 (Ps.A l i)) (.slice none 0 0)).grown
  exact bodyPost_ret (res5 Tryz.results56 rfl s6.n1.2) rfl ⟨.ok (HR.out.trans rfl) rfl (s6.treeOf (List.mem_cons_self ..)) s6.ps (Nat.le_refl _),s6.kp⟩
 ·have HR := step_if HR hi
  have s3 := s2.call hk3 h3
  go_wp2_with fail
  go_loopg [] l.length (fun F wr => ∃ (j : Nat) (acc : List Tree) (go : Option Addr) (gn gc : Nat),l.length - j ≤ F ∧ i ≤ j ∧ acc.length ≤ j ∧ St w wr p T l j d [(w1.heap.size,25,#[.int .i64 1,.string ⟨#[]⟩,.int .i64 0,.int .i64 (Ps.A l i),.slice go gn gc]),(w.heap.size,25,#[.int .i64 0,.string ⟨#[]⟩,.int .i64 0,.int .i64 0,.slice none 0 0])] (.slice go gn gc,acc) [] ∧
   Hid (r = (sectionLoop l f F j acc).bind fun ts i1 => R.ok (Tree.node 1 ⟨#[]⟩ 0 (A l i) ts) i1))
  case atStart => exact ⟨i + 1,[],none,0,0,by omega,by omega,Nat.zero_le _,s3,HR⟩
  case round =>
   obtain ⟨j,acc,go,gn,gc,hF,hij,hacc,s4,HR4⟩ := hrel
   obtain ⟨c,hc,hb,⟨q1,q2⟩,⟨q3,q4⟩,q5,q6,q7,hlt⟩ := s4.ps.facts
   have hN := Lib.hid (sname_any (Ps.W l j) wr (s4.ps.good j s4.ps.hi).1)
   have hjl := s4.ps.hi
   cases gk with
   | zero => omega
   | succ F =>
    unfold sectionLoop at HR4
    go_wp2_with fail
    refine hN.out.mono ?_
    rintro e w5 ⟨rfl,hb5⟩
    have s5 := s4.below hb5
    clear hN hb q1 q2 q3 q4 q5 q6
    cases hw : isName (W l j) with
    | false =>
     have HR5 := step_elseB HR4 hw
     have c0 := s5.n0.2.five
     have c1 := s5.n1.2.five
     go_wp2_with fail
     have s6 := (s5.p1 (.int .i64 1) (.string ⟨#[]⟩) (.int .i64 0) (.int .i64 (Ps.A l i)) (.slice go gn gc)).grown
     exact bodyPost_ret (res5 Tryz.results56 rfl s6.n1.2) rfl ⟨.ok (HR5.out.trans rfl) rfl (s6.treeOf (List.mem_cons_self ..)) s6.ps hij,s6.kp⟩
    | true =>
     have HR5 := step_as (step_ifB HR4 hw)
     have hC5 : Blk w5.drew w1.heap.size 25 #[.int .i64 1,.string ⟨#[]⟩,.int .i64 0,.int .i64 (Ps.A l i),.slice go gn gc] := s5.n0.2
     go_wp2_with fail
     refine Ch.wp_region_run (fun u => Blk u w1.heap.size 25 #[.int .i64 1,.string ⟨#[]⟩,.int .i64 0,.int .i64 (Ps.A l i),.slice go gn gc]) [1] [0,1,2] [3,4,5,6,7] [5,6,7] (by kernel_rfl) (by kernel_rfl) (fun _ _ d _ _ h => by cases d <;> exact h) hC5 ?_
     refine Ch.take0 (v := ?v0) rfl (by rfl) ?y0 ?_
     case y0 => intro u; go_simp; rfl
     simp only [putq]
     refine Ch.load1 (v := ?v1) rfl (by rfl) ?y1 ?_
     case y1 => intro u hC; have c5 := Blk.five hC; go_simp; rfl
     simp only [putq]
     refine Ch.take2 (v := ?v2) rfl (by rfl) ?y2 ?_
     case y2 => intro u; go_simp; rfl
     simp only [putq]
     refine Ch.mid3 (by rfl) (fun K hK => ?_)
     go_simp
     have s5d := s5.drew
     refine (HC.out _ j s5d.kp s5d.ps).mono ?_
     rintro e w6 ⟨ht,hk6⟩
     rcases ht.or with ⟨n,a,hr,g,rfl,hg⟩ | ⟨k,nm,num,at_,ts,so,sc,i6,hN,rfl,hrow,h6,hle⟩
     ·exact ⟨rfl,.bad (step_bad HR5 hr) ⟨g,rfl,hg⟩,s5d.pan hk6⟩
     have s6 := s5d.callKeep hk6 h6 hrow
     have HR6 := step_as (step_ok HR5 hN)
     clear ht
     unfold nodeV
     refine hK _ _ s6.n0.2 ?_
     clear hK K
     refine Ch.mid4 (by rfl) (fun K hK => ?_)
     go_simp
     refine hK _ _ (s6.other _).n0.2 ?_
     clear hK K
     refine Ch.post5 rfl (by rfl) (fun K hK => ?_)
     refine s6.app1 (List.mem_cons_self ..) (.tmp 22) (.tmp 25) rfl rfl rfl (by have := s6.ps.small; omega) (fun go' gc' w7 s7 => ?_)
     refine hK _ _ ?_
     clear hK K
     simp only [putq]
     have c7 := s7.n0.2.five
     refine Ch.post6 rfl (by rfl) (fun K hK => ?_)
     go_simp
     refine hK _ _ ?_
     clear hK K
     refine Ch.post7 rfl (by rfl) (fun K hK => ?_)
     go_simp
     refine hK _ _ ?_
     clear hK K
     refine Ch.run_end ?_
     have s8 := s7.s04 (.slice go' (acc.length + 1) gc')
     go_wp2_with fail
     refine (pmust_any s8.ps ⟨#[59]⟩ (by decide)).mono ?_
     rintro e w8 ⟨hm,hk8⟩
     rcases hm.or with ⟨n,a,hr,g,rfl,hg⟩ | ⟨i8,hM,rfl,h8⟩
     ·exact ⟨rfl,.bad (step_bad HR6 hr) ⟨g,rfl,hg⟩,s8.pan hk8⟩
     have HR8 := step_ok HR6 hM
     have s9 := s8.call hk8 h8
     have hi8 := Ps.must_ok hM
     go_wp2_with fail
     go_roundg F
     case measure => omega
     case rel => exact ⟨i8,acc ++ [Tree.node k nm num at_ ts],go',acc.length + 1,gc',by omega,by omega,by simp; omega,s9.lose,HR8⟩
set_option maxRecDepth 100000
set_option maxHeartbeats 1000000
open Go.RowKit Ps
theorem ptypeName_any {w : World} {p T : Nat} {l : List Sc.Tok} {i d : Nat} (h : PS w p T l i d) : Calls Tryz.prog 63 #[pp p] w fun e w' =>
  PT (fun b => w.heap.size ≤ b) p T l i d (Ps.typeName l i) e w' ∧ Kp w.heap.size p w w' := by
 obtain ⟨r,hr⟩ : ∃ r,r = Ps.typeName l i := ⟨_,rfl⟩
 rw [← hr]
 unfold Ps.typeName at hr
 have HR := Lib.hid hr
 clear hr
 unfold pp
 go_enter Tryz.func63,Tryz.ntmps63
 go_wp2_with fail
 have s1 := (St.start h).allocAt (w.heap.size) 25 #[.int .i64 0,.string ⟨#[]⟩,.int .i64 0,.int .i64 0,.slice none 0 0] (by simp)
 refine (pnode_any s1.ps 13).mono ?_
 rintro e w2 ⟨rfl,hb3⟩
 have s4 := s1.below hb3
 unfold nodeV
 go_wp2_with fail
 have s5 := s4.allocAt (w2.heap.size) 25 #[.int .i64 13,.string ⟨#[]⟩,.int .i64 0,.int .i64 (Ps.A l i),.slice none 0 0] (by simp)
 refine (pname_any s5.ps).mono ?_
 rintro e w10 ⟨ht11,hk12⟩
 rcases ht11.or with ⟨n,a,hr13,g,rfl,hg⟩ | ⟨nm6,i7,hn8,rfl,hp9⟩
 ·exact ⟨rfl,.bad (step_bad HR hr13) ⟨g,rfl,hg⟩,s5.pan hk12⟩
 clear ht11
 replace HR := step_ok HR hn8
 have le14 := Lib.hid (Ps.name_ok hn8).1
 have s15 := s5.call hk12 hp9
 have c16 := s15.n0.2.k5
 have c18 := s15.n1.2.k5
 have d20 := s15.d01
 go_wp2_with fail
 clear c16 c18 d20
 have s21 := s15.s01 (.string nm6)
 refine (pis_any s21.ps (⟨#[46]⟩)).mono ?_
 rintro e w23 ⟨rfl,rfl⟩
 cases hi22 : Ps.isW l i7 (⟨#[46]⟩) with
 | false =>
  replace HR := step_else HR hi22
  have c24 := s21.n0.2.k5
  have c26 := s21.n1.2.k5
  have d28 := s21.d01
  go_wp2_with fail
  clear c24 c26 d28
  have s29 := s21.keepNil
  have s30 := s29.p1 (.int .i64 13) (.string nm6) (.int .i64 0) (.int .i64 (Ps.A l i)) (.slice none 0 0)
  exact bodyPost_ret (res5 Tryz.results63 rfl s30.n1.2) rfl ⟨.ok (HR.out.trans rfl) rfl (s30.treeOf (sv := .slice none 0 0) (by simp)) s30.ps (by have := le14.out; omega),s30.kp⟩
 | true =>
  replace HR := step_if HR hi22
  have c31 := s21.n0.2.k5
  have c33 := s21.n1.2.k5
  have d35 := s21.d01
  go_wp2_with fail
  clear c31 c33 d35
  have s36 := s21.allocAt (w10.heap.size) 25 #[.int .i64 24,.string nm6,.int .i64 0,.int .i64 (Ps.A l i),.slice none 0 0] (by simp)
  have hmu := Ps.must_yes hi22
  have hmm := pmust_any s36.ps (⟨#[46]⟩) (by decide)
  rw [hmu] at hmm
  refine hmm.mono ?_
  rintro e w37 ⟨⟨rfl,hp40⟩,hk39⟩
  clear hmm hmu
  have s41 := s36.call hk39 hp40
  have s42 := s41.keepNil
  have HS := Lib.hid s42
  go_wp2_with fail
  have s43 := s42.drew
  refine Ch.wp_region_tree (fun u => Blk u (w10.heap.size) 25 #[.int .i64 24,.string nm6,.int .i64 0,.int .i64 (Ps.A l i),.slice none 0 0]) [2] [] (.take 0 (.take 2 (.two 1 (.take 4 (.two 3 (.one 5 (.take 6 (.one 7 .done))) 5 (.one 3 (.take 6 (.one 7 .done))))) 3 (.one 1 (.take 4 (.one 5 (.take 6 (.one 7 .done)))))))) (by kernel_rfl) (by kernel_rfl) (fun _ _ d _ _ h => by cases d <;> exact h) (s43.n0.2) ?_
  refine Ch.tk0 (v := ?v44) rfl (by rfl) ?y45 ?_
  case y45 => intro u; go_simp; rfl
  simp only [putq]
  refine Ch.ld2 (v := ?v46) rfl (by rfl) ?y47 ?_
  case y47 => intro u hC; have c5 := Blk.five hC; go_simp; rfl
  simp only [putq]
  refine Ch.tree_two ?_ ?_
  ·refine Ch.md1 (by rfl) (fun K hK => ?_)
   go_simp
   refine (pname_any s43.ps).mono ?_
   rintro e w52 ⟨ht53,hk54⟩
   rcases ht53.or with ⟨n,a,hr55,g,rfl,hg⟩ | ⟨nm48,i49,hn50,rfl,hp51⟩
   ·exact ⟨rfl,.bad (step_bad HR hr55) ⟨g,rfl,hg⟩,s43.pan hk54⟩
   clear ht53
   replace HR := step_ok HR hn50
   have le56 := Lib.hid (Ps.name_ok hn50).1
   have s57 := s43.call hk54 hp51
   refine hK _ _ (s57.n0.2) ?_
   clear hK K
   try simp only [putq]
   have cc := s57.n1.2.five
   have cl := s57.n1.2.lt
   have cr := s57.n2.2.five
   have crl := s57.n2.2.lt
   have cm := s57.n0.2.lt
   have cd := s57.d12
   have ce := s57.d01
   have cf := s57.d02
   refine Ch.tk4 (v := ?v58) rfl (by rfl) ?y59 ?_
   case y59 => intro u; go_simp; rfl
   simp only [putq]
   refine Ch.tree_two ?_ ?_
   ·refine Ch.md3 (by rfl) (fun K hK => ?_)
    go_simp
    refine hK _ _ ((s57.other _).n0.2) ?_
    clear hK K
    try simp only [putq]
    refine Ch.md5 (by rfl) (fun K hK => ?_)
    go_simp
    have s60 := s57.s11 (.string nm48)
    refine hK _ _ ((s60.other _).n0.2) ?_
    clear hK K
    try simp only [putq]
    refine Ch.tk6 (v := ?v61) rfl (by rfl) ?y62 ?_
    case y62 => intro u; go_simp; rfl
    simp only [putq]
    refine Ch.md7 (by rfl) (fun K hK => ?_)
    go_simp
    have s63 := s60.s14 (.slice (some ⟨w52.heap.size,0,none⟩) 1 1)
    refine hK _ _ ((s63.other _).n0.2) ?_
    clear hK K
    try simp only [putq]
    refine Ch.tree_end ?_
    go_wp2_with fail
    have s64 := s63.p2 (.int .i64 13) (.string nm48) (.int .i64 0) (.int .i64 (Ps.A l i)) (.slice (some ⟨w52.heap.size,0,none⟩) 1 1)
    have s65 := s64.built1 (k0 := 24) (nm0 := nm6) (num0 := 0) (a0 := (Ps.A l i)) (sv0 := .slice none 0 0) (ts0 := []) (by simp) (w52.heap.size) (by simp)
    exact bodyPost_ret (res5 Tryz.results63 rfl s65.n2.2) rfl ⟨.ok (HR.out.trans rfl) rfl (s65.treeOf (sv := .slice (some ⟨w52.heap.size,0,none⟩) 1 1) (by simp)) s65.ps (by have := le14.out; have := le56.out; omega),s65.kp⟩
   ·refine Ch.md5 (by rfl) (fun K hK => ?_)
    go_simp
    have s66 := s57.s11 (.string nm48)
    refine hK _ _ (s66.n0.2) ?_
    clear hK K
    try simp only [putq]
    refine Ch.md3 (by rfl) (fun K hK => ?_)
    go_simp
    refine hK _ _ ((s66.other _).n0.2) ?_
    clear hK K
    try simp only [putq]
    refine Ch.tk6 (v := ?v67) rfl (by rfl) ?y68 ?_
    case y68 => intro u; go_simp; rfl
    simp only [putq]
    refine Ch.md7 (by rfl) (fun K hK => ?_)
    go_simp
    have s69 := s66.s14 (.slice (some ⟨w52.heap.size,0,none⟩) 1 1)
    refine hK _ _ ((s69.other _).n0.2) ?_
    clear hK K
    try simp only [putq]
    refine Ch.tree_end ?_
    go_wp2_with fail
    have s70 := s69.p2 (.int .i64 13) (.string nm48) (.int .i64 0) (.int .i64 (Ps.A l i)) (.slice (some ⟨w52.heap.size,0,none⟩) 1 1)
    have s71 := s70.built1 (k0 := 24) (nm0 := nm6) (num0 := 0) (a0 := (Ps.A l i)) (sv0 := .slice none 0 0) (ts0 := []) (by simp) (w52.heap.size) (by simp)
    exact bodyPost_ret (res5 Tryz.results63 rfl s71.n2.2) rfl ⟨.ok (HR.out.trans rfl) rfl (s71.treeOf (sv := .slice (some ⟨w52.heap.size,0,none⟩) 1 1) (by simp)) s71.ps (by have := le14.out; have := le56.out; omega),s71.kp⟩
  ·refine Ch.md3 (by rfl) (fun K hK => ?_)
   go_simp
   have s72 := s43.built1 (k0 := 24) (nm0 := nm6) (num0 := 0) (a0 := (Ps.A l i)) (sv0 := .slice none 0 0) (ts0 := []) (by simp) (w37.heap.size) (by simp)
   refine hK _ _ (s72.n0.2) ?_
   clear hK K
   try simp only [putq]
   refine Ch.md1 (by rfl) (fun K hK => ?_)
   go_simp
   refine (pname_any s72.ps).mono ?_
   rintro e w77 ⟨ht78,hk79⟩
   rcases ht78.or with ⟨n,a,hr80,g,rfl,hg⟩ | ⟨nm73,i74,hn75,rfl,hp76⟩
   ·exact ⟨rfl,.bad (step_bad HR hr80) ⟨g,rfl,hg⟩,s72.pan hk79⟩
   clear ht78
   replace HR := step_ok HR hn75
   have le81 := Lib.hid (Ps.name_ok hn75).1
   have s82 := s72.call hk79 hp76
   refine hK _ _ (s82.n0.2) ?_
   clear hK K
   try simp only [putq]
   have cc := s82.n1.2.five
   have cl := s82.n1.2.lt
   have cr := s82.n2.2.five
   have crl := s82.n2.2.lt
   have cm := s82.n0.2.lt
   have cd := s82.d12
   have ce := s82.d01
   have cf := s82.d02
   refine Ch.tk4 (v := ?v83) rfl (by rfl) ?y84 ?_
   case y84 => intro u; go_simp; rfl
   simp only [putq]
   refine Ch.md5 (by rfl) (fun K hK => ?_)
   go_simp
   have s85 := s82.s11 (.string nm73)
   refine hK _ _ (s85.n0.2) ?_
   clear hK K
   try simp only [putq]
   refine Ch.tk6 (v := ?v86) rfl (by rfl) ?y87 ?_
   case y87 => intro u; go_simp; rfl
   simp only [putq]
   refine Ch.md7 (by rfl) (fun K hK => ?_)
   go_simp
   have s88 := s85.s14 (.slice (some ⟨w37.heap.size,0,none⟩) 1 1)
   refine hK _ _ (s88.n0.2) ?_
   clear hK K
   try simp only [putq]
   refine Ch.tree_end ?_
   go_wp2_with fail
   have s89 := s88.p2 (.int .i64 13) (.string nm73) (.int .i64 0) (.int .i64 (Ps.A l i)) (.slice (some ⟨w37.heap.size,0,none⟩) 1 1)
   exact bodyPost_ret (res5 Tryz.results63 rfl s89.n2.2) rfl ⟨.ok (HR.out.trans rfl) rfl (s89.treeOf (sv := .slice (some ⟨w37.heap.size,0,none⟩) 1 1) (by simp)) s89.ps (by have := le14.out; have := le81.out; omega),s89.kp⟩
theorem clo_of {w : World} {p T : Nat} {l : List Sc.Tok} {d : Nat} {K : FuncId} {f : Nat → R Tree} (hin : ∀ w,(callFunc K #[pp p]).run Tryz.prog w = .ok (.enter K #[pp p]) w)
  (hc : ∀ u j,Kp w.heap.size p w u → PS u p T l j d → Calls Tryz.prog K #[pp p] u fun e w' => PT (fun b => u.heap.size ≤ b) p T l j d (f j) e w' ∧ Kp u.heap.size p u w') : Clo w p T l d (.func (.func K) #[pp p] #[]) f :=
 ⟨K,#[pp p],#[],rfl,by simpa using hin,by simpa using hc⟩
theorem enters51 (p : Nat) (w : World) : (callFunc 63 #[pp p]).run Tryz.prog w = .ok (.enter 63 #[pp p]) w := by kernel_rfl
theorem clo_typeName (w : World) (p T : Nat) (l : List Sc.Tok) (d : Nat) : Clo w p T l d (.func (.func 63) #[pp p] #[]) (Ps.typeName l) := clo_of (enters51 p) fun _ _ _ hp => ptypeName_any hp
set_option maxRecDepth 100000
set_option maxHeartbeats 1000000
open Go.RowKit Ps
def CT (K : FuncId) (d : Nat) (f : List Sc.Tok → Nat → R Tree) : Prop := ∀ (w : World) (p T : Nat) (l : List Sc.Tok) (i : Nat),PS w p T l i d → Calls Tryz.prog K #[pp p] w fun e w' =>
 PT (fun b => w.heap.size ≤ b) p T l i d (f l i) e w' ∧ Kp w.heap.size p w w'
theorem op_ne {l : List Sc.Tok} {lev i : Nat} (h : isOp l lev i = true) : (W l i).toList.isEmpty = false := by
 have hne : ∀ ks ∈ levels,∀ s ∈ ks,s ≠ ⟨#[]⟩ := by decide
 unfold isOp at h
 obtain ⟨s,hs,hw⟩ := List.any_eq_true.1 h
 have hm : ∃ ks ∈ levels,s ∈ ks := by
  cases hk : levels[lev]? with
  | none => rw [hk] at hs; cases hs
  | some ks => rw [hk] at hs; exact ⟨ks,List.mem_of_getElem? hk,hs⟩
 obtain ⟨ks,h1,h2⟩ := hm
 have h3 := hne ks h1 s h2
 rw [isW_empty]
 unfold isW at hw ⊢
 rw [decide_eq_true_eq] at hw
 rw [decide_eq_false_iff_not,hw]
 exact h3
theorem pchain_any {X : Nat → Prop} {w : World} {p T : Nat} {l : List Sc.Tok} {i d : Nat} (h : PS w p T l i d) (hX : ∀ b,X b → b < w.heap.size ∧ b ≠ p) (k0 : Nat) (nm0 : ByteArray) (num0 at_ : Nat) (so0 : Option Addr) (sn0 sc0 : Nat) (ts0 : List Tree) (hrow : RowIn w X (.slice so0 sn0 sc0) ts0) (lev : Nat) (hlev : lev < 3) (fv : Value) (f : Nat → R Tree) (hf : Clo w p T l d fv f) : Calls Tryz.prog 162 #[pp p,.int .i64 lev,nodeV k0 nm0 num0 at_ (.slice so0 sn0 sc0),fv] w fun e w' =>
  PT (fun b => w.heap.size ≤ b ∨ X b) p T l i d (Ps.chain l lev f 20 (.node k0 nm0 num0 at_ ts0) i) e w' ∧ Kp w.heap.size p w w' := by
 obtain ⟨r,hr⟩ : ∃ r,r = Ps.chain l lev f 20 (.node k0 nm0 num0 at_ ts0) i := ⟨_,rfl⟩
 rw [← hr]
 have HR := Lib.hid hr
 clear hr
 obtain ⟨K,fs,cap,rfl,hin,hcall⟩ := hf
 have HC := Lib.hid hcall
 clear hcall
 unfold nodeV
 unfold pp
 go_enter Tryz.func162,Tryz.ntmps162
 go_wp2_with fail
 have s1 := (StX.start h hX hrow).allocAt (w.heap.size) 25 #[.int .i64 k0,.string nm0,.int .i64 num0,.int .i64 at_,.slice so0 sn0 sc0] (by simp)
 have s2 := s1.allocAt (w.heap.size + 1) 25 #[.int .i64 0,.string ⟨#[]⟩,.int .i64 0,.int .i64 0,.slice none 0 0] (by simp)
 go_loopg [9] 20 (fun F v wr => ∃ (j k : Nat) (nm : ByteArray) (num : Nat) (so : Option Addr) (sn sc : Nat) (ts : List Tree),F ≤ 20 ∧ v = .int .i64 (20 - F : Nat) ∧ i ≤ j ∧ StX X w wr p T l j d [(w.heap.size + 1,25,#[.int .i64 0,.string ⟨#[]⟩,.int .i64 0,.int .i64 0,.slice none 0 0]),(w.heap.size,25,#[.int .i64 k,.string nm,.int .i64 num,.int .i64 at_,.slice so sn sc])] g0 [(.slice so sn sc,ts)] ∧ Hid (r = Ps.chain l lev f F (.node k nm num at_ ts) j))
 case atStart => exact ⟨i,k0,nm0,num0,so0,sn0,sc0,ts0,by omega,by simp,by omega,s2,HR⟩
 case round =>
  obtain ⟨j,k,nm,num,so,sn,sc,ts,hF,rfl,hij,s4,HR⟩ := hrel
  unfold Ps.chain at HR
  have hO := opK_any s4.ps lev hlev
  go_wp2_with fail
  refine hO.mono ?_
  rintro e w5 ⟨hno,hyes⟩
  cases hop : isOp l lev j with
  | false =>
   obtain ⟨rfl,rfl⟩ := hno hop
   clear hno hyes hO
   replace HR := step_else HR hop
   have c3 := s4.n0.2.k5
   have c5 := s4.n1.2.k5
   have d7 := s4.d01
   go_wp2_with fail
   clear c3 c5 d7
   have s8 := s4.p0 (.int .i64 k) (.string nm) (.int .i64 num) (.int .i64 at_) (.slice so sn sc)
   exact bodyPost_ret (res5 Tryz.results162 rfl s8.n0.2) rfl ⟨.ok (HR.out.trans rfl) rfl (s8.treeX (sv := .slice so sn sc) (by simp)) s8.ps hij,s8.kp⟩
  | true =>
   obtain ⟨rfl,hk5,hp5⟩ := hyes hop
   clear hno hyes hO
   replace HR := step_if HR hop
   have hne := op_ne hop
   have s9 := s4.call hk5 hp5
   cases gk with
   | zero =>
    have h20 : (((20 - 0 : Nat) : Int) == 20) = true := by decide
    go_wp2_with fail
    refine (pfail_any s9.ps 3).mono ?_
    rintro e w10 ⟨⟨g,rfl,hg⟩,hk11⟩
    exact ⟨rfl,.bad (HR.out.trans rfl) ⟨g,rfl,hg⟩,s9.pan hk11⟩
   | succ F =>
    have h20 : (((20 - (F + 1) : Nat) : Int) == 20) = false := beq_eq_false_iff_ne.2 (by omega)
    replace HR : Hid (r = (f (j + 1)).bind fun b i1 => Ps.chain l lev f F (.node 36 (W l j) 0 at_ [.node k nm num at_ ts,b]) i1) := HR
    have c12 := s9.n1.2.k5
    go_wp2_with fail
    clear c12
    have hC := s9.n1.2
    refine Ch.wp_region_run (fun u => Blk u (w.heap.size) 25 #[.int .i64 k,.string nm,.int .i64 num,.int .i64 at_,.slice so sn sc]) [2,3] [0,1,2,3,4] [5,6,7,8] [8] (by kernel_rfl) (by kernel_rfl) (fun _ _ d _ _ h => by cases d <;> exact h) (hC) ?_
    clear hC
    have s14 := s9.drew
    refine Ch.take0 (v := ?v15) rfl (by rfl) ?y16 ?_
    case y16 => intro u; go_simp; rfl
    simp only [putq]
    refine Ch.take1 (v := ?v17) rfl (by rfl) ?y18 ?_
    case y18 => intro u; go_simp; rfl
    simp only [putq]
    refine Ch.load2 (v := ?v19) rfl (by rfl) ?y20 ?_
    case y20 => intro u hC; have c5 := Blk.five hC; go_simp; rfl
    simp only [putq]
    refine Ch.load3 (v := ?v21) rfl (by rfl) ?y22 ?_
    case y22 => intro u hC; have c5 := Blk.five hC; go_simp; rfl
    simp only [putq]
    refine Ch.take4 (v := ?v23) rfl (by rfl) ?y24 ?_
    case y24 => intro u; go_simp; rfl
    simp only [putq]
    refine Ch.mid5 (by rfl) (fun K hK => ?_)
    go_simp
    refine (HC.out _ _ s14.kp s14.ps).mono ?_
    rintro e w37 ⟨ht38,hk39⟩
    rcases ht38.or with ⟨n,a,hr40,g,rfl,hg⟩ | ⟨k25,nm26,num27,a28,ts29,so30,sc31,i32,hn33,rfl,hrow34,hp35,le36⟩
    ·exact ⟨rfl,.bad (step_bad HR hr40) ⟨g,rfl,hg⟩,s14.pan hk39⟩
    clear ht38
    replace HR := step_ok HR hn33
    have le36 := Lib.hid le36
    have s41 := s14.callKeep hk39 hp35 hrow34
    unfold nodeV
    refine hK _ _ (s41.n1.2) ?_
    clear hK K
    try simp only [putq]
    refine Ch.mid6 (by rfl) (fun K hK => ?_)
    go_simp
    refine hK _ _ ((s41.other _).n1.2) ?_
    clear hK K
    try simp only [putq]
    refine Ch.mid7 (by rfl) (fun K hK => ?_)
    go_simp
    refine hK _ _ ((s41.other _).n1.2) ?_
    clear hK K
    try simp only [putq]
    have cc := s41.n1.2.five
    have cl := s41.n1.2.lt
    refine Ch.post8 rfl (by rfl) (fun K hK => ?_)
    go_simp
    refine hK _ _ ?_
    clear hK K
    try simp only [putq]
    refine Ch.run_end ?_
    have s42 := s41.p1 (.int .i64 36) (.string (W l j)) (.int .i64 (0 : Nat)) (.int .i64 at_) (.slice (some ⟨w37.heap.size,0,none⟩) 2 2)
    have s43 := s42.built2 (k0 := k) (nm0 := nm) (num0 := num) (a0 := at_) (sv0 := .slice so sn sc) (ts0 := ts) (k1 := k25) (nm1 := nm26) (num1 := num27) (a1 := a28) (sv1 := .slice so30 ts29.length sc31) (ts1 := ts29) (by simp) (by simp) (w37.heap.size) (by simp)
    clear cc cl
    go_wp2_with fail
    go_roundg F
    case measure => omega
    case rel => have a0 := le36.out; exact ⟨i32,36,W l j,0,_,_,_,_,by omega,by go_num,by omega,s43.rowsOf (fun _ h => by simp at h; simp [h]),HR⟩
end Go.Proofs.YtneohanphabneaaGreatDoor
