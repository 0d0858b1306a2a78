/-
  Walks of print's texts: record types. Printed by tools/gen_s.py.
-/
import Derived.Test.YtneohanphabneaaGreatDoorWr6
import Derived.Test.YtneohanphabneaaGreatDoorMWr5
namespace Go.Proofs.YtneohanphabneaaGreatDoor
set_option maxRecDepth 100000
set_option maxHeartbeats 4000000
open Go.RowKit Ps
theorem fm_take {α : Type} (g : α → List Pr.Pc) (fs : List α) (j : Nat) : (Pr.txt ((fs.take j).flatMap g)).length ≤ (Pr.txt (fs.flatMap g)).length := by
 conv => rhs; rw [← List.take_append_drop j fs]
 rw [List.flatMap_append,Pr.txt_app,List.length_append]
 omega
theorem fm_mem {α : Type} (g : α → List Pr.Pc) : ∀ (fs : List α) (f : α),f ∈ fs → (Pr.txt (g f)).length ≤ (Pr.txt (fs.flatMap g)).length
 | x :: fs,f,h => by
  rw [List.flatMap_cons,Pr.txt_app,List.length_append]
  rcases List.mem_cons.1 h with rfl | h
  ·omega
  ·have := fm_mem g fs f h
   omega
theorem fm_succ {α : Type} (g : α → List Pr.Pc) (fs : List α) (j : Nat) (h : j < fs.length) : (fs.take (j + 1)).flatMap g = (fs.take j).flatMap g ++ g fs[j] := by
 rw [List.take_add_one,List.getElem?_eq_getElem h,List.flatMap_append]
 simp
def recF (f : Tree) : List Pr.Pc := [.sp] ++ Pr.variable_ f ++ [Pr.s_semi]
theorem field_says {f : Tree} (hf : Pr.Pdec 11 Pr.PT f) (hsz : (Pr.tx (Pr.variable_ f)).size ≤ 100000000) (w : World) (v : Value) (hW : Tab10 w) (h : TI w v f) : Calls Tryz.prog 92 #[v] w (Say (Pr.variable_ f) w) := by
 obtain ⟨n,num,a,x,rfl,hn,hnum,hx⟩ := hf
 exact var11_says hnum hx hsz w v hW h
theorem rec00_says {a : Nat} {a2 : Nat} {fs : List Tree} (hfs : ∀ f ∈ fs,Pr.Pdec 11 Pr.PT f) (hsz : (Pr.tx (Pr.typ (.node 10 ⟨#[]⟩ 0 a ((Tree.node 0 ⟨#[]⟩ 0 a2 []) :: fs)))).size ≤ 100000000) (w : World) (so : Option Addr) (sc : Nat) (hsc : fs.length + 1 ≤ sc) (hbb : 1 < sc) (hW : Tab10 w) (hr : RowAt w so ((Tree.node 0 ⟨#[]⟩ 0 a2 []) :: fs)) : Calls Tryz.prog 91 #[NodeC ⟨#[]⟩ 10 0 a so (fs.length + 1) sc] w (Say (Pr.typ (.node 10 ⟨#[]⟩ 0 a ((Tree.node 0 ⟨#[]⟩ 0 a2 []) :: fs))) w) := by
 have eT : Pr.typ (.node 10 ⟨#[]⟩ 0 a ((Tree.node 0 ⟨#[]⟩ 0 a2 []) :: fs)) = ([Pr.kRECORD] ++ []) ++ fs.flatMap recF ++ [.sp,Pr.kEND] := rfl
 obtain ⟨pre,hpre⟩ : ∃ p,p = ([Pr.kRECORD] ++ []) := ⟨_,rfl⟩
 rw [eT,← hpre] at hsz
 unfold Say
 rw [eT,← hpre]
 clear eT
 have hE : (Pr.txt [.sp,Pr.kEND]).length = 4 := rfl
 rw [Pr.tx_size,Pr.txt_app,Pr.txt_app,List.length_append,List.length_append,hE] at hsz
 have hV : ∀ f ∈ fs,(Pr.tx (Pr.variable_ f)).size + 2 ≤ 100000000 ∧ (∀ (w : World) (v : Value),Tab10 w → TI w v f → Calls Tryz.prog 92 #[v] w (Say (Pr.variable_ f) w)) := fun f hf => by
  have h1 := fm_mem recF fs f hf
  have h2 : (Pr.txt (recF f)).length = (Pr.tx (Pr.variable_ f)).size + 2 := by
   unfold recF
   rw [Pr.txt_app,Pr.txt_app,List.length_append,List.length_append,Pr.tx_size,show (Pr.txt [Pr.Pc.sp]).length = 1 from rfl,show (Pr.txt [Pr.s_semi]).length = 1 from rfl]
   omega
  exact ⟨by omega,fun w v hw ht => field_says (hfs f hf) (by omega) w v hw ht⟩
 have hP : ∀ j,(Pr.tx (pre ++ (fs.take j).flatMap recF)).size ≤ 100000000 := fun j => by
  have := fm_take recF fs j
  rw [Pr.tx_size,Pr.txt_app,List.length_append]
  omega
 have hpx : Pr.tx pre = ⟨#[82,69,67,79,82,68]⟩ := by
  rw [hpre]
  rfl
 clear hpre hsz hE hfs
 have hA := Blk.new w 25 #[.int .i64 10,.string ⟨#[]⟩,.int .i64 0,.int .i64 a,.slice so (fs.length + 1) sc]
 have hB : Below w.heap.size w (w.alloc (.cells #[.int .i64 10,.string ⟨#[]⟩,.int .i64 0,.int .i64 a,.slice so (fs.length + 1) sc] 25)) := (Below.refl _ _).alloc (Nat.le_refl _) _
 have hR := hr.below hB
 obtain ⟨g,o,k,nm,num,a1,su,us,sc1,hso,hg,e1,f1,t1⟩ := hR.nth 0 (by simp)
 subst hso
 have f1 : F5 _ g (o + 0) k nm num a1 (.slice su us.length sc1) := f1
 have t1 : TI _ (.agg #[.int .i64 k,.string nm,.int .i64 num,.int .i64 a1,.slice su us.length sc1]) (Tree.node 0 ⟨#[]⟩ 0 a2 []) := t1
 have he : (Tree.node 0 ⟨#[]⟩ 0 a2 []) = .node k nm num a1 us := e1
 injection he with h1 h2 h3 h4 h5
 subst h1 h2 h3 h4 h5
 clear e1
 have hT := hR.tail
 clear hR hr
 have hmx := hT.max
 have hl0 : (0 : Int) < ((fs.length + 1 : Nat) : Int) := by omega
 have h2 : (1 : Int) < (sc : Int) := by omega
 have h3 : (1 : Int) ≤ (fs.length : Int) + 1 := by omega
 have h4 : ¬ sc = 1 := by omega
 have hp1 : Pr.tx (pre ++ fs.flatMap recF ++ [.sp,Pr.kEND]) = Pr.tx (pre ++ fs.flatMap recF) ++ ⟨#[32,69,78,68]⟩ := by
  rw [Pr.tx_app]
  rfl
 have hPs := hP fs.length
 rw [List.take_of_length_le (Nat.le_refl _)] at hPs
 rw [hp1]
 obtain ⟨PF,hPF⟩ : ∃ P,P = Pr.tx (pre ++ fs.flatMap recF) := ⟨_,rfl⟩
 rw [← hPF] at hPs ⊢
 have HPF := Lib.hid hPF
 clear hp1 hPF
 have HP := Lib.hid hP
 have HV := Lib.hid hV
 have HT := Lib.hid hT
 have HW := Lib.hid (hW.below hB)
 clear hP hV hT hW
 obtain ⟨⟨q1,q2,q3,q4,q5⟩,_⟩ := hA.five
 obtain ⟨p1,p2,p3,p4,p5⟩ := f1
 replace p1 : World.cell? _ ⟨g,o,none⟩ = some (.int .i64 0) := p1
 replace p2 : World.cell? _ ⟨g,o + 1,none⟩ = some (.string ⟨#[]⟩) := p2
 replace p3 : World.cell? _ ⟨g,o + 2,none⟩ = some (.int .i64 0) := p3
 replace p4 : World.cell? _ ⟨g,o + 3,none⟩ = some (.int .i64 a2) := p4
 replace p5 : World.cell? _ ⟨g,o + 4,none⟩ = some (.slice su [].length sc1) := p5
 go_enter Tryz.func91,Tryz.ntmps91
 go_wp2_with fail
 go_loopw [3,47] (fun v i wr => ∃ (j : Nat) (vv : Value),vv = v ∧ j ≤ fs.length ∧ i = .int .i64 j ∧ vv = .string (Pr.tx (pre ++ (fs.take j).flatMap recF)) ∧ Hid (Below w.heap.size w wr) ∧ Hid (Below (w.alloc (.cells #[.int .i64 10,.string ⟨#[]⟩,.int .i64 0,.int .i64 a,.slice (some ⟨g,o,none⟩) (fs.length + 1) sc] 25)).heap.size (w.alloc (.cells #[.int .i64 10,.string ⟨#[]⟩,.int .i64 0,.int .i64 a,.slice (some ⟨g,o,none⟩) (fs.length + 1) sc] 25)) wr)) (fun _ i _ => fs.length - (intOf i).toNat)
 case atStart =>
  refine ⟨0,_,rfl,Nat.zero_le _,rfl,?_,Lib.hid (hB.alloc hB.size _),Lib.hid ((Below.refl _ _).alloc (Nat.le_refl _) _)⟩
  rw [List.take_zero,List.flatMap_nil,List.append_nil,hpx]
  try rfl
 case round =>
  obtain ⟨j,vv,hvv,hj,rfl,hv2,HB,HB1⟩ := hrel
  subst hvv
  subst hv2
  by_cases hlt : j < fs.length
  ·obtain ⟨g0,o0,k0,nm0,num0,at0,su0,us0,sc0,hso0,hg0,et,f5,t2⟩ := (HT.out.below HB1.out).nth j hlt
   injection hso0 with hso0
   injection hso0 with hs1 hs2
   subst hs1 hs2
   clear et
   obtain ⟨u0,u1,u2,u3,u4⟩ := f5
   have i0 : (0 : Int) ≤ (j : Int) := by omega
   have i1 : (j : Int) < (fs.length : Int) := by omega
   have i2 : j < sc - 1 := by omega
   go_wp2_with fail
   have hal : Below wr.heap.size wr (wr.alloc (.cells #[.int .i64 k0,.string nm0,.int .i64 num0,.int .i64 at0,.slice su0 us0.length sc0] 25)) := (Below.refl _ _).alloc (Nat.le_refl _) _
   have hal1 := HB1.out.trans (hal.mono HB1.out.size)
   have hal2 := HB.out.trans (hal.mono HB.out.size)
   obtain ⟨hs1,hvc⟩ := HV.out fs[j] (List.getElem_mem hlt)
   have hvc := hvc _ _ (HW.out.below hal1) (t2.below hal)
   unfold Say at hvc
   have hp := HP.out j
   have hp1 : Pr.tx (pre ++ (fs.take (j + 1)).flatMap recF) = Pr.tx (pre ++ (fs.take j).flatMap recF) ++ (⟨#[32]⟩ ++ Pr.tx (Pr.variable_ fs[j]) ++ ⟨#[59]⟩) := by
    rw [fm_succ recF fs j hlt,← List.append_assoc,Pr.tx_app]
    congr 1
    unfold recF
    rw [Pr.tx_app,Pr.tx_app]
    rfl
   obtain ⟨P,hPe⟩ : ∃ P,P = Pr.tx (pre ++ (fs.take j).flatMap recF) := ⟨_,rfl⟩
   obtain ⟨V,hVe⟩ : ∃ V,V = Pr.tx (Pr.variable_ fs[j]) := ⟨_,rfl⟩
   rw [← hPe] at hp hp1 ⊢
   rw [← hVe] at hvc hs1 hp1
   refine hvc.mono ?_
   rintro e w2 ⟨rfl,hb2⟩
   clear u0 u1 u2 u3 u4 t2 hvc hPe hVe
   have y1 : ¬ 9223372036854775807 < 1 + V.size := by omega
   have y2 : ¬ 9223372036854775807 < 1 + V.size + 1 := by omega
   have y3 : ¬ 9223372036854775807 < P.size + (1 + V.size + 1) := by omega
   go_wp2_with fail
   go_roundw
   case rel =>
    refine ⟨j + 1,_,rfl,by omega,by go_num,?_,Lib.hid (hal2.trans (hb2.mono hal2.size)),Lib.hid (hal1.trans (hb2.mono hal1.size))⟩
    rw [hp1]
   case measure => simp [intOf]; omega
  ·have i1 : ¬ (j : Int) < (fs.length : Int) := by omega
   have htk : fs.take j = fs := List.take_of_length_le (by omega)
   rw [htk,← HPF.out]
   have y1 : ¬ 9223372036854775807 < PF.size + 4 := by omega
   go_wp2_with fail
   go_ret
   exact ⟨rfl,HB.out⟩
theorem rec01_says {a : Nat} {a2 : Nat} {fs : List Tree} (hfs : ∀ f ∈ fs,Pr.Pdec 11 Pr.PT f) (hsz : (Pr.tx (Pr.typ (.node 10 ⟨#[]⟩ 0 a ((Tree.node 0 ⟨#[]⟩ 0 a2 []) :: fs)))).size ≤ 100000000) (w : World) (so : Option Addr) (sc : Nat) (hsc : fs.length + 1 ≤ sc) (hbb : sc = 1) (hW : Tab10 w) (hr : RowAt w so ((Tree.node 0 ⟨#[]⟩ 0 a2 []) :: fs)) : Calls Tryz.prog 91 #[NodeC ⟨#[]⟩ 10 0 a so (fs.length + 1) sc] w (Say (Pr.typ (.node 10 ⟨#[]⟩ 0 a ((Tree.node 0 ⟨#[]⟩ 0 a2 []) :: fs))) w) := by
 have eT : Pr.typ (.node 10 ⟨#[]⟩ 0 a ((Tree.node 0 ⟨#[]⟩ 0 a2 []) :: fs)) = ([Pr.kRECORD] ++ []) ++ fs.flatMap recF ++ [.sp,Pr.kEND] := rfl
 obtain ⟨pre,hpre⟩ : ∃ p,p = ([Pr.kRECORD] ++ []) := ⟨_,rfl⟩
 rw [eT,← hpre] at hsz
 unfold Say
 rw [eT,← hpre]
 clear eT
 have hE : (Pr.txt [.sp,Pr.kEND]).length = 4 := rfl
 rw [Pr.tx_size,Pr.txt_app,Pr.txt_app,List.length_append,List.length_append,hE] at hsz
 have hV : ∀ f ∈ fs,(Pr.tx (Pr.variable_ f)).size + 2 ≤ 100000000 ∧ (∀ (w : World) (v : Value),Tab10 w → TI w v f → Calls Tryz.prog 92 #[v] w (Say (Pr.variable_ f) w)) := fun f hf => by
  have h1 := fm_mem recF fs f hf
  have h2 : (Pr.txt (recF f)).length = (Pr.tx (Pr.variable_ f)).size + 2 := by
   unfold recF
   rw [Pr.txt_app,Pr.txt_app,List.length_append,List.length_append,Pr.tx_size,show (Pr.txt [Pr.Pc.sp]).length = 1 from rfl,show (Pr.txt [Pr.s_semi]).length = 1 from rfl]
   omega
  exact ⟨by omega,fun w v hw ht => field_says (hfs f hf) (by omega) w v hw ht⟩
 have hP : ∀ j,(Pr.tx (pre ++ (fs.take j).flatMap recF)).size ≤ 100000000 := fun j => by
  have := fm_take recF fs j
  rw [Pr.tx_size,Pr.txt_app,List.length_append]
  omega
 have hpx : Pr.tx pre = ⟨#[82,69,67,79,82,68]⟩ := by
  rw [hpre]
  rfl
 clear hpre hsz hE hfs
 have hA := Blk.new w 25 #[.int .i64 10,.string ⟨#[]⟩,.int .i64 0,.int .i64 a,.slice so (fs.length + 1) sc]
 have hB : Below w.heap.size w (w.alloc (.cells #[.int .i64 10,.string ⟨#[]⟩,.int .i64 0,.int .i64 a,.slice so (fs.length + 1) sc] 25)) := (Below.refl _ _).alloc (Nat.le_refl _) _
 have hR := hr.below hB
 obtain ⟨g,o,k,nm,num,a1,su,us,sc1,hso,hg,e1,f1,t1⟩ := hR.nth 0 (by simp)
 subst hso
 have f1 : F5 _ g (o + 0) k nm num a1 (.slice su us.length sc1) := f1
 have t1 : TI _ (.agg #[.int .i64 k,.string nm,.int .i64 num,.int .i64 a1,.slice su us.length sc1]) (Tree.node 0 ⟨#[]⟩ 0 a2 []) := t1
 have he : (Tree.node 0 ⟨#[]⟩ 0 a2 []) = .node k nm num a1 us := e1
 injection he with h1 h2 h3 h4 h5
 subst h1 h2 h3 h4 h5
 clear e1
 have hT := hR.tail
 clear hR hr
 have hmx := hT.max
 have hl0 : (0 : Int) < ((fs.length + 1 : Nat) : Int) := by omega
 subst hbb
 have h3 : (1 : Int) ≤ (fs.length : Int) + 1 := by omega
 have hf0 : Hid (fs.length = 0) := Lib.hid (by omega)
 have hp1 : Pr.tx (pre ++ fs.flatMap recF ++ [.sp,Pr.kEND]) = Pr.tx (pre ++ fs.flatMap recF) ++ ⟨#[32,69,78,68]⟩ := by
  rw [Pr.tx_app]
  rfl
 have hPs := hP fs.length
 rw [List.take_of_length_le (Nat.le_refl _)] at hPs
 rw [hp1]
 obtain ⟨PF,hPF⟩ : ∃ P,P = Pr.tx (pre ++ fs.flatMap recF) := ⟨_,rfl⟩
 rw [← hPF] at hPs ⊢
 have HPF := Lib.hid hPF
 clear hp1 hPF
 have HP := Lib.hid hP
 have HV := Lib.hid hV
 have HT := Lib.hid hT
 have HW := Lib.hid (hW.below hB)
 clear hP hV hT hW
 obtain ⟨⟨q1,q2,q3,q4,q5⟩,_⟩ := hA.five
 obtain ⟨p1,p2,p3,p4,p5⟩ := f1
 replace p1 : World.cell? _ ⟨g,o,none⟩ = some (.int .i64 0) := p1
 replace p2 : World.cell? _ ⟨g,o + 1,none⟩ = some (.string ⟨#[]⟩) := p2
 replace p3 : World.cell? _ ⟨g,o + 2,none⟩ = some (.int .i64 0) := p3
 replace p4 : World.cell? _ ⟨g,o + 3,none⟩ = some (.int .i64 a2) := p4
 replace p5 : World.cell? _ ⟨g,o + 4,none⟩ = some (.slice su [].length sc1) := p5
 go_enter Tryz.func91,Tryz.ntmps91
 go_wp2_with fail
 go_loopw [3,47] (fun v i wr => ∃ (j : Nat) (vv : Value),vv = v ∧ j ≤ fs.length ∧ i = .int .i64 j ∧ vv = .string (Pr.tx (pre ++ (fs.take j).flatMap recF)) ∧ Hid (Below w.heap.size w wr) ∧ Hid (Below (w.alloc (.cells #[.int .i64 10,.string ⟨#[]⟩,.int .i64 0,.int .i64 a,.slice (some ⟨g,o,none⟩) (fs.length + 1) 1] 25)).heap.size (w.alloc (.cells #[.int .i64 10,.string ⟨#[]⟩,.int .i64 0,.int .i64 a,.slice (some ⟨g,o,none⟩) (fs.length + 1) 1] 25)) wr)) (fun _ i _ => fs.length - (intOf i).toNat)
 case atStart =>
  refine ⟨0,_,rfl,Nat.zero_le _,rfl,?_,Lib.hid (hB.alloc hB.size _),Lib.hid ((Below.refl _ _).alloc (Nat.le_refl _) _)⟩
  rw [List.take_zero,List.flatMap_nil,List.append_nil,hpx]
  try rfl
 case round =>
  obtain ⟨j,vv,hvv,hj,rfl,hv2,HB,HB1⟩ := hrel
  subst hvv
  subst hv2
  by_cases hlt : j < fs.length
  ·exact absurd hlt (by have := hf0.out; omega)
  ·have i1 : ¬ (j : Int) < (fs.length : Int) := by omega
   have htk : fs.take j = fs := List.take_of_length_le (by omega)
   rw [htk,← HPF.out]
   have y1 : ¬ 9223372036854775807 < PF.size + 4 := by omega
   go_wp2_with fail
   go_ret
   exact ⟨rfl,HB.out⟩
theorem rec10_says {a : Nat} {bn : ByteArray} {bm b2 : Nat} {bs : List Tree} {fs : List Tree} (hb : Pr.PT (Tree.node 13 bn bm b2 bs)) (hfs : ∀ f ∈ fs,Pr.Pdec 11 Pr.PT f) (hsz : (Pr.tx (Pr.typ (.node 10 ⟨#[]⟩ 0 a ((Tree.node 13 bn bm b2 bs) :: fs)))).size ≤ 100000000) (w : World) (so : Option Addr) (sc : Nat) (hsc : fs.length + 1 ≤ sc) (hbb : 1 < sc) (hW : Tab10 w) (hr : RowAt w so ((Tree.node 13 bn bm b2 bs) :: fs)) : Calls Tryz.prog 91 #[NodeC ⟨#[]⟩ 10 0 a so (fs.length + 1) sc] w (Say (Pr.typ (.node 10 ⟨#[]⟩ 0 a ((Tree.node 13 bn bm b2 bs) :: fs))) w) := by
 have eT : Pr.typ (.node 10 ⟨#[]⟩ 0 a ((Tree.node 13 bn bm b2 bs) :: fs)) = ([Pr.kRECORD] ++ ([.sp,Pr.s_lp] ++ Pr.typeName (Tree.node 13 bn bm b2 bs) ++ [Pr.s_rp])) ++ fs.flatMap recF ++ [.sp,Pr.kEND] := rfl
 obtain ⟨pre,hpre⟩ : ∃ p,p = ([Pr.kRECORD] ++ ([.sp,Pr.s_lp] ++ Pr.typeName (Tree.node 13 bn bm b2 bs) ++ [Pr.s_rp])) := ⟨_,rfl⟩
 rw [eT,← hpre] at hsz
 unfold Say
 rw [eT,← hpre]
 clear eT
 have hE : (Pr.txt [.sp,Pr.kEND]).length = 4 := rfl
 rw [Pr.tx_size,Pr.txt_app,Pr.txt_app,List.length_append,List.length_append,hE] at hsz
 have hV : ∀ f ∈ fs,(Pr.tx (Pr.variable_ f)).size + 2 ≤ 100000000 ∧ (∀ (w : World) (v : Value),Tab10 w → TI w v f → Calls Tryz.prog 92 #[v] w (Say (Pr.variable_ f) w)) := fun f hf => by
  have h1 := fm_mem recF fs f hf
  have h2 : (Pr.txt (recF f)).length = (Pr.tx (Pr.variable_ f)).size + 2 := by
   unfold recF
   rw [Pr.txt_app,Pr.txt_app,List.length_append,List.length_append,Pr.tx_size,show (Pr.txt [Pr.Pc.sp]).length = 1 from rfl,show (Pr.txt [Pr.s_semi]).length = 1 from rfl]
   omega
  exact ⟨by omega,fun w v hw ht => field_says (hfs f hf) (by omega) w v hw ht⟩
 have hP : ∀ j,(Pr.tx (pre ++ (fs.take j).flatMap recF)).size ≤ 100000000 := fun j => by
  have := fm_take recF fs j
  rw [Pr.tx_size,Pr.txt_app,List.length_append]
  omega
 have hC := fun w v ht => typeName_says hb w v ht
 unfold Say at hC
 obtain ⟨X0,hX0⟩ : ∃ X,X = Pr.tx (Pr.typeName (Tree.node 13 bn bm b2 bs)) := ⟨_,rfl⟩
 have s1 : X0.size ≤ 100000000 := by
  rw [hpre,Pr.txt_app,Pr.txt_app,Pr.txt_app,List.length_append,List.length_append,List.length_append] at hsz
  rw [hX0,Pr.tx_size]
  omega
 rw [← hX0] at hC
 have hpx : Pr.tx pre = ⟨#[82,69,67,79,82,68]⟩ ++ (⟨#[32,40]⟩ ++ X0 ++ ⟨#[41]⟩) := by
  rw [hpre,Pr.tx_app,Pr.tx_app,Pr.tx_app,← hX0]
  rfl
 have z1 : ¬ 9223372036854775807 < 2 + X0.size := by omega
 have z2 : ¬ 9223372036854775807 < 2 + X0.size + 1 := by omega
 have z3 : ¬ 9223372036854775807 < 6 + (2 + X0.size + 1) := by omega
 clear hX0 s1 hb
 clear hpre hsz hE hfs
 have hA := Blk.new w 25 #[.int .i64 10,.string ⟨#[]⟩,.int .i64 0,.int .i64 a,.slice so (fs.length + 1) sc]
 have hB : Below w.heap.size w (w.alloc (.cells #[.int .i64 10,.string ⟨#[]⟩,.int .i64 0,.int .i64 a,.slice so (fs.length + 1) sc] 25)) := (Below.refl _ _).alloc (Nat.le_refl _) _
 have hR := hr.below hB
 obtain ⟨g,o,k,nm,num,a1,su,us,sc1,hso,hg,e1,f1,t1⟩ := hR.nth 0 (by simp)
 subst hso
 have f1 : F5 _ g (o + 0) k nm num a1 (.slice su us.length sc1) := f1
 have t1 : TI _ (.agg #[.int .i64 k,.string nm,.int .i64 num,.int .i64 a1,.slice su us.length sc1]) (Tree.node 13 bn bm b2 bs) := t1
 have he : (Tree.node 13 bn bm b2 bs) = .node k nm num a1 us := e1
 injection he with h1 h2 h3 h4 h5
 subst h1 h2 h3 h4 h5
 clear e1
 have hT := hR.tail
 clear hR hr
 have hmx := hT.max
 have hl0 : (0 : Int) < ((fs.length + 1 : Nat) : Int) := by omega
 have h2 : (1 : Int) < (sc : Int) := by omega
 have h3 : (1 : Int) ≤ (fs.length : Int) + 1 := by omega
 have h4 : ¬ sc = 1 := by omega
 have hp1 : Pr.tx (pre ++ fs.flatMap recF ++ [.sp,Pr.kEND]) = Pr.tx (pre ++ fs.flatMap recF) ++ ⟨#[32,69,78,68]⟩ := by
  rw [Pr.tx_app]
  rfl
 have hPs := hP fs.length
 rw [List.take_of_length_le (Nat.le_refl _)] at hPs
 rw [hp1]
 obtain ⟨PF,hPF⟩ : ∃ P,P = Pr.tx (pre ++ fs.flatMap recF) := ⟨_,rfl⟩
 rw [← hPF] at hPs ⊢
 have HPF := Lib.hid hPF
 clear hp1 hPF
 have HP := Lib.hid hP
 have HV := Lib.hid hV
 have HT := Lib.hid hT
 have HW := Lib.hid (hW.below hB)
 clear hP hV hT hW
 obtain ⟨⟨q1,q2,q3,q4,q5⟩,_⟩ := hA.five
 obtain ⟨p1,p2,p3,p4,p5⟩ := f1
 replace p1 : World.cell? _ ⟨g,o,none⟩ = some (.int .i64 13) := p1
 replace p2 : World.cell? _ ⟨g,o + 1,none⟩ = some (.string bn) := p2
 replace p3 : World.cell? _ ⟨g,o + 2,none⟩ = some (.int .i64 bm) := p3
 replace p4 : World.cell? _ ⟨g,o + 3,none⟩ = some (.int .i64 b2) := p4
 replace p5 : World.cell? _ ⟨g,o + 4,none⟩ = some (.slice su bs.length sc1) := p5
 go_enter Tryz.func91,Tryz.ntmps91
 go_wp2_with fail
 have hal0 : Below (w.alloc (.cells #[.int .i64 10,.string ⟨#[]⟩,.int .i64 0,.int .i64 a,.slice (some ⟨g,o,none⟩) (fs.length + 1) sc] 25)).heap.size (w.alloc (.cells #[.int .i64 10,.string ⟨#[]⟩,.int .i64 0,.int .i64 a,.slice (some ⟨g,o,none⟩) (fs.length + 1) sc] 25)) ((w.alloc (.cells #[.int .i64 10,.string ⟨#[]⟩,.int .i64 0,.int .i64 a,.slice (some ⟨g,o,none⟩) (fs.length + 1) sc] 25)).alloc (.cells #[.int .i64 13,.string bn,.int .i64 bm,.int .i64 b2,.slice su bs.length sc1] 25)) := (Below.refl _ _).alloc (Nat.le_refl _) _
 refine (hC _ _ (t1.below hal0)).mono ?_
 rintro e wz ⟨rfl,hbz⟩
 have hz0 := hal0.trans (hbz.mono hal0.size)
 have hz1 := hB.trans (hz0.mono hB.size)
 replace hA := hA.below hz0 hA.lt
 clear q1 q2 q3 q4 q5 p1 p2 p3 p4 p5
 obtain ⟨⟨q1,q2,q3,q4,q5⟩,_⟩ := hA.five
 go_wp2_with fail
 go_loopw [3,47] (fun v i wr => ∃ (j : Nat) (vv : Value),vv = v ∧ j ≤ fs.length ∧ i = .int .i64 j ∧ vv = .string (Pr.tx (pre ++ (fs.take j).flatMap recF)) ∧ Hid (Below w.heap.size w wr) ∧ Hid (Below (w.alloc (.cells #[.int .i64 10,.string ⟨#[]⟩,.int .i64 0,.int .i64 a,.slice (some ⟨g,o,none⟩) (fs.length + 1) sc] 25)).heap.size (w.alloc (.cells #[.int .i64 10,.string ⟨#[]⟩,.int .i64 0,.int .i64 a,.slice (some ⟨g,o,none⟩) (fs.length + 1) sc] 25)) wr)) (fun _ i _ => fs.length - (intOf i).toNat)
 case atStart =>
  refine ⟨0,_,rfl,Nat.zero_le _,rfl,?_,Lib.hid hz1,Lib.hid hz0⟩
  rw [List.take_zero,List.flatMap_nil,List.append_nil,hpx]
  try rfl
 case round =>
  obtain ⟨j,vv,hvv,hj,rfl,hv2,HB,HB1⟩ := hrel
  subst hvv
  subst hv2
  by_cases hlt : j < fs.length
  ·obtain ⟨g0,o0,k0,nm0,num0,at0,su0,us0,sc0,hso0,hg0,et,f5,t2⟩ := (HT.out.below HB1.out).nth j hlt
   injection hso0 with hso0
   injection hso0 with hs1 hs2
   subst hs1 hs2
   clear et
   obtain ⟨u0,u1,u2,u3,u4⟩ := f5
   have i0 : (0 : Int) ≤ (j : Int) := by omega
   have i1 : (j : Int) < (fs.length : Int) := by omega
   have i2 : j < sc - 1 := by omega
   go_wp2_with fail
   have hal : Below wr.heap.size wr (wr.alloc (.cells #[.int .i64 k0,.string nm0,.int .i64 num0,.int .i64 at0,.slice su0 us0.length sc0] 25)) := (Below.refl _ _).alloc (Nat.le_refl _) _
   have hal1 := HB1.out.trans (hal.mono HB1.out.size)
   have hal2 := HB.out.trans (hal.mono HB.out.size)
   obtain ⟨hs1,hvc⟩ := HV.out fs[j] (List.getElem_mem hlt)
   have hvc := hvc _ _ (HW.out.below hal1) (t2.below hal)
   unfold Say at hvc
   have hp := HP.out j
   have hp1 : Pr.tx (pre ++ (fs.take (j + 1)).flatMap recF) = Pr.tx (pre ++ (fs.take j).flatMap recF) ++ (⟨#[32]⟩ ++ Pr.tx (Pr.variable_ fs[j]) ++ ⟨#[59]⟩) := by
    rw [fm_succ recF fs j hlt,← List.append_assoc,Pr.tx_app]
    congr 1
    unfold recF
    rw [Pr.tx_app,Pr.tx_app]
    rfl
   obtain ⟨P,hPe⟩ : ∃ P,P = Pr.tx (pre ++ (fs.take j).flatMap recF) := ⟨_,rfl⟩
   obtain ⟨V,hVe⟩ : ∃ V,V = Pr.tx (Pr.variable_ fs[j]) := ⟨_,rfl⟩
   rw [← hPe] at hp hp1 ⊢
   rw [← hVe] at hvc hs1 hp1
   refine hvc.mono ?_
   rintro e w2 ⟨rfl,hb2⟩
   clear u0 u1 u2 u3 u4 t2 hvc hPe hVe
   have y1 : ¬ 9223372036854775807 < 1 + V.size := by omega
   have y2 : ¬ 9223372036854775807 < 1 + V.size + 1 := by omega
   have y3 : ¬ 9223372036854775807 < P.size + (1 + V.size + 1) := by omega
   go_wp2_with fail
   go_roundw
   case rel =>
    refine ⟨j + 1,_,rfl,by omega,by go_num,?_,Lib.hid (hal2.trans (hb2.mono hal2.size)),Lib.hid (hal1.trans (hb2.mono hal1.size))⟩
    rw [hp1]
   case measure => simp [intOf]; omega
  ·have i1 : ¬ (j : Int) < (fs.length : Int) := by omega
   have htk : fs.take j = fs := List.take_of_length_le (by omega)
   rw [htk,← HPF.out]
   have y1 : ¬ 9223372036854775807 < PF.size + 4 := by omega
   go_wp2_with fail
   go_ret
   exact ⟨rfl,HB.out⟩
theorem rec11_says {a : Nat} {bn : ByteArray} {bm b2 : Nat} {bs : List Tree} {fs : List Tree} (hb : Pr.PT (Tree.node 13 bn bm b2 bs)) (hfs : ∀ f ∈ fs,Pr.Pdec 11 Pr.PT f) (hsz : (Pr.tx (Pr.typ (.node 10 ⟨#[]⟩ 0 a ((Tree.node 13 bn bm b2 bs) :: fs)))).size ≤ 100000000) (w : World) (so : Option Addr) (sc : Nat) (hsc : fs.length + 1 ≤ sc) (hbb : sc = 1) (hW : Tab10 w) (hr : RowAt w so ((Tree.node 13 bn bm b2 bs) :: fs)) : Calls Tryz.prog 91 #[NodeC ⟨#[]⟩ 10 0 a so (fs.length + 1) sc] w (Say (Pr.typ (.node 10 ⟨#[]⟩ 0 a ((Tree.node 13 bn bm b2 bs) :: fs))) w) := by
 have eT : Pr.typ (.node 10 ⟨#[]⟩ 0 a ((Tree.node 13 bn bm b2 bs) :: fs)) = ([Pr.kRECORD] ++ ([.sp,Pr.s_lp] ++ Pr.typeName (Tree.node 13 bn bm b2 bs) ++ [Pr.s_rp])) ++ fs.flatMap recF ++ [.sp,Pr.kEND] := rfl
 obtain ⟨pre,hpre⟩ : ∃ p,p = ([Pr.kRECORD] ++ ([.sp,Pr.s_lp] ++ Pr.typeName (Tree.node 13 bn bm b2 bs) ++ [Pr.s_rp])) := ⟨_,rfl⟩
 rw [eT,← hpre] at hsz
 unfold Say
 rw [eT,← hpre]
 clear eT
 have hE : (Pr.txt [.sp,Pr.kEND]).length = 4 := rfl
 rw [Pr.tx_size,Pr.txt_app,Pr.txt_app,List.length_append,List.length_append,hE] at hsz
 have hV : ∀ f ∈ fs,(Pr.tx (Pr.variable_ f)).size + 2 ≤ 100000000 ∧ (∀ (w : World) (v : Value),Tab10 w → TI w v f → Calls Tryz.prog 92 #[v] w (Say (Pr.variable_ f) w)) := fun f hf => by
  have h1 := fm_mem recF fs f hf
  have h2 : (Pr.txt (recF f)).length = (Pr.tx (Pr.variable_ f)).size + 2 := by
   unfold recF
   rw [Pr.txt_app,Pr.txt_app,List.length_append,List.length_append,Pr.tx_size,show (Pr.txt [Pr.Pc.sp]).length = 1 from rfl,show (Pr.txt [Pr.s_semi]).length = 1 from rfl]
   omega
  exact ⟨by omega,fun w v hw ht => field_says (hfs f hf) (by omega) w v hw ht⟩
 have hP : ∀ j,(Pr.tx (pre ++ (fs.take j).flatMap recF)).size ≤ 100000000 := fun j => by
  have := fm_take recF fs j
  rw [Pr.tx_size,Pr.txt_app,List.length_append]
  omega
 have hC := fun w v ht => typeName_says hb w v ht
 unfold Say at hC
 obtain ⟨X0,hX0⟩ : ∃ X,X = Pr.tx (Pr.typeName (Tree.node 13 bn bm b2 bs)) := ⟨_,rfl⟩
 have s1 : X0.size ≤ 100000000 := by
  rw [hpre,Pr.txt_app,Pr.txt_app,Pr.txt_app,List.length_append,List.length_append,List.length_append] at hsz
  rw [hX0,Pr.tx_size]
  omega
 rw [← hX0] at hC
 have hpx : Pr.tx pre = ⟨#[82,69,67,79,82,68]⟩ ++ (⟨#[32,40]⟩ ++ X0 ++ ⟨#[41]⟩) := by
  rw [hpre,Pr.tx_app,Pr.tx_app,Pr.tx_app,← hX0]
  rfl
 have z1 : ¬ 9223372036854775807 < 2 + X0.size := by omega
 have z2 : ¬ 9223372036854775807 < 2 + X0.size + 1 := by omega
 have z3 : ¬ 9223372036854775807 < 6 + (2 + X0.size + 1) := by omega
 clear hX0 s1 hb
 clear hpre hsz hE hfs
 have hA := Blk.new w 25 #[.int .i64 10,.string ⟨#[]⟩,.int .i64 0,.int .i64 a,.slice so (fs.length + 1) sc]
 have hB : Below w.heap.size w (w.alloc (.cells #[.int .i64 10,.string ⟨#[]⟩,.int .i64 0,.int .i64 a,.slice so (fs.length + 1) sc] 25)) := (Below.refl _ _).alloc (Nat.le_refl _) _
 have hR := hr.below hB
 obtain ⟨g,o,k,nm,num,a1,su,us,sc1,hso,hg,e1,f1,t1⟩ := hR.nth 0 (by simp)
 subst hso
 have f1 : F5 _ g (o + 0) k nm num a1 (.slice su us.length sc1) := f1
 have t1 : TI _ (.agg #[.int .i64 k,.string nm,.int .i64 num,.int .i64 a1,.slice su us.length sc1]) (Tree.node 13 bn bm b2 bs) := t1
 have he : (Tree.node 13 bn bm b2 bs) = .node k nm num a1 us := e1
 injection he with h1 h2 h3 h4 h5
 subst h1 h2 h3 h4 h5
 clear e1
 have hT := hR.tail
 clear hR hr
 have hmx := hT.max
 have hl0 : (0 : Int) < ((fs.length + 1 : Nat) : Int) := by omega
 subst hbb
 have h3 : (1 : Int) ≤ (fs.length : Int) + 1 := by omega
 have hf0 : Hid (fs.length = 0) := Lib.hid (by omega)
 have hp1 : Pr.tx (pre ++ fs.flatMap recF ++ [.sp,Pr.kEND]) = Pr.tx (pre ++ fs.flatMap recF) ++ ⟨#[32,69,78,68]⟩ := by
  rw [Pr.tx_app]
  rfl
 have hPs := hP fs.length
 rw [List.take_of_length_le (Nat.le_refl _)] at hPs
 rw [hp1]
 obtain ⟨PF,hPF⟩ : ∃ P,P = Pr.tx (pre ++ fs.flatMap recF) := ⟨_,rfl⟩
 rw [← hPF] at hPs ⊢
 have HPF := Lib.hid hPF
 clear hp1 hPF
 have HP := Lib.hid hP
 have HV := Lib.hid hV
 have HT := Lib.hid hT
 have HW := Lib.hid (hW.below hB)
 clear hP hV hT hW
 obtain ⟨⟨q1,q2,q3,q4,q5⟩,_⟩ := hA.five
 obtain ⟨p1,p2,p3,p4,p5⟩ := f1
 replace p1 : World.cell? _ ⟨g,o,none⟩ = some (.int .i64 13) := p1
 replace p2 : World.cell? _ ⟨g,o + 1,none⟩ = some (.string bn) := p2
 replace p3 : World.cell? _ ⟨g,o + 2,none⟩ = some (.int .i64 bm) := p3
 replace p4 : World.cell? _ ⟨g,o + 3,none⟩ = some (.int .i64 b2) := p4
 replace p5 : World.cell? _ ⟨g,o + 4,none⟩ = some (.slice su bs.length sc1) := p5
 go_enter Tryz.func91,Tryz.ntmps91
 go_wp2_with fail
 have hal0 : Below (w.alloc (.cells #[.int .i64 10,.string ⟨#[]⟩,.int .i64 0,.int .i64 a,.slice (some ⟨g,o,none⟩) (fs.length + 1) 1] 25)).heap.size (w.alloc (.cells #[.int .i64 10,.string ⟨#[]⟩,.int .i64 0,.int .i64 a,.slice (some ⟨g,o,none⟩) (fs.length + 1) 1] 25)) ((w.alloc (.cells #[.int .i64 10,.string ⟨#[]⟩,.int .i64 0,.int .i64 a,.slice (some ⟨g,o,none⟩) (fs.length + 1) 1] 25)).alloc (.cells #[.int .i64 13,.string bn,.int .i64 bm,.int .i64 b2,.slice su bs.length sc1] 25)) := (Below.refl _ _).alloc (Nat.le_refl _) _
 refine (hC _ _ (t1.below hal0)).mono ?_
 rintro e wz ⟨rfl,hbz⟩
 have hz0 := hal0.trans (hbz.mono hal0.size)
 have hz1 := hB.trans (hz0.mono hB.size)
 replace hA := hA.below hz0 hA.lt
 clear q1 q2 q3 q4 q5 p1 p2 p3 p4 p5
 obtain ⟨⟨q1,q2,q3,q4,q5⟩,_⟩ := hA.five
 go_wp2_with fail
 go_loopw [3,47] (fun v i wr => ∃ (j : Nat) (vv : Value),vv = v ∧ j ≤ fs.length ∧ i = .int .i64 j ∧ vv = .string (Pr.tx (pre ++ (fs.take j).flatMap recF)) ∧ Hid (Below w.heap.size w wr) ∧ Hid (Below (w.alloc (.cells #[.int .i64 10,.string ⟨#[]⟩,.int .i64 0,.int .i64 a,.slice (some ⟨g,o,none⟩) (fs.length + 1) 1] 25)).heap.size (w.alloc (.cells #[.int .i64 10,.string ⟨#[]⟩,.int .i64 0,.int .i64 a,.slice (some ⟨g,o,none⟩) (fs.length + 1) 1] 25)) wr)) (fun _ i _ => fs.length - (intOf i).toNat)
 case atStart =>
  refine ⟨0,_,rfl,Nat.zero_le _,rfl,?_,Lib.hid hz1,Lib.hid hz0⟩
  rw [List.take_zero,List.flatMap_nil,List.append_nil,hpx]
  try rfl
 case round =>
  obtain ⟨j,vv,hvv,hj,rfl,hv2,HB,HB1⟩ := hrel
  subst hvv
  subst hv2
  by_cases hlt : j < fs.length
  ·exact absurd hlt (by have := hf0.out; omega)
  ·have i1 : ¬ (j : Int) < (fs.length : Int) := by omega
   have htk : fs.take j = fs := List.take_of_length_le (by omega)
   rw [htk,← HPF.out]
   have y1 : ¬ 9223372036854775807 < PF.size + 4 := by omega
   go_wp2_with fail
   go_ret
   exact ⟨rfl,HB.out⟩
theorem typ_says {t : Tree} (ht : Pr.Pty t) : TyS t := by
 intro w v hW hv hsz
 cases ht with
 | arr hm hx => exact arr_says hm hx hsz w v hW hv
 | ptr hx => exact ptr_says hx hsz w v hW hv
 | rec_ hb hfs =>
  obtain ⟨so,sc,rfl,hsc,hr⟩ := hv.node
  rcases hb with ⟨a2,rfl⟩ | hb
  ·rcases Nat.lt_or_ge 1 sc with h1 | h1
   ·exact rec00_says hfs hsz w so sc hsc h1 hW hr
   ·exact rec01_says hfs hsz w so sc hsc (by simp at hsc; omega) hW hr
  ·cases hb with
   | one hn =>
    rcases Nat.lt_or_ge 1 sc with h1 | h1
    ·exact rec10_says (.one hn) hfs hsz w so sc hsc h1 hW hr
    ·exact rec11_says (.one hn) hfs hsz w so sc hsc (by simp at hsc; omega) hW hr
   | two hn hn2 =>
    rcases Nat.lt_or_ge 1 sc with h1 | h1
    ·exact rec10_says (.two hn hn2) hfs hsz w so sc hsc h1 hW hr
    ·exact rec11_says (.two hn hn2) hfs hsz w so sc hsc (by simp at hsc; omega) hW hr
open Go.RowKit Ps
def TIB (w : World) (B : Nat) (v : Value) (t : Tree) : Prop := TreeIn w (fun k => k < B) v t
theorem TIB.ti {w : World} {B : Nat} {v : Value} {t : Tree} (h : TIB w B v t) : TI w v t := TI.of h
theorem TIB.below {w w' : World} {B : Nat} {v : Value} {t : Tree} (h : TIB w B v t) (hb : Below B w w') : TIB w' B v t := TreeIn.turn h fun b _ hS => ⟨hS,hb.block b hS⟩
structure RowB (w : World) (B : Nat) (so : Option Addr) (ts : List Tree) : Prop where
 max : (ts.length : Int) ≤ 9223372036854775807
 nth : ∀ i (h : i < ts.length),∃ g o k nm num a su us sc,so = some ⟨g,o,none⟩ ∧ g < B ∧ g < w.heap.size ∧ ts[i] = .node k nm num a us ∧ F5 w g (o + i * 5) k nm num a (.slice su us.length sc) ∧ TIB w B (.agg #[.int .i64 k,.string nm,.int .i64 num,.int .i64 a,.slice su us.length sc]) ts[i]
theorem RowB.below {w w' : World} {B : Nat} {so : Option Addr} {ts : List Tree} (h : RowB w B so ts) (hb : Below B w w') (_ : B ≤ w.heap.size) : RowB w' B so ts := by
 refine ⟨h.max,fun i hi => ?_⟩
 obtain ⟨g,o,k,nm,num,a,su,us,sc,h1,h2,h3,h4,h5,h6⟩ := h.nth i hi
 have hg : g < w'.heap.size := by
  obtain ⟨c,_⟩ := h5.below hb h2
  rcases Nat.lt_or_ge g w'.heap.size with q | q
  ·exact q
  ·simp [World.cell?,Array.getElem?_eq_none q] at c
 exact ⟨g,o,k,nm,num,a,su,us,sc,h1,h2,hg,h4,h5.below hb h2,h6.below hb⟩
theorem RowB.at {w : World} {B : Nat} {so : Option Addr} {ts : List Tree} (h : RowB w B so ts) : RowAt w so ts := by
 refine ⟨h.max,fun i hi => ?_⟩
 obtain ⟨g,o,k,nm,num,a,su,us,sc,h1,h2,h3,h4,h5,h6⟩ := h.nth i hi
 exact ⟨g,o,k,nm,num,a,su,us,sc,h1,h3,h4,h5,h6.ti⟩
theorem RowB.tail {w : World} {B g o : Nat} {t : Tree} {ts : List Tree} (h : RowB w B (some ⟨g,o,none⟩) (t :: ts)) : RowB w B (some ⟨g,o + 5,none⟩) ts := by
 refine ⟨by have := h.max; simp at this; omega,fun i hi => ?_⟩
 obtain ⟨g',o',k,nm,num,a,su,us,sc,h1,h2,h3,h4,h5,h6⟩ := h.nth (i + 1) (by simpa using hi)
 injection h1 with h1
 injection h1 with e1 e2
 subst e1 e2
 refine ⟨g,o + 5,k,nm,num,a,su,us,sc,rfl,h2,h3,by simpa using h4,?_,by simpa using h6⟩
 rw [show o + 5 + i * 5 = o + (i + 1) * 5 from by omega]
 exact h5
theorem RowB.empty {w : World} {B : Nat} {so : Option Addr} {ts : List Tree} (h : ts.length = 0) : RowB w B so ts := ⟨by omega,fun i hi => by omega⟩
theorem RowB.of {w : World} {B : Nat} {so : Option Addr} {n sc : Nat} {ts : List Tree} (h : RowIn w (fun k => k < B) (.slice so n sc) ts) : RowB w B so ts := by
 refine ⟨h.max,fun i hi => ?_⟩
 obtain ⟨g,k,nm,num,a,sv,us,h1,h2,h3,h4,h5⟩ := h.nth i hi
 have hgB : g < B := by
  obtain ⟨_,_,hS,_⟩ := h
  exact hS g (by rw [h1]; rfl)
 obtain ⟨k',nm',num',a',us',sv',e,e2,r⟩ := h5.parts
 obtain ⟨o,c,e3⟩ := r.form
 unfold nodeV at e2
 injection e2 with e2
 simp only [Array.mk.injEq,List.cons.injEq,Value.int.injEq,Value.string.injEq,and_true,true_and] at e2
 obtain ⟨e4,e5,e6,e7,e8⟩ := e2
 have hu : us = us' := by rw [h3] at e; injection e
 subst hu
 rw [e3] at e8
 subst e8
 have h4' : F5 w g (0 + i * 5) k nm num a (.slice o us.length c) := by rw [Nat.zero_add]; exact h4
 exact ⟨g,0,k,nm,num,a,o,us,c,h1,hgB,h2,h3,h4',h5⟩
theorem TIB.node {w : World} {B : Nat} {v : Value} {k : Nat} {nm : ByteArray} {num a : Nat} {ts : List Tree} (h : TIB w B v (.node k nm num a ts)) : ∃ so sc,v = .agg #[.int .i64 k,.string nm,.int .i64 num,.int .i64 a,.slice so ts.length sc] ∧ ts.length ≤ sc ∧ RowB w B so ts := by
 obtain ⟨k',nm',num',a',us,sv,e,rfl,r⟩ := h.parts
 injection e with e1 e2 e3 e4 e5
 subst e1 e2 e3 e4 e5
 have hr := r
 obtain ⟨xs,hown,_,_⟩ := hr
 obtain ⟨so,sc,rfl⟩ := r.form
 refine ⟨so,sc,rfl,?_,RowB.of r⟩
 rcases hown.2 with ⟨e,h0⟩ | ⟨_,cap,_,e,_,_,h1,_⟩
 ·omega
 ·injection e with _ _ e
  omega
theorem RowB.at0 {w : World} {B : Nat} {so : Option Addr} {x : Tree} {ts : List Tree} (h : RowB w B so (x :: ts)) : ∃ g o k nm num a su us sc,so = some ⟨g,o,none⟩ ∧ g < B ∧ x = .node k nm num a us ∧ F5 w g (o + 0) k nm num a (.slice su us.length sc) ∧ TIB w B (.agg #[.int .i64 k,.string nm,.int .i64 num,.int .i64 a,.slice su us.length sc]) x := by
 obtain ⟨g,o,k,nm,num,a,su,us,sc,h1,h2,_,h3⟩ := h.nth 0 (by simp)
 exact ⟨g,o,k,nm,num,a,su,us,sc,h1,h2,h3⟩
theorem RowB.ati {w : World} {B g o : Nat} {ts : List Tree} (h : RowB w B (some ⟨g,o,none⟩) ts) (i : Nat) (hi : i < ts.length) : ∃ k nm num a su us sc,ts[i] = .node k nm num a us ∧ F5 w g (o + i * 5) k nm num a (.slice su us.length sc) ∧ TIB w B (.agg #[.int .i64 k,.string nm,.int .i64 num,.int .i64 a,.slice su us.length sc]) ts[i] := by
 obtain ⟨g',o',k,nm,num,a,su,us,sc,h1,_,_,h3⟩ := h.nth i hi
 injection h1 with h1
 injection h1 with e1 e2
 subst e1 e2
 exact ⟨k,nm,num,a,su,us,sc,h3⟩
theorem RowB.at1 {w : World} {B g o : Nat} {x0 x1 : Tree} {ts : List Tree} (h : RowB w B (some ⟨g,o,none⟩) (x0 :: x1 :: ts)) : ∃ k nm num a su us sc,x1 = .node k nm num a us ∧ F5 w g (o + 5) k nm num a (.slice su us.length sc) ∧ TIB w B (.agg #[.int .i64 k,.string nm,.int .i64 num,.int .i64 a,.slice su us.length sc]) x1 := h.ati 1 (by simp)
theorem RowB.at2 {w : World} {B g o : Nat} {x0 x1 x2 : Tree} {ts : List Tree} (h : RowB w B (some ⟨g,o,none⟩) (x0 :: x1 :: x2 :: ts)) : ∃ k nm num a su us sc,x2 = .node k nm num a us ∧ F5 w g (o + 10) k nm num a (.slice su us.length sc) ∧ TIB w B (.agg #[.int .i64 k,.string nm,.int .i64 num,.int .i64 a,.slice su us.length sc]) x2 := h.ati 2 (by simp)
theorem RowB.at3 {w : World} {B g o : Nat} {x0 x1 x2 x3 : Tree} {ts : List Tree} (h : RowB w B (some ⟨g,o,none⟩) (x0 :: x1 :: x2 :: x3 :: ts)) : ∃ k nm num a su us sc,x3 = .node k nm num a us ∧ F5 w g (o + 15) k nm num a (.slice su us.length sc) ∧ TIB w B (.agg #[.int .i64 k,.string nm,.int .i64 num,.int .i64 a,.slice su us.length sc]) x3 := h.ati 3 (by simp)
theorem RowB.at4 {w : World} {B g o : Nat} {x0 x1 x2 x3 x4 : Tree} {ts : List Tree} (h : RowB w B (some ⟨g,o,none⟩) (x0 :: x1 :: x2 :: x3 :: x4 :: ts)) : ∃ k nm num a su us sc,x4 = .node k nm num a us ∧ F5 w g (o + 20) k nm num a (.slice su us.length sc) ∧ TIB w B (.agg #[.int .i64 k,.string nm,.int .i64 num,.int .i64 a,.slice su us.length sc]) x4 := h.ati 4 (by simp)
theorem RowB.at5 {w : World} {B g o : Nat} {x0 x1 x2 x3 x4 x5 : Tree} {ts : List Tree} (h : RowB w B (some ⟨g,o,none⟩) (x0 :: x1 :: x2 :: x3 :: x4 :: x5 :: ts)) : ∃ k nm num a su us sc,x5 = .node k nm num a us ∧ F5 w g (o + 25) k nm num a (.slice su us.length sc) ∧ TIB w B (.agg #[.int .i64 k,.string nm,.int .i64 num,.int .i64 a,.slice su us.length sc]) x5 := h.ati 5 (by simp)
def TabB (w : World) (B : Nat) : Prop := Tab10 w ∧ ∀ g,Tryz.prog.globalNamed "internal/strconv.uint64pow10" = some g → g < B
theorem TabB.below {w w' : World} {B : Nat} (h : TabB w B) (hb : Below B w w') : TabB w' B := by
 refine ⟨?_,h.2⟩
 have h2 := h.2
 have h1 := h.1
 unfold Tab10 Lib.TabIs World.var? at *
 cases hg : Tryz.prog.globalNamed "internal/strconv.uint64pow10" with
 | none => rw [hg] at h1; simp at h1
 | some g =>
  rw [hg] at h1
  simp only [Option.bind_some] at h1 ⊢
  rw [hb.block g (h2 g hg)]
  exact h1
structure Pen (w : World) (B b : Nat) (l : List UInt8) (d : Nat) : Prop where
 wb : WB w B b l d
 hB : B ≤ w.heap.size
 tab : TabB w B
theorem Pen.below {w w' : World} {B b : Nat} {l : List UInt8} {d : Nat} (h : Pen w B b l d) (hb : Below w.heap.size w w') : Pen w' B b l d := ⟨h.wb.below hb,Nat.le_trans h.hB hb.size,h.tab.below (hb.mono h.hB)⟩
theorem Pen.lt {w : World} {B b : Nat} {l : List UInt8} {d : Nat} (h : Pen w B b l d) : b < w.heap.size := by
 obtain ⟨_,p,v,_,hk,_⟩ := h.wb
 exact hk.lt
abbrev Wrote (w : World) (B b : Nat) (l : List UInt8) (d : Nat) (e : Ending) (w' : World) : Prop := e = .returned (.tuple #[]) ∧ Pen w' B b l d ∧ Wk B b w w'
theorem txt_line (d : Nat) (S : List Pr.Pc) : Pr.txt (Pr.line d S) = List.replicate (2 * d) 32 ++ Pr.txt S ++ [10] := by
 unfold Pr.line
 rw [Pr.txt_app,Pr.txt_app]
 have : ∀ n,Pr.txt (List.replicate n .sp) = List.replicate n 32 := fun n => by
  induction n with
  | zero => rfl
  | succ n ih => rw [List.replicate_succ,List.replicate_succ,← ih]; rfl
 unfold Pr.ind
 rw [this]
 rfl
theorem Pen.line {w : World} {B b : Nat} {l : List UInt8} {d : Nat} (h : Pen w B b l d) (hd : d ≤ 1000) (S : List Pr.Pc) (s : ByteArray) (hs : s = Pr.tx S) (hl : l.length + (Pr.txt (Pr.line d S)).length ≤ 80000000) : Calls Tryz.prog 83 #[.pointer (some ⟨b,0,none⟩),.string s] w (Wrote w B b (l ++ Pr.txt (Pr.line d S)) d) := by
 rw [txt_line] at hl ⊢
 have hz : s.size = (Pr.txt S).length := by rw [hs]; rfl
 have hl2 : l.length + 2 * d + s.size ≤ 90000000 := by
  simp only [List.length_append,List.length_replicate,List.length_cons,List.length_nil] at hl
  omega
 refine (h.wb.line h.hB hd s hl2).mono ?_
 rintro e w' ⟨rfl,hw,hk⟩
 have hs2 : s.data.toList = Pr.txt S := by rw [hs]; simp [Pr.tx]
 rw [hs2] at hw
 exact ⟨rfl,⟨hw,Nat.le_trans h.hB hk.size,h.tab.below hk.below⟩,hk⟩
theorem Pen.level {w : World} {B b : Nat} {l : List UInt8} {d : Nat} (h : Pen w B b l d) (d' : Nat) : Pen (w.setCell ⟨b,2,none⟩ (.int .i64 d')) B b l d' ∧ Wk B b w (w.setCell ⟨b,2,none⟩ (.int .i64 d')) := by
 obtain ⟨⟨h1,p,v,hp,hk,ho,hn⟩,hB,ht⟩ := h
 have hb : Below B w (w.setCell ⟨b,2,none⟩ (.int .i64 d')) := (Below.refl B w).setCell (p := ⟨b,2,none⟩) h1 _
 have hk' := Wk.set hb
 refine ⟨⟨⟨h1,p,v,hp,?_,?_,hn⟩,Nat.le_trans hB hk'.size,ht.below hb⟩,hk'⟩
 ·have := hk.set 2 (.int .i64 d')
  exact this
 ·exact own_keep ho fun g hg => Below.heap_setCell _ _ _ _ (by rintro rfl; exact hn hg)
end Go.Proofs.YtneohanphabneaaGreatDoor
