/-
  Print's writer: a procedure. Printed by tools/gen_w2.py.
-/
import Derived.Test.YtneohanphabneaaGreatDoorMWr13
namespace Go.Proofs.YtneohanphabneaaGreatDoor
set_option maxRecDepth 100000
set_option maxHeartbeats 8000000
open Go.RowKit Ps
def PrC (t : Tree) : Prop := ∀ (w : World) (B b : Nat) (l : List UInt8) (v : Value),Pen w B b l 0 → TIB w B v t → l.length + (Pr.txt (Pr.proc t)).length ≤ 80000000 → Calls Tryz.prog 93 #[.pointer (some ⟨b,0,none⟩),v] w (Wrote w B b (l ++ Pr.txt (Pr.proc t)) 0)
theorem TIB.row {w : World} {B : Nat} {k num a : Nat} {nm : ByteArray} {su : Option Addr} {ts : List Tree} {n sc : Nat} (h : TIB w B (.agg #[.int .i64 k,.string nm,.int .i64 num,.int .i64 a,.slice su n sc]) (.node k nm num a ts)) : ts.length ≤ sc ∧ RowB w B su ts := by
 obtain ⟨so,sc',e,h1,h2⟩ := h.node
 injection e with e
 simp only [Array.mk.injEq,List.cons.injEq,Value.slice.injEq,and_true,true_and] at e
 obtain ⟨rfl,_,rfl⟩ := e
 exact ⟨h1,h2⟩
theorem param_says {t : Tree} (ht : Pr.Pdec 8 Pr.PT t) (hsz : (Pr.tx (Pr.param t)).size ≤ 100000000) (w : World) (v : Value) (hW : Tab10 w) (h : TI w v t) : Calls Tryz.prog 142 #[v] w (Say (Pr.param t) w) := by
 obtain ⟨n,num,a,x,rfl,hn,hnum,hx⟩ := ht
 obtain rfl | rfl : num = 0 ∨ num = 1 := by omega
 ·exact param0_says hx hsz w v hW h
 ·exact param1_says hx hsz w v hW h
theorem join_mem (sep : List Pr.Pc) : ∀ (ls : List (List Pr.Pc)) (x : List Pr.Pc),x ∈ ls → (Pr.txt x).length ≤ (Pr.txt (Pr.joinP sep ls)).length
 | [],x,h => by cases h
 | [a],x,h => by rw [List.mem_singleton.1 h]; exact Nat.le_refl _
 | a :: b :: r,x,h => by
  have e : Pr.joinP sep (a :: b :: r) = a ++ sep ++ Pr.joinP sep (b :: r) := rfl
  rw [e,Pr.txt_app,Pr.txt_app,List.length_append,List.length_append]
  rcases List.mem_cons.1 h with rfl | h
  ·omega
  ·have := join_mem sep (b :: r) x h
   omega
theorem join_len (sep : List Pr.Pc) (hs : 1 ≤ (Pr.txt sep).length) : ∀ ls : List (List Pr.Pc),ls.length ≤ (Pr.txt (Pr.joinP sep ls)).length + 1
 | [] => by simp
 | [a] => by simp
 | a :: b :: r => by
  have e : Pr.joinP sep (a :: b :: r) = a ++ sep ++ Pr.joinP sep (b :: r) := rfl
  have := join_len sep hs (b :: r)
  rw [e,Pr.txt_app,Pr.txt_app,List.length_append,List.length_append]
  simp only [List.length_cons] at this ⊢
  omega
theorem params_len {ts : List Tree} (_h : ∀ t ∈ ts,Pr.Pdec 8 Pr.PT t) (hl : (Pr.txt (Pr.joinP [Pr.s_semi,.sp] (ts.map Pr.param))).length ≤ 80000000) : ts.length ≤ 200000000 := by
 have := join_len [Pr.s_semi,.sp] (by decide) (ts.map Pr.param)
 rw [List.length_map] at this
 omega
theorem params_mem {ts : List Tree} (_h : ∀ t ∈ ts,Pr.Pdec 8 Pr.PT t) (hl : (Pr.txt (Pr.joinP [Pr.s_semi,.sp] (ts.map Pr.param))).length ≤ 80000000) : ∀ t ∈ ts,(Pr.tx (Pr.param t)).size ≤ 100000000 := fun t ht => by
 have := join_mem [Pr.s_semi,.sp] (ts.map Pr.param) _ (List.mem_map_of_mem ht)
 rw [Pr.tx_size]
 omega
theorem var0_says {t : Tree} (ht : Pr.Pvar0 t) (w : World) (v : Value) (hW : Tab10 w) (h : TI w v t) (hsz : (Pr.tx (Pr.variable_ t)).size ≤ 100000000) : Calls Tryz.prog 92 #[v] w (Say (Pr.variable_ t) w) := by
 obtain ⟨n,a,x,rfl,hn,hx⟩ := ht
 exact var6_says (by omega) hx hsz w v hW h
theorem proc_parts (pl : List Tree) (rk : Nat) (J T : List Pr.Pc) {LP RP : List Pr.Pc} (hL : LP = if pl.isEmpty && rk = 0 then [] else J) (hR : RP = if rk = 0 then [] else T) : (¬ (0 : Int) < (pl.length : Int) ∧ (rk : Int) = 0 ∧ LP = [] ∧ RP = []) ∨ ((0 : Int) < (pl.length : Int) ∧ (rk : Int) = 0 ∧ LP = J ∧ RP = []) ∨ (¬ (rk : Int) = 0 ∧ LP = J ∧ RP = T) := by
 subst hL hR
 by_cases hk : rk = 0
 ·subst hk
  cases pl with
  | nil => exact .inl ⟨by simp,rfl,rfl,rfl⟩
  | cons _ _ => exact .inr (.inl ⟨by simp only [List.length_cons]; omega,rfl,rfl,rfl⟩)
 ·exact .inr (.inr ⟨by omega,by simp [hk],by simp [hk]⟩)
theorem proc_says0 {n rn : ByteArray} {num a a1 a2 a3 rk rm : Nat} {c : Tree} {vl pl rs : List Tree} (hn : isName n = true) (hnum : num ≤ 1) (hvl : ∀ t ∈ vl,Pr.Pvar0 t) (hc : BlC c 0) (hpl : ∀ t ∈ pl,Pr.Pdec 8 Pr.PT t) (hr : ¬ (rk : Int) = 0 → Pr.PT (Tree.node rk rn rm a2 rs)) : PrC (Tree.node 7 n num a [(Tree.node 1 ⟨#[]⟩ 0 a1 pl),(Tree.node rk rn rm a2 rs),(Tree.node 1 ⟨#[]⟩ 0 a3 vl),c]) := by
 intro w B b l v hP hv hl
 have h0 := hv
 obtain ⟨so,sc,rfl,hsc,hR⟩ := hv.node
 clear hv
 obtain ⟨LP,hL0⟩ : ∃ LP,LP = (if pl.isEmpty && rk = 0 then [] else ([Pr.s_lp] ++ Pr.joinP [Pr.s_semi,.sp] (pl.map Pr.param) ++ [Pr.s_rp])) := ⟨_,rfl⟩
 obtain ⟨RP,hR0⟩ : ∃ RP,RP = (if rk = 0 then [] else ([Pr.s_colon,.sp] ++ Pr.typeName (Tree.node rk rn rm a2 rs))) := ⟨_,rfl⟩
 have HPP := Lib.hid (proc_parts pl rk _ _ hL0 hR0)
 have eT : Pr.proc (Tree.node 7 n num a [(Tree.node 1 ⟨#[]⟩ 0 a1 pl),(Tree.node rk rn rm a2 rs),(Tree.node 1 ⟨#[]⟩ 0 a3 vl),c]) = Pr.line 0 ([Pr.kPROCEDURE,.sp,Pr.nm n] ++ Pr.star num ++ LP ++ RP ++ [Pr.s_semi]) ++ Pr.section_ 0 Pr.kVAR vl Pr.variable_ ++ Pr.line 0 [Pr.kBEGIN] ++ Pr.block c 0 ++ Pr.line 0 [Pr.kEND,.sp,Pr.nm n,Pr.s_semi] := by
  rw [hL0,hR0]
  rfl
 rw [eT] at hl ⊢
 clear eT hL0 hR0
 simp only [Pr.txt_app] at hl ⊢
 obtain ⟨X0,hX0⟩ : ∃ X,X = Pr.tx (Pr.star num) := ⟨_,rfl⟩
 have eH : Pr.tx ([Pr.kPROCEDURE,.sp,Pr.nm n] ++ Pr.star num) = (⟨#[80,82,79,67,69,68,85,82,69,32]⟩ : ByteArray) ++ n ++ X0 := by
  rw [Pr.tx_app,← hX0]
  have e0 : Pr.tx [Pr.kPROCEDURE,.sp,Pr.nm n] = (⟨#[80,82,79,67,69,68,85,82,69,32]⟩ : ByteArray) ++ n := by
   rw [show [Pr.kPROCEDURE,Pr.Pc.sp,Pr.nm n] = [Pr.kPROCEDURE,Pr.Pc.sp] ++ [Pr.nm n] from rfl,Pr.tx_app,Pr.tx_nm]
   rfl
  rw [e0]
 have eS1 : (⟨#[69,78,68,32]⟩ : ByteArray) ++ n ++ (⟨#[59]⟩ : ByteArray) = Pr.tx ([Pr.kEND,.sp,Pr.nm n,Pr.s_semi]) := by
  rw [show [Pr.kEND,.sp,Pr.nm n,Pr.s_semi] = [Pr.kEND,Pr.Pc.sp] ++ [Pr.nm n] ++ [Pr.s_semi] from rfl,Pr.tx_app,Pr.tx_app,Pr.tx_nm]
  rfl
 have hns := name_size hn
 have hxs : X0.size ≤ 1 := by
  rw [hX0]
  obtain rfl | rfl : num = 0 ∨ num = 1 := by omega
  all_goals decide
 have z0_0 : ¬ 9223372036854775807 < 10 + n.size := by
  try simp only [List.length_append] at hl
  omega
 have z0_1 : ¬ 9223372036854775807 < 10 + n.size + X0.size := by
  try simp only [List.length_append] at hl
  omega
 have z1_0 : ¬ 9223372036854775807 < 4 + n.size := by
  try simp only [List.length_append] at hl
  omega
 have z1_1 : ¬ 9223372036854775807 < 4 + n.size + 1 := by
  try simp only [List.length_append] at hl
  omega
 have hC0 : ∀ (w : World) (v : Value),TI w v (Tree.node 7 n num a [(Tree.node 1 ⟨#[]⟩ 0 a1 pl),(Tree.node rk rn rm a2 rs),(Tree.node 1 ⟨#[]⟩ 0 a3 vl),c]) → Calls Tryz.prog 88 #[v] w fun e w' => e = .returned (.string X0) ∧ Below w.heap.size w w' := fun w v ht => say_to (star_says hnum w v ht) hX0
 have HL := Lib.hid hl
 have hne : w.heap.size ≠ b := by have := hP.lt; omega
 clear hl hX0
 have HS1 := Lib.hid eS1
 have HEH := Lib.hid eH
 have HXS := Lib.hid hxs
 have HNS := Lib.hid hns
 clear eS1 eH hxs hns
 have hA := Blk.new w 25 #[.int .i64 7,.string n,.int .i64 num,.int .i64 a,.slice so 4 sc]
 have hal := Below.al w 25 #[.int .i64 7,.string n,.int .i64 num,.int .i64 a,.slice so 4 sc]
 have hK := Wk.of (b := b) hP.hB hal
 have hB0 := hP.hB
 replace hP := hP.below hal
 clear hal
 obtain ⟨g,o,k0,n0,m0,d0,s0,u0,c0,rfl,hg,e0,f0,t0⟩ := hR.at0
 injection e0 with h1 h2 h3 h4 h5
 subst h1 h2 h3 h4 h5
 obtain ⟨k1,n1,m1,d1,s1,u1,c1,e1,f1,t1⟩ := hR.at1
 injection e1 with h1 h2 h3 h4 h5
 subst h1 h2 h3 h4 h5
 obtain ⟨k2,n2,m2,d2,s2,u2,c2,e2,f2,t2⟩ := hR.at2
 injection e2 with h1 h2 h3 h4 h5
 subst h1 h2 h3 h4 h5
 obtain ⟨k3,n3,m3,d3,s3,u3,c3,-,f3,t3⟩ := hR.at3
 clear hR
 obtain ⟨hc2,hr1⟩ := t0.row
 obtain ⟨hc4,hr3⟩ := t2.row
 change Calls _ _ #[.pointer (some ⟨b,0,none⟩),NodeC n 7 num a (some ⟨g,o,none⟩) 4 sc] _ _
 replace h0 : TIB _ B (.agg #[.int .i64 7,.string n,.int .i64 num,.int .i64 a,.slice (some ⟨g,o,none⟩) 4 sc]) (Tree.node 7 n num a [(Tree.node 1 ⟨#[]⟩ 0 a1 pl),(Tree.node rk rn rm a2 rs),(Tree.node 1 ⟨#[]⟩ 0 a3 vl),c]) := h0
 have qA := hA.five.1
 have q0 := (f0.below hK.below hg).c0
 have q1 := (f1.below hK.below hg).c5
 have q2 := (f2.below hK.below hg).c10
 have q3 := (f3.below hK.below hg).c15
 go_enter Tryz.func93,Tryz.ntmps93
 go_wp2_with fail
 replace hA := hA.below (drew_below _) hA.lt
 replace hK := hK.trans (Wk.of hP.hB (drew_below _))
 replace hP := hP.below (drew_below _)
 clear qA q0 q1 q2 q3
 refine Ch.wp_region_tree (fun u => Blk u w.heap.size 25 #[.int .i64 7,.string n,.int .i64 num,.int .i64 a,.slice (some ⟨g,o,none⟩) 4 sc] ∧ Wk B b w u) [1,3] [] (.take 0 (.take 1 (.take 2 (.take 3 (.one 4 (.take 5 (.take 6 .done))))))) (by kernel_rfl) (by kernel_rfl) (fun _ _ d _ _ h => by cases d <;> first | exact h | exact ⟨h.1,h.2.drew⟩) ⟨hA,hK⟩ ?_
 repeat
  first
  | refine Ch.treeT_take rfl (by rfl) (by rfl) (fun u => by go_simp; rfl) ?_
  | refine Ch.treeT_load rfl (by rfl) (by rfl) (fun u ⟨hA,hK⟩ => by have qA := (Blk.five hA).1; have q0 := (f0.below hK.below hg).c0; have q1 := (f1.below hK.below hg).c5; have q2 := (f2.below hK.below hg).c10; have q3 := (f3.below hK.below hg).c15; go_simp; rfl) ?_
  try simp only [putq]
 refine Ch.treeT_mid rfl (by rfl) (fun K hKK => ?_)
 go_simp
 refine (hC0 _ _ (h0.below hK.below).ti).mono ?_
 rintro e w5 ⟨rfl,hb⟩
 replace hA := hA.below hb hA.lt
 replace hK := hK.trans (Wk.of hP.hB hb)
 replace hP := hP.below hb
 clear hb
 refine hKK _ _ ⟨hA,hK⟩ ?_
 clear hKK K
 try simp only [putq]
 repeat
  refine Ch.treeT_take rfl (by rfl) (by rfl) (fun u => by go_simp; rfl) ?_
  try simp only [putq]
 refine Ch.tree_end ?_
 rcases HPP.out with ⟨hq0,hk0,eLP,eRP⟩ | ⟨hq0,hk0,eLP,eRP⟩ | ⟨hk0,eLP,eRP⟩
 focus
  have hl := HL.out
  rw [eLP,eRP,List.append_nil,List.append_nil] at hl
  have hns := HNS.out
  have hxs := HXS.out
  have eS0 : (⟨#[80,82,79,67,69,68,85,82,69,32]⟩ : ByteArray) ++ n ++ X0 ++ (⟨#[59]⟩ : ByteArray) = Pr.tx ([Pr.kPROCEDURE,.sp,Pr.nm n] ++ Pr.star num ++ [Pr.s_semi]) := by
   rw [Pr.tx_app,HEH.out]
   rfl
  have hZ0 : 10 + n.size + X0.size + 1 ≤ (Pr.txt (Pr.line 0 ([Pr.kPROCEDURE,.sp,Pr.nm n] ++ Pr.star num ++ [Pr.s_semi]))).length := by
   rw [txt_line,List.length_append,List.length_append,← Pr.tx_size,← eS0]
   simp only [ByteArray.size_append]
   simp only [ByteArray.size,List.size_toArray,List.length_cons,List.length_nil]
   omega
  have z2_0 : ¬ 9223372036854775807 < 10 + n.size + X0.size + 1 := by
   try simp only [List.length_append] at hl
   omega
  have HV : Hid ((⟨#[80,82,79,67,69,68,85,82,69,32]⟩ : ByteArray) ++ n ++ X0 ++ (⟨#[59]⟩ : ByteArray) = Pr.tx ([Pr.kPROCEDURE,.sp,Pr.nm n] ++ Pr.star num ++ LP ++ RP ++ [Pr.s_semi])) := Lib.hid (by rw [eLP,eRP,List.append_nil,List.append_nil]; exact eS0)
  clear hl eS0 hZ0 hns hxs eLP eRP
  obtain rfl : pl = [] := List.length_eq_zero_iff.1 (by omega)
  clear hq0
  have qA := hA.five.1
  have q0 := (f0.below hK.below hg).c0
  have q1 := (f1.below hK.below hg).c5
  have q2 := (f2.below hK.below hg).c10
  have q3 := (f3.below hK.below hg).c15
  go_wp2_with fail
  have hal := Below.al w5 25 #[.int .i64 0,.string rn,.int .i64 rm,.int .i64 a2,.slice s1 rs.length c1]
  replace hA := hA.below hal hA.lt
  replace hK := hK.trans (Wk.of hP.hB hal)
  replace hP := hP.below hal
  clear hal
  clear qA q0 q1 q2 q3
 rotate_left
 focus
  have hl := HL.out
  rw [eLP,eRP,List.append_nil] at hl
  have hns := HNS.out
  have hxs := HXS.out
  obtain ⟨X1,hX1⟩ : ∃ X,X = Pr.tx (Pr.joinP [Pr.s_semi,.sp] (pl.map Pr.param)) := ⟨_,rfl⟩
  have eS0 : (⟨#[80,82,79,67,69,68,85,82,69,32]⟩ : ByteArray) ++ n ++ X0 ++ ((⟨#[40]⟩ : ByteArray) ++ X1 ++ (⟨#[41]⟩ : ByteArray)) ++ (⟨#[59]⟩ : ByteArray) = Pr.tx ([Pr.kPROCEDURE,.sp,Pr.nm n] ++ Pr.star num ++ ([Pr.s_lp] ++ Pr.joinP [Pr.s_semi,.sp] (pl.map Pr.param) ++ [Pr.s_rp]) ++ [Pr.s_semi]) := by
   rw [Pr.tx_app,Pr.tx_app,HEH.out,Pr.tx_app ([Pr.s_lp] ++ _),Pr.tx_app [Pr.s_lp],← hX1]
   rfl
  have hZ0 : 10 + n.size + X0.size + (1 + X1.size + 1) + 1 ≤ (Pr.txt (Pr.line 0 ([Pr.kPROCEDURE,.sp,Pr.nm n] ++ Pr.star num ++ ([Pr.s_lp] ++ Pr.joinP [Pr.s_semi,.sp] (pl.map Pr.param) ++ [Pr.s_rp]) ++ [Pr.s_semi]))).length := by
   rw [txt_line,List.length_append,List.length_append,← Pr.tx_size,← eS0]
   simp only [ByteArray.size_append]
   simp only [ByteArray.size,List.size_toArray,List.length_cons,List.length_nil]
   omega
  have z2_0 : ¬ 9223372036854775807 < 1 + X1.size := by
   try simp only [List.length_append] at hl
   omega
  have z2_1 : ¬ 9223372036854775807 < 1 + X1.size + 1 := by
   try simp only [List.length_append] at hl
   omega
  have z2_2 : ¬ 9223372036854775807 < 10 + n.size + X0.size + (1 + X1.size + 1) := by
   try simp only [List.length_append] at hl
   omega
  have z2_3 : ¬ 9223372036854775807 < 10 + n.size + X0.size + (1 + X1.size + 1) + 1 := by
   try simp only [List.length_append] at hl
   omega
  have hC1 : ∀ (w : World) (so : Option Addr) (sc : Nat),pl.length ≤ sc → Tab10 w → RowAt w so pl → Calls Tryz.prog 84 #[.slice so pl.length sc,.string (⟨#[59,32]⟩ : ByteArray),.func (.func 142) #[] #[]] w fun e w' => e = .returned (.string X1) ∧ Below w.heap.size w w' := fun w so sc h1 hw hr => by
   have hlen : (Pr.txt (Pr.joinP [Pr.s_semi,.sp] (pl.map Pr.param))).length ≤ 80000000 := by
    rw [← Pr.tx_size,← hX1]
    (try simp only [List.length_append] at hl)
    omega
   exact say_to (join_says 142 (cf_of Tryz.func142 (by kernel_rfl) (by kernel_rfl)) Pr.param w so sc pl h1 hr (params_len hpl hlen) (fun t ht w' v hb h => param_says (hpl t ht) (params_mem hpl hlen t ht) w' v (hw.below hb) h) [Pr.s_semi,.sp] (by omega)) hX1
  have HV : Hid ((⟨#[80,82,79,67,69,68,85,82,69,32]⟩ : ByteArray) ++ n ++ X0 ++ ((⟨#[40]⟩ : ByteArray) ++ X1 ++ (⟨#[41]⟩ : ByteArray)) ++ (⟨#[59]⟩ : ByteArray) = Pr.tx ([Pr.kPROCEDURE,.sp,Pr.nm n] ++ Pr.star num ++ LP ++ RP ++ [Pr.s_semi])) := Lib.hid (by rw [eLP,eRP,List.append_nil]; exact eS0)
  clear hl eS0 hZ0 hns hxs eLP eRP hX1
  have hqn : 0 < pl.length := by omega
  have qA := hA.five.1
  have q0 := (f0.below hK.below hg).c0
  have q1 := (f1.below hK.below hg).c5
  have q2 := (f2.below hK.below hg).c10
  have q3 := (f3.below hK.below hg).c15
  go_wp2_with fail
  refine (hC1 _ s0 c0 hc2 hP.tab.1 (hr1.below hK.below hB0).at).mono ?_
  rintro e w6 ⟨rfl,hb⟩
  clear qA q0 q1 q2 q3
  replace hA := hA.below hb hA.lt
  replace hK := hK.trans (Wk.of hP.hB hb)
  replace hP := hP.below hb
  clear hb
  have qA := hA.five.1
  have q0 := (f0.below hK.below hg).c0
  have q1 := (f1.below hK.below hg).c5
  have q2 := (f2.below hK.below hg).c10
  have q3 := (f3.below hK.below hg).c15
  go_wp2_with fail
  have hal := Below.al w6 25 #[.int .i64 0,.string rn,.int .i64 rm,.int .i64 a2,.slice s1 rs.length c1]
  replace hA := hA.below hal hA.lt
  replace hK := hK.trans (Wk.of hP.hB hal)
  replace hP := hP.below hal
  clear hal
  clear hC1 qA q0 q1 q2 q3
 rotate_left
 focus
  have hl := HL.out
  rw [eLP,eRP] at hl
  have hns := HNS.out
  have hxs := HXS.out
  obtain ⟨X1,hX1⟩ : ∃ X,X = Pr.tx (Pr.joinP [Pr.s_semi,.sp] (pl.map Pr.param)) := ⟨_,rfl⟩
  obtain ⟨X2,hX2⟩ : ∃ X,X = Pr.tx (Pr.typeName (Tree.node rk rn rm a2 rs)) := ⟨_,rfl⟩
  have eS0 : (⟨#[80,82,79,67,69,68,85,82,69,32]⟩ : ByteArray) ++ n ++ X0 ++ ((⟨#[40]⟩ : ByteArray) ++ X1 ++ (⟨#[41]⟩ : ByteArray)) ++ ((⟨#[58,32]⟩ : ByteArray) ++ X2) ++ (⟨#[59]⟩ : ByteArray) = Pr.tx ([Pr.kPROCEDURE,.sp,Pr.nm n] ++ Pr.star num ++ ([Pr.s_lp] ++ Pr.joinP [Pr.s_semi,.sp] (pl.map Pr.param) ++ [Pr.s_rp]) ++ ([Pr.s_colon,.sp] ++ Pr.typeName (Tree.node rk rn rm a2 rs)) ++ [Pr.s_semi]) := by
   rw [Pr.tx_app,Pr.tx_app,Pr.tx_app,HEH.out,Pr.tx_app ([Pr.s_lp] ++ _),Pr.tx_app [Pr.s_lp],← hX1,Pr.tx_app [Pr.s_colon,_],← hX2]
   rfl
  have hZ0 : 10 + n.size + X0.size + (1 + X1.size + 1) + (2 + X2.size) + 1 ≤ (Pr.txt (Pr.line 0 ([Pr.kPROCEDURE,.sp,Pr.nm n] ++ Pr.star num ++ ([Pr.s_lp] ++ Pr.joinP [Pr.s_semi,.sp] (pl.map Pr.param) ++ [Pr.s_rp]) ++ ([Pr.s_colon,.sp] ++ Pr.typeName (Tree.node rk rn rm a2 rs)) ++ [Pr.s_semi]))).length := by
   rw [txt_line,List.length_append,List.length_append,← Pr.tx_size,← eS0]
   simp only [ByteArray.size_append]
   simp only [ByteArray.size,List.size_toArray,List.length_cons,List.length_nil]
   omega
  have z2_0 : ¬ 9223372036854775807 < 1 + X1.size := by
   try simp only [List.length_append] at hl
   omega
  have z2_1 : ¬ 9223372036854775807 < 1 + X1.size + 1 := by
   try simp only [List.length_append] at hl
   omega
  have z2_2 : ¬ 9223372036854775807 < 10 + n.size + X0.size + (1 + X1.size + 1) := by
   try simp only [List.length_append] at hl
   omega
  have z2_3 : ¬ 9223372036854775807 < 2 + X2.size := by
   try simp only [List.length_append] at hl
   omega
  have z2_4 : ¬ 9223372036854775807 < 10 + n.size + X0.size + (1 + X1.size + 1) + (2 + X2.size) := by
   try simp only [List.length_append] at hl
   omega
  have z2_5 : ¬ 9223372036854775807 < 10 + n.size + X0.size + (1 + X1.size + 1) + (2 + X2.size) + 1 := by
   try simp only [List.length_append] at hl
   omega
  have hC1 : ∀ (w : World) (so : Option Addr) (sc : Nat),pl.length ≤ sc → Tab10 w → RowAt w so pl → Calls Tryz.prog 84 #[.slice so pl.length sc,.string (⟨#[59,32]⟩ : ByteArray),.func (.func 142) #[] #[]] w fun e w' => e = .returned (.string X1) ∧ Below w.heap.size w w' := fun w so sc h1 hw hr => by
   have hlen : (Pr.txt (Pr.joinP [Pr.s_semi,.sp] (pl.map Pr.param))).length ≤ 80000000 := by
    rw [← Pr.tx_size,← hX1]
    (try simp only [List.length_append] at hl)
    omega
   exact say_to (join_says 142 (cf_of Tryz.func142 (by kernel_rfl) (by kernel_rfl)) Pr.param w so sc pl h1 hr (params_len hpl hlen) (fun t ht w' v hb h => param_says (hpl t ht) (params_mem hpl hlen t ht) w' v (hw.below hb) h) [Pr.s_semi,.sp] (by omega)) hX1
  have hC2 : ∀ (w : World) (v : Value),TI w v (Tree.node rk rn rm a2 rs) → Calls Tryz.prog 138 #[v] w fun e w' => e = .returned (.string X2) ∧ Below w.heap.size w w' := fun w v ht => say_to (typeName_says (hr hk0) w v ht) hX2
  have HV : Hid ((⟨#[80,82,79,67,69,68,85,82,69,32]⟩ : ByteArray) ++ n ++ X0 ++ ((⟨#[40]⟩ : ByteArray) ++ X1 ++ (⟨#[41]⟩ : ByteArray)) ++ ((⟨#[58,32]⟩ : ByteArray) ++ X2) ++ (⟨#[59]⟩ : ByteArray) = Pr.tx ([Pr.kPROCEDURE,.sp,Pr.nm n] ++ Pr.star num ++ LP ++ RP ++ [Pr.s_semi])) := Lib.hid (by rw [eLP,eRP]; exact eS0)
  clear hl eS0 hZ0 hns hxs eLP eRP hX1 hX2
  rcases (show pl = [] ∨ 0 < pl.length by cases pl with | nil => exact .inl rfl | cons _ _ => exact .inr (by simp only [List.length_cons]; omega)) with rfl | hqn
  all_goals
   have qA := hA.five.1
   have q0 := (f0.below hK.below hg).c0
   have q1 := (f1.below hK.below hg).c5
   have q2 := (f2.below hK.below hg).c10
   have q3 := (f3.below hK.below hg).c15
   go_wp2_with fail
   refine (hC1 _ s0 c0 hc2 hP.tab.1 (hr1.below hK.below hB0).at).mono ?_
   rintro e w7 ⟨rfl,hb⟩
   clear qA q0 q1 q2 q3
   replace hA := hA.below hb hA.lt
   replace hK := hK.trans (Wk.of hP.hB hb)
   replace hP := hP.below hb
   clear hb
   have qA := hA.five.1
   have q0 := (f0.below hK.below hg).c0
   have q1 := (f1.below hK.below hg).c5
   have q2 := (f2.below hK.below hg).c10
   have q3 := (f3.below hK.below hg).c15
   go_wp2_with fail
   have hal := Below.al w7 25 #[.int .i64 rk,.string rn,.int .i64 rm,.int .i64 a2,.slice s1 rs.length c1]
   replace hA := hA.below hal hA.lt
   replace hK := hK.trans (Wk.of hP.hB hal)
   replace hP := hP.below hal
   clear hal
   refine (hC2 _ _ (t1.below hK.below).ti).mono ?_
   rintro e w8 ⟨rfl,hb⟩
   clear qA q0 q1 q2 q3
   replace hA := hA.below hb hA.lt
   replace hK := hK.trans (Wk.of hP.hB hb)
   replace hP := hP.below hb
   clear hb
   have qA := hA.five.1
   have q0 := (f0.below hK.below hg).c0
   have q1 := (f1.below hK.below hg).c5
   have q2 := (f2.below hK.below hg).c10
   have q3 := (f3.below hK.below hg).c15
   go_wp2_with fail
   clear hC1 hC2 qA q0 q1 q2 q3
 all_goals
  refine (hP.line (by decide) ([Pr.kPROCEDURE,.sp,Pr.nm n] ++ Pr.star num ++ LP ++ RP ++ [Pr.s_semi]) _ HV.out (by have := HL.out; (try simp only [List.length_append] at this ⊢); omega)).mono ?_
  rintro e w9 ⟨rfl,hp,hk⟩
  replace hA := hA.wk hk hne (by decide)
  replace hK := hK.trans hk
  clear hP hk
  have hP := hp
  clear hp
  have qA := hA.five.1
  have q0 := (f0.below hK.below hg).c0
  have q1 := (f1.below hK.below hg).c5
  have q2 := (f2.below hK.below hg).c10
  have q3 := (f3.below hK.below hg).c15
  go_wp2_with fail
  refine (section_says 92 (cf_of Tryz.func92 (by kernel_rfl) (by kernel_rfl)) Pr.variable_ Pr.kVAR (⟨#[86,65,82]⟩ : ByteArray) rfl vl s2 c2 hc4 hP (by decide) (hr3.below hK.below hB0) (fun t ht w' v hw h hsz => var0_says (hvl t ht) w' v hw h hsz) (by have := HL.out; (try simp only [List.length_append] at this ⊢); omega)).mono ?_
  rintro e w10 ⟨rfl,hp,hk⟩
  clear qA q0 q1 q2 q3
  replace hA := hA.wk hk hne (by decide)
  replace hK := hK.trans hk
  clear hP hk
  have hP := hp
  clear hp
  have qA := hA.five.1
  have q0 := (f0.below hK.below hg).c0
  have q1 := (f1.below hK.below hg).c5
  have q2 := (f2.below hK.below hg).c10
  have q3 := (f3.below hK.below hg).c15
  go_wp2_with fail
  refine (hP.line (by decide) [Pr.kBEGIN] (⟨#[66,69,71,73,78]⟩ : ByteArray) rfl (by have := HL.out; (try simp only [List.length_append] at this ⊢); omega)).mono ?_
  rintro e w11 ⟨rfl,hp,hk⟩
  clear qA q0 q1 q2 q3
  replace hA := hA.wk hk hne (by decide)
  replace hK := hK.trans hk
  clear hP hk
  have hP := hp
  clear hp
  have qA := hA.five.1
  have q0 := (f0.below hK.below hg).c0
  have q1 := (f1.below hK.below hg).c5
  have q2 := (f2.below hK.below hg).c10
  have q3 := (f3.below hK.below hg).c15
  go_wp2_with fail
  refine (hc _ _ _ _ _ hP (t3.below hK.below) (by have := HL.out; (try simp only [List.length_append] at this ⊢); omega)).mono ?_
  rintro e w12 ⟨rfl,hp,hk⟩
  clear qA q0 q1 q2 q3
  replace hA := hA.wk hk hne (by decide)
  replace hK := hK.trans hk
  clear hP hk
  have hP := hp
  clear hp
  have qA := hA.five.1
  have q0 := (f0.below hK.below hg).c0
  have q1 := (f1.below hK.below hg).c5
  have q2 := (f2.below hK.below hg).c10
  have q3 := (f3.below hK.below hg).c15
  go_wp2_with fail
  refine (hP.line (by decide) [Pr.kEND,.sp,Pr.nm n,Pr.s_semi] ((⟨#[69,78,68,32]⟩ : ByteArray) ++ n ++ (⟨#[59]⟩ : ByteArray)) HS1.out (by have := HL.out; (try simp only [List.length_append] at this ⊢); omega)).mono ?_
  rintro e w13 ⟨rfl,hp,hk⟩
  clear qA q0 q1 q2 q3
  replace hA := hA.wk hk hne (by decide)
  replace hK := hK.trans hk
  clear hP hk
  have hP := hp
  clear hp
  have qA := hA.five.1
  have q0 := (f0.below hK.below hg).c0
  have q1 := (f1.below hK.below hg).c5
  have q2 := (f2.below hK.below hg).c10
  have q3 := (f3.below hK.below hg).c15
  go_wp2_with fail
  refine ⟨rfl,_,by simp [results,Tryz.results93],rfl,hP.to ?_,hK⟩
  first | rfl | (simp only [List.append_assoc]; done) | simp
theorem proc_says {t : Tree} (ht : Pr.Pproc t) : PrC t := by
 obtain ⟨n,num,a,ps,r,vs,b,rfl,hn,hnum,⟨a1,pl,rfl,hpl⟩,hr,⟨a3,vl,rfl,hvl⟩,hb⟩ := ht
 have hc := Pb_says hb 0 (by decide)
 rcases hr with ⟨a2,rfl⟩ | hr
 ·exact proc_says0 hn hnum hvl hc hpl fun h => absurd rfl h
 ·obtain ⟨rn,rm,a2,rs,rfl⟩ : ∃ rn rm a2 rs,r = .node 13 rn rm a2 rs := by cases hr <;> exact ⟨_,_,_,_,rfl⟩
  exact proc_says0 hn hnum hvl hc hpl fun _ => hr
end Go.Proofs.YtneohanphabneaaGreatDoor
