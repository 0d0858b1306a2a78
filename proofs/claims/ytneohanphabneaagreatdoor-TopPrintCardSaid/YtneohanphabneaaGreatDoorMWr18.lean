/-
  Print's writer: a module. Printed by tools/gen_w2.py.
-/
import Derived.Test.YtneohanphabneaaGreatDoorWr17
namespace Go.Proofs.YtneohanphabneaaGreatDoor
set_option maxRecDepth 100000
set_option maxHeartbeats 8000000
open Go.RowKit Ps
def MoC (t : Tree) : Prop := ∀ (w : World) (B b : Nat) (l : List UInt8) (v : Value),Pen w B b l 0 → TIB w B v t → l.length + (Pr.txt (Pr.module t)).length ≤ 80000000 → Calls Tryz.prog 30 #[.pointer (some ⟨b,0,none⟩),v] w (Wrote w B b (l ++ Pr.txt (Pr.module t)) 0)
theorem constD_says {t : Tree} (ht : Pr.Pdec 4 (Pr.Xe 20) t) (w : World) (v : Value) (hW : Tab10 w) (h : TI w v t) (hsz : (Pr.tx (Pr.const_ t)).size ≤ 100000000) : Calls Tryz.prog 87 #[v] w (Say (Pr.const_ t) w) := by
 obtain ⟨n,num,a,x,rfl,hn,hnum,hx⟩ := ht
 exact const_says hnum (Xe_says hx) hsz w v hW h
theorem namedD_says {t : Tree} (ht : Pr.Pdec 5 Pr.Pty t) (w : World) (v : Value) (hW : Tab10 w) (h : TI w v t) (hsz : (Pr.tx (Pr.named t)).size ≤ 100000000) : Calls Tryz.prog 90 #[v] w (Say (Pr.named t) w) := by
 obtain ⟨n,num,a,x,rfl,hn,hnum,hx⟩ := ht
 exact named_says hnum (typ_says hx) hsz w v hW h
theorem varD_says {t : Tree} (ht : Pr.Pdec 6 Pr.PT t) (w : World) (v : Value) (hW : Tab10 w) (h : TI w v t) (hsz : (Pr.tx (Pr.variable_ t)).size ≤ 100000000) : Calls Tryz.prog 92 #[v] w (Say (Pr.variable_ t) w) := by
 obtain ⟨n,num,a,x,rfl,hn,hnum,hx⟩ := ht
 exact var6_says hnum hx hsz w v hW h
abbrev nmI (i : Tree) : List Pr.Pc := [Pr.nm (Pr.nameT i)]
theorem impD_says {t : Tree} (ht : Pr.Pimp t) (w : World) (v : Value) (hW : Tab10 w) (h : TI w v t) (hsz : (Pr.tx (nmI t)).size ≤ 100000000) : Calls Tryz.prog 85 #[v] w (Say (nmI t) w) := by
 obtain ⟨n,a,rfl,hn⟩ := ht
 exact imp_says hsz w v hW h
theorem if_part {α : Type} (il : List α) (A : List Pr.Pc) : (¬ (0 : Int) < (il.length : Int) ∧ (if il.isEmpty then [] else A) = []) ∨ ((0 : Int) < (il.length : Int) ∧ (if il.isEmpty then [] else A) = A) := by
 cases il with
 | nil => exact .inl ⟨by simp,rfl⟩
 | cons i1 il => exact .inr ⟨by simp only [List.length_cons]; omega,rfl⟩
theorem module_says0 {n : ByteArray} {a a1 a2 a3 a4 a5 a6 : Nat} {il cl tl vl pl bl : List Tree} (hn : isName n = true) (hcl : ∀ t ∈ cl,Pr.Pdec 4 (Pr.Xe 20) t) (htl : ∀ t ∈ tl,Pr.Pdec 5 Pr.Pty t) (hvl : ∀ t ∈ vl,Pr.Pdec 6 Pr.PT t) (hpl : ∀ t ∈ pl,PrC t) (hil : ∀ t ∈ il,Pr.Pimp t) (hc : BlC (Tree.node 1 ⟨#[]⟩ 0 a6 bl) 0) : MoC (Tree.node 2 n 0 a [(Tree.node 1 ⟨#[]⟩ 0 a1 il),(Tree.node 1 ⟨#[]⟩ 0 a2 cl),(Tree.node 1 ⟨#[]⟩ 0 a3 tl),(Tree.node 1 ⟨#[]⟩ 0 a4 vl),(Tree.node 1 ⟨#[]⟩ 0 a5 pl),(Tree.node 1 ⟨#[]⟩ 0 a6 bl)]) := by
 intro w B b l v hP hv hl
 obtain ⟨so,sc,rfl,hsc,hR⟩ := hv.node
 clear hv
 have hIL := if_part il (Pr.line 0 ([Pr.kIMPORT,.sp] ++ Pr.joinP [Pr.s_comma,.sp] (il.map nmI) ++ [Pr.s_semi]))
 obtain ⟨IL,hI0⟩ : ∃ IL,IL = (if il.isEmpty then [] else Pr.line 0 ([Pr.kIMPORT,.sp] ++ Pr.joinP [Pr.s_comma,.sp] (il.map nmI) ++ [Pr.s_semi])) := ⟨_,rfl⟩
 have hBL := if_part bl (Pr.line 0 [Pr.kBEGIN] ++ Pr.block (Tree.node 1 ⟨#[]⟩ 0 a6 bl) 0)
 obtain ⟨BL,hJ0⟩ : ∃ BL,BL = (if bl.isEmpty then [] else Pr.line 0 [Pr.kBEGIN] ++ Pr.block (Tree.node 1 ⟨#[]⟩ 0 a6 bl) 0) := ⟨_,rfl⟩
 rw [← hI0] at hIL
 rw [← hJ0] at hBL
 have eT : Pr.module (Tree.node 2 n 0 a [(Tree.node 1 ⟨#[]⟩ 0 a1 il),(Tree.node 1 ⟨#[]⟩ 0 a2 cl),(Tree.node 1 ⟨#[]⟩ 0 a3 tl),(Tree.node 1 ⟨#[]⟩ 0 a4 vl),(Tree.node 1 ⟨#[]⟩ 0 a5 pl),(Tree.node 1 ⟨#[]⟩ 0 a6 bl)]) = Pr.line 0 [Pr.kMODULE,.sp,Pr.nm n,Pr.s_semi] ++ IL ++ Pr.section_ 0 Pr.kCONST cl Pr.const_ ++ Pr.section_ 0 Pr.kTYPE tl Pr.named ++ Pr.section_ 0 Pr.kVAR vl Pr.variable_ ++ pl.flatMap Pr.proc ++ BL ++ Pr.line 0 [Pr.kEND,.sp,Pr.nm n,Pr.s_dot] := by
  rw [hI0,hJ0]
  rfl
 rw [eT] at hl ⊢
 clear eT hI0 hJ0
 simp only [Pr.txt_app] at hl ⊢
 have eS0 : (⟨#[77,79,68,85,76,69,32]⟩ : ByteArray) ++ n ++ (⟨#[59]⟩ : ByteArray) = Pr.tx ([Pr.kMODULE,.sp,Pr.nm n,Pr.s_semi]) := by
  rw [show [Pr.kMODULE,.sp,Pr.nm n,Pr.s_semi] = [Pr.kMODULE,Pr.Pc.sp] ++ [Pr.nm n] ++ [Pr.s_semi] from rfl,Pr.tx_app,Pr.tx_app,Pr.tx_nm]
  rfl
 have eS1 : (⟨#[69,78,68,32]⟩ : ByteArray) ++ n ++ (⟨#[46]⟩ : ByteArray) = Pr.tx ([Pr.kEND,.sp,Pr.nm n,Pr.s_dot]) := by
  rw [show [Pr.kEND,.sp,Pr.nm n,Pr.s_dot] = [Pr.kEND,Pr.Pc.sp] ++ [Pr.nm n] ++ [Pr.s_dot] from rfl,Pr.tx_app,Pr.tx_app,Pr.tx_nm]
  rfl
 have hns := name_size hn
 have z1_0 : ¬ 9223372036854775807 < 7 + n.size := by
  try simp only [List.length_append] at hl
  omega
 have z1_1 : ¬ 9223372036854775807 < 7 + n.size + 1 := by
  try simp only [List.length_append] at hl
  omega
 have z1_2 : ¬ 9223372036854775807 < 4 + n.size := by
  try simp only [List.length_append] at hl
  omega
 have z1_3 : ¬ 9223372036854775807 < 4 + n.size + 1 := by
  try simp only [List.length_append] at hl
  omega
 have HL := Lib.hid hl
 have hne : w.heap.size ≠ b := by have := hP.lt; omega
 clear hl
 have HS0 := Lib.hid eS0
 have HS1 := Lib.hid eS1
 clear eS0 eS1
 have HIL := Lib.hid hIL
 have HBL := Lib.hid hBL
 clear hIL hBL
 have hA := Blk.new w 25 #[.int .i64 2,.string n,.int .i64 0,.int .i64 a,.slice so 6 sc]
 have hal := Below.al w 25 #[.int .i64 2,.string n,.int .i64 0,.int .i64 a,.slice so 6 sc]
 have hK := Wk.of (b := b) hP.hB hal
 have hB0 := hP.hB
 replace hP := hP.below hal
 clear hal
 obtain ⟨g,o,k0,n0,m0,d0,s0,u0,c0,rfl,hg,e0,f0,t0⟩ := hR.at0
 injection e0 with h1 h2 h3 h4 h5
 subst h1 h2 h3 h4 h5
 obtain ⟨k1,n1,m1,d1,s1,u1,c1,e1,f1,t1⟩ := hR.at1
 injection e1 with h1 h2 h3 h4 h5
 subst h1 h2 h3 h4 h5
 obtain ⟨k2,n2,m2,d2,s2,u2,c2,e2,f2,t2⟩ := hR.at2
 injection e2 with h1 h2 h3 h4 h5
 subst h1 h2 h3 h4 h5
 obtain ⟨k3,n3,m3,d3,s3,u3,c3,e3,f3,t3⟩ := hR.at3
 injection e3 with h1 h2 h3 h4 h5
 subst h1 h2 h3 h4 h5
 obtain ⟨k4,n4,m4,d4,s4,u4,c4,e4,f4,t4⟩ := hR.at4
 injection e4 with h1 h2 h3 h4 h5
 subst h1 h2 h3 h4 h5
 obtain ⟨k5,n5,m5,d5,s5,u5,c5,e5,f5,t5⟩ := hR.at5
 injection e5 with h1 h2 h3 h4 h5
 subst h1 h2 h3 h4 h5
 clear hR
 obtain ⟨hc2,hr1⟩ := t0.row
 obtain ⟨hc4,hr3⟩ := t1.row
 obtain ⟨hc6,hr5⟩ := t2.row
 obtain ⟨hc8,hr7⟩ := t3.row
 obtain ⟨hc10,hr9⟩ := t4.row
 change Calls _ _ #[.pointer (some ⟨b,0,none⟩),NodeC n 2 0 a (some ⟨g,o,none⟩) 6 sc] _ _
 have qA := hA.five.1
 have q0 := (f0.below hK.below hg).c0
 have q1 := (f1.below hK.below hg).c5
 have q2 := (f2.below hK.below hg).c10
 have q3 := (f3.below hK.below hg).c15
 have q4 := (f4.below hK.below hg).c20
 have q5 := (f5.below hK.below hg).c25
 go_enter Tryz.func30,Tryz.ntmps30
 go_wp2_with fail
 refine (hP.line (by decide) [Pr.kMODULE,.sp,Pr.nm n,Pr.s_semi] ((⟨#[77,79,68,85,76,69,32]⟩ : ByteArray) ++ n ++ (⟨#[59]⟩ : ByteArray)) HS0.out (by have := HL.out; (try simp only [List.length_append] at this ⊢); omega)).mono ?_
 rintro e w11 ⟨rfl,hp,hk⟩
 clear qA q0 q1 q2 q3 q4 q5
 replace hA := hA.wk hk hne (by decide)
 replace hK := hK.trans hk
 clear hP hk
 have hP := hp
 clear hp
 rcases HIL.out with ⟨hq0,eIL⟩ | ⟨hq0,eIL⟩
 clear HIL
 case' inl =>
  replace hP := hP.to (show _ = l ++ Pr.txt (Pr.line 0 [Pr.kMODULE,.sp,Pr.nm n,Pr.s_semi]) ++ Pr.txt IL by rw [eIL]; exact (List.append_nil _).symm)
  clear eIL
 case' inr =>
  clear HIL
  obtain ⟨X1,hX1⟩ : ∃ X,X = Pr.tx (Pr.joinP [Pr.s_comma,.sp] (il.map nmI)) := ⟨_,rfl⟩
  have hl := HL.out
  rw [eIL] at hl
  have eS2 : (⟨#[73,77,80,79,82,84,32]⟩ : ByteArray) ++ X1 ++ (⟨#[59]⟩ : ByteArray) = Pr.tx ([Pr.kIMPORT,.sp] ++ Pr.joinP [Pr.s_comma,.sp] (il.map nmI) ++ [Pr.s_semi]) := by
   rw [Pr.tx_app,Pr.tx_app,← hX1]
   rfl
  have hZ2 : X1.size ≤ (Pr.txt (Pr.line 0 ([Pr.kIMPORT,.sp] ++ Pr.joinP [Pr.s_comma,.sp] (il.map nmI) ++ [Pr.s_semi]))).length := by
   rw [txt_line,List.length_append,List.length_append,← Pr.tx_size,← eS2]
   simp only [ByteArray.size_append]
   omega
  have z2_0 : ¬ 9223372036854775807 < 7 + X1.size := by
   try simp only [List.length_append] at hl
   omega
  have z2_1 : ¬ 9223372036854775807 < 7 + X1.size + 1 := by
   try simp only [List.length_append] at hl
   omega
  have hC1 : ∀ (w : World) (so : Option Addr) (sc : Nat),il.length ≤ sc → Tab10 w → RowAt w so il → Calls Tryz.prog 84 #[.slice so il.length sc,.string (⟨#[44,32]⟩ : ByteArray),.func (.func 85) #[] #[]] w fun e w' => e = .returned (.string X1) ∧ Below w.heap.size w w' := fun w so sc h1 hw hr => by
   have hlen : (Pr.txt (Pr.joinP [Pr.s_comma,.sp] (il.map nmI))).length ≤ 80000000 := by
    rw [← Pr.tx_size,← hX1]
    (try simp only [List.length_append] at hl)
    omega
   have hm := join_len [Pr.s_comma,.sp] (by decide) (il.map nmI)
   rw [List.length_map] at hm
   exact say_to (join_says 85 (cf_of Tryz.func85 (by kernel_rfl) (by kernel_rfl)) nmI w so sc il h1 hr (by omega) (fun t ht w' v hb h => impD_says (hil t ht) w' v (hw.below hb) h (by have := join_mem [Pr.s_comma,.sp] (il.map nmI) _ (List.mem_map_of_mem ht); rw [Pr.tx_size]; omega)) [Pr.s_comma,.sp] (by omega)) hX1
  have HS2 := Lib.hid eS2
  have HEI := Lib.hid eIL
  have HL2 := Lib.hid hl
  clear hl hX1 hZ2 eS2 eIL
  have qA := hA.five.1
  have q0 := (f0.below hK.below hg).c0
  have q1 := (f1.below hK.below hg).c5
  have q2 := (f2.below hK.below hg).c10
  have q3 := (f3.below hK.below hg).c15
  have q4 := (f4.below hK.below hg).c20
  have q5 := (f5.below hK.below hg).c25
  go_wp2_with fail
  refine (hC1 _ s0 c0 hc2 hP.tab.1 (hr1.below hK.below hB0).at).mono ?_
  rintro e w12 ⟨rfl,hb⟩
  clear qA q0 q1 q2 q3 q4 q5
  replace hA := hA.below hb hA.lt
  replace hK := hK.trans (Wk.of hP.hB hb)
  replace hP := hP.below hb
  clear hb
  have qA := hA.five.1
  have q0 := (f0.below hK.below hg).c0
  have q1 := (f1.below hK.below hg).c5
  have q2 := (f2.below hK.below hg).c10
  have q3 := (f3.below hK.below hg).c15
  have q4 := (f4.below hK.below hg).c20
  have q5 := (f5.below hK.below hg).c25
  go_wp2_with fail
  refine (hP.line (by decide) ([Pr.kIMPORT,.sp] ++ Pr.joinP [Pr.s_comma,.sp] (il.map nmI) ++ [Pr.s_semi]) ((⟨#[73,77,80,79,82,84,32]⟩ : ByteArray) ++ X1 ++ (⟨#[59]⟩ : ByteArray)) HS2.out (by have := HL2.out; (try simp only [List.length_append] at this ⊢); omega)).mono ?_
  rintro e w13 ⟨rfl,hp,hk⟩
  clear qA q0 q1 q2 q3 q4 q5
  replace hA := hA.wk hk hne (by decide)
  replace hK := hK.trans hk
  clear hP hk
  have hP := hp
  clear hp
  rw [← HEI.out] at hP
  clear HEI HL2 HS2 hC1 z2_0 z2_1
 all_goals
  have qA := hA.five.1
  have q0 := (f0.below hK.below hg).c0
  have q1 := (f1.below hK.below hg).c5
  have q2 := (f2.below hK.below hg).c10
  have q3 := (f3.below hK.below hg).c15
  have q4 := (f4.below hK.below hg).c20
  have q5 := (f5.below hK.below hg).c25
  go_wp2_with fail
  refine (section_says 87 (cf_of Tryz.func87 (by kernel_rfl) (by kernel_rfl)) Pr.const_ Pr.kCONST (⟨#[67,79,78,83,84]⟩ : ByteArray) rfl cl s1 c1 hc4 hP (by decide) (hr3.below hK.below hB0) (fun t ht w' v hw h hsz => constD_says (hcl t ht) w' v hw h hsz) (by have := HL.out; (try simp only [List.length_append] at this ⊢); omega)).mono ?_
  rintro e w14 ⟨rfl,hp,hk⟩
  clear qA q0 q1 q2 q3 q4 q5
  replace hA := hA.wk hk hne (by decide)
  replace hK := hK.trans hk
  clear hP hk
  have hP := hp
  clear hp
  have qA := hA.five.1
  have q0 := (f0.below hK.below hg).c0
  have q1 := (f1.below hK.below hg).c5
  have q2 := (f2.below hK.below hg).c10
  have q3 := (f3.below hK.below hg).c15
  have q4 := (f4.below hK.below hg).c20
  have q5 := (f5.below hK.below hg).c25
  go_wp2_with fail
  refine (section_says 90 (cf_of Tryz.func90 (by kernel_rfl) (by kernel_rfl)) Pr.named Pr.kTYPE (⟨#[84,89,80,69]⟩ : ByteArray) rfl tl s2 c2 hc6 hP (by decide) (hr5.below hK.below hB0) (fun t ht w' v hw h hsz => namedD_says (htl t ht) w' v hw h hsz) (by have := HL.out; (try simp only [List.length_append] at this ⊢); omega)).mono ?_
  rintro e w15 ⟨rfl,hp,hk⟩
  clear qA q0 q1 q2 q3 q4 q5
  replace hA := hA.wk hk hne (by decide)
  replace hK := hK.trans hk
  clear hP hk
  have hP := hp
  clear hp
  have qA := hA.five.1
  have q0 := (f0.below hK.below hg).c0
  have q1 := (f1.below hK.below hg).c5
  have q2 := (f2.below hK.below hg).c10
  have q3 := (f3.below hK.below hg).c15
  have q4 := (f4.below hK.below hg).c20
  have q5 := (f5.below hK.below hg).c25
  go_wp2_with fail
  refine (section_says 92 (cf_of Tryz.func92 (by kernel_rfl) (by kernel_rfl)) Pr.variable_ Pr.kVAR (⟨#[86,65,82]⟩ : ByteArray) rfl vl s3 c3 hc8 hP (by decide) (hr7.below hK.below hB0) (fun t ht w' v hw h hsz => varD_says (hvl t ht) w' v hw h hsz) (by have := HL.out; (try simp only [List.length_append] at this ⊢); omega)).mono ?_
  rintro e w16 ⟨rfl,hp,hk⟩
  clear qA q0 q1 q2 q3 q4 q5
  replace hA := hA.wk hk hne (by decide)
  replace hK := hK.trans hk
  clear hP hk
  have hP := hp
  clear hp
  have qA := hA.five.1
  have q0 := (f0.below hK.below hg).c0
  have q1 := (f1.below hK.below hg).c5
  have q2 := (f2.below hK.below hg).c10
  have q3 := (f3.below hK.below hg).c15
  have q4 := (f4.below hK.below hg).c20
  have q5 := (f5.below hK.below hg).c25
  go_wp2_with fail
  clear qA q0 q1 q2 q3 q4 q5
  obtain ⟨LL,hPL,hLL⟩ : ∃ LL,Pen w16 B b LL 0 ∧ LL = l ++ Pr.txt (Pr.line 0 [Pr.kMODULE,.sp,Pr.nm n,Pr.s_semi]) ++ Pr.txt IL ++ Pr.txt (Pr.section_ 0 Pr.kCONST cl Pr.const_) ++ Pr.txt (Pr.section_ 0 Pr.kTYPE tl Pr.named) ++ Pr.txt (Pr.section_ 0 Pr.kVAR vl Pr.variable_) := ⟨_,hP,rfl⟩
  clear hP
  have HLL : Hid (LL.length + (Pr.txt (pl.flatMap Pr.proc)).length ≤ 80000000) := Lib.hid (by have := HL.out; rw [hLL]; (try simp only [List.length_append] at this ⊢); omega)
  have HLE := Lib.hid hLL
  clear hLL
  have hmx := hr9.max
  go_loopw [55] (fun i wr => ∃ j : Nat,j ≤ pl.length ∧ i = .int .i64 j ∧ Hid (Pen wr B b (LL ++ Pr.txt ((pl.take j).flatMap Pr.proc)) 0) ∧ Hid (Wk B b w16 wr)) (fun i _ => pl.length - (intOf i).toNat)
  case atStart => exact ⟨0,Nat.zero_le _,rfl,Lib.hid (hPL.to (by simp [Pr.txt])),Lib.hid (Wk.refl _ _ _)⟩
  case round =>
   obtain ⟨j,hj,rfl,HP,HKL⟩ := hrel
   have hA := hA.wk HKL.out hne (by decide)
   have hK := hK.trans HKL.out
   clear hPL
   by_cases hlt : j < pl.length
   ·obtain ⟨g0,o0,k0,nm0,num0,at0,su0,us0,sc0,hso0,hgB,hg0,et,f5,t2⟩ := (hr9.below hK.below hB0).nth j hlt
    subst hso0
    clear et
    obtain ⟨u0,u1,u2,u3,u4⟩ := f5
    have j0 : (0 : Int) ≤ (j : Int) := by omega
    have j1 : (j : Int) < (pl.length : Int) := by omega
    have j2 : j < c4 := by omega
    go_wp2_with fail
    have hal : Below wr.heap.size wr (wr.alloc (.cells #[.int .i64 k0,.string nm0,.int .i64 num0,.int .i64 at0,.slice su0 us0.length sc0] 25)) := (Below.refl _ _).alloc (Nat.le_refl _) _
    have hPa := HP.out.below hal
    have hKa := HKL.out.trans (Wk.of HP.out.hB hal)
    have hT := fm_take Pr.proc pl (j + 1)
    rw [fm_succ _ pl j hlt,Pr.txt_app,List.length_append] at hT
    refine (hpl pl[j] (List.getElem_mem hlt) _ _ _ _ _ hPa (t2.below (hal.mono HP.out.hB)) (by have := HLL.out; rw [List.length_append]; omega)).mono ?_
    rintro e w4 ⟨rfl,hP4,hk4⟩
    clear u0 u1 u2 u3 u4 t2 hPa hal hT
    go_wp2_with fail
    go_roundw
    case rel =>
     refine ⟨j + 1,by omega,by go_num,Lib.hid (hP4.to ?_),Lib.hid (hKa.trans hk4)⟩
     rw [fm_succ _ pl j hlt,Pr.txt_app,List.append_assoc]
    case measure => simp [intOf]; omega
   ·have j1 : ¬ (j : Int) < (pl.length : Int) := by omega
    have htk : pl.take j = pl := List.take_of_length_le (by omega)
    have hP := HP.out
    rw [htk,HLE.out] at hP
    clear HP HKL
    rcases HBL.out with ⟨hq2,eBL⟩ | ⟨hq2,eBL⟩
    case' inl =>
     replace hP := hP.to (show _ = l ++ Pr.txt (Pr.line 0 [Pr.kMODULE,.sp,Pr.nm n,Pr.s_semi]) ++ Pr.txt IL ++ Pr.txt (Pr.section_ 0 Pr.kCONST cl Pr.const_) ++ Pr.txt (Pr.section_ 0 Pr.kTYPE tl Pr.named) ++ Pr.txt (Pr.section_ 0 Pr.kVAR vl Pr.variable_) ++ Pr.txt (pl.flatMap Pr.proc) ++ Pr.txt BL by rw [eBL]; exact (List.append_nil _).symm)
     clear eBL
    case' inr =>
     have hl := HL.out
     rw [eBL,Pr.txt_app] at hl
     have HL2 := Lib.hid hl
     have HEB := Lib.hid eBL
     clear hl eBL
     have qA := hA.five.1
     have q0 := (f0.below hK.below hg).c0
     have q1 := (f1.below hK.below hg).c5
     have q2 := (f2.below hK.below hg).c10
     have q3 := (f3.below hK.below hg).c15
     have q4 := (f4.below hK.below hg).c20
     have q5 := (f5.below hK.below hg).c25
     go_wp2_with fail
     refine (hP.line (by decide) [Pr.kBEGIN] (⟨#[66,69,71,73,78]⟩ : ByteArray) rfl (by have := HL2.out; (try simp only [List.length_append] at this ⊢); omega)).mono ?_
     rintro e w17 ⟨rfl,hp,hk⟩
     clear qA q0 q1 q2 q3 q4 q5
     replace hA := hA.wk hk hne (by decide)
     replace hK := hK.trans hk
     clear hP hk
     have hP := hp
     clear hp
     have qA := hA.five.1
     have q0 := (f0.below hK.below hg).c0
     have q1 := (f1.below hK.below hg).c5
     have q2 := (f2.below hK.below hg).c10
     have q3 := (f3.below hK.below hg).c15
     have q4 := (f4.below hK.below hg).c20
     have q5 := (f5.below hK.below hg).c25
     go_wp2_with fail
     refine (hc _ _ _ _ _ hP (t5.below hK.below) (by have := HL2.out; (try simp only [List.length_append] at this ⊢); omega)).mono ?_
     rintro e w18 ⟨rfl,hp,hk⟩
     clear qA q0 q1 q2 q3 q4 q5
     replace hA := hA.wk hk hne (by decide)
     replace hK := hK.trans hk
     clear hP hk
     have hP := hp
     clear hp
     replace hP := hP.to (show _ = l ++ Pr.txt (Pr.line 0 [Pr.kMODULE,.sp,Pr.nm n,Pr.s_semi]) ++ Pr.txt IL ++ Pr.txt (Pr.section_ 0 Pr.kCONST cl Pr.const_) ++ Pr.txt (Pr.section_ 0 Pr.kTYPE tl Pr.named) ++ Pr.txt (Pr.section_ 0 Pr.kVAR vl Pr.variable_) ++ Pr.txt (pl.flatMap Pr.proc) ++ Pr.txt BL by rw [HEB.out,Pr.txt_app,← List.append_assoc])
     clear HEB HL2
    all_goals
     have qA := hA.five.1
     have q0 := (f0.below hK.below hg).c0
     have q1 := (f1.below hK.below hg).c5
     have q2 := (f2.below hK.below hg).c10
     have q3 := (f3.below hK.below hg).c15
     have q4 := (f4.below hK.below hg).c20
     have q5 := (f5.below hK.below hg).c25
     go_wp2_with fail
     refine (hP.line (by decide) [Pr.kEND,.sp,Pr.nm n,Pr.s_dot] ((⟨#[69,78,68,32]⟩ : ByteArray) ++ n ++ (⟨#[46]⟩ : ByteArray)) HS1.out (by have := HL.out; (try simp only [List.length_append] at this ⊢); omega)).mono ?_
     rintro e w19 ⟨rfl,hp,hk⟩
     clear qA q0 q1 q2 q3 q4 q5
     replace hA := hA.wk hk hne (by decide)
     replace hK := hK.trans hk
     clear hP hk
     have hP := hp
     clear hp
     have qA := hA.five.1
     have q0 := (f0.below hK.below hg).c0
     have q1 := (f1.below hK.below hg).c5
     have q2 := (f2.below hK.below hg).c10
     have q3 := (f3.below hK.below hg).c15
     have q4 := (f4.below hK.below hg).c20
     have q5 := (f5.below hK.below hg).c25
     go_wp2_with fail
     refine ⟨rfl,_,by simp [results,Tryz.results30],rfl,hP.to ?_,hK⟩
     first | rfl | (simp only [List.append_assoc]; done) | simp
theorem module_says {t : Tree} (ht : Pr.Pmod t) : MoC t := by
 obtain ⟨n,a,im,cs,ty,vs,ps,b,rfl,hn,⟨a1,il,rfl,hil⟩,⟨a2,cl,rfl,hcl⟩,⟨a3,tl,rfl,htl⟩,⟨a4,vl,rfl,hvl⟩,⟨a5,pl,rfl,hpl⟩,hb⟩ := ht
 have hc := Pb_says hb 0 (by decide)
 have hpr : ∀ t ∈ pl,PrC t := fun t ht => proc_says (hpl t ht)
 obtain ⟨a6,bl,rfl⟩ : ∃ a6 bl,b = .node 1 ⟨#[]⟩ 0 a6 bl := by cases hb; exact ⟨_,_,rfl⟩
 exact module_says0 hn hcl htl hvl hpr hil hc
set_option maxRecDepth 100000
set_option maxHeartbeats 2000000
open Go.RowKit Ps
theorem field_yes {t : Tree} (ht : Pr.Pdec 11 Pr.PT t) : ∀ (w : World) (v : Value),TI w v t → Calls Tryz.prog 130 #[v] w (Yes w) := by
 intro w v h
 obtain ⟨n,num,a,x,rfl,hn,hnum,hx⟩ := ht
 have ht : Pr.Pdec 11 Pr.PT (.node 11 n num a [x]) := ⟨n,num,a,x,rfl,hn,hnum,hx⟩
 have hT := h
 obtain ⟨so,sc,rfl,hsc,hR⟩ := h.node
 clear h
 change Calls _ _ #[NodeC n 11 num a so 1 sc] _ _
 have hA := Blk.new w 25 #[.int .i64 11,.string n,.int .i64 num,.int .i64 a,.slice so 1 sc]
 have hB := Below.al w 25 #[.int .i64 11,.string n,.int .i64 num,.int .i64 a,.slice so 1 sc]
 go_enter Tryz.func130,Tryz.ntmps130
 go_wp2_with fail
 refine (declared_yes 80 (cf_of Tryz.func80 (by kernel_rfl) (by kernel_rfl)) 11 ht (fun t ht => typeName_yes ht) _ _ (hT.below hB)).mono ?_
 rintro e w1 ⟨rfl,hb⟩
 replace hA := hA.below hb hA.lt
 replace hB := hB.trans (hb.mono hB.size)
 clear hb
 have qA := hA.five.1
 go_wp2_with fail
 go_ret
 exact ⟨rfl,hB⟩
theorem param_yes {t : Tree} (ht : Pr.Pdec 8 Pr.PT t) : ∀ (w : World) (v : Value),TI w v t → Calls Tryz.prog 132 #[v] w (Yes w) := by
 intro w v h
 obtain ⟨n,num,a,x,rfl,hn,hnum,hx⟩ := ht
 have ht : Pr.Pdec 8 Pr.PT (.node 8 n num a [x]) := ⟨n,num,a,x,rfl,hn,hnum,hx⟩
 have hT := h
 obtain ⟨so,sc,rfl,hsc,hR⟩ := h.node
 clear h
 change Calls _ _ #[NodeC n 8 num a so 1 sc] _ _
 have hA := Blk.new w 25 #[.int .i64 8,.string n,.int .i64 num,.int .i64 a,.slice so 1 sc]
 have hB := Below.al w 25 #[.int .i64 8,.string n,.int .i64 num,.int .i64 a,.slice so 1 sc]
 go_enter Tryz.func132,Tryz.ntmps132
 go_wp2_with fail
 refine (declared_yes 80 (cf_of Tryz.func80 (by kernel_rfl) (by kernel_rfl)) 8 ht (fun t ht => typeName_yes ht) _ _ (hT.below hB)).mono ?_
 rintro e w2 ⟨rfl,hb⟩
 replace hA := hA.below hb hA.lt
 replace hB := hB.trans (hb.mono hB.size)
 clear hb
 have qA := hA.five.1
 go_wp2_with fail
 go_ret
 exact ⟨rfl,hB⟩
theorem const_yes {t : Tree} (ht : Pr.Pdec 4 (Pr.Xe 20) t) : ∀ (w : World) (v : Value),TI w v t → Calls Tryz.prog 74 #[v] w (Yes w) := by
 intro w v h
 obtain ⟨n,num,a,x,rfl,hn,hnum,hx⟩ := ht
 have ht : Pr.Pdec 4 (Pr.Xe 20) (.node 4 n num a [x]) := ⟨n,num,a,x,rfl,hn,hnum,hx⟩
 have hT := h
 obtain ⟨so,sc,rfl,hsc,hR⟩ := h.node
 clear h
 change Calls _ _ #[NodeC n 4 num a so 1 sc] _ _
 have hA := Blk.new w 25 #[.int .i64 4,.string n,.int .i64 num,.int .i64 a,.slice so 1 sc]
 have hB := Below.al w 25 #[.int .i64 4,.string n,.int .i64 num,.int .i64 a,.slice so 1 sc]
 go_enter Tryz.func74,Tryz.ntmps74
 go_wp2_with fail
 refine (declared_yes 76 (cf_of Tryz.func76 (by kernel_rfl) (by kernel_rfl)) 4 ht (fun t ht => by obtain ⟨M,_,hp,_⟩ := ht; exact Px_yes hp) _ _ (hT.below hB)).mono ?_
 rintro e w3 ⟨rfl,hb⟩
 replace hA := hA.below hb hA.lt
 replace hB := hB.trans (hb.mono hB.size)
 clear hb
 have qA := hA.five.1
 go_wp2_with fail
 go_ret
 exact ⟨rfl,hB⟩
theorem gvar_yes {t : Tree} (ht : Pr.Pdec 6 Pr.PT t) : ∀ (w : World) (v : Value),TI w v t → Calls Tryz.prog 79 #[v] w (Yes w) := by
 intro w v h
 obtain ⟨n,num,a,x,rfl,hn,hnum,hx⟩ := ht
 have ht : Pr.Pdec 6 Pr.PT (.node 6 n num a [x]) := ⟨n,num,a,x,rfl,hn,hnum,hx⟩
 have hT := h
 obtain ⟨so,sc,rfl,hsc,hR⟩ := h.node
 clear h
 change Calls _ _ #[NodeC n 6 num a so 1 sc] _ _
 have hA := Blk.new w 25 #[.int .i64 6,.string n,.int .i64 num,.int .i64 a,.slice so 1 sc]
 have hB := Below.al w 25 #[.int .i64 6,.string n,.int .i64 num,.int .i64 a,.slice so 1 sc]
 go_enter Tryz.func79,Tryz.ntmps79
 go_wp2_with fail
 refine (declared_yes 80 (cf_of Tryz.func80 (by kernel_rfl) (by kernel_rfl)) 6 ht (fun t ht => typeName_yes ht) _ _ (hT.below hB)).mono ?_
 rintro e w4 ⟨rfl,hb⟩
 replace hA := hA.below hb hA.lt
 replace hB := hB.trans (hb.mono hB.size)
 clear hb
 have qA := hA.five.1
 go_wp2_with fail
 go_ret
 exact ⟨rfl,hB⟩
theorem var0_yes {t : Tree} (ht : Pr.Pvar0 t) : ∀ (w : World) (v : Value),TI w v t → Calls Tryz.prog 133 #[v] w (Yes w) := by
 intro w v h
 obtain ⟨n,a,x,rfl,hn,hx⟩ := ht
 have ht : Pr.Pdec 6 Pr.PT (.node 6 n 0 a [x]) := ⟨n,0,a,x,rfl,hn,Nat.zero_le _,hx⟩
 have hT := h
 obtain ⟨so,sc,rfl,hsc,hR⟩ := h.node
 clear h
 change Calls _ _ #[NodeC n 6 0 a so 1 sc] _ _
 have hA := Blk.new w 25 #[.int .i64 6,.string n,.int .i64 0,.int .i64 a,.slice so 1 sc]
 have hB := Below.al w 25 #[.int .i64 6,.string n,.int .i64 0,.int .i64 a,.slice so 1 sc]
 go_enter Tryz.func133,Tryz.ntmps133
 go_wp2_with fail
 refine (declared_yes 80 (cf_of Tryz.func80 (by kernel_rfl) (by kernel_rfl)) 6 ht (fun t ht => typeName_yes ht) _ _ (hT.below hB)).mono ?_
 rintro e w5 ⟨rfl,hb⟩
 replace hA := hA.below hb hA.lt
 replace hB := hB.trans (hb.mono hB.size)
 clear hb
 have qA := hA.five.1
 go_wp2_with fail
 go_ret
 exact ⟨rfl,hB⟩
theorem imp_yes {t : Tree} (ht : Pr.Pimp t) : ∀ (w : World) (v : Value),TI w v t → Calls Tryz.prog 72 #[v] w (Yes w) := by
 intro w v h
 obtain ⟨n,a,rfl,hn⟩ := ht
 obtain ⟨so,sc,rfl,hsc,hR⟩ := h.node
 clear h
 change Calls _ _ #[NodeC n 3 0 a so 0 sc] _ _
 have hA := Blk.new w 25 #[.int .i64 3,.string n,.int .i64 0,.int .i64 a,.slice so 0 sc]
 have hB := Below.al w 25 #[.int .i64 3,.string n,.int .i64 0,.int .i64 a,.slice so 0 sc]
 go_enter Tryz.func72,Tryz.ntmps72
 go_wp2_with fail
 refine (leaf_yes _ 3 n a so sc).mono ?_
 rintro e w6 ⟨rfl,hb⟩
 replace hA := hA.below hb hA.lt
 replace hB := hB.trans (hb.mono hB.size)
 clear hb
 have qA := hA.five.1
 go_wp2_with fail
 refine (sname_yes hn _).mono ?_
 rintro e w7 ⟨rfl,hb⟩
 clear qA
 replace hA := hA.below hb hA.lt
 replace hB := hB.trans (hb.mono hB.size)
 clear hb
 have qA := hA.five.1
 go_wp2_with fail
 go_ret
 exact ⟨rfl,hB⟩
theorem arr_yes {n a : Nat} {x : Tree} (hn : n ≤ 2147483647) (hx : Pr.PT x) (w : World) (v : Value) (h : TI w v (.node 9 ⟨#[]⟩ n a [x])) : Calls Tryz.prog 78 #[v] w (Yes w) := by
 obtain ⟨so,sc,rfl,hsc,hR⟩ := h.node
 clear h
 change Calls _ _ #[NodeC ⟨#[]⟩ 9 n a so 1 sc] _ _
 have hA := Blk.new w 25 #[.int .i64 9,.string ⟨#[]⟩,.int .i64 n,.int .i64 a,.slice so 1 sc]
 have hB := Below.al w 25 #[.int .i64 9,.string ⟨#[]⟩,.int .i64 n,.int .i64 a,.slice so 1 sc]
 obtain ⟨g,o,k0,n0,m0,a0,s0,u0,c0,rfl,hg,-,f0,t0⟩ := hR.at0
 have n0 : (0 : Int) ≤ (n : Int) := by omega
 have n1 : (n : Int) ≤ 2147483647 := by omega
 have qA := hA.five.1
 have q0 := (f0.below hB hg).c0
 go_enter Tryz.func78,Tryz.ntmps78
 go_wp2_with fail
 refine (typeName_yes hx _ _ (t0.below hB)).mono ?_
 rintro e w1 ⟨rfl,hb⟩
 clear qA q0
 replace hA := hA.below hb hA.lt
 replace hB := hB.trans (hb.mono hB.size)
 clear hb
 have qA := hA.five.1
 have q0 := (f0.below hB hg).c0
 go_wp2_with fail
 go_ret
 exact ⟨rfl,hB⟩
theorem ptr_yes {a : Nat} {x : Tree} (hx : Pr.PT x) (w : World) (v : Value) (h : TI w v (.node 12 ⟨#[]⟩ 0 a [x])) : Calls Tryz.prog 78 #[v] w (Yes w) := by
 obtain ⟨so,sc,rfl,hsc,hR⟩ := h.node
 clear h
 change Calls _ _ #[NodeC ⟨#[]⟩ 12 0 a so 1 sc] _ _
 have hA := Blk.new w 25 #[.int .i64 12,.string ⟨#[]⟩,.int .i64 0,.int .i64 a,.slice so 1 sc]
 have hB := Below.al w 25 #[.int .i64 12,.string ⟨#[]⟩,.int .i64 0,.int .i64 a,.slice so 1 sc]
 obtain ⟨g,o,k0,n0,m0,a0,s0,u0,c0,rfl,hg,-,f0,t0⟩ := hR.at0
 have qA := hA.five.1
 have q0 := (f0.below hB hg).c0
 go_enter Tryz.func78,Tryz.ntmps78
 go_wp2_with fail
 refine (plain_yes _ 12 a (some ⟨g,o,none⟩) 1 sc).mono ?_
 rintro e w1 ⟨rfl,hb⟩
 clear qA q0
 replace hA := hA.below hb hA.lt
 replace hB := hB.trans (hb.mono hB.size)
 clear hb
 have qA := hA.five.1
 have q0 := (f0.below hB hg).c0
 go_wp2_with fail
 refine (typeName_yes hx _ _ (t0.below hB)).mono ?_
 rintro e w2 ⟨rfl,hb⟩
 clear qA q0
 replace hA := hA.below hb hA.lt
 replace hB := hB.trans (hb.mono hB.size)
 clear hb
 have qA := hA.five.1
 have q0 := (f0.below hB hg).c0
 go_wp2_with fail
 go_ret
 exact ⟨rfl,hB⟩
theorem rec_yes {a : Nat} {b : Tree} {ts : List Tree} (hb : Pr.Pbase b) (hx : ∀ t ∈ ts,Pr.Pdec 11 Pr.PT t) (w : World) (v : Value) (h : TI w v (.node 10 ⟨#[]⟩ 0 a (b :: ts))) : Calls Tryz.prog 78 #[v] w (Yes w) := by
 obtain ⟨so,sc,rfl,hsc,hR⟩ := h.node
 clear h
 change Calls _ _ #[NodeC ⟨#[]⟩ 10 0 a so (ts.length + 1) sc] _ _
 have hA := Blk.new w 25 #[.int .i64 10,.string ⟨#[]⟩,.int .i64 0,.int .i64 a,.slice so (ts.length + 1) sc]
 have hB := Below.al w 25 #[.int .i64 10,.string ⟨#[]⟩,.int .i64 0,.int .i64 a,.slice so (ts.length + 1) sc]
 obtain ⟨g,o,k0,n0,m0,a0,s0,u0,c0,rfl,hg,-,f0,t0⟩ := hR.at0
 have hT := hR.tail
 clear hR
 have hmx := hT.max
 replace hsc : ts.length + 1 ≤ sc := hsc
 have hl0 : (0 : Int) < ((ts.length + 1 : Nat) : Int) := by omega
 rcases Nat.lt_or_ge 1 sc with h1 | h1
 ·have h2 : (1 : Int) < (sc : Int) := by omega
  have qA := hA.five.1
  have q0 := (f0.below hB hg).c0
  go_enter Tryz.func78,Tryz.ntmps78
  go_wp2_with fail
  refine (plain_yes _ 10 a (some ⟨g,o,none⟩) (ts.length + 1) sc).mono ?_
  rintro e w1 ⟨rfl,hb⟩
  clear qA q0
  replace hA := hA.below hb hA.lt
  replace hB := hB.trans (hb.mono hB.size)
  clear hb
  have qA := hA.five.1
  have q0 := (f0.below hB hg).c0
  go_wp2_with fail
  refine (perhaps_yes hb _ _ (t0.below hB)).mono ?_
  rintro e w2 ⟨rfl,hb⟩
  clear qA q0
  replace hA := hA.below hb hA.lt
  replace hB := hB.trans (hb.mono hB.size)
  clear hb
  have qA := hA.five.1
  have q0 := (f0.below hB hg).c0
  go_wp2_with fail
  refine (each_yes 130 (cf_of Tryz.func130 (by kernel_rfl) (by kernel_rfl)) _ (some ⟨g,o + 5,none⟩) (sc - 1) ts (by omega) (hT.below hB) (fun t ht => field_yes (hx t ht))).mono ?_
  rintro e w3 ⟨rfl,hb⟩
  clear qA q0
  replace hA := hA.below hb hA.lt
  replace hB := hB.trans (hb.mono hB.size)
  clear hb
  have qA := hA.five.1
  have q0 := (f0.below hB hg).c0
  go_wp2_with fail
  go_ret
  exact ⟨rfl,hB⟩
 ·obtain rfl : sc = 1 := by omega
  obtain rfl : ts = [] := by
   cases ts with
   | nil => rfl
   | cons _ _ => simp at hsc
  clear h1
  try simp only [List.length_nil,Nat.zero_add] at hA
  try simp only [List.length_nil,Nat.zero_add] at hB
  try simp only [List.length_nil,Nat.zero_add]
  have qA := hA.five.1
  have q0 := (f0.below hB hg).c0
  go_enter Tryz.func78,Tryz.ntmps78
  go_wp2_with fail
  refine (plain_yes _ 10 a (some ⟨g,o,none⟩) 1 1).mono ?_
  rintro e w4 ⟨rfl,hb⟩
  clear qA q0
  replace hA := hA.below hb hA.lt
  replace hB := hB.trans (hb.mono hB.size)
  clear hb
  have qA := hA.five.1
  have q0 := (f0.below hB hg).c0
  go_wp2_with fail
  refine (perhaps_yes hb _ _ (t0.below hB)).mono ?_
  rintro e w5 ⟨rfl,hb⟩
  clear qA q0
  replace hA := hA.below hb hA.lt
  replace hB := hB.trans (hb.mono hB.size)
  clear hb
  have qA := hA.five.1
  have q0 := (f0.below hB hg).c0
  go_wp2_with fail
  refine (each_yes 130 (cf_of Tryz.func130 (by kernel_rfl) (by kernel_rfl)) _ (some ⟨g,o,none⟩) 0 [] (Nat.le_refl _) (RowAt.empty rfl) (fun t ht => by cases ht)).mono ?_
  rintro e w6 ⟨rfl,hb⟩
  clear qA q0
  replace hA := hA.below hb hA.lt
  replace hB := hB.trans (hb.mono hB.size)
  clear hb
  have qA := hA.five.1
  have q0 := (f0.below hB hg).c0
  go_wp2_with fail
  go_ret
  exact ⟨rfl,hB⟩
theorem typ_yes {t : Tree} (ht : Pr.Pty t) : ∀ (w : World) (v : Value),TI w v t → Calls Tryz.prog 78 #[v] w (Yes w) := by
 intro w v h
 cases ht with
 | arr hn hx => exact arr_yes hn hx w v h
 | ptr hx => exact ptr_yes hx w v h
 | rec_ hb hf => exact rec_yes hb hf w v h
theorem named_yes {t : Tree} (ht : Pr.Pdec 5 Pr.Pty t) : ∀ (w : World) (v : Value),TI w v t → Calls Tryz.prog 77 #[v] w (Yes w) := by
 intro w v h
 obtain ⟨n,num,a,x,rfl,hn,hnum,hx⟩ := ht
 have ht : Pr.Pdec 5 Pr.Pty (.node 5 n num a [x]) := ⟨n,num,a,x,rfl,hn,hnum,hx⟩
 have hT := h
 obtain ⟨so,sc,rfl,hsc,hR⟩ := h.node
 clear h
 change Calls _ _ #[NodeC n 5 num a so 1 sc] _ _
 have hA := Blk.new w 25 #[.int .i64 5,.string n,.int .i64 num,.int .i64 a,.slice so 1 sc]
 have hB := Below.al w 25 #[.int .i64 5,.string n,.int .i64 num,.int .i64 a,.slice so 1 sc]
 go_enter Tryz.func77,Tryz.ntmps77
 go_wp2_with fail
 refine (declared_yes 78 (cf_of Tryz.func78 (by kernel_rfl) (by kernel_rfl)) 5 ht (fun t ht => typ_yes ht) _ _ (hT.below hB)).mono ?_
 rintro e w7 ⟨rfl,hb⟩
 replace hA := hA.below hb hA.lt
 replace hB := hB.trans (hb.mono hB.size)
 clear hb
 have qA := hA.five.1
 go_wp2_with fail
 go_ret
 exact ⟨rfl,hB⟩
end Go.Proofs.YtneohanphabneaaGreatDoor
