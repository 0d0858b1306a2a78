/-
  Print's writer: a section of what is declared.
-/
import Derived.Test.YtneohanphabneaaGreatDoorMWr8
namespace Go.Proofs.YtneohanphabneaaGreatDoor
set_option maxRecDepth 100000
set_option maxHeartbeats 4000000
open Go.RowKit Ps
theorem Pen.cells {w : World} {B b : Nat} {l : List UInt8} {d : Nat} (h : Pen w B b l d) : w.cell? ⟨b,2,none⟩ = some (.int .i64 d) ∧ w.frozen? ⟨b,2,none⟩ = false ∧ w.shape? b = some (76,3) := by
 obtain ⟨_,p,v,_,hk,_⟩ := h.wb
 obtain ⟨_,_,c,_,_,f,s⟩ := hk.cells3
 exact ⟨c,f,s⟩
theorem Pen.to {w : World} {B b : Nat} {l l' : List UInt8} {d : Nat} (h : Pen w B b l d) (e : l = l') : Pen w B b l' d := e ▸ h
theorem section_says (f : FuncId) (hcf : ∀ (x : Value) (w : World),(callFunc f #[x]).run Tryz.prog w = .ok (.enter f #[x]) w) (one : Tree → List Pr.Pc) (word : Pr.Pc) (wb : ByteArray) (hwb : wb = Pr.tx [word]) (ts : List Tree) (so : Option Addr) (sc : Nat) (hsc : ts.length ≤ sc)
  {w : World} {B b : Nat} {l : List UInt8} {d : Nat} (hP : Pen w B b l d) (hd : d + 1 ≤ 1000) (hr : RowB w B so ts) (hf : ∀ t ∈ ts,∀ (w' : World) (v : Value),Tab10 w' → TI w' v t → (Pr.tx (one t)).size ≤ 100000000 → Calls Tryz.prog f #[v] w' (Say (one t) w'))
  (hl : l.length + (Pr.txt (Pr.section_ d word ts one)).length ≤ 80000000) :
  Calls Tryz.prog 86 #[.pointer (some ⟨b,0,none⟩),.string wb,.slice so ts.length sc,.func (.func f) #[] #[]] w (Wrote w B b (l ++ Pr.txt (Pr.section_ d word ts one)) d) := by
 rcases Nat.eq_zero_or_pos ts.length with hz | hz
 ·have hts : ts = [] := List.length_eq_zero_iff.1 hz
  subst hts
  clear hf hr hl
  go_enter Tryz.func86,Tryz.ntmps86
  go_wp2_with fail
  exact ⟨rfl,_,by simp [results,Tryz.results86],rfl,hP.to (List.append_nil _).symm,Wk.refl _ _ _⟩
 have eS : Pr.txt (Pr.section_ d word ts one) = Pr.txt (Pr.line d [word]) ++ Pr.txt (ts.flatMap fun x => Pr.line (d + 1) (one x ++ [Pr.s_semi])) := by
  unfold Pr.section_
  rw [if_neg (by cases ts with
   | nil => simp at hz
   | cons _ _ => simp),Pr.txt_app]
 rw [eS] at hl ⊢
 rw [List.length_append] at hl
 obtain ⟨l1,hl1⟩ : ∃ l1,l1 = l ++ Pr.txt (Pr.line d [word]) := ⟨_,rfl⟩
 have hlen1 : l1.length + (Pr.txt (ts.flatMap fun x => Pr.line (d + 1) (one x ++ [Pr.s_semi]))).length ≤ 80000000 := by rw [hl1,List.length_append]; omega
 have hC0 := hP.line (by omega) [word] wb hwb (by omega)
 rw [← List.append_assoc,← hl1]
 rw [← hl1] at hC0
 have HR := Lib.hid hr
 have HF := Lib.hid hf
 have HB := Lib.hid hP.hB
 have HL := Lib.hid hlen1
 clear hr hf hl hlen1 hl1 hwb eS hP
 have hz0 : ¬ ((ts.length : Int) = 0) := by omega
 have hmx := HR.out.max
 go_enter Tryz.func86,Tryz.ntmps86
 go_wp2_with fail
 refine hC0.mono ?_
 rintro e w1 ⟨rfl,hP1,hk1⟩
 clear hC0
 obtain ⟨c1,c2,c3⟩ := hP1.cells
 go_wp2_with fail
 obtain ⟨hP2,hk2⟩ := hP1.level (d + 1)
 have hk2 := hk1.trans hk2
 obtain ⟨w2,hw2⟩ : ∃ w2,w2 = w1.setCell ⟨b,2,none⟩ (.int .i64 ((d + 1 : Nat) : Int)) := ⟨_,rfl⟩
 rw [← hw2] at hP2 hk2
 clear c1 c2 c3 hP1 hk1
 change Code.wp _ _ _ _ (w1.setCell ⟨b,2,none⟩ (.int .i64 ((d + 1 : Nat) : Int)))
 rw [← hw2]
 clear hw2
 go_loopw [25] (fun i wr => ∃ j : Nat,j ≤ ts.length ∧ i = .int .i64 j ∧ Hid (Pen wr B b (l1 ++ Pr.txt ((ts.take j).flatMap fun x => Pr.line (d + 1) (one x ++ [Pr.s_semi]))) (d + 1)) ∧ Hid (Wk B b w wr)) (fun i _ => ts.length - (intOf i).toNat)
 case atStart => exact ⟨0,Nat.zero_le _,rfl,Lib.hid (hP2.to (by simp [Pr.txt])),Lib.hid hk2⟩
 case round =>
  obtain ⟨j,hj,rfl,HP,HK⟩ := hrel
  by_cases hlt : j < ts.length
  ·obtain ⟨g0,o0,k0,nm0,num0,at0,su0,us0,sc0,rfl,hgB,hg0,et,f5,t2⟩ := (HR.out.below HK.out.below HB.out).nth j hlt
   clear et
   obtain ⟨u0,u1,u2,u3,u4⟩ := f5
   have i0 : (0 : Int) ≤ (j : Int) := by omega
   have i1 : (j : Int) < (ts.length : Int) := by omega
   have i2 : j < sc := by omega
   go_wp2_with fail
   have hal : Below wr.heap.size wr (wr.alloc (.cells #[.int .i64 k0,.string nm0,.int .i64 num0,.int .i64 at0,.slice su0 us0.length sc0] 25)) := (Below.refl _ _).alloc (Nat.le_refl _) _
   have hPa := HP.out.below hal
   have hKa := HK.out.trans (Wk.of HP.out.hB hal)
   have hm := fm_mem (fun x => Pr.line (d + 1) (one x ++ [Pr.s_semi])) ts ts[j] (List.getElem_mem hlt)
   have hT := fm_take (fun x => Pr.line (d + 1) (one x ++ [Pr.s_semi])) ts (j + 1)
   rw [fm_succ _ ts j hlt,Pr.txt_app,List.length_append] at hT
   have hz1 : (Pr.txt (one ts[j])).length + 1 ≤ (Pr.txt (Pr.line (d + 1) (one ts[j] ++ [Pr.s_semi]))).length := by
    rw [txt_line,Pr.txt_app]
    simp only [List.length_append,List.length_replicate,List.length_cons,List.length_nil,show (Pr.txt [Pr.s_semi]).length = 1 from rfl]
    omega
   have hL := HL.out
   have hv := HF.out ts[j] (List.getElem_mem hlt) _ _ hPa.tab.1 (t2.ti.below hal) (by rw [Pr.tx_size]; omega)
   unfold Say at hv
   have eV : Pr.tx (one ts[j]) ++ ⟨#[59]⟩ = Pr.tx (one ts[j] ++ [Pr.s_semi]) := by rw [Pr.tx_app]; rfl
   obtain ⟨V,hV⟩ : ∃ V,V = Pr.tx (one ts[j]) := ⟨_,rfl⟩
   have hVs : V.size + 1 ≤ 80000000 := by rw [hV,Pr.tx_size]; omega
   rw [← hV] at hv eV
   refine hv.mono ?_
   rintro e w3 ⟨rfl,hb3⟩
   have hPb := hPa.below hb3
   have hKb := hKa.trans (Wk.of hPa.hB hb3)
   have hC := hPb.line (by omega) (one ts[j] ++ [Pr.s_semi]) (V ++ ⟨#[59]⟩) eV (by rw [List.length_append]; omega)
   clear u0 u1 u2 u3 u4 t2 hv hV hPa hKa hPb eV hal hm hT hL
   have y1 : ¬ 9223372036854775807 < V.size + 1 := by omega
   go_wp2_with fail
   refine hC.mono ?_
   rintro e w4 ⟨rfl,hP4,hk4⟩
   clear hC
   go_wp2_with fail
   go_roundw
   case rel =>
    refine ⟨j + 1,by omega,by go_num,Lib.hid (hP4.to ?_),Lib.hid (hKb.trans hk4)⟩
    rw [fm_succ _ ts j hlt,Pr.txt_app,List.append_assoc]
   case measure => simp [intOf]; omega
  ·have i1 : ¬ (j : Int) < (ts.length : Int) := by omega
   have htk : ts.take j = ts := List.take_of_length_le (by omega)
   have hP := HP.out
   rw [htk] at hP
   obtain ⟨c1,c2,c3⟩ := hP.cells
   have c1 : wr.cell? ⟨b,2,none⟩ = some (.int .i64 ((d : Int) + 1)) := c1
   have HP2 := Lib.hid hP
   have y1 : (d : Int) + 1 - 1 = d := by omega
   clear HP hP
   go_wp2_with fail
   obtain ⟨hP5,hk5⟩ := HP2.out.level d
   exact ⟨rfl,_,by simp [results,Tryz.results86],rfl,hP5,HK.out.trans hk5⟩
set_option maxRecDepth 100000
set_option maxHeartbeats 4000000
open Go.RowKit Ps
def StC (t : Tree) (d : Nat) : Prop := ∀ (w : World) (B b : Nat) (l : List UInt8) (v : Value) (e : List Pr.Pc),(e = [] ∨ e = [Pr.s_semi]) → Pen w B b l d → TIB w B v t → l.length + (Pr.txt (Pr.stmt t d e)).length ≤ 80000000 → Calls Tryz.prog 143 #[.pointer (some ⟨b,0,none⟩),v,.string (Pr.tx e)] w (Wrote w B b (l ++ Pr.txt (Pr.stmt t d e)) d)
def BlC (t : Tree) (d : Nat) : Prop := ∀ (w : World) (B b : Nat) (l : List UInt8) (v : Value),Pen w B b l d → TIB w B v t → l.length + (Pr.txt (Pr.block t d)).length ≤ 80000000 → Calls Tryz.prog 94 #[.pointer (some ⟨b,0,none⟩),v] w (Wrote w B b (l ++ Pr.txt (Pr.block t d)) d)
theorem block_node (k : Nat) (nm : ByteArray) (num a d : Nat) (ts : List Tree) : Pr.block (.node k nm num a ts) d = Pr.seqS ts (d + 1) := by unfold Pr.block; rfl
theorem seqS_cons (t : Tree) (ts : List Tree) (d : Nat) : Pr.seqS (t :: ts) d = Pr.stmt t d (if ts.isEmpty then [] else [Pr.s_semi]) ++ Pr.seqS ts d := by
 conv => lhs; unfold Pr.seqS
theorem seqS_nil (d : Nat) : Pr.seqS [] d = [] := by unfold Pr.seqS; rfl
theorem block_says {k : Nat} {nm : ByteArray} {num a d : Nat} {ts : List Tree} (hd : d + 1 ≤ 1000) (hs : ∀ t ∈ ts,StC t (d + 1)) : BlC (.node k nm num a ts) d := by
 intro w B b l v hP hv hl
 obtain ⟨so,sc,rfl,hsc,hr⟩ := hv.node
 rw [block_node] at hl ⊢
 have hA := Blk.new w 25 #[.int .i64 k,.string nm,.int .i64 num,.int .i64 a,.slice so ts.length sc]
 have hal : Below w.heap.size w (w.alloc (.cells #[.int .i64 k,.string nm,.int .i64 num,.int .i64 a,.slice so ts.length sc] 25)) := (Below.refl _ _).alloc (Nat.le_refl _) _
 have hne : w.heap.size ≠ b := by have := hP.lt; omega
 obtain ⟨c1,c2,c3⟩ := (hP.below hal).cells
 have HR := Lib.hid hr
 have HF := Lib.hid hs
 have HB := Lib.hid hP.hB
 have HL := Lib.hid hl
 have hmx := hr.max
 have HP0 := Lib.hid hP
 have hk0 := Wk.of (b := b) hP.hB hal
 clear hr hs hl hv hP
 go_enter Tryz.func94,Tryz.ntmps94
 obtain ⟨⟨q1,q2,q3,q4,q5⟩,_⟩ := hA.five
 have e2 : ((w.alloc (.cells #[.int .i64 k,.string nm,.int .i64 num,.int .i64 a,.slice so ts.length sc] 25)).setCell ⟨b,2,none⟩ (.int .i64 ((d : Int) + 1))).cell? ⟨w.heap.size,4,none⟩ = some (.slice so ts.length sc) := by
  exact (hA.setOther ⟨b,2,none⟩ _ hne).cell 4
 go_wp2_with fail
 obtain ⟨hP2,hk2⟩ := (HP0.out.below hal).level (d + 1)
 have hA2 := hA.wk hk2 hne (by decide)
 have hk2 := hk0.trans hk2
 clear q1 q2 q3 q4 q5 e2 c1 c2 c3 hA
 obtain ⟨w2,hw2⟩ : ∃ w2,w2 = (w.alloc (.cells #[.int .i64 k,.string nm,.int .i64 num,.int .i64 a,.slice so ts.length sc] 25)).setCell ⟨b,2,none⟩ (.int .i64 ((d + 1 : Nat) : Int)) := ⟨_,rfl⟩
 rw [← hw2] at hP2 hk2 hA2
 change Code.wp _ _ _ _ ((w.alloc (.cells #[.int .i64 k,.string nm,.int .i64 num,.int .i64 a,.slice so ts.length sc] 25)).setCell ⟨b,2,none⟩ (.int .i64 ((d + 1 : Nat) : Int)))
 rw [← hw2]
 clear hw2 hal
 go_loopw [17] (fun i wr => ∃ (j : Nat) (m : List UInt8),j ≤ ts.length ∧ i = .int .i64 j ∧ m ++ Pr.txt (Pr.seqS (ts.drop j) (d + 1)) = Pr.txt (Pr.seqS ts (d + 1)) ∧ Hid (Pen wr B b (l ++ m) (d + 1)) ∧ Hid (Wk B b w wr) ∧ Hid (Blk wr w.heap.size 25 #[.int .i64 k,.string nm,.int .i64 num,.int .i64 a,.slice so ts.length sc])) (fun i _ => ts.length - (intOf i).toNat)
 case atStart => exact ⟨0,[],Nat.zero_le _,rfl,rfl,Lib.hid (hP2.to (List.append_nil _).symm),Lib.hid hk2,Lib.hid hA2⟩
 case round =>
  obtain ⟨j,m,hj,rfl,hm,HP,HK,HA⟩ := hrel
  by_cases hlt : j < ts.length
  ·obtain ⟨g0,o0,k0,nm0,num0,at0,su0,us0,sc0,rfl,hgB,hg0,et,f5,t2⟩ := (HR.out.below HK.out.below HB.out).nth j hlt
   clear et
   rw [List.drop_eq_getElem_cons hlt,seqS_cons,Pr.txt_app] at hm
   have hem : (ts.drop (j + 1)).isEmpty = decide (j + 1 = ts.length) := by
    rcases h : ts.drop (j + 1) with _ | ⟨x,r⟩
    ·have := congrArg List.length h
     simp at this
     simp; omega
    ·have := congrArg List.length h
     simp at this
     simp; omega
   rw [hem] at hm
   have hA3 := HA.out
   have hal : Below wr.heap.size wr (wr.alloc (.cells #[.int .i64 k0,.string nm0,.int .i64 num0,.int .i64 at0,.slice su0 us0.length sc0] 25)) := (Below.refl _ _).alloc (Nat.le_refl _) _
   have hA4 := hA3.below hal hA3.lt
   have hPa := HP.out.below hal
   have hKa := HK.out.trans (Wk.of HP.out.hB hal)
   have hL := HL.out
   have hmL := congrArg List.length hm
   simp only [List.length_append] at hmL
   have hst := fun e he => HF.out ts[j] (List.getElem_mem hlt) _ B b (l ++ m) _ e he hPa (t2.below (hal.mono HP.out.hB))
   obtain ⟨u0,u1,u2,u3,u4⟩ := f5
   obtain ⟨⟨q1,q2,q3,q4,q5⟩,_⟩ := hA3.five
   obtain ⟨⟨p1,p2,p3,p4,p5⟩,_⟩ := hA4.five
   have i0 : (0 : Int) ≤ (j : Int) := by omega
   have i1 : (j : Int) < (ts.length : Int) := by omega
   have i2 : j < sc := by omega
   by_cases hla : j + 1 = ts.length
   ·have i3 : (ts.length : Int) - 1 = (j : Int) := by omega
    rw [decide_eq_true hla,if_pos rfl] at hm hmL
    have hC := hst [] (.inl rfl) (by rw [List.length_append]; omega)
    have eE : Pr.tx [] = ⟨#[]⟩ := rfl
    rw [eE] at hC
    clear eE hst
    go_wp2_with fail
    refine hC.mono ?_
    rintro e w4 ⟨rfl,hP4,hk4⟩
    have hA5 := hA4.wk hk4 hne (by decide)
    clear u0 u1 u2 u3 u4 q1 q2 q3 q4 q5 p1 p2 p3 p4 p5 hC t2 hPa hal hA3 hA4 hL
    go_wp2_with fail
    go_roundw
    case rel =>
     refine ⟨j + 1,m ++ Pr.txt (Pr.stmt ts[j] (d + 1) []),by omega,by go_num,?_,Lib.hid (hP4.to (List.append_assoc _ _ _)),Lib.hid (hKa.trans hk4),Lib.hid hA5⟩
     rw [List.append_assoc]
     exact hm
    case measure => simp [intOf]; omega
   ·have i3 : ¬ (j : Int) = (ts.length : Int) - 1 := by omega
    rw [decide_eq_false hla,if_neg (by simp)] at hm hmL
    have hC := hst [Pr.s_semi] (.inr rfl) (by rw [List.length_append]; omega)
    have eE : Pr.tx [Pr.s_semi] = ⟨#[59]⟩ := rfl
    rw [eE] at hC
    clear eE hst
    go_wp2_with fail
    refine hC.mono ?_
    rintro e w4 ⟨rfl,hP4,hk4⟩
    have hA5 := hA4.wk hk4 hne (by decide)
    clear u0 u1 u2 u3 u4 q1 q2 q3 q4 q5 p1 p2 p3 p4 p5 hC t2 hPa hal hA3 hA4 hL
    go_wp2_with fail
    go_roundw
    case rel =>
     refine ⟨j + 1,m ++ Pr.txt (Pr.stmt ts[j] (d + 1) [Pr.s_semi]),by omega,by go_num,?_,Lib.hid (hP4.to (List.append_assoc _ _ _)),Lib.hid (hKa.trans hk4),Lib.hid hA5⟩
     rw [List.append_assoc]
     exact hm
    case measure => simp [intOf]; omega
  ·have i1 : ¬ (j : Int) < (ts.length : Int) := by omega
   rw [List.drop_of_length_le (by omega),seqS_nil] at hm
   have hm2 : m = Pr.txt (Pr.seqS ts (d + 1)) := by rw [← hm]; simp [Pr.txt]
   have hP := HP.out
   rw [hm2] at hP
   obtain ⟨c1,c2,c3⟩ := hP.cells
   have c1 : wr.cell? ⟨b,2,none⟩ = some (.int .i64 ((d : Int) + 1)) := c1
   have HP2 := Lib.hid hP
   have y1 : (d : Int) + 1 - 1 = d := by omega
   clear HP hP hm hm2
   go_wp2_with fail
   obtain ⟨hP5,hk5⟩ := HP2.out.level d
   exact ⟨rfl,_,by simp [results,Tryz.results94],rfl,hP5,HK.out.trans hk5⟩
set_option maxRecDepth 100000
set_option maxHeartbeats 2000000
open Go.RowKit Ps
theorem sret0_says {a d : Nat} (hd : d ≤ 1000)  : StC (.node 19 ⟨#[]⟩ 0 a []) d := by
 intro w B b l v e he hP hv hl
 obtain ⟨so,sc,rfl,hsc,hR⟩ := hv.node
 clear hv
 have eT : Pr.stmt (.node 19 ⟨#[]⟩ 0 a []) d e = Pr.line d ([Pr.kRETURN] ++ e) := by
  unfold Pr.stmt
  rw [Pr.blockL_map]
  rfl
 rw [eT] at hl ⊢
 clear eT
 have hE1 : (Pr.tx e).size ≤ 1 := by rcases he with rfl | rfl <;> decide
 obtain ⟨E,hE⟩ : ∃ E,E = Pr.tx e := ⟨_,rfl⟩
 rw [← hE] at hE1 ⊢
 have eS0 : (⟨#[82,69,84,85,82,78]⟩ : ByteArray) ++ E = Pr.tx ([Pr.kRETURN] ++ e) := by
  try simp only [Pr.tx_app,← hE]
  try rfl
 have hZ0 : 6 + E.size ≤ (Pr.txt (Pr.line d ([Pr.kRETURN] ++ e))).length := by
  rw [txt_line,List.length_append,List.length_append,← Pr.tx_size,← eS0]
  try simp only [ByteArray.size_append]
  simp only [ByteArray.size,List.size_toArray,List.length_cons,List.length_nil]
  omega
 have z0_2 : ¬ 9223372036854775807 < 6 + E.size := by
  try simp only [List.length_append] at hl
  omega
 have HL := Lib.hid hl
 have hne : w.heap.size ≠ b := by have := hP.lt; omega
 clear hl  hE he hE1 hZ0
 have HS0 := Lib.hid eS0
 clear eS0
 have hA := Blk.new w 25 #[.int .i64 19,.string ⟨#[]⟩,.int .i64 0,.int .i64 a,.slice so 0 sc]
 have hal := Below.al w 25 #[.int .i64 19,.string ⟨#[]⟩,.int .i64 0,.int .i64 a,.slice so 0 sc]
 have hK := Wk.of (b := b) hP.hB hal
 have hB0 := hP.hB
 replace hP := hP.below hal
 clear hal
 have HN : Hid (d ≤ 1000) := Lib.hid hd
 clear hd
 change Calls _ _ #[.pointer (some ⟨b,0,none⟩),NodeC ⟨#[]⟩ 19 0 a so 0 sc,.string E] _ _
 have qA := hA.five.1
 go_enter Tryz.func143,Tryz.ntmps143
 go_wp2_with fail
 refine (hP.line HN.out ([Pr.kRETURN] ++ e) ((⟨#[82,69,84,85,82,78]⟩ : ByteArray) ++ E) HS0.out (by have := HL.out; (try simp only [List.length_append] at this ⊢); omega)).mono ?_
 rintro e w1 ⟨rfl,hp,hk⟩
 clear qA
 replace hA := hA.wk hk hne (by decide)
 replace hK := hK.trans hk
 clear hP hk
 have hP := hp
 clear hp
 have qA := hA.five.1
 go_wp2_with fail
 refine ⟨rfl,_,by simp [results,Tryz.results143],rfl,hP.to ?_,hK⟩
 first | rfl | (simp only [List.append_assoc]; done) | simp
theorem sret1_says {a d : Nat} {x : Tree} (hd : d ≤ 1000) (hx : ExS x) : StC (.node 19 ⟨#[]⟩ 0 a [x]) d := by
 intro w B b l v e he hP hv hl
 obtain ⟨so,sc,rfl,hsc,hR⟩ := hv.node
 clear hv
 have eT : Pr.stmt (.node 19 ⟨#[]⟩ 0 a [x]) d e = Pr.line d ([Pr.kRETURN,.sp] ++ Pr.expr x 0 ++ e) := by
  unfold Pr.stmt
  rw [Pr.blockL_map]
  rfl
 rw [eT] at hl ⊢
 clear eT
 have hE1 : (Pr.tx e).size ≤ 1 := by rcases he with rfl | rfl <;> decide
 obtain ⟨E,hE⟩ : ∃ E,E = Pr.tx e := ⟨_,rfl⟩
 rw [← hE] at hE1 ⊢
 obtain ⟨X0,hX0⟩ : ∃ X,X = Pr.tx (Pr.expr x 0) := ⟨_,rfl⟩
 have eS0 : (⟨#[82,69,84,85,82,78,32]⟩ : ByteArray) ++ X0 ++ E = Pr.tx ([Pr.kRETURN,.sp] ++ Pr.expr x 0 ++ e) := by
  try simp only [Pr.tx_app,← hX0,← hE]
  try rfl
 have hZ0 : 7 + X0.size + E.size ≤ (Pr.txt (Pr.line d ([Pr.kRETURN,.sp] ++ Pr.expr x 0 ++ e))).length := by
  rw [txt_line,List.length_append,List.length_append,← Pr.tx_size,← eS0]
  try simp only [ByteArray.size_append]
  simp only [ByteArray.size,List.size_toArray,List.length_cons,List.length_nil]
  omega
 have z0_2 : ¬ 9223372036854775807 < 7 + X0.size := by
  try simp only [List.length_append] at hl
  omega
 have z0_3 : ¬ 9223372036854775807 < 7 + X0.size + E.size := by
  try simp only [List.length_append] at hl
  omega
 have hC0 : ExC x 0 X0 := hx.to hX0 (by omega) (by (try simp only [List.length_append] at hl); omega) rfl
 have HL := Lib.hid hl
 have hne : w.heap.size ≠ b := by have := hP.lt; omega
 clear hl hX0 hE he hE1 hZ0
 have HS0 := Lib.hid eS0
 clear eS0
 have hA := Blk.new w 25 #[.int .i64 19,.string ⟨#[]⟩,.int .i64 0,.int .i64 a,.slice so 1 sc]
 have hal := Below.al w 25 #[.int .i64 19,.string ⟨#[]⟩,.int .i64 0,.int .i64 a,.slice so 1 sc]
 have hK := Wk.of (b := b) hP.hB hal
 have hB0 := hP.hB
 replace hP := hP.below hal
 clear hal
 obtain ⟨g,o,k0,n0,m0,a0,s0,u0,c0,rfl,hg,-,f0,t0⟩ := hR.at0
 clear hR
 have HN : Hid (d ≤ 1000) := Lib.hid hd
 clear hd
 change Calls _ _ #[.pointer (some ⟨b,0,none⟩),NodeC ⟨#[]⟩ 19 0 a (some ⟨g,o,none⟩) 1 sc,.string E] _ _
 have qA := hA.five.1
 have q0 := (f0.below hK.below hg).c0
 go_enter Tryz.func143,Tryz.ntmps143
 go_wp2_with fail
 refine (hC0 _ _ hP.tab.1 (t0.below hK.below).ti).mono ?_
 rintro e w2 ⟨rfl,hb⟩
 clear qA q0
 replace hA := hA.below hb hA.lt
 replace hK := hK.trans (Wk.of hP.hB hb)
 replace hP := hP.below hb
 clear hb
 have qA := hA.five.1
 have q0 := (f0.below hK.below hg).c0
 go_wp2_with fail
 refine (hP.line HN.out ([Pr.kRETURN,.sp] ++ Pr.expr x 0 ++ e) ((⟨#[82,69,84,85,82,78,32]⟩ : ByteArray) ++ X0 ++ E) HS0.out (by have := HL.out; (try simp only [List.length_append] at this ⊢); omega)).mono ?_
 rintro e w3 ⟨rfl,hp,hk⟩
 clear qA q0
 replace hA := hA.wk hk hne (by decide)
 replace hK := hK.trans hk
 clear hP hk
 have hP := hp
 clear hp
 have qA := hA.five.1
 have q0 := (f0.below hK.below hg).c0
 go_wp2_with fail
 refine ⟨rfl,_,by simp [results,Tryz.results143],rfl,hP.to ?_,hK⟩
 first | rfl | (simp only [List.append_assoc]; done) | simp
theorem swhile_says {a d : Nat} {x c : Tree} (hd : d ≤ 1000) (hx : ExS x) (hc : BlC c d) : StC (.node 17 ⟨#[]⟩ 0 a [x,c]) d := by
 intro w B b l v e he hP hv hl
 obtain ⟨so,sc,rfl,hsc,hR⟩ := hv.node
 clear hv
 have eT : Pr.stmt (.node 17 ⟨#[]⟩ 0 a [x,c]) d e = Pr.line d ([Pr.kWHILE,.sp] ++ Pr.expr x 0 ++ [.sp,Pr.kDO]) ++ Pr.block c d ++ Pr.line d ([Pr.kEND] ++ e) := by
  unfold Pr.stmt
  rw [Pr.blockL_map]
  rfl
 rw [eT] at hl ⊢
 clear eT
 simp only [Pr.txt_app] at hl ⊢
 have hE1 : (Pr.tx e).size ≤ 1 := by rcases he with rfl | rfl <;> decide
 obtain ⟨E,hE⟩ : ∃ E,E = Pr.tx e := ⟨_,rfl⟩
 rw [← hE] at hE1 ⊢
 obtain ⟨X0,hX0⟩ : ∃ X,X = Pr.tx (Pr.expr x 0) := ⟨_,rfl⟩
 have eS0 : (⟨#[87,72,73,76,69,32]⟩ : ByteArray) ++ X0 ++ (⟨#[32,68,79]⟩ : ByteArray) = Pr.tx ([Pr.kWHILE,.sp] ++ Pr.expr x 0 ++ [.sp,Pr.kDO]) := by
  try simp only [Pr.tx_app,← hX0]
  try rfl
 have hZ0 : 6 + X0.size + 3 ≤ (Pr.txt (Pr.line d ([Pr.kWHILE,.sp] ++ Pr.expr x 0 ++ [.sp,Pr.kDO]))).length := by
  rw [txt_line,List.length_append,List.length_append,← Pr.tx_size,← eS0]
  try simp only [ByteArray.size_append]
  simp only [ByteArray.size,List.size_toArray,List.length_cons,List.length_nil]
  omega
 have z0_2 : ¬ 9223372036854775807 < 6 + X0.size := by
  try simp only [List.length_append] at hl
  omega
 have z0_3 : ¬ 9223372036854775807 < 6 + X0.size + 3 := by
  try simp only [List.length_append] at hl
  omega
 have eS1 : (⟨#[69,78,68]⟩ : ByteArray) ++ E = Pr.tx ([Pr.kEND] ++ e) := by
  try simp only [Pr.tx_app,← hE]
  try rfl
 have hZ1 : 3 + E.size ≤ (Pr.txt (Pr.line d ([Pr.kEND] ++ e))).length := by
  rw [txt_line,List.length_append,List.length_append,← Pr.tx_size,← eS1]
  try simp only [ByteArray.size_append]
  simp only [ByteArray.size,List.size_toArray,List.length_cons,List.length_nil]
  omega
 have z1_2 : ¬ 9223372036854775807 < 3 + E.size := by
  try simp only [List.length_append] at hl
  omega
 have hC0 : ExC x 0 X0 := hx.to hX0 (by omega) (by (try simp only [List.length_append] at hl); omega) rfl
 have HL := Lib.hid hl
 have hne : w.heap.size ≠ b := by have := hP.lt; omega
 clear hl hX0 hE he hE1 hZ0 hZ1
 have HS0 := Lib.hid eS0
 clear eS0
 have HS1 := Lib.hid eS1
 clear eS1
 have hA := Blk.new w 25 #[.int .i64 17,.string ⟨#[]⟩,.int .i64 0,.int .i64 a,.slice so 2 sc]
 have hal := Below.al w 25 #[.int .i64 17,.string ⟨#[]⟩,.int .i64 0,.int .i64 a,.slice so 2 sc]
 have hK := Wk.of (b := b) hP.hB hal
 have hB0 := hP.hB
 replace hP := hP.below hal
 clear hal
 obtain ⟨g,o,k0,n0,m0,a0,s0,u0,c0,rfl,hg,-,f0,t0⟩ := hR.at0
 obtain ⟨k1,n1,m1,a1,s1,u1,c1,-,f1,t1⟩ := hR.at1
 clear hR
 have HN : Hid (d ≤ 1000) := Lib.hid hd
 clear hd
 change Calls _ _ #[.pointer (some ⟨b,0,none⟩),NodeC ⟨#[]⟩ 17 0 a (some ⟨g,o,none⟩) 2 sc,.string E] _ _
 have qA := hA.five.1
 have q0 := (f0.below hK.below hg).c0
 have q1 := (f1.below hK.below hg).c5
 go_enter Tryz.func143,Tryz.ntmps143
 go_wp2_with fail
 refine (hC0 _ _ hP.tab.1 (t0.below hK.below).ti).mono ?_
 rintro e w4 ⟨rfl,hb⟩
 clear qA q0 q1
 replace hA := hA.below hb hA.lt
 replace hK := hK.trans (Wk.of hP.hB hb)
 replace hP := hP.below hb
 clear hb
 have qA := hA.five.1
 have q0 := (f0.below hK.below hg).c0
 have q1 := (f1.below hK.below hg).c5
 go_wp2_with fail
 refine (hP.line HN.out ([Pr.kWHILE,.sp] ++ Pr.expr x 0 ++ [.sp,Pr.kDO]) ((⟨#[87,72,73,76,69,32]⟩ : ByteArray) ++ X0 ++ (⟨#[32,68,79]⟩ : ByteArray)) HS0.out (by have := HL.out; (try simp only [List.length_append] at this ⊢); omega)).mono ?_
 rintro e w5 ⟨rfl,hp,hk⟩
 clear qA q0 q1
 replace hA := hA.wk hk hne (by decide)
 replace hK := hK.trans hk
 clear hP hk
 have hP := hp
 clear hp
 have qA := hA.five.1
 have q0 := (f0.below hK.below hg).c0
 have q1 := (f1.below hK.below hg).c5
 go_wp2_with fail
 refine (hc _ _ _ _ _ hP (t1.below hK.below) (by have := HL.out; (try simp only [List.length_append] at this ⊢); omega)).mono ?_
 rintro e w6 ⟨rfl,hp,hk⟩
 clear qA q0 q1
 replace hA := hA.wk hk hne (by decide)
 replace hK := hK.trans hk
 clear hP hk
 have hP := hp
 clear hp
 have qA := hA.five.1
 have q0 := (f0.below hK.below hg).c0
 have q1 := (f1.below hK.below hg).c5
 go_wp2_with fail
 refine (hP.line HN.out ([Pr.kEND] ++ e) ((⟨#[69,78,68]⟩ : ByteArray) ++ E) HS1.out (by have := HL.out; (try simp only [List.length_append] at this ⊢); omega)).mono ?_
 rintro e w7 ⟨rfl,hp,hk⟩
 clear qA q0 q1
 replace hA := hA.wk hk hne (by decide)
 replace hK := hK.trans hk
 clear hP hk
 have hP := hp
 clear hp
 have qA := hA.five.1
 have q0 := (f0.below hK.below hg).c0
 have q1 := (f1.below hK.below hg).c5
 go_wp2_with fail
 refine ⟨rfl,_,by simp [results,Tryz.results143],rfl,hP.to ?_,hK⟩
 first | rfl | (simp only [List.append_assoc]; done) | simp
theorem srepeat_says {a d : Nat} {c x : Tree} (hd : d ≤ 1000) (hc : BlC c d) (hx : ExS x) : StC (.node 18 ⟨#[]⟩ 0 a [c,x]) d := by
 intro w B b l v e he hP hv hl
 obtain ⟨so,sc,rfl,hsc,hR⟩ := hv.node
 clear hv
 have eT : Pr.stmt (.node 18 ⟨#[]⟩ 0 a [c,x]) d e = Pr.line d ([Pr.kREPEAT]) ++ Pr.block c d ++ Pr.line d ([Pr.kUNTIL,.sp] ++ Pr.expr x 0 ++ e) := by
  unfold Pr.stmt
  rw [Pr.blockL_map]
  rfl
 rw [eT] at hl ⊢
 clear eT
 simp only [Pr.txt_app] at hl ⊢
 have hE1 : (Pr.tx e).size ≤ 1 := by rcases he with rfl | rfl <;> decide
 obtain ⟨E,hE⟩ : ∃ E,E = Pr.tx e := ⟨_,rfl⟩
 rw [← hE] at hE1 ⊢
 obtain ⟨X0,hX0⟩ : ∃ X,X = Pr.tx (Pr.expr x 0) := ⟨_,rfl⟩
 have eS0 : (⟨#[82,69,80,69,65,84]⟩ : ByteArray) = Pr.tx ([Pr.kREPEAT]) := by
  try simp only [Pr.tx_app,← hX0,← hE]
  try rfl
 have hZ0 : 6 ≤ (Pr.txt (Pr.line d ([Pr.kREPEAT]))).length := by
  rw [txt_line,List.length_append,List.length_append,← Pr.tx_size,← eS0]
  try simp only [ByteArray.size_append]
  simp only [ByteArray.size,List.size_toArray,List.length_cons,List.length_nil]
  omega
 have eS1 : (⟨#[85,78,84,73,76,32]⟩ : ByteArray) ++ X0 ++ E = Pr.tx ([Pr.kUNTIL,.sp] ++ Pr.expr x 0 ++ e) := by
  try simp only [Pr.tx_app,← hX0,← hE]
  try rfl
 have hZ1 : 6 + X0.size + E.size ≤ (Pr.txt (Pr.line d ([Pr.kUNTIL,.sp] ++ Pr.expr x 0 ++ e))).length := by
  rw [txt_line,List.length_append,List.length_append,← Pr.tx_size,← eS1]
  try simp only [ByteArray.size_append]
  simp only [ByteArray.size,List.size_toArray,List.length_cons,List.length_nil]
  omega
 have z1_2 : ¬ 9223372036854775807 < 6 + X0.size := by
  try simp only [List.length_append] at hl
  omega
 have z1_3 : ¬ 9223372036854775807 < 6 + X0.size + E.size := by
  try simp only [List.length_append] at hl
  omega
 have hC0 : ExC x 0 X0 := hx.to hX0 (by omega) (by (try simp only [List.length_append] at hl); omega) rfl
 have HL := Lib.hid hl
 have hne : w.heap.size ≠ b := by have := hP.lt; omega
 clear hl hX0 hE he hE1 hZ0 hZ1
 have HS0 := Lib.hid eS0
 clear eS0
 have HS1 := Lib.hid eS1
 clear eS1
 have hA := Blk.new w 25 #[.int .i64 18,.string ⟨#[]⟩,.int .i64 0,.int .i64 a,.slice so 2 sc]
 have hal := Below.al w 25 #[.int .i64 18,.string ⟨#[]⟩,.int .i64 0,.int .i64 a,.slice so 2 sc]
 have hK := Wk.of (b := b) hP.hB hal
 have hB0 := hP.hB
 replace hP := hP.below hal
 clear hal
 obtain ⟨g,o,k0,n0,m0,a0,s0,u0,c0,rfl,hg,-,f0,t0⟩ := hR.at0
 obtain ⟨k1,n1,m1,a1,s1,u1,c1,-,f1,t1⟩ := hR.at1
 clear hR
 have HN : Hid (d ≤ 1000) := Lib.hid hd
 clear hd
 change Calls _ _ #[.pointer (some ⟨b,0,none⟩),NodeC ⟨#[]⟩ 18 0 a (some ⟨g,o,none⟩) 2 sc,.string E] _ _
 have qA := hA.five.1
 have q0 := (f0.below hK.below hg).c0
 have q1 := (f1.below hK.below hg).c5
 go_enter Tryz.func143,Tryz.ntmps143
 go_wp2_with fail
 refine (hP.line HN.out ([Pr.kREPEAT]) ((⟨#[82,69,80,69,65,84]⟩ : ByteArray)) HS0.out (by have := HL.out; (try simp only [List.length_append] at this ⊢); omega)).mono ?_
 rintro e w8 ⟨rfl,hp,hk⟩
 clear qA q0 q1
 replace hA := hA.wk hk hne (by decide)
 replace hK := hK.trans hk
 clear hP hk
 have hP := hp
 clear hp
 have qA := hA.five.1
 have q0 := (f0.below hK.below hg).c0
 have q1 := (f1.below hK.below hg).c5
 go_wp2_with fail
 refine (hc _ _ _ _ _ hP (t0.below hK.below) (by have := HL.out; (try simp only [List.length_append] at this ⊢); omega)).mono ?_
 rintro e w9 ⟨rfl,hp,hk⟩
 clear qA q0 q1
 replace hA := hA.wk hk hne (by decide)
 replace hK := hK.trans hk
 clear hP hk
 have hP := hp
 clear hp
 have qA := hA.five.1
 have q0 := (f0.below hK.below hg).c0
 have q1 := (f1.below hK.below hg).c5
 go_wp2_with fail
 refine (hC0 _ _ hP.tab.1 (t1.below hK.below).ti).mono ?_
 rintro e w10 ⟨rfl,hb⟩
 clear qA q0 q1
 replace hA := hA.below hb hA.lt
 replace hK := hK.trans (Wk.of hP.hB hb)
 replace hP := hP.below hb
 clear hb
 have qA := hA.five.1
 have q0 := (f0.below hK.below hg).c0
 have q1 := (f1.below hK.below hg).c5
 go_wp2_with fail
 refine (hP.line HN.out ([Pr.kUNTIL,.sp] ++ Pr.expr x 0 ++ e) ((⟨#[85,78,84,73,76,32]⟩ : ByteArray) ++ X0 ++ E) HS1.out (by have := HL.out; (try simp only [List.length_append] at this ⊢); omega)).mono ?_
 rintro e w11 ⟨rfl,hp,hk⟩
 clear qA q0 q1
 replace hA := hA.wk hk hne (by decide)
 replace hK := hK.trans hk
 clear hP hk
 have hP := hp
 clear hp
 have qA := hA.five.1
 have q0 := (f0.below hK.below hg).c0
 have q1 := (f1.below hK.below hg).c5
 go_wp2_with fail
 refine ⟨rfl,_,by simp [results,Tryz.results143],rfl,hP.to ?_,hK⟩
 first | rfl | (simp only [List.append_assoc]; done) | simp
theorem sasg_says {a d : Nat} {y x : Tree} (hd : d ≤ 1000) (hy : ExS y) (hx : ExS x) : StC (.node 14 ⟨#[]⟩ 0 a [y,x]) d := by
 intro w B b l v e he hP hv hl
 obtain ⟨so,sc,rfl,hsc,hR⟩ := hv.node
 clear hv
 have eT : Pr.stmt (.node 14 ⟨#[]⟩ 0 a [y,x]) d e = Pr.line d (Pr.expr y 3 ++ [.sp,Pr.s_asg,.sp] ++ Pr.expr x 0 ++ e) := by
  unfold Pr.stmt
  rw [Pr.blockL_map]
  rfl
 rw [eT] at hl ⊢
 clear eT
 have hE1 : (Pr.tx e).size ≤ 1 := by rcases he with rfl | rfl <;> decide
 obtain ⟨E,hE⟩ : ∃ E,E = Pr.tx e := ⟨_,rfl⟩
 rw [← hE] at hE1 ⊢
 obtain ⟨X0,hX0⟩ : ∃ X,X = Pr.tx (Pr.expr y 3) := ⟨_,rfl⟩
 obtain ⟨X1,hX1⟩ : ∃ X,X = Pr.tx (Pr.expr x 0) := ⟨_,rfl⟩
 have eS0 : X0 ++ (⟨#[32,58,61,32]⟩ : ByteArray) ++ X1 ++ E = Pr.tx (Pr.expr y 3 ++ [.sp,Pr.s_asg,.sp] ++ Pr.expr x 0 ++ e) := by
  try simp only [Pr.tx_app,← hX0,← hX1,← hE]
  try rfl
 have hZ0 : X0.size + 4 + X1.size + E.size ≤ (Pr.txt (Pr.line d (Pr.expr y 3 ++ [.sp,Pr.s_asg,.sp] ++ Pr.expr x 0 ++ e))).length := by
  rw [txt_line,List.length_append,List.length_append,← Pr.tx_size,← eS0]
  try simp only [ByteArray.size_append]
  simp only [ByteArray.size,List.size_toArray,List.length_cons,List.length_nil]
  omega
 have z0_2 : ¬ 9223372036854775807 < X0.size + 4 := by
  try simp only [List.length_append] at hl
  omega
 have z0_3 : ¬ 9223372036854775807 < X0.size + 4 + X1.size := by
  try simp only [List.length_append] at hl
  omega
 have z0_4 : ¬ 9223372036854775807 < X0.size + 4 + X1.size + E.size := by
  try simp only [List.length_append] at hl
  omega
 have hC0 : ExC y 3 X0 := hy.to hX0 (by omega) (by (try simp only [List.length_append] at hl); omega) rfl
 have hC1 : ExC x 0 X1 := hx.to hX1 (by omega) (by (try simp only [List.length_append] at hl); omega) rfl
 have HL := Lib.hid hl
 have hne : w.heap.size ≠ b := by have := hP.lt; omega
 clear hl hX0 hX1 hE he hE1 hZ0
 have HS0 := Lib.hid eS0
 clear eS0
 have hA := Blk.new w 25 #[.int .i64 14,.string ⟨#[]⟩,.int .i64 0,.int .i64 a,.slice so 2 sc]
 have hal := Below.al w 25 #[.int .i64 14,.string ⟨#[]⟩,.int .i64 0,.int .i64 a,.slice so 2 sc]
 have hK := Wk.of (b := b) hP.hB hal
 have hB0 := hP.hB
 replace hP := hP.below hal
 clear hal
 obtain ⟨g,o,k0,n0,m0,a0,s0,u0,c0,rfl,hg,-,f0,t0⟩ := hR.at0
 obtain ⟨k1,n1,m1,a1,s1,u1,c1,-,f1,t1⟩ := hR.at1
 clear hR
 have HN : Hid (d ≤ 1000) := Lib.hid hd
 clear hd
 change Calls _ _ #[.pointer (some ⟨b,0,none⟩),NodeC ⟨#[]⟩ 14 0 a (some ⟨g,o,none⟩) 2 sc,.string E] _ _
 have qA := hA.five.1
 have q0 := (f0.below hK.below hg).c0
 have q1 := (f1.below hK.below hg).c5
 go_enter Tryz.func143,Tryz.ntmps143
 go_wp2_with fail
 replace hA := hA.below (drew_below _) hA.lt
 replace hK := hK.trans (Wk.of hP.hB (drew_below _))
 replace hP := hP.below (drew_below _)
 clear qA q0 q1
 refine Ch.wp_region_tree (fun u => Blk u w.heap.size 25 #[.int .i64 14,.string ⟨#[]⟩,.int .i64 0,.int .i64 a,.slice (some ⟨g,o,none⟩) 2 sc] ∧ Wk B b w u) [2,4,8,10] [] (.take 0 (.take 1 (.take 2 (.take 3 (.take 4 (.take 7 (.take 8 (.take 9 (.take 10 (.take 13 (.one 5 (.take 6 (.one 11 (.take 12 (.take 14 (.one 15 .done)))))))))))))))) (by kernel_rfl) (by kernel_rfl) (fun _ _ d _ _ h => by cases d <;> first | exact h | exact ⟨h.1,h.2.drew⟩) ⟨hA,hK⟩ ?_
 repeat
  first
  | refine Ch.treeT_take rfl (by rfl) (by rfl) (fun u => by go_simp; rfl) ?_
  | refine Ch.treeT_load rfl (by rfl) (by rfl) (fun u ⟨hA,hK⟩ => by have qA := (Blk.five hA).1; have q0 := (f0.below hK.below hg).c0; have q1 := (f1.below hK.below hg).c5; go_simp; rfl) ?_
  try simp only [putq]
 refine Ch.treeT_mid rfl (by rfl) (fun K hKK => ?_)
 go_simp
 refine (hC0 _ _ hP.tab.1 (t0.below hK.below).ti).mono ?_
 rintro e w12 ⟨rfl,hb⟩
 replace hA := hA.below hb hA.lt
 replace hK := hK.trans (Wk.of hP.hB hb)
 replace hP := hP.below hb
 clear hb
 refine hKK _ _ ⟨hA,hK⟩ ?_
 clear hKK K
 try simp only [putq]
 refine Ch.treeT_take rfl (by rfl) (by rfl) (fun u => by go_simp; rfl) ?_
 try simp only [putq]
 refine Ch.treeT_mid rfl (by rfl) (fun K hKK => ?_)
 go_simp
 refine (hC1 _ _ hP.tab.1 (t1.below hK.below).ti).mono ?_
 rintro e w13 ⟨rfl,hb⟩
 replace hA := hA.below hb hA.lt
 replace hK := hK.trans (Wk.of hP.hB hb)
 replace hP := hP.below hb
 clear hb
 refine hKK _ _ ⟨hA,hK⟩ ?_
 clear hKK K
 try simp only [putq]
 repeat
  refine Ch.treeT_take rfl (by rfl) (by rfl) (fun u => by go_simp; rfl) ?_
  try simp only [putq]
 refine Ch.treeT_mid rfl (by rfl) (fun K hKK => ?_)
 go_simp
 refine (hP.line HN.out (Pr.expr y 3 ++ [.sp,Pr.s_asg,.sp] ++ Pr.expr x 0 ++ e) (X0 ++ (⟨#[32,58,61,32]⟩ : ByteArray) ++ X1 ++ E) HS0.out (by have := HL.out; (try simp only [List.length_append] at this ⊢); omega)).mono ?_
 rintro e w14 ⟨rfl,hp,hk⟩
 replace hA := hA.wk hk hne (by decide)
 replace hK := hK.trans hk
 clear hP hk
 have hP := hp
 clear hp
 refine hKK _ _ ⟨hA,hK⟩ ?_
 clear hKK K
 try simp only [putq]
 refine Ch.tree_end ?_
 have qA := hA.five.1
 have q0 := (f0.below hK.below hg).c0
 have q1 := (f1.below hK.below hg).c5
 go_wp2_with fail
 refine ⟨rfl,_,by simp [results,Tryz.results143],rfl,hP.to ?_,hK⟩
 first | rfl | (simp only [List.append_assoc]; done) | simp
open Go.RowKit
def entsK : List (Nat × ByteArray) → Nat → List MapEntry
 | [],_ => []
 | k :: r,n => { key := .int .i64 (k.1 : Nat),val := .string k.2,born := n } :: entsK r (n + 1)
theorem entsK_snoc (k : Nat × ByteArray) : ∀ (ks : List (Nat × ByteArray)) (n : Nat),entsK (ks ++ [k]) n = entsK ks n ++ [{ key := .int .i64 (k.1 : Nat),val := .string k.2,born := n + ks.length }]
 | [],n => by simp [entsK]
 | x :: ks,n => by simp [entsK,entsK_snoc k ks (n + 1)]; omega
def MBK (w : World) (g : Nat) (ks : List (Nat × ByteArray)) : Prop := w.heap[g]? = some (.map (entsK ks 0).toArray ks.length)
theorem findNow_entsK (k : Nat) : ∀ (ks : List (Nat × ByteArray)) (n i : Nat),(ks.find? (fun x => decide (x.1 = k)) = none → Instr.findNow (.int .i64) (.int .i64 (k : Nat)) (entsK ks n) i = some none) ∧ (∀ y,ks.find? (fun x => decide (x.1 = k)) = some y → ∃ j,Instr.findNow (.int .i64) (.int .i64 (k : Nat)) (entsK ks n) i = some (some (j,.string y.2)))
 | [],n,i => ⟨fun _ => rfl,fun _ h => by cases h⟩
 | x :: ks,n,i => by
  have ih := findNow_entsK k ks (n + 1) (i + 1)
  by_cases hx : x.1 = k
  ·subst hx
   refine ⟨fun h => by simp at h,fun y hy => ⟨i,?_⟩⟩
   simp at hy
   subst hy
   simp [entsK,Instr.findNow,Instr.sameNow]
  ·have hx' : ((k : Int) == (x.1 : Int)) = false := by simp; omega
   refine ⟨fun h => ?_,fun y hy => ?_⟩
   ·rw [List.find?_cons_of_neg (by simpa using hx)] at h
    have := ih.1 h
    simp only [entsK,Instr.findNow,Instr.sameNow,hx',if_true,this]
   ·rw [List.find?_cons_of_neg (by simpa using hx)] at hy
    obtain ⟨j,hj⟩ := ih.2 y hy
    exact ⟨j,by simp only [entsK,Instr.findNow,Instr.sameNow,hx',if_true,hj]⟩
theorem run_putK {w : World} {g : Nat} {ks : List (Nat × ByteArray)} (h : MBK w g ks) (k : Nat) (v : ByteArray) (hk : ks.find? (fun x => decide (x.1 = k)) = none) :
  ∃ w',(Instr.mapUpdate 169 (.map (some g)) (.int .i64 (k : Nat)) (.string v)).run Tryz.prog w = .ok () w' ∧ MBK w' g (ks ++ [(k,v)]) ∧ Below g w w' := by
 have hf := (findNow_entsK k ks 0 0).1 hk
 unfold MBK at h
 have hset := MapKept.heap_set (o' := .map (entsK (ks ++ [(k,v)]) 0).toArray (ks ++ [(k,v)]).length) h
 refine ⟨{ w with heap := w.heap.setIfInBounds g (.map (entsK (ks ++ [(k,v)]) 0).toArray (ks ++ [(k,v)]).length) },?_,hset.1,⟨rfl,rfl,rfl,by simp,fun i hi => hset.2 i (by omega)⟩⟩
 unfold Instr.mapUpdate
 simp only [Sem.run_bind,run_underlying Tryz.underlying169,Result.andThen,MapKept.run_getObj_map h,MapKept.run_checkKey Tryz.underlying3 (k := .int .i64 (k : Nat)) rfl,MapKept.run_findKey Tryz.underlying3 hf,MapKept.run_setObj_map _ h]
 simp [entsK_snoc]
theorem run_getK {w : World} {g : Nat} {ks : List (Nat × ByteArray)} (h : MBK w g ks) (k : Nat) (y : Nat × ByteArray) (hk : ks.find? (fun x => decide (x.1 = k)) = some y) :
  (Instr.lookup 169 (.map (some g)) (.int .i64 (k : Nat)) false).run Tryz.prog w = .ok (.string y.2) w := by
 unfold MBK at h
 obtain ⟨j,hf⟩ := (findNow_entsK k ks 0 0).2 y hk
 unfold Instr.lookup
 simp only [Sem.run_bind,run_underlying Tryz.underlying169,Result.andThen,MapKept.run_getObj_map h,MapKept.run_checkKey Tryz.underlying3 (k := .int .i64 (k : Nat)) rfl]
 simp [go_sem,MapKept.run_findKey Tryz.underlying3 hf]
theorem wp_putK {ops : Array Oper} {rest : List Oper} {o : Oper} {a : Act} {Q : Exit → Act → World → Prop} {B : Nat} (w0 w : World) (hg : o.guard = none) (m x v : Operand) (hop : o.op = .insert 169 m x v) (g : Nat) (ks : List (Nat × ByteArray)) (k : Nat) (y : ByteArray)
  (hm : a.eval m = .map (some g)) (hx : a.eval x = .int .i64 (k : Nat)) (hv : a.eval v = .string y) (h : MBK w g ks) (hk : ks.find? (fun x => decide (x.1 = k)) = none) (hB : B ≤ g) (hb : Below B w0 w)
  (hK : ∀ w',MBK w' g (ks ++ [(k,y)]) → Below B w0 w' → wpList Tryz.prog ops Q rest (a.put o.dst undef) w') : wpList Tryz.prog ops Q (o :: rest) a w := by
 refine wpList_plain hg fun K' hK' => ?_
 obtain ⟨w',hrun,r1,r2⟩ := run_putK h k y hk
 unfold Oper.wp
 simp [execOp,hop,hm,hx,hv,hrun,Result.andThen]
 exact hK' _ _ (hK w' r1 (hb.trans (r2.mono hB)))
end Go.Proofs.YtneohanphabneaaGreatDoor
