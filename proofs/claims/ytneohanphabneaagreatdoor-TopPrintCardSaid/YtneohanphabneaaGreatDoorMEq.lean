/-
  Trees in memory: what a row holds at a place; the reference's EqualTree says yes for one tree.
-/
import Derived.Test.YtneohanphabneaaGreatDoorChain
import Derived.Test.YtneohanphabneaaGreatDoorSt
import Derived.Test.YtneohanphabneaaGreatDoorMQ3
import Derived.Lib.Hide
namespace Go.Proofs.YtneohanphabneaaGreatDoor
open Go.RowKit Ps
theorem CellsIn.nth {w : World} {S : Nat → Prop} : ∀ {ts : List Tree} {xs : List Value} (i : Nat) (t : Tree),CellsIn w S ts xs → ts[i]? = some t → ∃ k nm num a us sv,t = .node k nm num a us ∧ SubsIn w S t sv ∧
  xs[i * 5]? = some (.int .i64 (k : Nat)) ∧ xs[i * 5 + 1]? = some (.string nm) ∧ xs[i * 5 + 2]? = some (.int .i64 (num : Nat)) ∧ xs[i * 5 + 3]? = some (.int .i64 (a : Nat)) ∧ xs[i * 5 + 4]? = some sv
 | [],xs,i,t,_,h => by simp at h
 | u :: ts,xs,0,t,hc,h => by
  unfold CellsIn at hc
  obtain ⟨k,nm,num,a,us,sv,rest,e,rfl,h1,h2⟩ := hc
  obtain rfl : u = t := by simpa using h
  exact ⟨k,nm,num,a,us,sv,e,h1,rfl,rfl,rfl,rfl,rfl⟩
 | u :: ts,xs,i + 1,t,hc,h => by
  unfold CellsIn at hc
  obtain ⟨k,nm,num,a,us,sv,rest,e,rfl,h1,h2⟩ := hc
  obtain ⟨k,nm,num,a,us,sv2,e2,g0,g1,g2,g3,g4,g5⟩ := CellsIn.nth i t h2 (by simpa using h)
  have hx : ∀ j,(i + 1) * 5 + j = (i * 5 + j) + 5 := fun j => by omega
  refine ⟨k,nm,num,a,us,sv2,e2,g0,?_,?_,?_,?_,?_⟩
  ·rw [show (i + 1) * 5 = i * 5 + 5 from by omega]; exact g1
  ·rw [hx]; exact g2
  ·rw [hx]; exact g3
  ·rw [hx]; exact g4
  ·rw [hx]; exact g5
def Five (w : World) (g i k : Nat) (nm : ByteArray) (num a : Nat) (sv : Value) : Prop :=
 w.cell? ⟨g,i * 5,none⟩ = some (.int .i64 k) ∧ w.cell? ⟨g,i * 5 + 1,none⟩ = some (.string nm) ∧ w.cell? ⟨g,i * 5 + 2,none⟩ = some (.int .i64 num) ∧ w.cell? ⟨g,i * 5 + 3,none⟩ = some (.int .i64 a) ∧ w.cell? ⟨g,i * 5 + 4,none⟩ = some sv
theorem Five.below {w w' : World} {B g i k : Nat} {nm : ByteArray} {num a : Nat} {sv : Value} (h : Five w g i k nm num a sv) (hb : Below B w w') (hg : g < B) : Five w' g i k nm num a sv := by
 obtain ⟨h0,h1,h2,h3,h4⟩ := h
 exact ⟨(hb.cell (p := ⟨g,i * 5,none⟩) hg).trans h0,(hb.cell (p := ⟨g,i * 5 + 1,none⟩) hg).trans h1,(hb.cell (p := ⟨g,i * 5 + 2,none⟩) hg).trans h2,(hb.cell (p := ⟨g,i * 5 + 3,none⟩) hg).trans h3,(hb.cell (p := ⟨g,i * 5 + 4,none⟩) hg).trans h4⟩
theorem RowIn.max {w : World} {S : Nat → Prop} {sv : Value} {ts : List Tree} (h : RowIn w S sv ts) : (ts.length : Int) ≤ 9223372036854775807 := by
 obtain ⟨xs,h,_,_⟩ := h
 rcases h.2 with ⟨_,h⟩ | ⟨_,cap,_,_,_,_,h1,h2,_⟩
 ·omega
 ·simp only [maxLen] at h2; omega
theorem RowIn.nth {w : World} {S : Nat → Prop} {so : Option Addr} {n sc : Nat} {ts : List Tree} (h : RowIn w S (.slice so n sc) ts) (i : Nat) (hi : i < ts.length) : ∃ g k nm num a sv us,so = some ⟨g,0,none⟩ ∧ g < w.heap.size ∧ ts[i] = .node k nm num a us ∧ Five w g i k nm num a sv ∧ TreeIn w S (nodeV k nm num a sv) ts[i] := by
 obtain ⟨xs,hown,hS,hc⟩ := h
 obtain ⟨g,cap,hf,hg⟩ := hown.form (by omega)
 injection hf with h1 h2 h3
 subst h1
 obtain ⟨k,nm,num,a,us,sv,e,h0,g1,g2,g3,g4,g5⟩ := hc.nth i ts[i] (by simp [hi])
 have ha : ∀ j,(⟨g,0,none⟩ : Addr).add j = ⟨g,j,none⟩ := by
  intro j
  unfold Addr.add
  by_cases hj : j = 0
  ·rw [if_pos hj,hj]
  ·rw [if_neg hj]; simp
 have c1 := hown.cells (g := g) rfl _ _ g1
 have c2 := hown.cells (g := g) rfl _ _ g2
 have c3 := hown.cells (g := g) rfl _ _ g3
 have c4 := hown.cells (g := g) rfl _ _ g4
 have c5 := hown.cells (g := g) rfl _ _ g5
 rw [ha] at c1 c2 c3 c4 c5
 exact ⟨g,k,nm,num,a,sv,us,rfl,(own_lt hown g rfl),e,⟨c1,c2,c3,c4,c5⟩,⟨k,nm,num,a,us,sv,e,rfl,h0⟩⟩
set_option maxRecDepth 100000
set_option maxHeartbeats 1000000
open Go.RowKit Ps
abbrev TI (w : World) (v : Value) (t : Tree) : Prop := TreeIn w (fun _ => True) v t
theorem TI.below {w w' : World} {v : Value} {t : Tree} (h : TI w v t) (hb : Below w.heap.size w w') : TI w' v t := TreeIn.turn h fun b hlt _ => ⟨trivial,hb.block b hlt⟩
theorem TI.of {w : World} {S : Nat → Prop} {v : Value} {t : Tree} (h : TreeIn w S v t) : TI w v t := TreeIn.turn h fun _ _ _ => ⟨trivial,rfl⟩
def F5 (w : World) (g o k : Nat) (nm : ByteArray) (num a : Nat) (sv : Value) : Prop :=
 w.cell? ⟨g,o,none⟩ = some (.int .i64 k) ∧ w.cell? ⟨g,o + 1,none⟩ = some (.string nm) ∧ w.cell? ⟨g,o + 2,none⟩ = some (.int .i64 num) ∧ w.cell? ⟨g,o + 3,none⟩ = some (.int .i64 a) ∧ w.cell? ⟨g,o + 4,none⟩ = some sv
theorem F5.below {w w' : World} {B g o k : Nat} {nm : ByteArray} {num a : Nat} {sv : Value} (h : F5 w g o k nm num a sv) (hb : Below B w w') (hg : g < B) : F5 w' g o k nm num a sv := by
 obtain ⟨h0,h1,h2,h3,h4⟩ := h
 exact ⟨(hb.cell (p := ⟨g,o,none⟩) hg).trans h0,(hb.cell (p := ⟨g,o + 1,none⟩) hg).trans h1,(hb.cell (p := ⟨g,o + 2,none⟩) hg).trans h2,(hb.cell (p := ⟨g,o + 3,none⟩) hg).trans h3,(hb.cell (p := ⟨g,o + 4,none⟩) hg).trans h4⟩
theorem F5.c0 {w : World} {g o k : Nat} {nm : ByteArray} {num a : Nat} {sv : Value} (h : F5 w g (o + 0) k nm num a sv) : w.cell? ⟨g,o,none⟩ = some (.int .i64 k) ∧ w.cell? ⟨g,o + 1,none⟩ = some (.string nm) ∧ w.cell? ⟨g,o + 2,none⟩ = some (.int .i64 num) ∧ w.cell? ⟨g,o + 3,none⟩ = some (.int .i64 a) ∧ w.cell? ⟨g,o + 4,none⟩ = some sv := h
theorem F5.c5 {w : World} {g o k : Nat} {nm : ByteArray} {num a : Nat} {sv : Value} (h : F5 w g (o + 5) k nm num a sv) : w.cell? ⟨g,o + 5,none⟩ = some (.int .i64 k) ∧ w.cell? ⟨g,o + 6,none⟩ = some (.string nm) ∧ w.cell? ⟨g,o + 7,none⟩ = some (.int .i64 num) ∧ w.cell? ⟨g,o + 8,none⟩ = some (.int .i64 a) ∧ w.cell? ⟨g,o + 9,none⟩ = some sv := h
theorem F5.c10 {w : World} {g o k : Nat} {nm : ByteArray} {num a : Nat} {sv : Value} (h : F5 w g (o + 10) k nm num a sv) : w.cell? ⟨g,o + 10,none⟩ = some (.int .i64 k) ∧ w.cell? ⟨g,o + 11,none⟩ = some (.string nm) ∧ w.cell? ⟨g,o + 12,none⟩ = some (.int .i64 num) ∧ w.cell? ⟨g,o + 13,none⟩ = some (.int .i64 a) ∧ w.cell? ⟨g,o + 14,none⟩ = some sv := h
theorem F5.c15 {w : World} {g o k : Nat} {nm : ByteArray} {num a : Nat} {sv : Value} (h : F5 w g (o + 15) k nm num a sv) : w.cell? ⟨g,o + 15,none⟩ = some (.int .i64 k) ∧ w.cell? ⟨g,o + 16,none⟩ = some (.string nm) ∧ w.cell? ⟨g,o + 17,none⟩ = some (.int .i64 num) ∧ w.cell? ⟨g,o + 18,none⟩ = some (.int .i64 a) ∧ w.cell? ⟨g,o + 19,none⟩ = some sv := h
theorem F5.c20 {w : World} {g o k : Nat} {nm : ByteArray} {num a : Nat} {sv : Value} (h : F5 w g (o + 20) k nm num a sv) : w.cell? ⟨g,o + 20,none⟩ = some (.int .i64 k) ∧ w.cell? ⟨g,o + 21,none⟩ = some (.string nm) ∧ w.cell? ⟨g,o + 22,none⟩ = some (.int .i64 num) ∧ w.cell? ⟨g,o + 23,none⟩ = some (.int .i64 a) ∧ w.cell? ⟨g,o + 24,none⟩ = some sv := h
theorem F5.c25 {w : World} {g o k : Nat} {nm : ByteArray} {num a : Nat} {sv : Value} (h : F5 w g (o + 25) k nm num a sv) : w.cell? ⟨g,o + 25,none⟩ = some (.int .i64 k) ∧ w.cell? ⟨g,o + 26,none⟩ = some (.string nm) ∧ w.cell? ⟨g,o + 27,none⟩ = some (.int .i64 num) ∧ w.cell? ⟨g,o + 28,none⟩ = some (.int .i64 a) ∧ w.cell? ⟨g,o + 29,none⟩ = some sv := h
theorem Below.al (w : World) (t : TypeId) (cs : Array Value) : Below w.heap.size w (w.alloc (.cells cs t)) := (Below.refl _ _).alloc (Nat.le_refl _) _
structure RowAt (w : World) (so : Option Addr) (ts : List Tree) : Prop where
 max : (ts.length : Int) ≤ 9223372036854775807
 nth : ∀ i (h : i < ts.length),∃ g o k nm num a su us sc,so = some ⟨g,o,none⟩ ∧ g < w.heap.size ∧ ts[i] = .node k nm num a us ∧ F5 w g (o + i * 5) k nm num a (.slice su us.length sc) ∧ TI w (.agg #[.int .i64 k,.string nm,.int .i64 num,.int .i64 a,.slice su us.length sc]) ts[i]
theorem RowAt.below {w w' : World} {so : Option Addr} {ts : List Tree} (h : RowAt w so ts) (hb : Below w.heap.size w w') : RowAt w' so ts := by
 refine ⟨h.max,fun i hi => ?_⟩
 obtain ⟨g,o,k,nm,num,a,su,us,sc,h1,h2,h3,h4,h5⟩ := h.nth i hi
 exact ⟨g,o,k,nm,num,a,su,us,sc,h1,by have := hb.size; omega,h3,h4.below hb h2,h5.below hb⟩
theorem RowAt.of {w : World} {S : Nat → Prop} {so : Option Addr} {n sc : Nat} {ts : List Tree} (h : RowIn w S (.slice so n sc) ts) : RowAt w so ts := by
 refine ⟨h.max,fun i hi => ?_⟩
 obtain ⟨g,k,nm,num,a,sv,us,h1,h2,h3,h4,h5⟩ := h.nth i hi
 obtain ⟨k',nm',num',a',us',sv',e,e2,r⟩ := h5.parts
 obtain ⟨o,c,e3⟩ := r.form
 unfold nodeV at e2
 injection e2 with e2
 simp only [Array.mk.injEq,List.cons.injEq,Value.int.injEq,Value.string.injEq,and_true,true_and] at e2
 obtain ⟨e4,e5,e6,e7,e8⟩ := e2
 have hu : us = us' := by rw [h3] at e; injection e
 subst hu
 rw [e3] at e8
 subst e8
 have h4' : F5 w g (0 + i * 5) k nm num a (.slice o us.length c) := by rw [Nat.zero_add]; exact h4
 exact ⟨g,0,k,nm,num,a,o,us,c,h1,h2,h3,h4',TI.of h5⟩
theorem RowAt.at0 {w : World} {so : Option Addr} {x : Tree} {ts : List Tree} (h : RowAt w so (x :: ts)) : ∃ g o k nm num a su us sc,so = some ⟨g,o,none⟩ ∧ g < w.heap.size ∧ x = .node k nm num a us ∧ F5 w g (o + 0) k nm num a (.slice su us.length sc) ∧ TI w (.agg #[.int .i64 k,.string nm,.int .i64 num,.int .i64 a,.slice su us.length sc]) x := h.nth 0 (by simp)
theorem RowAt.ati {w : World} {g o : Nat} {ts : List Tree} (h : RowAt w (some ⟨g,o,none⟩) ts) (i : Nat) (hi : i < ts.length) : ∃ k nm num a su us sc,ts[i] = .node k nm num a us ∧ F5 w g (o + i * 5) k nm num a (.slice su us.length sc) ∧ TI w (.agg #[.int .i64 k,.string nm,.int .i64 num,.int .i64 a,.slice su us.length sc]) ts[i] := by
 obtain ⟨g',o',k,nm,num,a,su,us,sc,h1,h2,h3⟩ := h.nth i hi
 injection h1 with h1
 injection h1 with e1 e2
 subst e1 e2
 exact ⟨k,nm,num,a,su,us,sc,h3⟩
theorem RowAt.at1 {w : World} {g o : Nat} {x0 x1 : Tree} {ts : List Tree} (h : RowAt w (some ⟨g,o,none⟩) (x0 :: x1 :: ts)) : ∃ k nm num a su us sc,x1 = .node k nm num a us ∧ F5 w g (o + 5) k nm num a (.slice su us.length sc) ∧ TI w (.agg #[.int .i64 k,.string nm,.int .i64 num,.int .i64 a,.slice su us.length sc]) x1 := h.ati 1 (by simp)
theorem RowAt.at2 {w : World} {g o : Nat} {x0 x1 x2 : Tree} {ts : List Tree} (h : RowAt w (some ⟨g,o,none⟩) (x0 :: x1 :: x2 :: ts)) : ∃ k nm num a su us sc,x2 = .node k nm num a us ∧ F5 w g (o + 10) k nm num a (.slice su us.length sc) ∧ TI w (.agg #[.int .i64 k,.string nm,.int .i64 num,.int .i64 a,.slice su us.length sc]) x2 := h.ati 2 (by simp)
theorem RowAt.at3 {w : World} {g o : Nat} {x0 x1 x2 x3 : Tree} {ts : List Tree} (h : RowAt w (some ⟨g,o,none⟩) (x0 :: x1 :: x2 :: x3 :: ts)) : ∃ k nm num a su us sc,x3 = .node k nm num a us ∧ F5 w g (o + 15) k nm num a (.slice su us.length sc) ∧ TI w (.agg #[.int .i64 k,.string nm,.int .i64 num,.int .i64 a,.slice su us.length sc]) x3 := h.ati 3 (by simp)
theorem RowAt.at4 {w : World} {g o : Nat} {x0 x1 x2 x3 x4 : Tree} {ts : List Tree} (h : RowAt w (some ⟨g,o,none⟩) (x0 :: x1 :: x2 :: x3 :: x4 :: ts)) : ∃ k nm num a su us sc,x4 = .node k nm num a us ∧ F5 w g (o + 20) k nm num a (.slice su us.length sc) ∧ TI w (.agg #[.int .i64 k,.string nm,.int .i64 num,.int .i64 a,.slice su us.length sc]) x4 := h.ati 4 (by simp)
theorem RowAt.at5 {w : World} {g o : Nat} {x0 x1 x2 x3 x4 x5 : Tree} {ts : List Tree} (h : RowAt w (some ⟨g,o,none⟩) (x0 :: x1 :: x2 :: x3 :: x4 :: x5 :: ts)) : ∃ k nm num a su us sc,x5 = .node k nm num a us ∧ F5 w g (o + 25) k nm num a (.slice su us.length sc) ∧ TI w (.agg #[.int .i64 k,.string nm,.int .i64 num,.int .i64 a,.slice su us.length sc]) x5 := h.ati 5 (by simp)
theorem TI.node {w : World} {v : Value} {k : Nat} {nm : ByteArray} {num a : Nat} {ts : List Tree} (h : TI w v (.node k nm num a ts)) : ∃ so sc,v = .agg #[.int .i64 k,.string nm,.int .i64 num,.int .i64 a,.slice so ts.length sc] ∧ ts.length ≤ sc ∧ RowAt w so ts := by
 obtain ⟨k',nm',num',a',us,sv,e,rfl,r⟩ := h.parts
 injection e with e1 e2 e3 e4 e5
 subst e1 e2 e3 e4 e5
 have hr := r
 obtain ⟨xs,hown,_,_⟩ := hr
 obtain ⟨so,sc,rfl⟩ := r.form
 refine ⟨so,sc,rfl,?_,RowAt.of r⟩
 rcases hown.2 with ⟨e,h0⟩ | ⟨_,cap,_,e,_,_,h1,_⟩
 ·omega
 ·injection e with _ _ e
  omega
abbrev Yes (w : World) (e : Ending) (w' : World) : Prop := e = .returned (.bool true) ∧ Below w.heap.size w w'
abbrev NodeC (nm : ByteArray) (k num a : Int) (so : Option Addr) (n sc : Nat) : Value := .agg #[.int .i64 k,.string nm,.int .i64 num,.int .i64 a,.slice so n sc]
theorem leaf_yes (w : World) (k : Int) (nm : ByteArray) (a : Int) (so : Option Addr) (sc : Nat) : Calls Tryz.prog 73 #[NodeC nm k 0 a so 0 sc,.int .i64 k] w (Yes w) := by
 go_enter Tryz.func73,Tryz.ntmps73
 go_wp2_with fail
 go_ret
 exact ⟨rfl,(Below.refl _ _).alloc (Nat.le_refl _) _⟩
theorem plain_yes (w : World) (k : Int) (a : Int) (so : Option Addr) (n sc : Nat) : Calls Tryz.prog 125 #[NodeC ⟨#[]⟩ k 0 a so n sc,.int .i64 k,.int .i64 n] w (Yes w) := by
 go_enter Tryz.func125,Tryz.ntmps125
 go_wp2_with fail
 go_ret
 exact ⟨rfl,(Below.refl _ _).alloc (Nat.le_refl _) _⟩
theorem plain_no (w : World) (k k' m : Int) (hk : (k == k') = false) (nm : ByteArray) (num a : Int) (so : Option Addr) (n sc : Nat) : Calls Tryz.prog 125 #[NodeC nm k num a so n sc,.int .i64 k',.int .i64 m] w fun e w' => e = .returned (.bool false) ∧ Below w.heap.size w w' := by
 go_enter Tryz.func125,Tryz.ntmps125
 go_wp2_with fail
 go_ret
 exact ⟨rfl,(Below.refl _ _).alloc (Nat.le_refl _) _⟩
theorem sname_yes {s : ByteArray} (h : isName s = true) (w : World) : Calls Tryz.prog 70 #[.string s] w (Yes w) := by
 have hs : s.size ≤ 100000 := by
  unfold isName at h
  simp only [Bool.and_eq_true,decide_eq_true_eq] at h
  omega
 have := sname_any s w hs
 rw [h] at this
 exact this
theorem each_yes (f : FuncId) (hcf : ∀ (x : Value) (w : World),(callFunc f #[x]).run Tryz.prog w = .ok (.enter f #[x]) w) (w : World) (so : Option Addr) (sc : Nat) (ts : List Tree) (hsc : ts.length ≤ sc) (hr : RowAt w so ts) (hf : ∀ t ∈ ts,∀ (w' : World) (v : Value),TI w' v t → Calls Tryz.prog f #[v] w' (Yes w')) :
  Calls Tryz.prog 126 #[.slice so ts.length sc,.func (.func f) #[] #[]] w (Yes w) := by
 have hmax := hr.max
 have HR := Lib.hid hr
 have HF := Lib.hid hf
 clear hr hf
 go_enter Tryz.func126,Tryz.ntmps126
 go_wp2_with fail
 go_loopw [9] (fun i wr => ∃ j : Nat,j ≤ ts.length ∧ i = .int .i64 j ∧ Hid (Below w.heap.size w wr)) (fun i _ => ts.length - (intOf i).toNat)
 case atStart => exact ⟨0,Nat.zero_le _,rfl,Lib.hid (Below.refl _ _)⟩
 case round =>
  obtain ⟨j,hj,rfl,HB⟩ := hrel
  by_cases hlt : j < ts.length
  ·obtain ⟨g,o,k,nm,num,a,su,us,sc2,rfl,hg,et,f5,t1⟩ := (HR.out.below HB.out).nth j hlt
   obtain ⟨a0,a1,a2,a3,a4⟩ := f5
   have i0 : (0 : Int) ≤ (j : Int) := by omega
   have i1 : (j : Int) < (ts.length : Int) := by omega
   have i2 : j < sc := by omega
   go_wp2_with fail
   refine (HF.out ts[j] (List.getElem_mem hlt) _ _ (t1.below ((Below.refl _ _).alloc (Nat.le_refl _) _))).mono ?_
   rintro e w2 ⟨rfl,hb2⟩
   go_wp2_with fail
   go_roundw
   case rel => exact ⟨j + 1,by omega,by go_num,Lib.hid ((HB.out.alloc HB.out.size _).trans (hb2.mono (by have := HB.out.size; simp; omega)))⟩
   case measure => simp [intOf]; omega
  ·have i1 : ¬ (j : Int) < (ts.length : Int) := by omega
   go_wp2_with fail
   go_ret
   exact ⟨rfl,HB.out⟩
theorem cf_of {f : FuncId} {fn : Func} (hf : Tryz.prog.funcs[f]? = some fn) (h1 : (fn.name == "runtime.NumGoroutine") = false) (h2 : fn.body.isNone = false) (x : Value) (w : World) : (callFunc f #[x]).run Tryz.prog w = .ok (.enter f #[x]) w := by
 have h1 : ¬ fn.name = "runtime.NumGoroutine" := by simpa using h1
 have h2 : ¬ fn.body = none := by intro e; rw [e] at h2; cases h2
 simp [callFunc,go_sem,hf,h1,h2]
theorem tnsub_yes {n : ByteArray} {a : Nat} (hn : isName n = true) (w : World) (v : Value) (h : TI w v (.node 24 n 0 a [])) : Calls Tryz.prog 131 #[v] w (Yes w) := by
 obtain ⟨so,sc,rfl,_,_⟩ := h.node
 change Calls _ _ #[NodeC n 24 0 a so 0 sc] _ _
 go_enter Tryz.func131,Tryz.ntmps131
 have hA := Blk.new w 25 #[.int .i64 24,.string n,.int .i64 0,.int .i64 a,.slice so 0 sc]
 go_wp2_with fail
 refine (leaf_yes _ 24 n a so sc).mono ?_
 rintro e w2 ⟨rfl,hb2⟩
 obtain ⟨⟨q0,q1,q2,q3,q4⟩,_⟩ := (hA.below hb2 hA.lt).five
 go_wp2_with fail
 refine (sname_yes hn _).mono ?_
 rintro e w3 ⟨rfl,hb3⟩
 go_wp2_with fail
 go_ret
 exact ⟨rfl,(((Below.refl _ _).alloc (Nat.le_refl _) _).trans (hb2.mono (by simp))).trans (hb3.mono (by have := hb2.size; simp at this; omega))⟩
theorem drew_below (w : World) : Below w.heap.size w w.drew := ⟨rfl,rfl,rfl,Nat.le_refl _,fun _ _ => rfl⟩
set_option maxRecDepth 100000
set_option maxHeartbeats 2000000
open Go.RowKit
theorem pick_any (c : Int) (n : Nat) (h0 : -9223372036854775808 ≤ c) (h1 : c ≤ 9223372036854775807) (hn : 0 < n) (hN : n ≤ 2000000) (w : World) : Calls Tryz.prog 11 #[.int .i64 c,.int .i64 n] w fun e w' => (∃ k : Nat,k < n ∧ e = .returned (.int .i64 k)) ∧ w' = w := by
 have hz : ¬ (n : Int) = 0 := by omega
 have hz1 : ¬ (n : Int) = -1 := by omega
 rcases Int.lt_or_le c 0 with hc | hc
 ·obtain ⟨m,hm⟩ : ∃ m : Nat,-(c + 1) = m := ⟨(-(c + 1)).toNat,by omega⟩
  have y1 : ¬ c + 1 < -9223372036854775808 := by omega
  have y2 : ¬ 9223372036854775807 < c + 1 := by omega
  go_enter Tryz.func11,Tryz.ntmps11
  go_wp2_with fail
  go_ret
  exact ⟨⟨m % n,Nat.mod_lt _ hn,by show Ending.returned (.int .i64 ((m : Int) % (n : Int))) = _; rw [Int.natCast_emod]⟩,rfl⟩
 ·obtain ⟨m,rfl⟩ : ∃ m : Nat,c = m := ⟨c.toNat,by omega⟩
  have hc0 : ¬ (m : Int) < 0 := by omega
  go_enter Tryz.func11,Tryz.ntmps11
  go_wp2_with fail
  go_ret
  exact ⟨⟨m % n,Nat.mod_lt _ hn,by show Ending.returned (.int .i64 ((m : Int) % (n : Int))) = _; rw [Int.natCast_emod]⟩,rfl⟩
structure RawAt (w : World) (so : Option Addr) (n : Nat) : Prop where
 max : n ≤ 1000
 nth : ∀ i,i < n → ∃ g o x,so = some ⟨g,o,none⟩ ∧ g < w.heap.size ∧ -9223372036854775808 ≤ x ∧ x ≤ 9223372036854775807 ∧ w.cell? ⟨g,o + i,none⟩ = some (.int .i64 x)
theorem RawAt.below {w w' : World} {so : Option Addr} {n : Nat} (h : RawAt w so n) (hb : Below w.heap.size w w') : RawAt w' so n := by
 refine ⟨h.max,fun i hi => ?_⟩
 obtain ⟨g,o,x,h1,h2,h3,h4,h5⟩ := h.nth i hi
 exact ⟨g,o,x,h1,Nat.lt_of_lt_of_le h2 hb.size,h3,h4,(hb.cell (p := ⟨g,o + i,none⟩) h2).trans h5⟩
theorem raw_any {so : Option Addr} {n sc i : Nat} (hi : i ≤ 1000000) {w : World} (h : RawAt w so n) (hsc : n ≤ sc) : Calls Tryz.prog 123 #[.slice so n sc,.int .i64 i] w fun e w' => (∃ x : Int,-9223372036854775808 ≤ x ∧ x ≤ 9223372036854775807 ∧ e = .returned (.int .i64 x)) ∧ Below w.heap.size w w' := by
 have hmx := h.max
 rcases Nat.eq_zero_or_pos n with hn | hn
 ·subst hn
  have y1 : ¬ 9223372036854775807 < i * 31 := by omega
  have y2 : ¬ 9223372036854775807 < (i : Int) * 31 := by omega
  have y3 : ¬ (i : Int) * 31 < -9223372036854775808 := by omega
  clear h
  go_enter Tryz.func123,Tryz.ntmps123
  go_wp2_with fail
  go_ret
  exact ⟨⟨_,by omega,by omega,rfl⟩,Below.refl _ _⟩
 ·obtain ⟨g,o,x,rfl,hg,hx0,hx1,hc⟩ := h.nth (i % n) (Nat.mod_lt _ hn)
  have hlt := Nat.mod_lt i hn
  have hz : ¬ (n : Int) = 0 := by omega
  have hz1 : ¬ (n : Int) = -1 := by omega
  have hz2 : ¬ n = 0 := by omega
  have e1 : (i : Int).tmod (n : Int) = ((i % n : Nat) : Int) := rfl
  have hdiv : i / n ≤ 1000000 := Nat.le_trans (Nat.div_le_self _ _) hi
  have hdiv2 : (i : Int).tdiv (n : Int) = ((i / n : Nat) : Int) := rfl
  clear h
  obtain ⟨r,hr⟩ : ∃ r,r = i % n := ⟨_,rfl⟩
  obtain ⟨q,hq⟩ : ∃ q,q = i / n := ⟨_,rfl⟩
  rw [← hr] at hc hlt e1
  rw [← hq] at hdiv hdiv2
  clear hr hq
  have i0 : (0 : Int) ≤ (r : Int) := by omega
  have i1 : (r : Int) < (n : Int) := by omega
  have i2 : r < sc := by omega
  have y1 : ¬ 9223372036854775807 < (q : Int) * 7919 := by omega
  have y2 : ¬ (q : Int) * 7919 < -9223372036854775808 := by omega
  have hw1 : IntKind.i64.wrap (q : Int) = q := IntWalk.i64_in _ (by omega)
  have hw2 : IntKind.i64.wrap ((q : Int) * 7919) = (q : Int) * 7919 := IntWalk.i64_in _ (by omega)
  have hP := fun u => pick_any x 1000003 hx0 hx1 (by decide) (by decide) u
  go_enter Tryz.func123,Tryz.ntmps123
  go_wp2_with fail
  refine Ch.wp_region_run (fun u => u.cell? ⟨g,o + r,none⟩ = some (.int .i64 x)) [6] [0,1,2,3,4,5,6,8,9,10,11,12] [7,13,14] [] (by kernel_rfl) (by kernel_rfl) (fun _ _ d _ _ h => by cases d <;> exact h) hc ?_
  refine Ch.run_take (i := 0) (v := ?v0) rfl (by rfl) (by rfl) ?y0 ?_
  case y0 => intro u; go_simp; rfl
  simp only [putq]
  refine Ch.run_take (i := 1) (v := ?v1) rfl (by rfl) (by rfl) ?y1 ?_
  case y1 => intro u; go_simp; rfl
  simp only [putq]
  refine Ch.run_take (i := 2) (v := ?v2) rfl (by rfl) (by rfl) ?y2 ?_
  case y2 => intro u; go_simp; rfl
  simp only [putq]
  refine Ch.run_take (i := 3) (v := ?v3) rfl (by rfl) (by rfl) ?y3 ?_
  case y3 => intro u; go_simp; rfl
  simp only [putq]
  refine Ch.run_take (i := 4) (v := ?v4) rfl (by rfl) (by rfl) ?y4 ?_
  case y4 => intro u; go_simp; rfl
  simp only [putq]
  refine Ch.run_take (i := 5) (v := ?v5) rfl (by rfl) (by rfl) ?y5 ?_
  case y5 => intro u; go_simp; rfl
  simp only [putq]
  refine Ch.run_load (i := 6) (v := ?v6) rfl (by rfl) (by rfl) ?y6 ?_
  case y6 => intro u hC; go_simp; rfl
  simp only [putq]
  refine Ch.run_take (i := 8) (v := ?v8) rfl (by rfl) (by rfl) ?y8 ?_
  case y8 => intro u; go_simp; (try simp only [hwa,hwb]); rfl
  simp only [putq]
  refine Ch.run_take (i := 9) (v := ?v9) rfl (by rfl) (by rfl) ?y9 ?_
  case y9 => intro u; go_simp; rfl
  simp only [putq]
  refine Ch.run_take (i := 10) (v := ?v10) rfl (by rfl) (by rfl) ?y10 ?_
  case y10 => intro u; go_simp; rfl
  simp only [putq]
  refine Ch.run_take (i := 11) (v := ?v11) rfl (by rfl) (by rfl) ?y11 ?_
  case y11 => intro u; go_simp; (try simp only [hw1,hw2]); rfl
  simp only [putq]
  refine Ch.run_take (i := 12) (v := ?v12) rfl (by rfl) (by rfl) ?y12 ?_
  case y12 => intro u; go_simp; (try simp only [hw1,hw2]); rfl
  simp only [putq]
  refine Ch.run_mid (j := 7) rfl (by rfl) (fun K hK => ?_)
  go_simp
  refine (hP _).mono ?_
  rintro e w2 ⟨⟨k,hk,rfl⟩,rfl⟩
  refine hK _ _ hc ?_
  clear hK K
  try simp only [putq]
  have y3 : ¬ 9223372036854775807 < (k : Int) + (q : Int) * 7919 := by omega
  have y4 : ¬ (k : Int) + (q : Int) * 7919 < -9223372036854775808 := by omega
  have hw3 : IntKind.i64.wrap ((k : Int) + (q : Int) * 7919) = (k : Int) + (q : Int) * 7919 := IntWalk.i64_in _ (by omega)
  refine Ch.run_mid (j := 13) rfl (by rfl) (fun K hK => ?_)
  go_simp
  try simp only [hw3]
  refine hK _ _ hc ?_
  clear hK K
  try simp only [putq]
  refine Ch.run_mid (j := 14) rfl (by rfl) (fun K hK => ?_)
  go_simp
  refine hK _ _ hc ?_
  clear hK K
  try simp only [putq]
  refine Ch.run_end ?_
  go_wp2_with fail
  exact ⟨rfl,.int .i64 ((k : Int) + (q : Int) * 7919),by simp [results,Tryz.results123],⟨_,by omega,by omega,rfl⟩,drew_below w⟩
structure Src (w : World) (b : Nat) (so : Option Addr) (n sc m : Nat) : Prop where
 blk : ∃ a : Nat,a ≤ m ∧ Blk w b 67 #[.slice so n sc,.int .i64 a]
 raw : RawAt w so n
 ne : 0 < n → ∀ g o,so = some ⟨g,o,none⟩ → g ≠ b
 sc : n ≤ sc
theorem Src.below {w w' : World} {b : Nat} {so : Option Addr} {n sc m : Nat} (h : Src w b so n sc m) (hb : Below w.heap.size w w') : Src w' b so n sc m := by
 obtain ⟨⟨a,ha,hk⟩,hr,hn,hs⟩ := h
 exact ⟨⟨a,ha,hk.below hb hk.lt⟩,hr.below hb,hn,hs⟩
theorem Src.alloc {w : World} {b : Nat} {so : Option Addr} {n sc m : Nat} (h : Src w b so n sc m) (o : Obj) : Src (w.alloc o) b so n sc m := h.below ((Below.refl _ _).alloc (Nat.le_refl _) _)
theorem Src.up {w : World} {b : Nat} {so : Option Addr} {n sc m m' : Nat} (h : Src w b so n sc m) (hm : m ≤ m') : Src w b so n sc m' := by
 obtain ⟨⟨a,ha,hk⟩,hr,hn,hs⟩ := h
 exact ⟨⟨a,by omega,hk⟩,hr,hn,hs⟩
theorem Src.lt {w : World} {b : Nat} {so : Option Addr} {n sc m : Nat} (h : Src w b so n sc m) : b < w.heap.size := by
 obtain ⟨⟨a,ha,hk⟩,_⟩ := h
 exact hk.lt
abbrev Made (P : ByteArray → Prop) (b : Nat) (so : Option Addr) (n sc m : Nat) (w : World) (e : Ending) (w' : World) : Prop := (∃ s,e = .returned (.string s) ∧ P s) ∧ Src w' b so n sc m ∧ Kp w.heap.size b w w'
theorem next_any {w : World} {b n sc m : Nat} {so : Option Addr} (h : Src w b so n sc m) (hm : m ≤ 900000) (k : Nat) (hk0 : 0 < k) (hk1 : k ≤ 1000) : Calls Tryz.prog 69 #[.pointer (some ⟨b,0,none⟩),.int .i64 k] w fun e w' => (∃ j : Nat,j < k ∧ e = .returned (.int .i64 j)) ∧ Src w' b so n sc (m + 1) ∧ Kp w.heap.size b w w' := by
 obtain ⟨⟨a,ha,hk⟩,hr,hne,hsc⟩ := h
 have hk2 := hk.set 1 (.int .i64 ((a : Int) + 1))
 have hk2 : Blk (w.setCell ⟨b,1,none⟩ (.int .i64 ((a : Int) + 1))) b 67 #[.slice so n sc,.int .i64 ((a : Int) + 1)] := hk2
 have hr2 : RawAt (w.setCell ⟨b,1,none⟩ (.int .i64 ((a : Int) + 1))) so n := by
  refine ⟨hr.max,fun i hi => ?_⟩
  obtain ⟨g,o,x,h1,h2,h3,h4,h5⟩ := hr.nth i hi
  have := hne (by omega) g o h1
  exact ⟨g,o,x,h1,by simpa [World.setCell] using h2,h3,h4,(World.cell?_of_block (Below.heap_setCell _ _ _ _ this)).trans h5⟩
 have hkp : Kp w.heap.size b w (w.setCell ⟨b,1,none⟩ (.int .i64 ((a : Int) + 1))) := (Kp.refl w.heap.size b w).setCell (x := ⟨b,1,none⟩) (.inr rfl) _
 have hlt := hk.lt
 obtain ⟨⟨c0,c1⟩,f0,f1⟩ := hk.two
 obtain ⟨⟨d0,d1⟩,_⟩ := hk2.two
 have HSZ := Lib.hid hkp.size
 have HKP := Lib.hid hkp
 have HNE := Lib.hid hne
 have HR := Lib.hid hr2
 have HB := Lib.hid hk2
 have y1 : ¬ 9223372036854775807 < (a : Int) + 1 := by omega
 have y0 : (a : Int) + 1 - 1 = a := by omega
 have hwa : IntKind.i64.wrap (a : Int) = a := IntWalk.i64_in _ (by omega)
 have hwb : IntKind.i64.wrap ((a : Int) + 1 - 1) = a := by rw [y0]; exact hwa
 have hRaw := fun u (hu : RawAt u so n) => raw_any (i := a) (by omega) hu hsc
 have hPick := fun x u (h0 : -9223372036854775808 ≤ x) (h1 : x ≤ 9223372036854775807) => pick_any x k h0 h1 hk0 (by omega) u
 clear hr hk hk2 hr2 hkp hne
 go_enter Tryz.func69,Tryz.ntmps69
 go_wp2_with fail
 generalize hw1 : w.setCell ⟨b,1,none⟩ (.int .i64 ((a : Int) + 1)) = w1 at *
 refine Ch.wp_region_run (fun u => u.cell? ⟨b,0,none⟩ = some (.slice so n sc) ∧ u.cell? ⟨b,1,none⟩ = some (.int .i64 ((a : Int) + 1))) [3,7] [0,1,2,3,4,5,6,7,8,10] [9,11,12] [] (by kernel_rfl) (by kernel_rfl) (fun _ _ d _ _ h => by cases d <;> exact h) ⟨d0,d1⟩ ?_
 refine Ch.run_take (i := 0) (v := ?v0) rfl (by rfl) (by rfl) ?y0 ?_
 case y0 => intro u; go_simp; rfl
 simp only [putq]
 refine Ch.run_take (i := 1) (v := ?v1) rfl (by rfl) (by rfl) ?y1 ?_
 case y1 => intro u; go_simp; rfl
 simp only [putq]
 refine Ch.run_take (i := 2) (v := ?v2) rfl (by rfl) (by rfl) ?y2 ?_
 case y2 => intro u; go_simp; rfl
 simp only [putq]
 refine Ch.run_load (i := 3) (v := ?v3) rfl (by rfl) (by rfl) ?y3 ?_
 case y3 => intro u hC; obtain ⟨e0,e1⟩ := hC; go_simp; rfl
 simp only [putq]
 refine Ch.run_take (i := 4) (v := ?v4) rfl (by rfl) (by rfl) ?y4 ?_
 case y4 => intro u; go_simp; rfl
 simp only [putq]
 refine Ch.run_take (i := 5) (v := ?v5) rfl (by rfl) (by rfl) ?y5 ?_
 case y5 => intro u; go_simp; rfl
 simp only [putq]
 refine Ch.run_take (i := 6) (v := ?v6) rfl (by rfl) (by rfl) ?y6 ?_
 case y6 => intro u; go_simp; rfl
 simp only [putq]
 refine Ch.run_load (i := 7) (v := ?v7) rfl (by rfl) (by rfl) ?y7 ?_
 case y7 => intro u hC; obtain ⟨e0,e1⟩ := hC; go_simp; rfl
 simp only [putq]
 refine Ch.run_take (i := 8) (v := ?v8) rfl (by rfl) (by rfl) ?y8 ?_
 case y8 => intro u; go_simp; (try simp only [hwa,hwb]); rfl
 simp only [putq]
 refine Ch.run_take (i := 10) (v := ?v10) rfl (by rfl) (by rfl) ?y10 ?_
 case y10 => intro u; go_simp; rfl
 simp only [putq]
 refine Ch.run_mid (j := 9) rfl (by rfl) (fun K hK => ?_)
 go_simp
 refine (hRaw _ (HR.out.below (drew_below _))).mono ?_
 rintro e w2 ⟨⟨x,hx0,hx1,rfl⟩,hb2⟩
 have hb3 : Below w1.heap.size w1 w2 := (drew_below w1).trans hb2
 have hk3 := HB.out.below hb3 HB.out.lt
 refine hK _ _ ⟨hk3.two.1.1,hk3.two.1.2⟩ ?_
 clear hK K
 try simp only [putq]
 refine Ch.run_mid (j := 11) rfl (by rfl) (fun K hK => ?_)
 go_simp
 refine (hPick x _ hx0 hx1).mono ?_
 rintro e w3 ⟨⟨j,hj,rfl⟩,rfl⟩
 refine hK _ _ ⟨hk3.two.1.1,hk3.two.1.2⟩ ?_
 clear hK K
 try simp only [putq]
 refine Ch.run_mid (j := 12) rfl (by rfl) (fun K hK => ?_)
 go_simp
 refine hK _ _ ⟨hk3.two.1.1,hk3.two.1.2⟩ ?_
 clear hK K
 try simp only [putq]
 refine Ch.run_end ?_
 go_wp2_with fail
 exact ⟨rfl,_,by simp [results,Tryz.results69],⟨j,hj,rfl⟩,⟨⟨a + 1,by omega,hk3⟩,HR.out.below hb3,HNE.out,hsc⟩,HKP.out.trans (.of_below (hb3.mono HSZ.out))⟩
theorem of_any {w : World} {b n sc m : Nat} {so : Option Addr} (h : Src w b so n sc m) (hm : m ≤ 900000) (ss : List ByteArray) (h0 : 0 < ss.length) (h1 : ss.length ≤ 1000) {g : Nat} (hg : Blk w g 9 (ss.map Value.string).toArray) (hgb : g ≠ b) :
  Calls Tryz.prog 120 #[.pointer (some ⟨b,0,none⟩),.slice (some ⟨g,0,none⟩) ss.length ss.length] w (Made (· ∈ ss) b so n sc (m + 1) w) := by
 have hN := next_any h hm ss.length h0 h1
 go_enter Tryz.func120,Tryz.ntmps120
 go_wp2_with fail
 refine hN.mono ?_
 rintro e w2 ⟨⟨j,hj,rfl⟩,hs2,hk2⟩
 have hg2 := hk2.blk hg hgb
 have hc := hg2.cell j
 have hc : w2.cell? ⟨g,j,none⟩ = some (.string ss[j]) := by rw [hc]; simp [hj]
 have i0 : (0 : Int) ≤ (j : Int) := by omega
 have i1 : (j : Int) < (ss.length : Int) := by omega
 clear hN hg hg2
 go_wp2_with fail
 go_ret
 exact ⟨⟨_,rfl,List.getElem_mem hj⟩,hs2,hk2⟩
end Go.Proofs.YtneohanphabneaaGreatDoor
