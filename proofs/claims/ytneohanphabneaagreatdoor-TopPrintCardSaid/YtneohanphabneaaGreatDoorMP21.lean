/-
  The program's Parse: a text's tree, or what is wrong.
-/
import Derived.Test.YtneohanphabneaaGreatDoorMTokens
import Derived.Test.YtneohanphabneaaGreatDoorMG9
import Derived.Test.YtneohanphabneaaGreatDoorMSh6
import Derived.Test.YtneohanphabneaaGreatDoorMQ13
import Derived.Test.YtneohanphabneaaGreatDoorMAsF
namespace Go.Proofs.YtneohanphabneaaGreatDoor
set_option maxRecDepth 100000
set_option maxHeartbeats 4000000
open Go.RowKit Ps
inductive PRes where
 | limit
 | bad (e a : Nat)
 | ok (t : Tree)
def parseR (s : List UInt8) : PRes := match Sc.words s with
 | .limit => .limit
 | .bad n a => .bad n a
 | .ok l => match Ps.tree l with
  | .bad n a => .bad n a
  | .ok t _ => .ok t
abbrev zeroV : Value := .agg #[.int .i64 0,.string ⟨#[]⟩,.int .i64 0,.int .i64 0,.slice none 0 0]
def ParGives (B : Nat) (r : PRes) (e : Ending) (w : World) : Prop := match r with
 | .limit => e = .returned (.tuple #[zeroV,.iface 26 (.int .i64 3)])
 | .bad n a => ∃ g,e = .returned (.tuple #[zeroV,.iface 58 (.pointer (some ⟨g,0,none⟩))]) ∧ Blk w g 81 #[.int .i64 0,.int .i64 a,.iface 26 (.int .i64 n)]
 | .ok t => ∃ v,e = .returned (.tuple #[v,.nilIface]) ∧ TreeIn w (fun b => B ≤ b) v t
abbrev catchD (N E : Nat) : Deferred := { target := .fn (.func 22) #[.pointer (some ⟨N,0,none⟩),.pointer (some ⟨E,0,none⟩)],args := #[] }
theorem resParse {tmps : Array Value} {u : World} {N E : Nat} {x0 x1 x2 x3 x4 y : Value} (h2 : tmps.getD 2 undef = .pointer (some ⟨N,0,none⟩)) (h3 : tmps.getD 3 undef = .pointer (some ⟨E,0,none⟩)) (hN : Blk u N 25 #[x0,x1,x2,x3,x4]) (hE : Blk u E 32 #[y]) :
  (results Tryz.f7 tmps).run Tryz.prog u = .ok (.tuple #[.agg #[x0,x1,x2,x3,x4],y]) u := by
 obtain ⟨⟨q0,q1,q2,q3,q4⟩,_⟩ := hN.five
 obtain ⟨q5,_⟩ := hE.one
 have g2 : tmps[2]?.getD undef = .pointer (some ⟨N,0,none⟩) := by simpa using h2
 have g3 : tmps[3]?.getD undef = .pointer (some ⟨E,0,none⟩) := by simpa using h3
 simp [results,Tryz.results7,g2,g3,go_sem,q0,q1,q2,q3,q4,q5]
section
variable {fn : Func} {tmps : Array Value} {R : Ending → World → Prop} {w : World} {p N E : Nat} {x0 x1 x2 x3 x4 y : Value}
theorem catch_bad {n a : Nat} {c : List PanicEntry} (hP : Pan w p n a (.panicked c)) (hN : Blk w N 25 #[x0,x1,x2,x3,x4]) (hE : Blk w E 32 #[y]) (hne : N ≠ E)
  (hR : ∀ g w5,Blk w5 N 25 #[.int .i64 0,.string ⟨#[]⟩,.int .i64 0,.int .i64 0,.slice none 0 0] → Blk w5 E 32 #[.iface 58 (.pointer (some ⟨g,0,none⟩))] → g ≠ N ∧ g ≠ E ∧ Blk w g 81 #[.int .i64 0,.int .i64 a,.iface 26 (.int .i64 n)] →
   w.heap.size ≤ w5.heap.size ∧ w5.os = w.os ∧ w5.tape = w.tape ∧ w5.output = w.output → (∀ k,k < w.heap.size → k ≠ N → k ≠ E → w5.heap[k]? = w.heap[k]?) → ∃ v,(results fn tmps).run Tryz.prog w5 = .ok v w5 ∧ R (.returned v) w5) : Leaves Tryz.prog fn tmps R [catchD N E] (.panicking c) w := by
 obtain ⟨g,he,hg,_⟩ := hP
 injection he with he
 subst he
 refine leaves_cons (f := 22) (args := #[.pointer (some ⟨N,0,none⟩),.pointer (some ⟨E,0,none⟩)]) (by simp) (by simp [go_sem]) ?_
 refine (pcatch_panic N E g _ _ _ _ _ _ w hN hE hne).mono ?_
 rintro e u' w5 ⟨rfl,rfl,h1,h2,h3,h4,h5,h6,h7⟩
 have hgN : g ≠ N := fun e => by subst e; have := hg.symm.trans hN; simp at this
 have hgE : g ≠ E := fun e => by subst e; have := hg.symm.trans hE; simp at this
 exact hR g w5 h1 h2 ⟨hgN,hgE,hg⟩ ⟨h3,h4,h5,h6⟩ h7
theorem catch_ok (hR : ∀ w5,Below w.heap.size w w5 → ∃ v,(results fn tmps).run Tryz.prog w5 = .ok v w5 ∧ R (.returned v) w5) : Leaves Tryz.prog fn tmps R [catchD N E] .returning w := by
 refine leaves_cons (f := 22) (args := #[.pointer (some ⟨N,0,none⟩),.pointer (some ⟨E,0,none⟩)]) (by simp) (by simp [go_sem]) ?_
 refine (pcatch_idle N E w).mono ?_
 rintro e u' w5 ⟨rfl,rfl,hb⟩
 exact hR w5 hb
end
theorem Lv.mono {w : World} {p q : Nat} (h : Lv w p) (hq : p ≤ q) : Lv w q := by
 obtain ⟨h0,b,o,c,hp,h1,h2⟩ := h
 refine ⟨by omega,b,o,c,by omega,h1,fun k hk => ?_⟩
 obtain ⟨b1,o1,c1,hp1,h3⟩ := h2 k hk
 exact ⟨b1,o1,c1,by omega,h3⟩
theorem pparse_any (s : ByteArray) (w : World) (m : Int) (hm : w.cell? ⟨3,0,none⟩ = some (.int .i64 m)) (hlv : Lv w w.heap.size) : Calls Tryz.prog 7 #[.string s] w fun e w' =>
  ParGives w.heap.size (parseR s.data.toList) e w' ∧ Below w.heap.size w w' := by
 have hmf : ∀ (fn : Fn) (first cap : Array Value) (w : World),(Instr.makeFunc fn first cap).run Tryz.prog w = .ok (.func fn first cap) w := fun _ _ _ _ => rfl
 have hlt1 : 3 < w.heap.size := by
  rcases Nat.lt_or_ge 3 w.heap.size with h | h
  ·exact h
  ·simp [World.cell?,Array.getElem?_eq_none h] at hm
 obtain ⟨w2,hw2⟩ : ∃ w2,w2 = (w.alloc (.cells #[.int .i64 0,.string ⟨#[]⟩,.int .i64 0,.int .i64 0,.slice none 0 0] 25)).alloc (.cells #[.nilIface] 32) := ⟨_,rfl⟩
 have HM := Lib.hid hm
 clear hm
 obtain ⟨r,hr⟩ : ∃ r,r = parseR s.data.toList := ⟨_,rfl⟩
 rw [← hr]
 unfold parseR at hr
 have HR := Lib.hid hr
 clear hr
 have hm2 : w2.cell? ⟨3,0,none⟩ = some (.int .i64 m) := by
  rw [hw2,World.cell?_alloc_lt _ _ _ (by simp; omega),World.cell?_alloc_lt _ _ _ hlt1]; exact HM.out
 have HT := Lib.hid (tokens_any s w2 m hm2)
 clear hm2
 go_enter_defers Tryz.func7,Tryz.ntmps7
 go_wp2_with fail
 have hN2 : Blk w2 w.heap.size 25 #[.int .i64 0,.string ⟨#[]⟩,.int .i64 0,.int .i64 0,.slice none 0 0] := by rw [hw2]; exact (Blk.new w _ _).alloc _
 have hE2 : Blk w2 (w.heap.size + 1) 32 #[.nilIface] := by
  rw [hw2]
  have h := Blk.new (w.alloc (.cells #[.int .i64 0,.string ⟨#[]⟩,.int .i64 0,.int .i64 0,.slice none 0 0] 25)) 32 #[.nilIface]
  rw [show (w.alloc (.cells #[.int .i64 0,.string ⟨#[]⟩,.int .i64 0,.int .i64 0,.slice none 0 0] 25)).heap.size = w.heap.size + 1 from by simp] at h
  exact h
 have hb2 : Below w.heap.size w w2 := by rw [hw2]; exact ((Below.refl _ _).alloc (Nat.le_refl _) _).alloc (by simp) _
 have hz2 : w2.heap.size = w.heap.size + 2 := by rw [hw2]; simp
 rw [← hw2]
 clear hw2
 refine HT.out.mono ?_
 rintro e w3 ⟨ht,hb3⟩
 rw [hz2] at ht hb3
 clear HT
 have hN3 := hN2.below hb3 (by omega)
 have hE3 := hE2.below hb3 (by omega)
 have hz3 : w.heap.size + 2 ≤ w3.heap.size := by have := hb3.size; omega
 have hb03 : Below w.heap.size w w3 := hb2.trans (hb3.mono (by omega))
 have hlv3 : Lv w3 w.heap.size := hlv.same (fun k hk => hb03.block k hk)
 clear hN2 hE2 hb2 hz2 hb3 w2 HM hlt1
 obtain ⟨q1,q2⟩ := hE3.one
 obtain ⟨q3,q4⟩ := hN3.five
 have hEl := hE3.lt
 have hNl := hN3.lt
 have hNE : ¬ w.heap.size = w.heap.size + 1 := by omega
 obtain ⟨rw,hrw⟩ : ∃ rw,rw = Sc.words s.data.toList := ⟨_,rfl⟩
 rw [← hrw] at ht HR
 have hcase : (∃ t x,e = .returned (.tuple #[.slice none 0 0,.iface t x]) ∧ ∀ w',(∀ k,w.heap.size + 2 ≤ k → k < w3.heap.size → w'.heap[k]? = w3.heap[k]?) → ParGives w.heap.size r (.returned (.tuple #[zeroV,.iface t x])) w') ∨
   ∃ l T cap cur,e = .returned (.tuple #[.slice (some ⟨T,0,none⟩) l.length cap,.nilIface]) ∧ Sc.words s.data.toList = .ok l ∧ w.heap.size + 2 ≤ T ∧ w3.heap[T]? = some (.cells cur 87 (0,0)) ∧ l.length ≤ cap ∧ cur.toList.take (l.length * 2) = tokCells l ∧ Hid (r = match Ps.tree l with
    | .bad n a => .bad n a
    | .ok t _ => .ok t) := by
  have HR2 := HR.out
  rcases rw with _ | ⟨n,a⟩ | l
  ·subst HR2
   exact .inl ⟨_,_,ht,fun _ _ => rfl⟩
  ·subst HR2
   obtain ⟨g,he,hg,hgB⟩ := ht
   exact .inl ⟨_,_,he,fun w' hw' => ⟨g,rfl,(hw' g hgB hg.lt).trans hg⟩⟩
  ·obtain ⟨v,he,hrow⟩ := ht
   obtain ⟨hl1,hl2,hl3,hl4⟩ := Ps.words_good hrw.symm
   obtain ⟨hr1,⟨rfl,hr2⟩ | ⟨T,cap,cur,rfl,hTB,hT,hcap,hcap2,hsz,htake⟩⟩ := hrow
   ·omega
   exact .inr ⟨l,T,cap,cur,he,hrw.symm,hTB,hT,hcap,htake,Lib.hid HR2⟩
 clear ht HR hrw rw
 rcases hcase with ⟨t,x,rfl,hgood⟩ | ⟨l,T,cap,cur,rfl,hwl,hTB,hT,hcap,htake,HR⟩
 ·go_wp2_with fail
  have hE4 := hE3.set 0 (.iface t x)
  have hN4 := hN3.setOther ⟨w.heap.size + 1,0,none⟩ (.iface t x) hNE
  have ho4 : ∀ k,k ≠ w.heap.size → k ≠ w.heap.size + 1 → (w3.setCell ⟨w.heap.size + 1,0,none⟩ (.iface t x)).heap[k]? = w3.heap[k]? := fun k _ hk => Below.heap_setCell _ _ _ _ hk
  have hb4 : Below w.heap.size w (w3.setCell ⟨w.heap.size + 1,0,none⟩ (.iface t x)) := hb03.setCell (by simp) _
  clear q1 q2 q3 q4 hE3 hN3
  generalize w3.setCell ⟨w.heap.size + 1,0,none⟩ (.iface t x) = w4 at *
  refine Ch.wp_region_run_d (fun _ _ _ => False) (fun u => Blk u (w.heap.size + 1) 32 #[.iface t x]) [1] [0,1] [2,3] [] (by kernel_rfl) (by kernel_rfl) (fun _ _ _ hb => hb.elim) hE4 ?_
  refine Ch.take0 (v := ?v0) rfl (by rfl) ?y0 ?_
  case y0 => intro u; go_simp; rfl
  simp only [putq]
  refine Ch.load1 (v := ?v2) rfl (by rfl) ?y2 ?_
  case y2 => intro u hC; have c5 := Blk.one hC; go_simp; rfl
  simp only [putq]
  obtain ⟨q1,q2⟩ := hN4.five
  refine Ch.mid2 (by rfl) (fun K hK => ?_)
  go_simp
  have hN5 := ((((hN4.set 0 (.int .i64 0)).set 1 (.string ⟨#[]⟩)).set 2 (.int .i64 0)).set 3 (.int .i64 0)).set 4 (.slice none 0 0)
  have hE5 : Blk (((((w4.setCell ⟨w.heap.size,0,none⟩ (.int .i64 0)).setCell ⟨w.heap.size,1,none⟩ (.string ⟨#[]⟩)).setCell ⟨w.heap.size,2,none⟩ (.int .i64 0)).setCell ⟨w.heap.size,3,none⟩ (.int .i64 0)).setCell ⟨w.heap.size,4,none⟩ (.slice none 0 0)) (w.heap.size + 1) 32 #[.iface t x] := ((((hE4.setOther _ _ (by simp)).setOther _ _ (by simp)).setOther _ _ (by simp)).setOther _ _ (by simp)).setOther _ _ (by simp)
  have ho5 : ∀ k,k ≠ w.heap.size → k ≠ w.heap.size + 1 → (((((w4.setCell ⟨w.heap.size,0,none⟩ (.int .i64 0)).setCell ⟨w.heap.size,1,none⟩ (.string ⟨#[]⟩)).setCell ⟨w.heap.size,2,none⟩ (.int .i64 0)).setCell ⟨w.heap.size,3,none⟩ (.int .i64 0)).setCell ⟨w.heap.size,4,none⟩ (.slice none 0 0)).heap[k]? = w3.heap[k]? := fun k h1 h2 => by
   rw [Below.heap_setCell _ _ _ _ h1,Below.heap_setCell _ _ _ _ h1,Below.heap_setCell _ _ _ _ h1,Below.heap_setCell _ _ _ _ h1,Below.heap_setCell _ _ _ _ h1]; exact ho4 k h1 h2
  have hb5 : Below w.heap.size w (((((w4.setCell ⟨w.heap.size,0,none⟩ (.int .i64 0)).setCell ⟨w.heap.size,1,none⟩ (.string ⟨#[]⟩)).setCell ⟨w.heap.size,2,none⟩ (.int .i64 0)).setCell ⟨w.heap.size,3,none⟩ (.int .i64 0)).setCell ⟨w.heap.size,4,none⟩ (.slice none 0 0)) := ((((hb4.setCell (Nat.le_refl _) _).setCell (Nat.le_refl _) _).setCell (Nat.le_refl _) _).setCell (Nat.le_refl _) _).setCell (Nat.le_refl _) _
  clear q1 q2 hE4 hN4 ho4 hb4
  generalize ((((w4.setCell ⟨w.heap.size,0,none⟩ (.int .i64 0)).setCell ⟨w.heap.size,1,none⟩ (.string ⟨#[]⟩)).setCell ⟨w.heap.size,2,none⟩ (.int .i64 0)).setCell ⟨w.heap.size,3,none⟩ (.int .i64 0)).setCell ⟨w.heap.size,4,none⟩ (.slice none 0 0) = w5 at *
  simp only [List.setIfInBounds_toArray,List.set_cons_zero,List.set_cons_succ] at hN5
  refine hK _ _ hE5 ?_
  clear hK K
  obtain ⟨q1,q2⟩ := hE5.one
  have hel := hE5.lt
  refine Ch.mid3 (by rfl) (fun K hK => ?_)
  go_simp
  refine hK _ _ (hE5.set 0 _) ?_
  clear hK K
  refine Ch.run_end_d ?_
  go_wp2_with fail
  refine ⟨_,resParse rfl rfl (hN5.setOther _ _ (by simp)) (hE5.set 0 _),hgood _ fun k h1 h2 => ?_,(hb5.setCell (show w.heap.size ≤ w.heap.size + 1 by omega) _).drew⟩
  show (w5.setCell _ _).heap[k]? = _
  rw [Below.heap_setCell _ _ _ _ (by show k ≠ w.heap.size + 1; omega)]
  exact ho5 k (by omega) (by omega)
 ·obtain ⟨hl1,hl2,hl3,hl4⟩ := Ps.words_good hwl
  go_wp2_with fail
  have hps : PS ((w3.setCell ⟨w.heap.size + 1,0,none⟩ .nilIface).alloc (.cells #[.slice (some ⟨T,0,none⟩) l.length cap,.int .i64 0] 64)) w3.heap.size T l 0 0 := by
   have hTl := (Array.getElem?_eq_some_iff.1 hT).1
   have hz : (w3.setCell ⟨w.heap.size + 1,0,none⟩ .nilIface).heap.size = w3.heap.size := by simp
   refine ⟨⟨cap,by omega,?_⟩,⟨cur,?_,?_⟩,hTl,hl4,by omega,hl1,hl2,hl3,?_⟩
   ·have h := Blk.new (w3.setCell ⟨w.heap.size + 1,0,none⟩ .nilIface) 64 #[.slice (some ⟨T,0,none⟩) l.length cap,.int .i64 0]
    rw [hz] at h
    exact h
   ·rw [Below.heap_alloc _ _ _ (by omega),Below.heap_setCell _ _ _ _ (by show T ≠ w.heap.size + 1; omega)]; exact hT
   ·rw [Nat.mul_comm]; exact htake
   ·refine Lv.mono (hlv3.same fun k hk => ?_) (by omega)
    rw [Below.heap_alloc _ _ _ (by omega),Below.heap_setCell _ _ _ _ (by show k ≠ w.heap.size + 1; omega)]
  refine (pmodule_any hps expr0 stmts0).mono ?_
  rintro e w5 ⟨ht,hk5⟩
  have hz4 : ((w3.setCell ⟨w.heap.size + 1,0,none⟩ .nilIface).alloc (.cells #[.slice (some ⟨T,0,none⟩) l.length cap,.int .i64 0] 64)).heap.size = w3.heap.size + 1 := by simp
  have hN4 : Blk ((w3.setCell ⟨w.heap.size + 1,0,none⟩ .nilIface).alloc (.cells #[.slice (some ⟨T,0,none⟩) l.length cap,.int .i64 0] 64)) w.heap.size 25 #[.int .i64 0,.string ⟨#[]⟩,.int .i64 0,.int .i64 0,.slice none 0 0] := (hN3.setOther _ _ hNE).alloc _
  have hE4 : Blk ((w3.setCell ⟨w.heap.size + 1,0,none⟩ .nilIface).alloc (.cells #[.slice (some ⟨T,0,none⟩) l.length cap,.int .i64 0] 64)) (w.heap.size + 1) 32 #[.nilIface] := (hE3.set 0 _).alloc _
  have hb4 : Below w.heap.size w ((w3.setCell ⟨w.heap.size + 1,0,none⟩ .nilIface).alloc (.cells #[.slice (some ⟨T,0,none⟩) l.length cap,.int .i64 0] 64)) := (hb03.setCell (by simp) _).alloc (by simp; omega) _
  clear q1 q2 q3 q4 hN3 hE3 hps hlv3 hT htake
  generalize (w3.setCell ⟨w.heap.size + 1,0,none⟩ .nilIface).alloc (.cells #[.slice (some ⟨T,0,none⟩) l.length cap,.int .i64 0] 64) = w4 at *
  have hN5 := hk5.blk hN4 (by omega)
  have hE5 := hk5.blk hE4 (by omega)
  have hb5 : Below w.heap.size w w5 := hb4.trans ⟨hk5.os,hk5.tape,hk5.output,hk5.size,fun k hk => hk5.block k (by omega) (by omega)⟩
  have hz5 : w3.heap.size + 1 ≤ w5.heap.size := by have := hk5.size; omega
  clear hk5 hN4 hE4 hb4
  rcases ht.or with ⟨n,a,hr1,hP⟩ | ⟨k,nm,num,a,ts,so,sc,i1,hr1,rfl,hrow,hp5,_⟩
  ·have hP2 := hP
   obtain ⟨g,rfl,hg⟩ := hP
   go_wp2_with fail
   refine catch_bad hP2 hN5 hE5 hNE fun g w9 hN9 hE9 hg9 hk9 ho9 => ⟨_,resParse rfl rfl hN9 hE9,?_,?_⟩
   ·have hr : r = .bad n a := HR.out.trans (by rw [show Ps.tree l = .bad n a from by unfold Ps.tree; rw [hr1]; rfl])
    rw [hr]
    exact ⟨g,rfl,(ho9 g hg9.2.2.lt hg9.1 hg9.2.1).trans hg9.2.2⟩
   ·exact hb5.trans ⟨hk9.2.1,hk9.2.2.1,hk9.2.2.2,hk9.1,fun k hk => ho9 k (by omega) (by omega) (by omega)⟩
  ·obtain ⟨q1,q2⟩ := hN5.five
   have hNl5 := hN5.lt
   unfold nodeV
   go_wp2_with fail
   have ho6 : ∀ j,j ≠ w.heap.size → ((((((w5).setCell ⟨w.heap.size,0,none⟩ (.int .i64 k)).setCell ⟨w.heap.size,1,none⟩ (.string nm)).setCell ⟨w.heap.size,2,none⟩ (.int .i64 num)).setCell ⟨w.heap.size,3,none⟩ (.int .i64 a)).setCell ⟨w.heap.size,4,none⟩ (.slice so ts.length sc)).heap[j]? = w5.heap[j]? := fun j h1 => by
    rw [Below.heap_setCell _ _ _ _ h1,Below.heap_setCell _ _ _ _ h1,Below.heap_setCell _ _ _ _ h1,Below.heap_setCell _ _ _ _ h1,Below.heap_setCell _ _ _ _ h1]
   have hN6 := ((((hN5.set 0 (.int .i64 k)).set 1 (.string nm)).set 2 (.int .i64 num)).set 3 (.int .i64 a)).set 4 (.slice so ts.length sc)
   have hb6 : Below w.heap.size w ((((((w5).setCell ⟨w.heap.size,0,none⟩ (.int .i64 k)).setCell ⟨w.heap.size,1,none⟩ (.string nm)).setCell ⟨w.heap.size,2,none⟩ (.int .i64 num)).setCell ⟨w.heap.size,3,none⟩ (.int .i64 a)).setCell ⟨w.heap.size,4,none⟩ (.slice so ts.length sc)) := ((((hb5.setCell (Nat.le_refl _) _).setCell (Nat.le_refl _) _).setCell (Nat.le_refl _) _).setCell (Nat.le_refl _) _).setCell (Nat.le_refl _) _
   have hz6 : ((((((w5).setCell ⟨w.heap.size,0,none⟩ (.int .i64 k)).setCell ⟨w.heap.size,1,none⟩ (.string nm)).setCell ⟨w.heap.size,2,none⟩ (.int .i64 num)).setCell ⟨w.heap.size,3,none⟩ (.int .i64 a)).setCell ⟨w.heap.size,4,none⟩ (.slice so ts.length sc)).heap.size = w5.heap.size := by simp
   clear q1 q2 hN5
   generalize (((((w5).setCell ⟨w.heap.size,0,none⟩ (.int .i64 k)).setCell ⟨w.heap.size,1,none⟩ (.string nm)).setCell ⟨w.heap.size,2,none⟩ (.int .i64 num)).setCell ⟨w.heap.size,3,none⟩ (.int .i64 a)).setCell ⟨w.heap.size,4,none⟩ (.slice so ts.length sc) = w6 at *
   simp only [List.setIfInBounds_toArray,List.set_cons_zero,List.set_cons_succ] at hN6
   have hE6 : Blk w6 (w.heap.size + 1) 32 #[.nilIface] := (ho6 _ (by omega)).trans hE5
   have hp6 : PS w6 w3.heap.size T l i1 0 := by
    obtain ⟨c,hc,hb⟩ := hp5.blk
    obtain ⟨cur,h1,h2⟩ := hp5.tok
    exact ⟨⟨c,hc,(ho6 _ (by omega)).trans hb⟩,⟨cur,(ho6 _ (by omega)).trans h1,h2⟩,hp5.ne,hp5.hi,hp5.hd,hp5.last,hp5.good,hp5.small,(hlv.same fun j hj => hb6.block j hj).mono (by omega)⟩
   clear hE5 hb5 hp5
   refine (pis_any hp6 ⟨#[]⟩).mono ?_
   rintro e w7 ⟨rfl,rfl⟩
   have htr : Ps.tree l = if Ps.isW l i1 ⟨#[]⟩ then .ok (.node k nm num a ts) i1 else Ps.want l i1 := by unfold Ps.tree; rw [hr1]; rfl
   rcases hw : Ps.isW l i1 ⟨#[]⟩ with _ | _
   ·rw [hw] at htr
    go_wp2_with fail
    refine (pwant_any hp6).mono ?_
    rintro e w7 ⟨hP,hk7⟩
    have hP2 := hP
    obtain ⟨g,rfl,hg⟩ := hP
    go_wp2_with fail
    refine catch_bad hP2 (hk7.blk hN6 (by omega)) (hk7.blk hE6 (by omega)) hNE fun g w9 hN9 hE9 hg9 hk9 ho9 => ⟨_,resParse rfl rfl hN9 hE9,?_,?_⟩
    ·have hr : r = .bad (Ps.wantN l i1) (Ps.A l i1) := HR.out.trans (by rw [htr]; rfl)
     rw [hr]
     exact ⟨g,rfl,(ho9 g hg9.2.2.lt hg9.1 hg9.2.1).trans hg9.2.2⟩
    ·have hs7 := hk7.size
     refine (hb6.trans ⟨hk7.os,hk7.tape,hk7.output,hk7.size,fun k hk => hk7.block k (by omega) (by omega)⟩).trans ⟨hk9.2.1,hk9.2.2.1,hk9.2.2.2,hk9.1,fun k hk => ho9 k (by omega) (by omega) (by omega)⟩
   ·rw [hw] at htr
    obtain ⟨q1,q2⟩ := hN6.five
    obtain ⟨q3,q4⟩ := hE6.one
    have hNl6 := hN6.lt
    have hEl6 := hE6.lt
    go_wp2_with fail
    have ho8 : ∀ j,j ≠ w.heap.size → j ≠ w.heap.size + 1 → (((((((w6).setCell ⟨w.heap.size,0,none⟩ (.int .i64 k)).setCell ⟨w.heap.size,1,none⟩ (.string nm)).setCell ⟨w.heap.size,2,none⟩ (.int .i64 num)).setCell ⟨w.heap.size,3,none⟩ (.int .i64 a)).setCell ⟨w.heap.size,4,none⟩ (.slice so ts.length sc)).setCell ⟨w.heap.size + 1,0,none⟩ .nilIface).heap[j]? = w5.heap[j]? := fun j h1 h2 => by
     rw [Below.heap_setCell _ _ _ _ h2,Below.heap_setCell _ _ _ _ h1,Below.heap_setCell _ _ _ _ h1,Below.heap_setCell _ _ _ _ h1,Below.heap_setCell _ _ _ _ h1,Below.heap_setCell _ _ _ _ h1]
     exact ho6 j h1
    have hN8 := (((((hN6.set 0 (.int .i64 k)).set 1 (.string nm)).set 2 (.int .i64 num)).set 3 (.int .i64 a)).set 4 (.slice so ts.length sc)).setOther ⟨w.heap.size + 1,0,none⟩ .nilIface hNE
    have hE8 : Blk (((((((w6).setCell ⟨w.heap.size,0,none⟩ (.int .i64 k)).setCell ⟨w.heap.size,1,none⟩ (.string nm)).setCell ⟨w.heap.size,2,none⟩ (.int .i64 num)).setCell ⟨w.heap.size,3,none⟩ (.int .i64 a)).setCell ⟨w.heap.size,4,none⟩ (.slice so ts.length sc)).setCell ⟨w.heap.size + 1,0,none⟩ .nilIface) (w.heap.size + 1) 32 #[.nilIface] := (((((hE6.setOther _ _ (by simp)).setOther _ _ (by simp)).setOther _ _ (by simp)).setOther _ _ (by simp)).setOther _ _ (by simp)).set 0 _
    have hb8 : Below w.heap.size w (((((((w6).setCell ⟨w.heap.size,0,none⟩ (.int .i64 k)).setCell ⟨w.heap.size,1,none⟩ (.string nm)).setCell ⟨w.heap.size,2,none⟩ (.int .i64 num)).setCell ⟨w.heap.size,3,none⟩ (.int .i64 a)).setCell ⟨w.heap.size,4,none⟩ (.slice so ts.length sc)).setCell ⟨w.heap.size + 1,0,none⟩ .nilIface) := (((((hb6.setCell (Nat.le_refl _) _).setCell (Nat.le_refl _) _).setCell (Nat.le_refl _) _).setCell (Nat.le_refl _) _).setCell (Nat.le_refl _) _).setCell (show w.heap.size ≤ w.heap.size + 1 by omega) _
    have hz8 : (((((((w6).setCell ⟨w.heap.size,0,none⟩ (.int .i64 k)).setCell ⟨w.heap.size,1,none⟩ (.string nm)).setCell ⟨w.heap.size,2,none⟩ (.int .i64 num)).setCell ⟨w.heap.size,3,none⟩ (.int .i64 a)).setCell ⟨w.heap.size,4,none⟩ (.slice so ts.length sc)).setCell ⟨w.heap.size + 1,0,none⟩ .nilIface).heap.size = w5.heap.size := by simp [hz6]
    clear q1 q2 q3 q4
    generalize ((((((w6).setCell ⟨w.heap.size,0,none⟩ (.int .i64 k)).setCell ⟨w.heap.size,1,none⟩ (.string nm)).setCell ⟨w.heap.size,2,none⟩ (.int .i64 num)).setCell ⟨w.heap.size,3,none⟩ (.int .i64 a)).setCell ⟨w.heap.size,4,none⟩ (.slice so ts.length sc)).setCell ⟨w.heap.size + 1,0,none⟩ .nilIface = w8 at *
    simp only [List.setIfInBounds_toArray,List.set_cons_zero,List.set_cons_succ] at hN8
    refine catch_ok fun w9 hb9 => ⟨_,resParse rfl rfl (hN8.below hb9 hN8.lt) (hE8.below hb9 hE8.lt),?_,hb8.trans (hb9.mono hb8.size)⟩
    have hr : r = .ok (.node k nm num a ts) := HR.out.trans (by rw [htr]; rfl)
    rw [hr]
    refine ⟨_,rfl,TreeIn.of (hrow.turn fun b h1 h2 => ⟨by omega,?_⟩)⟩
    rw [hb9.block b (by omega)]
    exact ho8 b (by omega) (by omega)
end Go.Proofs.YtneohanphabneaaGreatDoor
namespace Go.Proofs.YtneohanphabneaaGreatDoor
set_option maxRecDepth 100000
set_option maxHeartbeats 8000000
open Go.RowKit Ps
structure Env (w : World) (m : Int) : Prop where
 err : ErrType w
 max : w.cell? ⟨3,0,none⟩ = some (.int .i64 m)
 lv : Lv w w.heap.size
 tab : Tab10 w
theorem Env.below {w w' : World} {m : Int} (h : Env w m) (hb : Below w.heap.size w w') : Env w' m := by
 have hlt1 : 3 < w.heap.size := by
  rcases Nat.lt_or_ge 3 w.heap.size with h1 | h1
  ·exact h1
  ·have := h.max
   simp [World.cell?,Array.getElem?_eq_none h1] at this
 exact ⟨h.err.below hb h.err.lt,(hb.cell (p := ⟨3,0,none⟩) hlt1).trans h.max,(h.lv.same (fun k hk => hb.block k hk)).mono hb.size,h.tab.below hb⟩
theorem Env.alloc {w : World} {m : Int} (h : Env w m) (o : Obj) : Env (w.alloc o) m := h.below ((Below.refl _ _).alloc (Nat.le_refl _) _)
theorem TreeIn.form {w : World} {S : Nat → Prop} {v : Value} {t : Tree} (h : TreeIn w S v t) : ∃ (k : Nat) (nm : ByteArray) (num a : Nat) (so : Option Addr) (n sc : Nat),v = .agg #[.int .i64 k,.string nm,.int .i64 num,.int .i64 a,.slice so n sc] ∧ nm = Pr.nameT t := by
 obtain ⟨k,nm,num,a,ts,sv,rfl,rfl,r⟩ := h.parts
 obtain ⟨o,c,rfl⟩ := r.form
 exact ⟨k,nm,num,a,o,_,c,rfl,rfl⟩
theorem parse_made (s : ByteArray) (w : World) (m : Int) (hE : Env w m) : Calls Tryz.prog 7 #[.string s] w fun e w' => (ParGives w.heap.size (parseR s.data.toList) e w') ∧ Below w.heap.size w w' := pparse_any s w m hE.max hE.lv
theorem parseR_ok {s : List UInt8} {l : List Sc.Tok} {t : Tree} {j : Nat} (h1 : Sc.words s = .ok l) (h2 : Ps.tree l = .ok t j) : parseR s = .ok t := by
 unfold parseR
 rw [h1]
 simp only
 rw [h2]
theorem parseR_inv {s : List UInt8} {t : Tree} (h : parseR s = .ok t) : ∃ l j,Sc.words s = .ok l ∧ Ps.tree l = .ok t j := by
 unfold parseR at h
 cases hw : Sc.words s with
 | limit => rw [hw] at h; cases h
 | bad n a => rw [hw] at h; cases h
 | ok l =>
  rw [hw] at h
  simp only at h
  cases ht : Ps.tree l with
  | bad n a => rw [ht] at h; cases h
  | ok u j =>
   rw [ht] at h
   injection h with h
   subst h
   exact ⟨l,j,rfl,ht⟩
theorem print_huge {so : Option Addr} {n sc : Nat} (x y : Int) (w : World) (hn : 256 < n) : Calls Tryz.prog 4 #[.slice so n sc,.int .i64 x,.int .i64 y] w fun e w' => e = .returned (.bool true) ∧ Below w.heap.size w w' := by
 have h1 : (256 : Int) < (n : Int) := by omega
 go_enter Tryz.func4,Tryz.ntmps4
 go_wp2_with fail
 go_ret
 exact ⟨rfl,Below.refl _ _⟩
theorem print_go {so : Option Addr} {n sc : Nat} (x y m : Int) (hx0 : -9223372036854775808 ≤ x) (hx1 : x ≤ 9223372036854775807) (hy0 : -9223372036854775808 ≤ y) (hy1 : y ≤ 9223372036854775807) (w : World) (hn : n ≤ 256) (hsc : n ≤ sc) (hr : RawAt w so n) (hE : Env w m) :
  Calls Tryz.prog 4 #[.slice so n sc,.int .i64 x,.int .i64 y] w fun e w' => e = .returned (.bool true) ∧ Below w.heap.size w w' := by
 have h1 : ¬ (256 : Int) < (n : Int) := by omega
 have hP1 := pick_any x 100 hx0 hx1 (by decide) (by decide) w
 have hP2 := fun u => pick_any y 2 hy0 hy1 (by decide) (by decide) u
 have hT := fun (k : Nat) (hk : k < 100) => texts_any k (by omega) y hy0 hy1 hr hsc
 obtain ⟨l0,t0,j0,ha,hb,hc⟩ := Pr.small_reads
 have hS0 := parseR_ok ha hb
 have HE := Lib.hid hE
 clear hx0 hx1 hy0 hy1 hr hE ha hb hn
 go_enter Tryz.func4,Tryz.ntmps4
 go_wp2_with fail
 refine hP1.mono ?_
 rintro e w0 ⟨⟨k1,hk1,rfl⟩,rfl⟩
 go_wp2_with fail
 refine (hT k1 hk1).mono ?_
 rintro e w1 ⟨⟨g,s0,s1,rfl,hg,ht0,ht1⟩,hb1⟩
 have hE1 := HE.out.below hb1
 have hQ := parse_made ⟨#[77,79,68,85,76,69,32,77,59,32,66,69,71,73,78,32,79,85,84,40,49,41,32,69,78,68,32,77,46]⟩ w1 m hE1
 clear hP1 hT HE
 go_wp2_with fail
 refine hQ.mono ?_
 rintro e w2 ⟨hg2,hb2⟩
 rw [show parseR (ByteArray.data ⟨#[77,79,68,85,76,69,32,77,59,32,66,69,71,73,78,32,79,85,84,40,49,41,32,69,78,68,32,77,46]⟩).toList = .ok t0 from hS0] at hg2
 obtain ⟨v0,rfl,hv0⟩ := hg2
 obtain ⟨q0,nm0,q1,q2,q3,q4,q5,rfl,hnm⟩ := hv0.form
 rw [hc] at hnm
 subst hnm
 have hgA := hg.below hb2 hg.lt
 have hE2 := hE1.below hb2
 have hbA := hb1.trans (hb2.mono hb1.size)
 clear hQ hv0 hS0 hc hg hb1 hb2 hE1
 go_wp2_with fail
 have hgB := hgA.alloc (.cells #[.int .i64 q0,.string ⟨#[77]⟩,.int .i64 q1,.int .i64 q2,.slice q3 q4 q5] 25)
 have hE3 := hE2.alloc (.cells #[.int .i64 q0,.string ⟨#[77]⟩,.int .i64 q1,.int .i64 q2,.slice q3 q4 q5] 25)
 have hbB := hbA.alloc hbA.size (.cells #[.int .i64 q0,.string ⟨#[77]⟩,.int .i64 q1,.int .i64 q2,.slice q3 q4 q5] 25)
 clear hgA hE2 hbA
 refine (hP2 _).mono ?_
 rintro e w3 ⟨⟨k2,hk2,rfl⟩,hw3⟩
 rw [← hw3] at hgB hE3 hbB
 clear hw3 hP2
 obtain ⟨S,hcl,hS⟩ : ∃ S,w3.cell? ⟨g,k2,none⟩ = some (.string S) ∧ Txt S := by
  rcases (by omega : k2 = 0 ∨ k2 = 1) with rfl | rfl
  ·exact ⟨s0,hgB.cell 0,ht0⟩
  ·exact ⟨s1,hgB.cell 1,ht1⟩
 have i0 : (0 : Int) ≤ (k2 : Int) := by omega
 have i1 : (k2 : Int) < 2 := by omega
 have hQ := parse_made S w3 m hE3
 clear hgB ht0 ht1
 go_wp2_with fail
 refine hQ.mono ?_
 rintro e w4 ⟨hg4,hb4⟩
 have hE4 := hE3.below hb4
 have hb04 := hbB.trans (hb4.mono hbB.size)
 clear hQ hcl hE3 hbB
 cases hpr : parseR S.data.toList with
 | limit =>
  rw [hpr] at hg4
  obtain rfl := hg4
  clear hb4
  go_wp2_with fail
  go_ret
  exact ⟨rfl,hb04.alloc hb04.size _⟩
 | bad n p =>
  rw [hpr] at hg4
  obtain ⟨g',rfl,_⟩ := hg4
  clear hb4
  go_wp2_with fail
  go_ret
  exact ⟨rfl,hb04.alloc hb04.size _⟩
 | ok t =>
  rw [hpr] at hg4
  obtain ⟨v,rfl,hv⟩ := hg4
  obtain ⟨l,j,hl,ht⟩ := parseR_inv hpr
  obtain ⟨hp,hsz⟩ := Pr.made_pmod hS hl ht
  obtain ⟨a0,a1,a2,a3,a4,a5,a6,rfl,-⟩ := hv.form
  have hv := TI.of hv
  have hA := Blk.new w4 25 #[.int .i64 a0,.string a1,.int .i64 a2,.int .i64 a3,.slice a4 a5 a6]
  have hal : Below w4.heap.size w4 (w4.alloc (.cells #[.int .i64 a0,.string a1,.int .i64 a2,.int .i64 a3,.slice a4 a5 a6] 25)) := (Below.refl _ _).alloc (Nat.le_refl _) _
  have hv5 := hv.below hal
  have hE5 := hE4.below hal
  have hb05 := hb04.trans (hal.mono hb04.size)
  have hX := text_any hp hsz _ _ hE5.tab hv5
  clear hv hE4 hb04 hpr hl ht hS hb4 hal
  go_wp2_with fail
  refine hX.mono ?_
  rintro e w6 ⟨hcase,hb6⟩
  have hA6 := hA.below hb6 hA.lt
  have hv6 := hv5.below hb6
  have hE6 := hE5.below hb6
  have hb06 := hb05.trans (hb6.mono hb05.size)
  clear hX hA hv5 hE5 hb05 hb6
  rcases hcase with ⟨hle,rfl⟩ | ⟨hgt,rfl⟩
  ·obtain ⟨S1,hS1⟩ : ∃ S1,S1 = Pr.tx (Pr.module t) := ⟨_,rfl⟩
   have hS1t : S1.data.toList = Pr.txt (Pr.module t) := by rw [hS1]; simp [Pr.tx]
   obtain ⟨l2,t2,j2,r1,r2,r3,r4,r5⟩ := Pr.again hp hS1t hle
   have hR2 := parseR_ok r1 r2
   have hQ := parse_made S1 w6 m hE6
   rw [← hS1]
   have HS1 := Lib.hid hS1
   have R3 := Lib.hid r3
   have R5 := Lib.hid r5
   clear r1 r2 hS1t hS1 r3 r5
   go_wp2_with fail
   refine hQ.mono ?_
   rintro e w7 ⟨hg7,hb7⟩
   rw [hR2] at hg7
   obtain ⟨v2,rfl,hv2⟩ := hg7
   obtain ⟨c0,c1,c2,c3,c4,c5,c6,rfl,-⟩ := hv2.form
   have hv2 := TI.of hv2
   have hA7 := hA6.below hb7 hA6.lt
   have hv7 := hv6.below hb7
   have hE7 := hE6.below hb7
   have hb07 := hb06.trans (hb7.mono hb06.size)
   have hC := Blk.new w7 25 #[.int .i64 c0,.string c1,.int .i64 c2,.int .i64 c3,.slice c4 c5 c6]
   have hal : Below w7.heap.size w7 (w7.alloc (.cells #[.int .i64 c0,.string c1,.int .i64 c2,.int .i64 c3,.slice c4 c5 c6] 25)) := (Below.refl _ _).alloc (Nat.le_refl _) _
   have hA8 := hA7.below hal hA7.lt
   have hv8 := hv7.below hal
   have hv28 := hv2.below hal
   have hE8 := hE7.below hal
   have hb08 := hb07.trans (hal.mono hb07.size)
   have hX := text_any r4 (by rw [R5.out]; exact hsz) _ _ hE8.tab hv28
   clear hQ hR2 hA6 hv6 hE6 hb06 hA7 hv7 hE7 hb07 hv2 hal hb7
   go_wp2_with fail
   refine hX.mono ?_
   rintro e w9 ⟨hcase,hb9⟩
   rcases hcase with ⟨_,rfl⟩ | ⟨hgt,_⟩
   ·rw [R5.out,← HS1.out]
    have hA9 := hA8.below hb9 hA8.lt
    have hC9 := hC.below hb9 hC.lt
    have hv9 := hv8.below hb9
    have hv29 := hv28.below hb9
    have hb09 := hb08.trans (hb9.mono hb08.size)
    have hY := sametree_any R3.out.symm w9 _ _ _ _ hv29 hv9
    obtain ⟨⟨x0,x1,x2,x3,x4⟩,_⟩ := hA9.five
    obtain ⟨⟨y0,y1,y2,y3,y4⟩,_⟩ := hC9.five
    clear hX hA8 hv8 hv28 hE8 hb08 hb9 hA9 hC9 hv9 hv29 hC HS1 hle R3 r4 R5 hp hsz
    go_wp2_with fail
    refine hY.mono ?_
    rintro e w10 ⟨rfl,hb10⟩
    clear hY x0 x1 x2 x3 x4 y0 y1 y2 y3 y4
    go_wp2_with fail
    go_ret
    exact ⟨rfl,hb09.trans (hb10.mono hb09.size)⟩
   ·rw [R5.out] at hgt
    exact absurd hgt (by omega)
  ·have hT := tell_errno 3 w6 hE6.err
   clear hv6 hA6 hE6 hp hsz hgt
   go_wp2_with fail
   refine hT.mono ?_
   rintro e w7 ⟨rfl,hb7⟩
   clear hT
   go_wp2_with fail
   go_ret
   exact ⟨rfl,hb06.trans (hb7.mono hb06.size)⟩
theorem print_any {so : Option Addr} {n sc : Nat} (x y m : Int) (hx0 : -9223372036854775808 ≤ x) (hx1 : x ≤ 9223372036854775807) (hy0 : -9223372036854775808 ≤ y) (hy1 : y ≤ 9223372036854775807) (w : World) (hsc : n ≤ sc) (hr : n ≤ 256 → RawAt w so n) (hE : Env w m) :
  Calls Tryz.prog 4 #[.slice so n sc,.int .i64 x,.int .i64 y] w fun e w' => e = .returned (.bool true) ∧ Below w.heap.size w w' := by
 rcases Nat.lt_or_ge 256 n with h | h
 ·exact print_huge x y w h
 ·exact print_go x y m hx0 hx1 hy0 hy1 w h hsc (hr h) hE
end Go.Proofs.YtneohanphabneaaGreatDoor
