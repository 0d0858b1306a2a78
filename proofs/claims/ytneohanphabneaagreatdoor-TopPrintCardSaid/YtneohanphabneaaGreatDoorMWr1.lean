/-
  Print's writer: a builder that lies in another block's head; a row is written.
-/
import Derived.Test.YtneohanphabneaaGreatDoorMEq
import Derived.Test.YtneohanphabneaaGreatDoorQ5
import Derived.Shelf.Strings.Builder1
import Derived.Shelf.Strings.Repeat
namespace Go.Proofs.YtneohanphabneaaGreatDoor
set_option maxRecDepth 100000
set_option maxHeartbeats 2000000
open Go.RowKit Ps
def Pr.tx (ps : List Pr.Pc) : ByteArray := ⟨(Pr.txt ps).toArray⟩
theorem Pr.tx_app (a b : List Pr.Pc) : Pr.tx (a ++ b) = Pr.tx a ++ Pr.tx b := by
 unfold Pr.tx
 rw [Pr.txt_app]
 apply ByteArray.ext
 simp
theorem Pr.tx_nm (n : ByteArray) : Pr.tx [Pr.nm n] = n := by
 unfold Pr.tx
 rw [show Pr.txt [Pr.nm n] = n.data.toList from by simp [Pr.txt,Pr.Pc.b]]
theorem Pr.tx_size (ps : List Pr.Pc) : (Pr.tx ps).size = (Pr.txt ps).length := rfl
structure Wk (B b : Nat) (w w' : World) : Prop where
 below : Below B w w'
 size : w.heap.size ≤ w'.heap.size
 block : ∀ k cs t fz,k ≠ b → w.heap[k]? = some (.cells cs t fz) → t ≠ 5 → w'.heap[k]? = w.heap[k]?
theorem Wk.refl (B b : Nat) (w : World) : Wk B b w w := ⟨Below.refl _ _,Nat.le_refl _,fun _ _ _ _ _ _ _ => rfl⟩
theorem Wk.trans {B b : Nat} {w w' w'' : World} (h : Wk B b w w') (k : Wk B b w' w'') : Wk B b w w'' :=
 ⟨h.below.trans k.below,Nat.le_trans h.size k.size,fun j cs t fz hj hw ht => (k.block j cs t fz hj ((h.block j cs t fz hj hw ht).trans hw) ht).trans (h.block j cs t fz hj hw ht)⟩
theorem heap_lt {w : World} {k : Nat} {o : Obj} (h : w.heap[k]? = some o) : k < w.heap.size := by
 rcases Nat.lt_or_ge k w.heap.size with h1 | h1
 ·exact h1
 ·rw [Array.getElem?_eq_none h1] at h; cases h
theorem Wk.of {B b : Nat} {w w' : World} (hB : B ≤ w.heap.size) (h : Below w.heap.size w w') : Wk B b w w' := ⟨h.mono hB,h.size,fun k _ _ _ _ hw _ => h.block k (heap_lt hw)⟩
theorem Wk.drew {B b : Nat} {w u : World} (h : Wk B b w u) : Wk B b w u.drew := ⟨h.below.drew,h.size,h.block⟩
theorem Wk.set {B b i : Nat} {w : World} {x : Value} (h : Below B w (w.setCell ⟨b,i,none⟩ x)) : Wk B b w (w.setCell ⟨b,i,none⟩ x) := ⟨h,h.size,fun _ _ _ _ hk _ _ => Below.heap_setCell _ _ _ _ hk⟩
theorem Blk.wk {B b k : Nat} {w w' : World} {t : TypeId} {cs : Array Value} (h : Blk w k t cs) (hw : Wk B b w w') (hk : k ≠ b) (ht : t ≠ 5) : Blk w' k t cs := (hw.block k cs t (0,0) hk h ht).trans h
theorem own_keep {w w' : World} {B : Nat} {e : TypeId} {size : Nat} {v : Value} {n : Nat} {xs : List Value} (h : w.ownsRow B e size v n xs) (hb : ∀ g,v.ownBlock = some g → w'.heap[g]? = w.heap[g]?) : w'.ownsRow B e size v n xs := by
 obtain ⟨h1,h2⟩ := h
 refine ⟨h1,?_⟩
 rcases h2 with h | ⟨g,cap,cur,rfl,b,c,rest⟩
 ·exact .inl h
 ·exact .inr ⟨g,cap,cur,rfl,b,(hb g rfl).trans c,rest⟩
theorem own_type {w : World} {B : Nat} {e : TypeId} {size : Nat} {v : Value} {n : Nat} {xs : List Value} (h : w.ownsRow B e size v n xs) {g : Nat} (hg : v.ownBlock = some g) : ∃ cs,w.heap[g]? = some (.cells cs e (0,0)) := by
 rcases h.2 with ⟨rfl,_⟩ | ⟨g',cap,cur,rfl,b,c,rest⟩
 ·simp [Value.ownBlock] at hg
 ·simp [Value.ownBlock] at hg
  subst hg
  exact ⟨cur,c⟩
def WB (w : World) (B b : Nat) (l : List UInt8) (d : Nat) : Prop := B ≤ b ∧ ∃ p v,(p = .pointer none ∨ p = .pointer (some ⟨b,0,none⟩)) ∧ Blk w b 76 #[p,v,.int .i64 d] ∧ w.ownsRow B 5 1 v l.length (Lib.byteCells l) ∧ v.ownBlock ≠ some b
theorem WB.below {w w' : World} {B b : Nat} {l : List UInt8} {d : Nat} (h : WB w B b l d) (hb : Below w.heap.size w w') : WB w' B b l d := by
 obtain ⟨h1,p,v,hp,hk,ho,hn⟩ := h
 exact ⟨h1,p,v,hp,hk.below hb hk.lt,own_below ho hb,hn⟩
section
variable {w : World} {b : Nat} {p v x : Value}
theorem Blk.cells3 (h : Blk w b 76 #[p,v,x]) : w.cell? ⟨b,0,none⟩ = some p ∧ w.cell? ⟨b,1,none⟩ = some v ∧ w.cell? ⟨b,2,none⟩ = some x ∧ w.frozen? ⟨b,0,none⟩ = false ∧ w.frozen? ⟨b,1,none⟩ = false ∧ w.frozen? ⟨b,2,none⟩ = false ∧ w.shape? b = some (76,3) :=
 ⟨h.cell 0,h.cell 1,h.cell 2,h.frozen 0,h.frozen 1,h.frozen 2,by unfold Blk at h; simp [World.shape?,h]⟩
end
theorem info_builder : ∃ j,Tryz.prog.info? 74 = some j ∧ j.size = 2 := by
 have h : (Tryz.prog.info? 74).map (·.size) = some 2 := by kernel_rfl
 obtain ⟨j,hj,hs⟩ := Option.map_eq_some_iff.1 h
 exact ⟨j,hj,hs⟩
theorem copy_used (b : Nat) (w : World) (h0 : w.cell? ⟨b,0,none⟩ = some (.pointer (some ⟨b,0,none⟩))) :
  Calls Tryz.prog 169 #[.pointer (some ⟨b,0,none⟩)] w fun e w' => e = .returned (.tuple #[]) ∧ w' = w := by
 obtain ⟨j,hj,hjs⟩ := info_builder
 go_enter Tryz.func169,Tryz.ntmps169
 go_wp2_with fail
 rw [Lib.run_neq_ptr_same w _ Tryz.underlying71 hj]
 go_wp2_with fail
 exact ⟨rfl,_,by simp [results,Tryz.results169],rfl,rfl⟩
theorem copy_fresh (b : Nat) (w : World) (h0 : w.cell? ⟨b,0,none⟩ = some (.pointer none)) (hsh : w.shape? b = some (76,3)) (hfz : w.frozen? ⟨b,0,none⟩ = false) :
  Calls Tryz.prog 169 #[.pointer (some ⟨b,0,none⟩)] w fun e w' => e = .returned (.tuple #[]) ∧ w' = w.setCell ⟨b,0,none⟩ (.pointer (some ⟨b,0,none⟩)) := by
 obtain ⟨j,hj,hjs⟩ := info_builder
 go_enter Tryz.func169,Tryz.ntmps169
 go_wp2_with fail
 rw [Lib.run_to_unsafe w ⟨b,0,none⟩ Tryz.underlying71 Tryz.underlying108 hj (by rw [hjs]; decide) hsh (Nat.zero_lt_succ 2)]
 simp only [Result.andThen]
 rw [Oper.upon_value]
 go_wp2_with fail
 rw [run_callFunc_extern Tryz.func190 (by kernel_rfl) (by kernel_rfl) (by kernel_rfl) (e := Extern.AbiNoEscape.same) (by kernel_rfl)]
 rw [Lib.run_noEscape]
 simp only [Result.andThen]
 rw [Oper.upon_value]
 go_wp2_with fail
 rw [Lib.run_from_unsafe w ⟨b,0,none⟩ Tryz.underlying108 Tryz.underlying71 hj hsh (by kernel_rfl)]
 simp only [Result.andThen]
 rw [Oper.upon_value]
 go_wp2_with fail
 exact ⟨rfl,_,by simp [results,Tryz.results169],rfl,rfl⟩
theorem WB.copy {w : World} {B b : Nat} {l : List UInt8} {d : Nat} (h : WB w B b l d) : Calls Tryz.prog 169 #[.pointer (some ⟨b,0,none⟩)] w fun e w' => e = .returned (.tuple #[]) ∧
  (∃ v,Blk w' b 76 #[.pointer (some ⟨b,0,none⟩),v,.int .i64 d] ∧ w'.ownsRow B 5 1 v l.length (Lib.byteCells l) ∧ v.ownBlock ≠ some b) ∧ Below B w w' ∧ Wk B b w w' := by
 obtain ⟨h1,p,v,hp,hk,ho,hn⟩ := h
 obtain ⟨c0,c1,c2,f0,f1,f2,hs⟩ := hk.cells3
 rcases hp with rfl | rfl
 ·refine (copy_fresh b w c0 hs f0).mono ?_
  rintro e w' ⟨rfl,rfl⟩
  have hb : Below B w (w.setCell ⟨b,0,none⟩ (.pointer (some ⟨b,0,none⟩))) := (Below.refl _ _).setCell (p := ⟨b,0,none⟩) h1 _
  exact ⟨rfl,⟨v,hk.set 0 _,own_keep ho (fun g hg => Below.heap_setCell _ _ _ _ (fun e => hn (by rw [hg,e]))),hn⟩,hb,Wk.set hb⟩
 ·refine (copy_used b w c0).mono ?_
  rintro e w' ⟨rfl,rfl⟩
  exact ⟨rfl,⟨v,hk,ho,hn⟩,Below.refl _ _,Wk.refl _ _ _⟩
theorem byte_info : ∃ i,Tryz.prog.info? 5 = some i ∧ i.zero = some (.int .u8 0) ∧ i.size = 1 ∧ i.bytes = 1 := by
 have h : (Tryz.prog.info? 5).map (fun i => (i.zero,i.size,i.bytes)) = some (some (.int .u8 0),1,1) := by kernel_rfl
 exact info_parts h
theorem WB.write {w : World} {B b : Nat} {l : List UInt8} {d : Nat} (h : WB w B b l d) (hB : B ≤ w.heap.size) (s : ByteArray) (hl : l.length + s.size ≤ 100000000) : Calls Tryz.prog 135 #[.pointer (some ⟨b,0,none⟩),.string s] w fun e w' => e = .returned (.tuple #[.int .i64 s.size,.nilIface]) ∧ WB w' B b (l ++ s.data.toList) d ∧ Wk B b w w' := by
 obtain ⟨i0,hi,hz0,hz1,hz2⟩ := byte_info
 have HC := Lib.hid h.copy
 have h1 := h.1
 clear h
 go_enter Tryz.func135,Tryz.ntmps135
 go_wp2_with fail
 refine HC.out.mono ?_
 rintro e w1 ⟨rfl,⟨v,hk,hown,hn⟩,hb1,hwk1⟩
 obtain ⟨c0,c1,c2,f0,f1,f2,hs⟩ := hk.cells3
 have hz := hb1.size
 have hlen : (Lib.byteCells l).length = l.length := by simp [Lib.byteCells]
 go_wp2_with (at_builtin; refine Lib.wpList_append_own_string _ rfl _ _ 72 9 rfl B 5 i0 Tryz.underlying72 Tryz.underlying9 hi hz0 hz1 hz2 _ _ _ rfl hown s rfl ?c3 ?c4 ?c5 ?_)
 case c3 => unfold maxLen; omega
 case c4 => omega
 case c5 => omega
 intro v' w2 hown' hgrow _
 have hlt := hk.lt
 have hgb : ∀ (k : Nat) (cs : Array Value) (t : TypeId) (fz : Nat × Nat),w1.heap[k]? = some (Obj.cells cs t fz) → t ≠ 5 → w2.heap[k]? = w1.heap[k]? := fun k cs t fz hw ht => hgrow.block k (heap_lt hw) (fun e => by
  obtain ⟨cs',h'⟩ := own_type hown e.symm
  rw [h'] at hw
  injection hw with hw
  injection hw with _ hw
  exact ht hw.symm)
 have hk2 : Blk w2 b 76 #[.pointer (some ⟨b,0,none⟩),v,.int .i64 d] := (hgb b _ _ _ hk (by decide)).trans hk
 obtain ⟨d0,d1,d2,g0,g1,g2,_⟩ := hk2.cells3
 obtain ⟨ao,n',cap,rfl⟩ : ∃ ao n' cap,v' = .slice ao n' cap := by
  rcases hown'.2 with ⟨hv,_⟩ | ⟨g,cap,cur,hv,_⟩
  ·exact ⟨_,_,_,hv⟩
  ·exact ⟨_,_,_,hv⟩
 have hb2 : Below B w w2 := hb1.grown hgrow (by omega) (fun k hk => (hown.lt k hk).1)
 have hn' : (Value.slice ao n' cap).ownBlock ≠ some b := fun e => by
  obtain ⟨cs',h'⟩ := own_type hown' e
  unfold Blk at hk2
  rw [h'] at hk2
  injection hk2 with hk2
  injection hk2 with _ hk2
  exact absurd hk2 (by decide)
 have hwk2 : Wk B b w w2 := hwk1.trans ⟨(Below.refl B w1).grown hgrow (by omega) (fun k hk => (hown.lt k hk).1),hgrow.size,fun k cs t fz _ hw ht => hgb k cs t fz hw ht⟩
 clear hgrow hgb HC hwk1 hb1 hown hk c0 c1 c2 f0 f1 f2 hs
 go_wp2_with fail
 have hb3 : Below B w2 (w2.setCell ⟨b,1,none⟩ (.slice ao n' cap)) := (Below.refl B w2).setCell (p := ⟨b,1,none⟩) h1 _
 go_ret2
 refine ⟨rfl,⟨h1,_,_,.inr rfl,hk2.set 1 _,?_,hn'⟩,hwk2.trans (Wk.set hb3)⟩
 have e : Lib.byteCells (l ++ s.data.toList) = Lib.byteCells l ++ Lib.strCells s := by simp [Lib.byteCells,Lib.strCells]
 rw [e,List.length_append,Sc.len_size]
 exact own_keep hown' (fun g hg => Below.heap_setCell _ _ _ _ (fun e => hn' (by rw [hg,e])))
theorem WB.string {w : World} {B b : Nat} {l : List UInt8} {d : Nat} (h : WB w B b l d) (h0 : l ≠ []) : Calls Tryz.prog 31 #[.pointer (some ⟨b,0,none⟩)] w fun e w' => e = .returned (.string ⟨l.toArray⟩) ∧ Below B w w' := by
 obtain ⟨hB,p,v,hp,hbk,hown,hne⟩ := h
 have hl0 : l.length ≠ 0 := by simpa using h0
 obtain ⟨g,cap,cur,rfl,hbg,hg,hnc,hcm,hcs,htake⟩ : ∃ g cap cur,v = .slice (some ⟨g,0,none⟩) l.length cap ∧ B ≤ g ∧ w.heap[g]? = some (.cells cur 5 (0,0)) ∧ l.length ≤ cap ∧ cap ≤ maxLen ∧ cur.size = cap * 1 ∧ cur.toList.take (l.length * 1) = Lib.byteCells l := by
  rcases hown.2 with ⟨_,hz⟩ | ⟨g,cap,cur,hv,r⟩
  ·exact absurd hz hl0
  ·exact ⟨g,cap,cur,hv,r⟩
 have c1 : w.drew.cell? ⟨b,1,none⟩ = some (.slice (some ⟨g,0,none⟩) l.length cap) := hbk.cell 1
 have hSD : (Builtin.unsafeSliceData_ #[72] 107 #[.slice (some ⟨g,0,none⟩) l.length cap]).run Tryz.prog w.drew = .ok (.pointer (some ⟨g,0,none⟩)) w.drew :=
  Lib.run_unsafeSliceData_row _ _ _ _ _ _ (by omega)
 have hUS : (Builtin.unsafeString_ #[107,3] 9 #[.pointer (some ⟨g,0,none⟩),.int .i64 l.length]).run Tryz.prog w.drew = .ok (.string ⟨l.toArray⟩) (w.drew.freeze ⟨g,0,none⟩ l.length) := by
  refine Lib.run_unsafeString_row w.drew 107 3 9 5 Tryz.underlying107 (by kernel_rfl) g cur.size (by have hg' : w.drew.heap[g]? = some (.cells cur 5 (0,0)) := hg; simp [World.shape?,hg']) l h0 (by omega) (by simp only [maxLen] at hcm; omega) ?_
  intro j x hx
  have := hown.cells (g := g) rfl j (.int .u8 x.toNat) (by simp [Lib.byteCells,hx])
  exact this
 have mixed : Tryz.prog.follows .mixedOrders = true := by kernel_rfl
 go_enter Tryz.func31,Tryz.ntmps31
 go_wp2_with fail
 go_region_o
 all_goals (go_wp2_with fail; go_ret; exact ⟨rfl,Lib.below_freeze (Below.drew (Below.refl B w)) (p := ⟨g,0,none⟩) hbg _⟩)
theorem repeat_sp : ∀ d : Nat,Lib.repeatL [32,32] d = List.replicate (2 * d) 32
 | 0 => rfl
 | d + 1 => by
  rw [Lib.repeatL,repeat_sp d,show 2 * (d + 1) = 2 * d + 1 + 1 from by omega,List.replicate_succ,List.replicate_succ]
  rfl
theorem WB.deep {w : World} {B b : Nat} {l : List UInt8} {d : Nat} (h : WB w B b l d) : w.cell? ⟨b,2,none⟩ = some (.int .i64 d) := by
 obtain ⟨_,p,v,_,hk,_⟩ := h
 exact hk.cell 2
theorem WB.line {w : World} {B b : Nat} {l : List UInt8} {d : Nat} (h : WB w B b l d) (hB : B ≤ w.heap.size) (hd : d ≤ 1000) (s : ByteArray) (hl : l.length + 2 * d + s.size ≤ 90000000) : Calls Tryz.prog 83 #[.pointer (some ⟨b,0,none⟩),.string s] w fun e w' => e = .returned (.tuple #[]) ∧ WB w' B b (l ++ (List.replicate (2 * d) 32 ++ s.data.toList ++ [10])) d ∧ Wk B b w w' := by
 have hD : w.drew.cell? ⟨b,2,none⟩ = some (.int .i64 d) := h.deep
 have h := h.below (drew_below w)
 have hB' : B ≤ w.drew.heap.size := hB
 have hk0 := Wk.of (b := b) hB (drew_below w)
 go_enter Tryz.func83,Tryz.ntmps83
 go_wp2_with fail
 refine Ch.wp_region_run (fun u => u.cell? ⟨b,2,none⟩ = some (.int .i64 d)) [6] [0,1,2,3,4,5,6,8] [7,9,10,11] [] (by kernel_rfl) (by kernel_rfl) (fun _ _ d _ _ h => by cases d <;> exact h) hD ?_
 refine Ch.run_take (i := 0) (v := ?v0) rfl (by rfl) (by rfl) ?y0 ?_
 case y0 => intro u; go_simp; rfl
 simp only [putq]
 refine Ch.run_take (i := 1) (v := ?v1) rfl (by rfl) (by rfl) ?y1 ?_
 case y1 => intro u; go_simp; rfl
 simp only [putq]
 refine Ch.run_take (i := 2) (v := ?v2) rfl (by rfl) (by rfl) ?y2 ?_
 case y2 => intro u; go_simp; rfl
 simp only [putq]
 refine Ch.run_take (i := 3) (v := ?v3) rfl (by rfl) (by rfl) ?y3 ?_
 case y3 => intro u; go_simp; rfl
 simp only [putq]
 refine Ch.run_take (i := 4) (v := ?v4) rfl (by rfl) (by rfl) ?y4 ?_
 case y4 => intro u; go_simp; rfl
 simp only [putq]
 refine Ch.run_take (i := 5) (v := ?v5) rfl (by rfl) (by rfl) ?y5 ?_
 case y5 => intro u; go_simp; rfl
 simp only [putq]
 refine Ch.run_load (i := 6) (v := ?v6) rfl (by rfl) (by rfl) ?y6 ?_
 case y6 => intro u hC; go_simp; rfl
 simp only [putq]
 refine Ch.run_take (i := 8) (v := ?v8) rfl (by rfl) (by rfl) ?y8 ?_
 case y8 => intro u; go_simp; rfl
 simp only [putq]
 generalize w.drew = w0 at *
 refine Ch.run_mid (j := 7) rfl (by rfl) (fun K hK => ?_)
 go_simp
 refine (Tryz.strings_Repeat ⟨#[32,32]⟩ d w0 (by omega) (by show 2 * d ≤ _; omega)).mono ?_
 rintro e w1 ⟨rfl,hb1⟩
 have h1 := h.below hb1
 have hk1 := hk0.trans (Wk.of (b := b) hB' hb1)
 have hB1 : B ≤ w1.heap.size := Nat.le_trans hB' hb1.size
 refine hK _ _ h1.deep ?_
 clear hK K
 have er : Lib.repeatL (ByteArray.mk #[32,32]).data.toList d = List.replicate (2 * d) 32 := repeat_sp d
 rw [er]
 obtain ⟨r,hr⟩ : ∃ r : ByteArray,r = ⟨(List.replicate (2 * d) 32).toArray⟩ := ⟨_,rfl⟩
 have hrl : r.data.toList = List.replicate (2 * d) 32 := by rw [hr]
 have hrs : r.size = 2 * d := by rw [hr]; show (List.replicate (2 * d) (32 : UInt8)).toArray.size = _; simp
 rw [← hr]
 clear hr
 try simp only [putq]
 have z1 : ¬ 9223372036854775807 < r.size + s.size := by omega
 have z2 : ¬ 9223372036854775807 < r.size + s.size + 1 := by omega
 have HRS := Lib.hid hrs
 have HRL := Lib.hid hrl
 clear hrs hrl er
 refine Ch.run_mid (j := 9) rfl (by rfl) (fun K hK => ?_)
 go_simp
 refine hK _ _ h1.deep ?_
 clear hK K
 try simp only [putq]
 refine Ch.run_mid (j := 10) rfl (by rfl) (fun K hK => ?_)
 go_simp
 refine hK _ _ h1.deep ?_
 clear hK K
 try simp only [putq]
 refine Ch.run_mid (j := 11) rfl (by rfl) (fun K hK => ?_)
 go_simp
 have zs : (r ++ s ++ ⟨#[10]⟩ : ByteArray).size = r.size + s.size + 1 := by rw [ByteArray.size_append,ByteArray.size_append]; rfl
 have hzl : l.length + (r ++ s ++ (⟨#[10]⟩ : ByteArray)).size ≤ 100000000 := by rw [zs,HRS.out]; omega
 have HW := h1.write hB1 (r ++ s ++ (⟨#[10]⟩ : ByteArray)) hzl
 refine HW.mono ?_
 rintro e w2 ⟨rfl,h2,hk2⟩
 refine hK _ _ h2.deep ?_
 clear hK K
 refine Ch.run_end ?_
 go_wp2_with fail
 refine ⟨rfl,_,by simp [results,Tryz.results83],rfl,?_,hk1.trans hk2⟩
 have e : (r ++ s ++ (⟨#[10]⟩ : ByteArray)).data.toList = List.replicate (2 * d) 32 ++ s.data.toList ++ [10] := by
  rw [← HRL.out]; simp
 rw [← e]
 exact h2
end Go.Proofs.YtneohanphabneaaGreatDoor
namespace Go.Proofs.YtneohanphabneaaGreatDoor
set_option maxRecDepth 100000
set_option maxHeartbeats 2000000
open Go.RowKit Ps
abbrev Say (ps : List Pr.Pc) (w : World) (e : Ending) (w' : World) : Prop := e = .returned (.string (Pr.tx ps)) ∧ Below w.heap.size w w'
theorem str_info : ∃ i,Tryz.prog.info? 9 = some i ∧ i.zero = some (.string ⟨#[]⟩) ∧ i.size = 1 ∧ i.bytes = 16 := by
 have h : (Tryz.prog.info? 9).map (fun i => (i.zero,i.size,i.bytes)) = some (some (.string ⟨#[]⟩),1,16) := by kernel_rfl
 exact info_parts h
theorem app_str {ops : Array Oper} {rest : List Oper} {o : Oper} {a : Act} {Q : Exit → Act → World → Prop} (w : World) (hgd : o.guard = none) (s x : Operand)
  (ho : o.op = .call { callee := .builtin .append,args := #[s,x],argTypes := #[38,38] })
  (base : Nat) (v : Value) (l : List ByteArray) (hs : a.eval s = v) (hown : w.ownsRow base 9 1 v l.length (l.map Value.string))
  (S : ByteArray) (hx : a.eval x = .slice (some ⟨w.heap.size,0,none⟩) 1 1) (hl : l.length ≤ 200000000) (hb : base ≤ w.heap.size)
  (h : ∀ v' w',w'.ownsRow base 9 1 v' (l ++ [S]).length ((l ++ [S]).map Value.string) → Below base w w' → wpList Tryz.prog ops Q rest (a.put o.dst v') w') :
  wpList Tryz.prog ops Q (o :: rest) a (w.alloc (.cells #[.string S] 9)) := by
 obtain ⟨i0,hi,hz0,hz1,hz2⟩ := str_info
 refine wpList_append_own _ hgd s x 38 ho base 9 i0 _ 1 16 Tryz.underlying38 hi hz0 hz1 hz2 rfl (by decide) v l.length (l.map Value.string) hs (hown.alloc _) _ 1 1
  [.string S] hx rfl (World.news_of_block (heap_alloc_new w _)) ?_ ?_ ?_ ?_ ?_
 ·intro u hu
  simp only [List.mem_cons,List.mem_nil_iff,or_false] at hu
  subst hu
  rfl
 ·simp only [maxLen]; omega
 ·omega
 ·simp; omega
 ·intro v' w' hown' hgrow _
  refine h v' w' ?_ ?_
  ·rw [List.map_append,List.length_append]; exact hown'
  ·exact ((Below.refl base w).alloc hb _).grown hgrow (by simp; omega) (fun k hk => (hown.lt k hk).1)
theorem join_txt (sep : List Pr.Pc) (g : Tree → List Pr.Pc) : ∀ ts : List Tree,Lib.join (ts.map fun t => Pr.txt (g t)) (Pr.txt sep) = Pr.txt (Pr.joinP sep (ts.map g))
 | [] => rfl
 | [t] => by simp [Lib.join,Pr.joinP]
 | t :: u :: ts => by
  have ih := join_txt sep g (u :: ts)
  simp only [List.map_cons] at ih ⊢
  show _ = Pr.txt (g t ++ sep ++ Pr.joinP sep (g u :: ts.map g))
  rw [Pr.txt_app,Pr.txt_app,← ih]
  simp [Lib.join]
theorem join_says (f : FuncId) (hcf : ∀ (x : Value) (w : World),(callFunc f #[x]).run Tryz.prog w = .ok (.enter f #[x]) w) (g : Tree → List Pr.Pc) (w : World) (so : Option Addr) (sc : Nat) (ts : List Tree) (hsc : ts.length ≤ sc) (hr : RowAt w so ts) (hN : ts.length ≤ 200000000)
  (hf : ∀ t ∈ ts,∀ (w' : World) (v : Value),Below w.heap.size w w' → TI w' v t → Calls Tryz.prog f #[v] w' (Say (g t) w')) (sep : List Pr.Pc) (hlen : (Pr.txt (Pr.joinP sep (ts.map g))).length ≤ 100000000) :
  Calls Tryz.prog 84 #[.slice so ts.length sc,.string (Pr.tx sep),.func (.func f) #[] #[]] w (Say (Pr.joinP sep (ts.map g)) w) := by
 have HR := Lib.hid hr
 have HF := Lib.hid hf
 have HL := Lib.hid hlen
 clear hr hf hlen
 obtain ⟨sp,hsp⟩ : ∃ sp,sp = Pr.tx sep := ⟨_,rfl⟩
 rw [← hsp]
 have HSP := Lib.hid hsp
 clear hsp
 go_enter Tryz.func84,Tryz.ntmps84
 go_wp2_with fail
 go_loopw [7,12] (fun v i wr => ∃ (j : Nat) (vv : Value),vv = v ∧ j ≤ ts.length ∧ i = .int .i64 j ∧ Hid (Below w.heap.size w wr) ∧ Hid (wr.ownsRow w.heap.size 9 1 vv ((ts.take j).map fun t => Pr.tx (g t)).length (((ts.take j).map fun t => Pr.tx (g t)).map Value.string))) (fun _ i _ => ts.length - (intOf i).toNat)
 case atStart => exact ⟨0,_,rfl,Nat.zero_le _,rfl,Lib.hid (Below.refl _ _),Lib.hid (World.ownsRow_nil _ _ _ _)⟩
 case round =>
  obtain ⟨j,vv,hvv,hj,rfl,HB,HO⟩ := hrel
  subst hvv
  by_cases hlt : j < ts.length
  ·obtain ⟨g0,o,k,nm,num,a,su,us,sc2,rfl,hg,et,f5,t1⟩ := (HR.out.below HB.out).nth j hlt
   clear et
   obtain ⟨a0,a1,a2,a3,a4⟩ := f5
   have i0 : (0 : Int) ≤ (j : Int) := by omega
   have i1 : (j : Int) < (ts.length : Int) := by omega
   have i2 : j < sc := by omega
   go_wp2_with fail
   have hal : Below wr.heap.size wr (wr.alloc (.cells #[.int .i64 k,.string nm,.int .i64 num,.int .i64 a,.slice su us.length sc2] 25)) := (Below.refl _ _).alloc (Nat.le_refl _) _
   refine (HF.out ts[j] (List.getElem_mem hlt) _ _ (HB.out.trans (hal.mono HB.out.size)) (t1.below hal)).mono ?_
   rintro e w2 ⟨rfl,hb2⟩
   have hO2 := own_below (own_below HO.out hal) hb2
   have hB2 : Below w.heap.size w w2 := (HB.out.trans (hal.mono HB.out.size)).trans (hb2.mono (by have := HB.out.size; simp; omega))
   have hz2 := hB2.size
   have hll : ((ts.take j).map fun t => Pr.tx (g t)).length ≤ 200000000 := by rw [List.length_map,List.length_take]; omega
   clear a0 a1 a2 a3 a4 t1 hal hb2
   go_wp2_with (first | (at_builtin; refine app_str w2 rfl (.tmp 16) (.tmp 20) rfl w.heap.size _ _ (by rfl) hO2 (Pr.tx (g ts[j])) (by rfl) hll hz2 ?_; intro v1 w3 hO3 hb3) | fail)
   go_roundw
   case rel =>
    refine ⟨j + 1,_,rfl,by omega,by go_num,Lib.hid (hB2.trans hb3),Lib.hid ?_⟩
    have e : (ts.take (j + 1)).map (fun t => Pr.tx (g t)) = (ts.take j).map (fun t => Pr.tx (g t)) ++ [Pr.tx (g ts[j])] := by
     rw [List.take_add_one,List.getElem?_eq_getElem hlt,List.map_append]
     rfl
    rw [e]
    exact hO3
   case measure => simp [intOf]; omega
  ·have i1 : ¬ (j : Int) < (ts.length : Int) := by omega
   have htk : ts.take j = ts := List.take_of_length_le (by omega)
   have hO := HO.out
   rw [htk] at hO
   have hjl : (Lib.join ((ts.map fun t => Pr.tx (g t)).map (·.data.toList)) sp.data.toList) = Pr.txt (Pr.joinP sep (ts.map g)) := by
    rw [HSP.out,← join_txt,List.map_map]
    rfl
   have HJ := Lib.hid hjl
   clear hjl
   rcases Nat.eq_zero_or_pos ts.length with hz | hz
   ·have hts : ts = [] := List.length_eq_zero_iff.1 hz
    subst hts
    obtain ⟨ao,co,rfl⟩ : ∃ ao co,vv = .slice ao 0 co := by
     rcases hO.2 with ⟨h,_⟩ | ⟨g1,cap,cur,h,_,_,_,_,_,_⟩
     ·exact ⟨_,_,h⟩
     ·exact ⟨_,_,h⟩
    go_wp2_with fail
    refine (Tryz.strings_Join_none _ _ sp wr).mono ?_
    rintro e w4 ⟨rfl,rfl⟩
    go_wp2_with fail
    go_ret
    exact ⟨rfl,HB.out⟩
   ·obtain ⟨g1,cap,rfl,hcap⟩ : ∃ g1 cap,vv = .slice (some ⟨g1,0,none⟩) ((ts.map fun t => Pr.tx (g t)).length) cap ∧ (ts.map fun t => Pr.tx (g t)).length ≤ cap := by
     rcases hO.2 with ⟨_,h⟩ | ⟨g1,cap,cur,h,_,_,h2,_,_,_⟩
     ·rw [List.length_map] at h; omega
     ·exact ⟨g1,cap,h,h2⟩
    have hcells : ∀ (i : Nat) (x : ByteArray),(ts.map fun t => Pr.tx (g t))[i]? = some x → wr.cell? ⟨g1,0 + i,none⟩ = some (.string x) := fun i x hx => by
     have := hO.cells (g := g1) rfl i (.string x) (by rw [List.getElem?_map,hx]; rfl)
     rw [Nat.zero_add]
     have ea : (⟨g1,0,none⟩ : Addr).add i = ⟨g1,i,none⟩ := by
      unfold Addr.add
      by_cases hj : i = 0
      ·rw [if_pos hj,hj]
      ·rw [if_neg hj]; simp
     rw [ea] at this
     exact this
    have hJ := Tryz.strings_Join g1 0 cap (ts.map fun t => Pr.tx (g t)) sp wr hcells (by have := hO.lt g1 rfl; exact this.2) (by rw [List.length_map]; omega) hcap (by rw [HJ.out]; have := HL.out; omega)
    rw [HJ.out] at hJ
    rw [List.length_map] at hJ ⊢
    have HJJ := Lib.hid hJ
    clear hJ hcells hO
    go_wp2_with fail
    refine HJJ.out.mono ?_
    rintro e w4 ⟨rfl,hb4⟩
    go_wp2_with fail
    go_ret
    exact ⟨rfl,HB.out.trans (hb4.mono HB.out.size)⟩
set_option maxRecDepth 100000
set_option maxHeartbeats 2000000
open Go.RowKit Ps
theorem star0_says {k : Nat} {n : ByteArray} {a : Nat} {ts : List Tree} (w : World) (v : Value) (h : TI w v (.node k n 0 a ts)) : Calls Tryz.prog 88 #[v] w (Say (Pr.star 0) w) := by
 obtain ⟨so,sc,rfl,hsc,hR⟩ := h.node
 clear h
 change Calls _ _ #[NodeC n k 0 a so ts.length sc] _ _
 have hA := Blk.new w 25 #[.int .i64 k,.string n,.int .i64 0,.int .i64 a,.slice so ts.length sc]
 have hB := Below.al w 25 #[.int .i64 k,.string n,.int .i64 0,.int .i64 a,.slice so ts.length sc]
 have qA := hA.five.1
 go_enter Tryz.func88,Tryz.ntmps88
 go_wp2_with fail
 go_ret
 exact ⟨rfl,hB⟩
theorem star1_says {k : Nat} {n : ByteArray} {a : Nat} {ts : List Tree} (w : World) (v : Value) (h : TI w v (.node k n 1 a ts)) : Calls Tryz.prog 88 #[v] w (Say (Pr.star 1) w) := by
 obtain ⟨so,sc,rfl,hsc,hR⟩ := h.node
 clear h
 change Calls _ _ #[NodeC n k 1 a so ts.length sc] _ _
 have hA := Blk.new w 25 #[.int .i64 k,.string n,.int .i64 1,.int .i64 a,.slice so ts.length sc]
 have hB := Below.al w 25 #[.int .i64 k,.string n,.int .i64 1,.int .i64 a,.slice so ts.length sc]
 have qA := hA.five.1
 go_enter Tryz.func88,Tryz.ntmps88
 go_wp2_with fail
 go_ret
 exact ⟨rfl,hB⟩
theorem star_says {k : Nat} {n : ByteArray} {num a : Nat} {ts : List Tree} (hnum : num ≤ 1) (w : World) (v : Value) (h : TI w v (.node k n num a ts)) : Calls Tryz.prog 88 #[v] w (Say (Pr.star num) w) := by
 obtain rfl | rfl : num = 0 ∨ num = 1 := by omega
 ·exact star0_says w v h
 ·exact star1_says w v h
theorem name_size {n : ByteArray} (h : isName n = true) : n.size ≤ 12 := by
 unfold isName at h
 simp only [Bool.and_eq_true,decide_eq_true_eq] at h
 exact h.1.1.2
theorem tn1_says {n : ByteArray} {a : Nat} (w : World) (v : Value) (h : TI w v (.node 13 n 0 a [])) : Calls Tryz.prog 138 #[v] w (Say (Pr.typeName (.node 13 n 0 a [])) w) := by
 obtain ⟨so,sc,rfl,hsc,hR⟩ := h.node
 clear h
 change Calls _ _ #[NodeC n 13 0 a so 0 sc] _ _
 have hA := Blk.new w 25 #[.int .i64 13,.string n,.int .i64 0,.int .i64 a,.slice so 0 sc]
 have hB := Below.al w 25 #[.int .i64 13,.string n,.int .i64 0,.int .i64 a,.slice so 0 sc]
 have qA := hA.five.1
 go_enter Tryz.func138,Tryz.ntmps138
 go_wp2_with fail
 rw [show Pr.typeName (.node 13 n 0 a []) = [Pr.nm n] from rfl]
 unfold Say
 rw [Pr.tx_nm]
 go_ret
 exact ⟨rfl,hB⟩
theorem tn2_says {n n2 : ByteArray} {a b : Nat} (hn : isName n = true) (hn2 : isName n2 = true) (w : World) (v : Value) (h : TI w v (.node 13 n 0 a [.node 24 n2 0 b []])) : Calls Tryz.prog 138 #[v] w (Say (Pr.typeName (.node 13 n 0 a [.node 24 n2 0 b []])) w) := by
 obtain ⟨so,sc,rfl,hsc,hR⟩ := h.node
 clear h
 change Calls _ _ #[NodeC n 13 0 a so 1 sc] _ _
 have hA := Blk.new w 25 #[.int .i64 13,.string n,.int .i64 0,.int .i64 a,.slice so 1 sc]
 have hB := Below.al w 25 #[.int .i64 13,.string n,.int .i64 0,.int .i64 a,.slice so 1 sc]
 obtain ⟨g,o,k0,n0,m0,a0,s0,u0,c0,rfl,hg,e0,f0,t0⟩ := hR.at0
 have he : (Tree.node 24 n2 0 b []) = .node k0 n0 m0 a0 u0 := e0
 injection he with h1 h2 h3 h4 h5
 subst h1 h2 h3 h4 h5
 have s1 := name_size hn
 have s2 := name_size hn2
 clear e0
 have z1 : ¬ 9223372036854775807 < n2.size + 1 := by omega
 have z2 : ¬ 9223372036854775807 < n2.size + 1 + n.size := by omega
 have qA := hA.five.1
 have q0 := (f0.below hB hg).c0
 go_enter Tryz.func138,Tryz.ntmps138
 go_wp2_with fail
 replace hA := hA.below (drew_below _) hA.lt
 replace hB := hB.drew
 clear qA q0
 refine Ch.wp_region_tree (fun u => Blk u w.heap.size 25 #[.int .i64 13,.string n,.int .i64 0,.int .i64 a,.slice (some ⟨g,o,none⟩) 1 sc] ∧ Below w.heap.size w u) [1,4,7] [] (.take 0 (.take 1 (.take 2 (.take 3 (.take 4 (.take 5 (.take 6 (.take 7 (.take 8 (.take 9 .done)))))))))) (by kernel_rfl) (by kernel_rfl) (fun _ _ d _ _ h => by cases d <;> first | exact h | exact ⟨h.1,h.2.drew⟩) ⟨hA,hB⟩ ?_
 refine Ch.tk0 rfl (by rfl) (fun u => by go_simp; rfl) ?_
 try simp only [putq]
 refine Ch.ld1 rfl (by rfl) (fun u ⟨hA,hB⟩ => by have qA := (Blk.five hA).1; have q0 := (f0.below hB hg).c0; go_simp; rfl) ?_
 try simp only [putq]
 refine Ch.tk2 rfl (by rfl) (fun u => by go_simp; rfl) ?_
 try simp only [putq]
 refine Ch.tk3 rfl (by rfl) (fun u => by go_simp; rfl) ?_
 try simp only [putq]
 refine Ch.ld4 rfl (by rfl) (fun u ⟨hA,hB⟩ => by have qA := (Blk.five hA).1; have q0 := (f0.below hB hg).c0; go_simp; rfl) ?_
 try simp only [putq]
 refine Ch.tk5 rfl (by rfl) (fun u => by go_simp; rfl) ?_
 try simp only [putq]
 refine Ch.tk6 rfl (by rfl) (fun u => by go_simp; rfl) ?_
 try simp only [putq]
 refine Ch.ld7 rfl (by rfl) (fun u ⟨hA,hB⟩ => by have qA := (Blk.five hA).1; have q0 := (f0.below hB hg).c0; go_simp; rfl) ?_
 try simp only [putq]
 refine Ch.tk8 rfl (by rfl) (fun u => by go_simp; rfl) ?_
 try simp only [putq]
 refine Ch.tk9 rfl (by rfl) (fun u => by go_simp; rfl) ?_
 try simp only [putq]
 refine Ch.tree_end ?_
 have qA := hA.five.1
 have q0 := (f0.below hB hg).c0
 go_wp2_with fail
 rw [show Pr.typeName (.node 13 n 0 a [.node 24 n2 0 b []]) = [Pr.nm n2] ++ [Pr.s_dot] ++ [Pr.nm n] from rfl]
 unfold Say
 rw [Pr.tx_app,Pr.tx_app,Pr.tx_nm,Pr.tx_nm]
 go_ret
 exact ⟨rfl,hB⟩
theorem typeName_says {t : Tree} (ht : Pr.PT t) (w : World) (v : Value) (h : TI w v t) : Calls Tryz.prog 138 #[v] w (Say (Pr.typeName t) w) := by
 cases ht with
 | one hn => exact tn1_says w v h
 | two hn hn2 => exact tn2_says hn hn2 w v h
set_option maxRecDepth 100000
set_option maxHeartbeats 2000000
open Go.RowKit Ps
theorem tn1_yes {n : ByteArray} {a : Nat} (hn : isName n = true) (w : World) (v : Value) (h : TI w v (.node 13 n 0 a [])) : Calls Tryz.prog 80 #[v] w (Yes w) := by
 obtain ⟨so,sc,rfl,hsc,hR⟩ := h.node
 clear h
 change Calls _ _ #[NodeC n 13 0 a so 0 sc] _ _
 have hA := Blk.new w 25 #[.int .i64 13,.string n,.int .i64 0,.int .i64 a,.slice so 0 sc]
 have hB := Below.al w 25 #[.int .i64 13,.string n,.int .i64 0,.int .i64 a,.slice so 0 sc]
 go_enter Tryz.func80,Tryz.ntmps80
 go_wp2_with fail
 refine (sname_yes hn _).mono ?_
 rintro e w1 ⟨rfl,hb⟩
 replace hA := hA.below hb hA.lt
 replace hB := hB.trans (hb.mono hB.size)
 clear hb
 have qA := hA.five.1
 go_wp2_with fail
 refine (each_yes 131 (cf_of Tryz.func131 (by kernel_rfl) (by kernel_rfl)) _ so sc [] (Nat.zero_le _) (hR.below hB) (fun t ht => by cases ht)).mono ?_
 rintro e w2 ⟨rfl,hb⟩
 clear qA
 replace hA := hA.below hb hA.lt
 replace hB := hB.trans (hb.mono hB.size)
 clear hb
 have qA := hA.five.1
 go_wp2_with fail
 go_ret
 exact ⟨rfl,hB⟩
theorem tn2_yes {n n2 : ByteArray} {a b : Nat} (hn : isName n = true) (hn2 : isName n2 = true) (w : World) (v : Value) (h : TI w v (.node 13 n 0 a [.node 24 n2 0 b []])) : Calls Tryz.prog 80 #[v] w (Yes w) := by
 obtain ⟨so,sc,rfl,hsc,hR⟩ := h.node
 clear h
 change Calls _ _ #[NodeC n 13 0 a so 1 sc] _ _
 have hA := Blk.new w 25 #[.int .i64 13,.string n,.int .i64 0,.int .i64 a,.slice so 1 sc]
 have hB := Below.al w 25 #[.int .i64 13,.string n,.int .i64 0,.int .i64 a,.slice so 1 sc]
 go_enter Tryz.func80,Tryz.ntmps80
 go_wp2_with fail
 refine (sname_yes hn _).mono ?_
 rintro e w1 ⟨rfl,hb⟩
 replace hA := hA.below hb hA.lt
 replace hB := hB.trans (hb.mono hB.size)
 clear hb
 have qA := hA.five.1
 go_wp2_with fail
 refine (each_yes 131 (cf_of Tryz.func131 (by kernel_rfl) (by kernel_rfl)) _ so sc [.node 24 n2 0 b []] hsc (hR.below hB) (fun t ht => by rw [List.mem_singleton.1 ht]; exact fun w' v h => tnsub_yes hn2 w' v h)).mono ?_
 rintro e w2 ⟨rfl,hb⟩
 clear qA
 replace hA := hA.below hb hA.lt
 replace hB := hB.trans (hb.mono hB.size)
 clear hb
 have qA := hA.five.1
 go_wp2_with fail
 go_ret
 exact ⟨rfl,hB⟩
theorem typeName_yes {t : Tree} (ht : Pr.PT t) (w : World) (v : Value) (h : TI w v t) : Calls Tryz.prog 80 #[v] w (Yes w) := by
 cases ht with
 | one hn => exact tn1_yes hn w v h
 | two hn hn2 => exact tn2_yes hn hn2 w v h
theorem none_yes {a : Nat} (w : World) (v : Value) (h : TI w v (.node 0 ⟨#[]⟩ 0 a [])) : Calls Tryz.prog 129 #[v] w (Yes w) := by
 obtain ⟨so,sc,rfl,hsc,hR⟩ := h.node
 clear h
 change Calls _ _ #[NodeC ⟨#[]⟩ 0 0 a so 0 sc] _ _
 have hA := Blk.new w 25 #[.int .i64 0,.string ⟨#[]⟩,.int .i64 0,.int .i64 a,.slice so 0 sc]
 have hB := Below.al w 25 #[.int .i64 0,.string ⟨#[]⟩,.int .i64 0,.int .i64 a,.slice so 0 sc]
 go_enter Tryz.func129,Tryz.ntmps129
 go_wp2_with fail
 refine (plain_yes _ 0 a so 0 sc).mono ?_
 rintro e w1 ⟨rfl,hb⟩
 replace hA := hA.below hb hA.lt
 replace hB := hB.trans (hb.mono hB.size)
 clear hb
 have qA := hA.five.1
 go_wp2_with fail
 go_ret
 exact ⟨rfl,hB⟩
theorem perhaps_tn {t : Tree} (ht : Pr.PT t) (w : World) (v : Value) (h : TI w v t) : Calls Tryz.prog 129 #[v] w (Yes w) := by
 have hT := h
 obtain ⟨n,num,a,ts,rfl⟩ : ∃ n num a ts,t = .node 13 n num a ts := by cases ht <;> exact ⟨_,_,_,_,rfl⟩
 obtain ⟨so,sc,rfl,hsc,hR⟩ := h.node
 clear h
 change Calls _ _ #[NodeC n 13 num a so ts.length sc] _ _
 have hA := Blk.new w 25 #[.int .i64 13,.string n,.int .i64 num,.int .i64 a,.slice so ts.length sc]
 have hB := Below.al w 25 #[.int .i64 13,.string n,.int .i64 num,.int .i64 a,.slice so ts.length sc]
 go_enter Tryz.func129,Tryz.ntmps129
 go_wp2_with fail
 refine (plain_no _ 13 0 0 (by decide) n num a so ts.length sc).mono ?_
 rintro e w2 ⟨rfl,hb⟩
 replace hA := hA.below hb hA.lt
 replace hB := hB.trans (hb.mono hB.size)
 clear hb
 have qA := hA.five.1
 go_wp2_with fail
 refine (typeName_yes ht _ _ (hT.below hB)).mono ?_
 rintro e w3 ⟨rfl,hb⟩
 clear qA
 replace hA := hA.below hb hA.lt
 replace hB := hB.trans (hb.mono hB.size)
 clear hb
 have qA := hA.five.1
 go_wp2_with fail
 go_ret
 exact ⟨rfl,hB⟩
theorem perhaps_yes {t : Tree} (ht : Pr.Pbase t) (w : World) (v : Value) (h : TI w v t) : Calls Tryz.prog 129 #[v] w (Yes w) := by
 rcases ht with ⟨a,rfl⟩ | ht
 ·exact none_yes w v h
 ·exact perhaps_tn ht w v h
theorem list_yes (f : FuncId) (hcf : ∀ (x : Value) (w : World),(callFunc f #[x]).run Tryz.prog w = .ok (.enter f #[x]) w) {what : Tree → Prop} {t : Tree} (ht : Pr.Plist what t) (hf : ∀ t,what t → ∀ (w' : World) (v : Value),TI w' v t → Calls Tryz.prog f #[v] w' (Yes w')) (w : World) (v : Value) (h : TI w v t) : Calls Tryz.prog 71 #[v,.func (.func f) #[] #[]] w (Yes w) := by
 obtain ⟨a,ts,rfl,hts⟩ := ht
 obtain ⟨so,sc,rfl,hsc,hR⟩ := h.node
 clear h
 change Calls _ _ #[NodeC ⟨#[]⟩ 1 0 a so ts.length sc,.func (.func f) #[] #[]] _ _
 have hA := Blk.new w 25 #[.int .i64 1,.string ⟨#[]⟩,.int .i64 0,.int .i64 a,.slice so ts.length sc]
 have hB := Below.al w 25 #[.int .i64 1,.string ⟨#[]⟩,.int .i64 0,.int .i64 a,.slice so ts.length sc]
 go_enter Tryz.func71,Tryz.ntmps71
 go_wp2_with fail
 refine (plain_yes _ 1 a so ts.length sc).mono ?_
 rintro e w4 ⟨rfl,hb⟩
 replace hA := hA.below hb hA.lt
 replace hB := hB.trans (hb.mono hB.size)
 clear hb
 have qA := hA.five.1
 go_wp2_with fail
 refine (each_yes f hcf _ so sc ts hsc (hR.below hB) (fun t ht => hf t (hts t ht))).mono ?_
 rintro e w5 ⟨rfl,hb⟩
 clear qA
 replace hA := hA.below hb hA.lt
 replace hB := hB.trans (hb.mono hB.size)
 clear hb
 have qA := hA.five.1
 go_wp2_with fail
 go_ret
 exact ⟨rfl,hB⟩
theorem declared0_yes (f : FuncId) (hcf : ∀ (x : Value) (w : World),(callFunc f #[x]).run Tryz.prog w = .ok (.enter f #[x]) w) (kind : Nat) {n : ByteArray} {a : Nat} {x : Tree} (hn : isName n = true) (hf : ∀ (w' : World) (v : Value),TI w' v x → Calls Tryz.prog f #[v] w' (Yes w')) (w : World) (v : Value) (h : TI w v (.node kind n 0 a [x])) : Calls Tryz.prog 75 #[v,.int .i64 kind,.func (.func f) #[] #[]] w (Yes w) := by
 obtain ⟨so,sc,rfl,hsc,hR⟩ := h.node
 clear h
 change Calls _ _ #[NodeC n kind 0 a so 1 sc,.int .i64 kind,.func (.func f) #[] #[]] _ _
 have hA := Blk.new w 25 #[.int .i64 kind,.string n,.int .i64 0,.int .i64 a,.slice so 1 sc]
 have hB := Below.al w 25 #[.int .i64 kind,.string n,.int .i64 0,.int .i64 a,.slice so 1 sc]
 obtain ⟨g,o,k0,n0,m0,a0,s0,u0,c0,rfl,hg,-,f0,t0⟩ := hR.at0
 have qA := hA.five.1
 have q0 := (f0.below hB hg).c0
 go_enter Tryz.func75,Tryz.ntmps75
 go_wp2_with fail
 refine (sname_yes hn _).mono ?_
 rintro e w1 ⟨rfl,hb⟩
 clear qA q0
 replace hA := hA.below hb hA.lt
 replace hB := hB.trans (hb.mono hB.size)
 clear hb
 have qA := hA.five.1
 have q0 := (f0.below hB hg).c0
 go_wp2_with fail
 refine (hf _ _ (t0.below hB)).mono ?_
 rintro e w2 ⟨rfl,hb⟩
 clear qA q0
 replace hA := hA.below hb hA.lt
 replace hB := hB.trans (hb.mono hB.size)
 clear hb
 have qA := hA.five.1
 have q0 := (f0.below hB hg).c0
 go_wp2_with fail
 go_ret
 exact ⟨rfl,hB⟩
theorem declared1_yes (f : FuncId) (hcf : ∀ (x : Value) (w : World),(callFunc f #[x]).run Tryz.prog w = .ok (.enter f #[x]) w) (kind : Nat) {n : ByteArray} {a : Nat} {x : Tree} (hn : isName n = true) (hf : ∀ (w' : World) (v : Value),TI w' v x → Calls Tryz.prog f #[v] w' (Yes w')) (w : World) (v : Value) (h : TI w v (.node kind n 1 a [x])) : Calls Tryz.prog 75 #[v,.int .i64 kind,.func (.func f) #[] #[]] w (Yes w) := by
 obtain ⟨so,sc,rfl,hsc,hR⟩ := h.node
 clear h
 change Calls _ _ #[NodeC n kind 1 a so 1 sc,.int .i64 kind,.func (.func f) #[] #[]] _ _
 have hA := Blk.new w 25 #[.int .i64 kind,.string n,.int .i64 1,.int .i64 a,.slice so 1 sc]
 have hB := Below.al w 25 #[.int .i64 kind,.string n,.int .i64 1,.int .i64 a,.slice so 1 sc]
 obtain ⟨g,o,k0,n0,m0,a0,s0,u0,c0,rfl,hg,-,f0,t0⟩ := hR.at0
 have qA := hA.five.1
 have q0 := (f0.below hB hg).c0
 go_enter Tryz.func75,Tryz.ntmps75
 go_wp2_with fail
 refine (sname_yes hn _).mono ?_
 rintro e w1 ⟨rfl,hb⟩
 clear qA q0
 replace hA := hA.below hb hA.lt
 replace hB := hB.trans (hb.mono hB.size)
 clear hb
 have qA := hA.five.1
 have q0 := (f0.below hB hg).c0
 go_wp2_with fail
 refine (hf _ _ (t0.below hB)).mono ?_
 rintro e w2 ⟨rfl,hb⟩
 clear qA q0
 replace hA := hA.below hb hA.lt
 replace hB := hB.trans (hb.mono hB.size)
 clear hb
 have qA := hA.five.1
 have q0 := (f0.below hB hg).c0
 go_wp2_with fail
 go_ret
 exact ⟨rfl,hB⟩
theorem declared_yes (f : FuncId) (hcf : ∀ (x : Value) (w : World),(callFunc f #[x]).run Tryz.prog w = .ok (.enter f #[x]) w) (kind : Nat) {what : Tree → Prop} {t : Tree} (ht : Pr.Pdec kind what t) (hf : ∀ t,what t → ∀ (w' : World) (v : Value),TI w' v t → Calls Tryz.prog f #[v] w' (Yes w')) (w : World) (v : Value) (h : TI w v t) : Calls Tryz.prog 75 #[v,.int .i64 kind,.func (.func f) #[] #[]] w (Yes w) := by
 obtain ⟨n,num,a,x,rfl,hn,hnum,hx⟩ := ht
 obtain rfl | rfl : num = 0 ∨ num = 1 := by omega
 ·exact declared0_yes f hcf kind hn (hf x hx) w v h
 ·exact declared1_yes f hcf kind hn (hf x hx) w v h
end Go.Proofs.YtneohanphabneaaGreatDoor
