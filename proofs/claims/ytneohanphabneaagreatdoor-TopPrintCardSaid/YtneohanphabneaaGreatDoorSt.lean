/-
  The state of a function of the parser: its world u, where the call began in w; the blocks that it has laid, the last one ahead; a row of trees that grows; the rows of trees that are at hand.
-/
import Derived.Test.YtneohanphabneaaGreatDoorMScan
namespace Go.Proofs.YtneohanphabneaaGreatDoor
open Go.RowKit Ps
abbrev Bl := Nat × TypeId × Array Value
abbrev Rw := Value × List Tree
abbrev nilS : Value := .slice none 0 0
abbrev g0 : Rw := (nilS,[])
def Sx (X : Nat → Prop) (w : World) (bs : List Bl) (b : Nat) : Prop := (w.heap.size ≤ b ∨ X b) ∧ ∀ x ∈ bs,x.1 ≠ b
def Sy (X : Nat → Prop) (w : World) (bs : List Bl) (g : Rw) (b : Nat) : Prop := Sx X w bs b ∧ g.1.ownBlock ≠ some b
def Grow (X : Nat → Prop) (w u : World) (bs : List Bl) (g : Rw) : Prop := ∃ xs,u.ownsRow 0 25 5 g.1 g.2.length xs ∧ (∀ b,g.1.ownBlock = some b → w.heap.size ≤ b ∧ Sx X w bs b) ∧ CellsIn u (Sy X w bs g) g.2 xs
structure StX (X : Nat → Prop) (w u : World) (p T : Nat) (l : List Sc.Tok) (i d : Nat) (bs : List Bl) (g : Rw) (rs : List Rw) : Prop where
 kp : Kp w.heap.size p w u
 ps : PS u p T l i d
 lt : p < w.heap.size
 blk : ∀ x ∈ bs,w.heap.size ≤ x.1 ∧ Blk u x.1 x.2.1 x.2.2
 apart : bs.Pairwise fun x y => x.1 ≠ y.1
 grow : Grow X w u bs g
 rows : ∀ r ∈ rs,RowIn u (Sy X w bs g) r.1 r.2
 far : ∀ b,X b → b < w.heap.size ∧ b ≠ p
abbrev X0 : Nat → Prop := fun _ => False
abbrev St := StX X0
section
variable {X : Nat → Prop} {w u u' : World} {p T : Nat} {l : List Sc.Tok} {i d : Nat} {bs bs' : List Bl} {g : Rw} {rs : List Rw}
theorem grow0 (X : Nat → Prop) (w u : World) (bs : List Bl) : Grow X w u bs g0 := ⟨[],World.ownsRow_nil _ _ _ _,(fun b h => by cases h),by unfold CellsIn; rfl⟩
theorem St.start (h : PS w p T l i d) : St w w p T l i d [] g0 [] := ⟨Kp.refl _ _ _,h,h.lt.1,(fun _ h => by cases h),List.Pairwise.nil,grow0 _ _ _ _,(fun _ h => by cases h),(fun _ h => h.elim)⟩
theorem StX.start {sv : Value} {ts : List Tree} (h : PS w p T l i d) (hX : ∀ b,X b → b < w.heap.size ∧ b ≠ p) (hr : RowIn w X sv ts) : StX X w w p T l i d [] g0 [(sv,ts)] :=
 ⟨Kp.refl _ _ _,h,h.lt.1,(fun _ h => by cases h),List.Pairwise.nil,grow0 _ _ _ _,(fun r hm => by
  rcases List.mem_cons.1 hm with rfl | hm
  ·exact hr.turn fun b _ hb => ⟨⟨⟨.inr hb,fun _ h => by cases h⟩,fun e => by cases e⟩,rfl⟩
  ·cases hm),hX⟩
theorem StX.nep (h : StX X w u p T l i d bs g rs) {b : Nat} (hs : Sx X w bs b) : b ≠ p := by
 rcases hs.1 with h1 | h1
 ·have := h.lt; omega
 ·exact (h.far b h1).2
theorem StX.size (h : StX X w u p T l i d bs g rs) : w.heap.size ≤ u.heap.size := h.kp.size
theorem Grow.turn (h : Grow X w u bs g) (hb : ∀ b,b < u.heap.size → Sx X w bs b → Sx X w bs' b ∧ u'.heap[b]? = u.heap[b]?) : Grow X w u' bs' g := by
 obtain ⟨xs,h1,h2,h3⟩ := h
 exact ⟨xs,own_same h1 (fun b hg => (hb b (own_lt h1 b hg) (h2 b hg).2).2),fun b hg => ⟨(h2 b hg).1,(hb b (own_lt h1 b hg) (h2 b hg).2).1⟩,h3.turn (fun b hlt hs => ⟨⟨(hb b hlt hs.1).1,hs.2⟩,(hb b hlt hs.1).2⟩)⟩
theorem rows_turn (h : ∀ r ∈ rs,RowIn u (Sy X w bs g) r.1 r.2) (hb : ∀ b,b < u.heap.size → Sx X w bs b → Sx X w bs' b ∧ u'.heap[b]? = u.heap[b]?) : ∀ r ∈ rs,RowIn u' (Sy X w bs' g) r.1 r.2 :=
 fun r hr => (h r hr).turn fun b hlt hs => ⟨⟨(hb b hlt hs.1).1,hs.2⟩,(hb b hlt hs.1).2⟩
theorem StX.alloc (h : StX X w u p T l i d bs g rs) (t : TypeId) (cs : Array Value) : StX X w (u.alloc (.cells cs t)) p T l i d ((u.heap.size,t,cs) :: bs) g rs := by
 have hb : ∀ b,b < u.heap.size → Sx X w bs b → Sx X w ((u.heap.size,t,cs) :: bs) b ∧ (u.alloc (.cells cs t)).heap[b]? = u.heap[b]? := fun b hlt hs => by
  refine ⟨⟨hs.1,fun x hx => ?_⟩,Below.heap_alloc _ _ _ hlt⟩
  rcases List.mem_cons.1 hx with rfl | hx
  ·exact fun e => by simp only at e; omega
  ·exact hs.2 x hx
 refine ⟨h.kp.alloc h.size _,h.ps.alloc _,h.lt,?_,List.pairwise_cons.2 ⟨fun x hx => ?_,h.apart⟩,h.grow.turn hb,rows_turn h.rows hb,h.far⟩
 ·intro x hx
  rcases List.mem_cons.1 hx with rfl | hx
  ·exact ⟨h.size,Blk.new u _ cs⟩
  ·exact ⟨(h.blk x hx).1,(h.blk x hx).2.alloc _⟩
 ·have := (h.blk x hx).2.lt
  show u.heap.size ≠ x.1
  omega
theorem StX.allocAt (h : StX X w u p T l i d bs g rs) (b : Nat) (t : TypeId) (cs : Array Value) (hb : u.heap.size = b) : StX X w (u.alloc (.cells cs t)) p T l i d ((b,t,cs) :: bs) g rs := hb ▸ h.alloc t cs
theorem StX.other (h : StX X w u p T l i d bs g rs) (o : Obj) : StX X w (u.alloc o) p T l i d bs g rs :=
 have hb : ∀ b,b < u.heap.size → Sx X w bs b → Sx X w bs b ∧ (u.alloc o).heap[b]? = u.heap[b]? := fun _ hlt hs => ⟨hs,Below.heap_alloc _ _ _ hlt⟩
 ⟨h.kp.alloc h.size _,h.ps.alloc _,h.lt,fun x hx => ⟨(h.blk x hx).1,(h.blk x hx).2.alloc _⟩,h.apart,h.grow.turn hb,rows_turn h.rows hb,h.far⟩
theorem StX.drew (h : StX X w u p T l i d bs g rs) : StX X w u.drew p T l i d bs g rs :=
 have hb : ∀ b,b < u.heap.size → Sx X w bs b → Sx X w bs b ∧ u.drew.heap[b]? = u.heap[b]? := fun _ _ hs => ⟨hs,rfl⟩
 ⟨h.kp.drew,h.ps.drew,h.lt,h.blk,h.apart,h.grow.turn hb,rows_turn h.rows hb,h.far⟩
theorem StX.ne (h : StX X w u p T l i d bs g rs) : ∀ x ∈ bs,x.1 ≠ p := fun x hx => by have := (h.blk x hx).1; have := h.lt; omega
theorem StX.call {j e : Nat} (h : StX X w u p T l i d bs g rs) (hk : Kp u.heap.size p u u') (hp : PS u' p T l j e) : StX X w u' p T l j e bs g rs :=
 have hb : ∀ b,b < u.heap.size → Sx X w bs b → Sx X w bs b ∧ u'.heap[b]? = u.heap[b]? := fun b hlt hs => ⟨hs,hk.block b hlt (h.nep hs)⟩
 ⟨h.kp.call h.size hk,hp,h.lt,fun x hx => ⟨(h.blk x hx).1,hk.blk (h.blk x hx).2 (h.ne x hx)⟩,h.apart,h.grow.turn hb,rows_turn h.rows hb,h.far⟩
theorem StX.below (h : StX X w u p T l i d bs g rs) (hb : Below u.heap.size u u') : StX X w u' p T l i d bs g rs := h.call (.of_below hb) (h.ps.below hb)
theorem StX.pan (h : StX X w u p T l i d bs g rs) (hk : Kp u.heap.size p u u') : Kp w.heap.size p w u' := h.kp.call h.size hk
theorem StX.drop {b : Bl} (h : StX X w u p T l i d (b :: bs) g rs) : StX X w u p T l i d bs g rs :=
 have hb : ∀ c,c < u.heap.size → Sx X w (b :: bs) c → Sx X w bs c ∧ u.heap[c]? = u.heap[c]? := fun _ _ hs => ⟨⟨hs.1,fun x hx => hs.2 x (List.mem_cons_of_mem _ hx)⟩,rfl⟩
 ⟨h.kp,h.ps,h.lt,fun x hx => h.blk x (List.mem_cons_of_mem _ hx),(List.pairwise_cons.1 h.apart).2,h.grow.turn hb,rows_turn h.rows hb,h.far⟩
theorem StX.setGen {b : Nat} {t : TypeId} {cs : Array Value} (h : StX X w u p T l i d bs g rs) (n k : Nat) (v : Value) (hn : bs[n]? = some (b,t,cs)) : StX X w (u.setCell ⟨b,k,none⟩ v) p T l i d (bs.set n (b,t,cs.setIfInBounds k v)) g rs := by
 obtain ⟨hn1,hn2⟩ := List.getElem?_eq_some_iff.1 hn
 have hm : (b,t,cs) ∈ bs := hn2 ▸ List.getElem_mem hn1
 have hg := h.blk _ hm
 have hb : ∀ c,c < u.heap.size → Sx X w bs c → Sx X w (bs.set n (b,t,cs.setIfInBounds k v)) c ∧ (u.setCell ⟨b,k,none⟩ v).heap[c]? = u.heap[c]? := fun c hlt hs => by
  refine ⟨⟨hs.1,fun x hx => ?_⟩,Below.heap_setCell _ _ _ _ fun e => hs.2 _ hm e.symm⟩
  rcases List.mem_or_eq_of_mem_set hx with hx | rfl
  ·exact hs.2 x hx
  ·exact hs.2 (b,t,cs) hm
 refine ⟨h.kp.setCell (.inl hg.1) _,h.ps.setCell (by have := h.lt; have := hg.1; show p < b; omega) _,h.lt,?_,?_,h.grow.turn hb,rows_turn h.rows hb,h.far⟩
 ·intro x hx
  obtain ⟨j,hj,e⟩ := List.getElem_of_mem hx
  rw [List.length_set] at hj
  rw [List.getElem_set] at e
  by_cases hnj : n = j
  ·rw [if_pos hnj] at e
   subst e
   exact ⟨hg.1,hg.2.set k v⟩
  ·rw [if_neg hnj] at e
   subst e
   have hx := h.blk bs[j] (List.getElem_mem hj)
   refine ⟨hx.1,hx.2.setOther _ _ ?_⟩
   show bs[j].1 ≠ b
   have hp := List.pairwise_iff_getElem.1 h.apart
   have e1 : bs[n].1 = b := by rw [hn2]
   rw [← e1]
   rcases Nat.lt_or_gt_of_ne hnj with hlt | hlt
   ·exact fun e => hp n j hn1 hj hlt e.symm
   ·exact hp j n hj hn1 hlt
 ·rw [List.pairwise_iff_getElem]
  intro a c ha hb hab
  rw [List.length_set] at ha hb
  have hp := List.pairwise_iff_getElem.1 h.apart a c ha hb hab
  rw [List.getElem_set,List.getElem_set]
  by_cases h1 : n = a
  ·subst h1
   rw [if_pos rfl,if_neg (by omega)]
   rw [hn2] at hp; exact hp
  ·rw [if_neg h1]
   by_cases h2 : n = c
   ·subst h2
    rw [if_pos rfl]
    rw [hn2] at hp; exact hp
   ·rw [if_neg h2]; exact hp
theorem StX.keep {B : Nat} {sv : Value} {ts : List Tree} (h : StX X w u p T l i d bs g rs) (hB : w.heap.size ≤ B) (hbs : ∀ x ∈ bs,x.1 < B) (hg : ∀ b,g.1.ownBlock = some b → b < B) (hr : RowIn u (fun b => B ≤ b) sv ts) : StX X w u p T l i d bs g ((sv,ts) :: rs) :=
 ⟨h.kp,h.ps,h.lt,h.blk,h.apart,h.grow,fun r hm => by
  rcases List.mem_cons.1 hm with rfl | hm
  ·refine hr.turn fun b hlt hb => ⟨⟨⟨.inl (by omega),fun x hx e => by have := hbs x hx; omega⟩,fun e => by have := hg b e; omega⟩,rfl⟩
  ·exact h.rows r hm,h.far⟩
theorem StX.bsLt (h : StX X w u p T l i d bs g rs) : ∀ x ∈ bs,x.1 < u.heap.size := fun x hx => (h.blk x hx).2.lt
theorem StX.gLt (h : StX X w u p T l i d bs g rs) : ∀ b,g.1.ownBlock = some b → b < u.heap.size := by
 obtain ⟨xs,h1,_,_⟩ := h.grow
 exact own_lt h1
theorem StX.callKeep {j e : Nat} {sv : Value} {ts : List Tree} (h : StX X w u p T l i d bs g rs) (hk : Kp u.heap.size p u u') (hp : PS u' p T l j e) (hr : RowIn u' (fun b => u.heap.size ≤ b) sv ts) : StX X w u' p T l j e bs g ((sv,ts) :: rs) :=
 (h.call hk hp).keep h.size h.bsLt h.gLt hr
theorem StX.keepNil (h : StX X w u p T l i d bs g rs) : StX X w u p T l i d bs g ((nilS,[]) :: rs) :=
 ⟨h.kp,h.ps,h.lt,h.blk,h.apart,h.grow,fun r hm => by
  rcases List.mem_cons.1 hm with rfl | hm
  ·exact .nil _ _
  ·exact h.rows r hm,h.far⟩
theorem StX.lose {r : Rw} (h : StX X w u p T l i d bs g (r :: rs)) : StX X w u p T l i d bs g rs := ⟨h.kp,h.ps,h.lt,h.blk,h.apart,h.grow,fun r hm => h.rows r (List.mem_cons_of_mem _ hm),h.far⟩
theorem StX.rowsOf {rs' : List Rw} (h : StX X w u p T l i d bs g rs) (hs : ∀ r ∈ rs',r ∈ rs) : StX X w u p T l i d bs g rs' := ⟨h.kp,h.ps,h.lt,h.blk,h.apart,h.grow,fun r hm => h.rows r (hs r hm),h.far⟩
theorem StX.grown (h : StX X w u p T l i d bs g rs) : StX X w u p T l i d bs g0 (g :: rs) := by
 have hy : ∀ b,Sy X w bs g b → Sy X w bs g0 b := fun b hb => ⟨hb.1,fun e => by cases e⟩
 refine ⟨h.kp,h.ps,h.lt,h.blk,h.apart,grow0 _ _ _ _,fun r hm => ?_,h.far⟩
 rcases List.mem_cons.1 hm with rfl | hm
 ·obtain ⟨xs,h1,h2,h3⟩ := h.grow
  exact ⟨xs,h1,fun b hb => ⟨(h2 b hb).2,fun e => by cases e⟩,h3.turn fun b _ hb => ⟨hy b hb,rfl⟩⟩
 ·exact (h.rows r hm).turn fun b _ hb => ⟨hy b hb,rfl⟩
theorem StX.madeRow {b n : Nat} {cs : List Value} {ts : List Tree} (h : StX X w u p T l i d ((b,25,cs.toArray) :: bs) g rs) (hn : n = ts.length) (hm : n ≤ 1000000) (hc : CellsIn u (Sy X w ((b,25,cs.toArray) :: bs) g) ts cs) : StX X w u p T l i d bs g ((.slice (some ⟨b,0,none⟩) n n,ts) :: rs) := by
 have hd := h.drop
 have h0 := h.blk _ (List.mem_cons_self ..)
 have hy : ∀ c,Sy X w ((b,25,cs.toArray) :: bs) g c → Sy X w bs g c := fun c hc => ⟨⟨hc.1.1,fun x hx => hc.1.2 x (List.mem_cons_of_mem _ hx)⟩,hc.2⟩
 refine ⟨hd.kp,hd.ps,hd.lt,hd.blk,hd.apart,hd.grow,fun r hr => ?_,hd.far⟩
 rcases List.mem_cons.1 hr with rfl | hr
 ·refine RowIn.made h0.2 hn ⟨⟨.inl h0.1,fun x hx e => (List.pairwise_cons.1 h.apart).1 x hx e.symm⟩,fun e => ?_⟩ hm (hc.turn fun c _ hs => ⟨hy c hs,rfl⟩)
  obtain ⟨xs,_,h2,_⟩ := h.grow
  exact (h2 b e).2.2 _ (List.mem_cons_self ..) rfl
 ·exact hd.rows r hr
theorem cells_one {S : Nat → Prop} {k : Nat} {nm : ByteArray} {num a : Nat} {sv : Value} {us : List Tree} (h : RowIn u S sv us) : CellsIn u S [.node k nm num a us] (cells5 k nm num a sv) := CellsIn.one (subsIn_node.2 h)
theorem StX.appended {gv' : Value} {us : List Tree} {xs cs : List Value} {b0 j cap : Nat} (h : StX X w u p T l i d bs g rs)
  (h2 : ∀ b,g.1.ownBlock = some b → w.heap.size ≤ b ∧ Sx X w bs b) (h3 : CellsIn u (Sy X w bs g) g.2 xs) (hus : CellsIn u (Sy X w bs g) us cs)
  (hown : u'.ownsRow 0 25 5 gv' (g.2.length + us.length) (xs ++ cs)) (hgr : u.grownBy u' g.1.ownBlock) (hv : gv' = .slice (some ⟨b0,0,none⟩) j cap)
  (hb0 : g.1.ownBlock = some b0 ∨ b0 = u.heap.size) : StX X w u' p T l i d bs (gv',g.2 ++ us) rs := by
 have hob : gv'.ownBlock = some b0 := by rw [hv]; rfl
 have hgB : ∀ b,g.1.ownBlock = some b → w.heap.size ≤ b := fun b hb => (h2 b hb).1
 have hkeep : ∀ b,b < u.heap.size → g.1.ownBlock ≠ some b → u'.heap[b]? = u.heap[b]? := fun b hlt hne => hgr.block b hlt (fun e => hne e.symm)
 have hy : ∀ b,b < u.heap.size → Sy X w bs g b → Sy X w bs (gv',g.2 ++ us) b ∧ u'.heap[b]? = u.heap[b]? := fun b hlt hs => by
  refine ⟨⟨hs.1,fun e => ?_⟩,hkeep b hlt hs.2⟩
  rw [hob] at e
  have e : b0 = b := by simpa using e
  rcases hb0 with h0 | h0
  ·exact hs.2 (e ▸ h0)
  ·omega
 have hx : ∀ b,gv'.ownBlock = some b → w.heap.size ≤ b ∧ Sx X w bs b := fun b hb => by
  rw [hob] at hb
  have e : b0 = b := by simpa using hb
  rcases hb0 with h0 | h0
  ·exact h2 b (e ▸ h0)
  ·refine ⟨by have := h.size; omega,.inl (by have := h.size; omega),fun x hx e2 => ?_⟩
   have := h.bsLt x hx
   omega
 refine ⟨h.kp.grown hgr h.size (fun b hb => hgB b hb),h.ps.grown hgr (fun b hb => by have := hgB b hb; have := h.lt; omega),h.lt,?_,h.apart,?_,?_,h.far⟩
 ·intro x hxm
  refine ⟨(h.blk x hxm).1,?_⟩
  refine (hkeep x.1 (h.bsLt x hxm) fun e => ?_).trans (h.blk x hxm).2
  exact (h2 x.1 e).2.2 x hxm rfl
 ·refine ⟨xs ++ cs,?_,hx,(h3.turn hy).app (hus.turn hy)⟩
  rw [List.length_append]; exact hown
 ·intro r hr
  exact (h.rows r hr).turn hy
end
theorem CellsIn.plain {w : World} {S : Nat → Prop} : ∀ {ts : List Tree} {xs : List Value},CellsIn w S ts xs → ∀ v ∈ xs,v.oneCell' = true
 | [],xs,h => by unfold CellsIn at h; subst h; intro v hv; cases hv
 | t :: ts,xs,h => by
  unfold CellsIn at h
  obtain ⟨k,nm,num,a,us,sv,rest,rfl,rfl,h1,h2⟩ := h
  obtain ⟨xs,ho,_⟩ := subsIn_node.1 h1
  have hsv : sv.oneCell' = true := by
   rcases ho.2 with ⟨rfl,_⟩ | ⟨g,cap,cur,rfl,_⟩ <;> rfl
  intro v hv
  simp only [List.mem_cons] at hv
  rcases hv with rfl | rfl | rfl | rfl | rfl | hv
  ·rfl
  ·rfl
  ·rfl
  ·rfl
  ·exact hsv
  ·exact CellsIn.plain h2 v hv
theorem StX.appG {X : Nat → Prop} {w u : World} {p T : Nat} {l : List Sc.Tok} {i d : Nat} {bs : List Bl} {gv : Value} {acc us : List Tree} {rs : List Rw} {o : Oper} {a : Act} {K : Act → World → Prop} {Q : Exit → Act → World → Prop} (h : StX X w u p T l i d bs (gv,acc) rs) (s x : Operand)
  (ho : o.op = .call { callee := .builtin .append,args := #[s,x],argTypes := #[23,23] }) (hs : a.eval s = gv) (ad : Addr) (m c : Nat) (cs : List Value) (hx : a.eval x = .slice (some ad) m c) (hm : m = us.length) (hm0 : 0 < us.length)
  (hcs : ∀ j v,cs[j]? = some v → u.cell? (ad.add j) = some v) (hus : CellsIn u (Sy X w bs (gv,acc)) us cs) (hlen : acc.length + us.length ≤ 1000000)
  (hK : ∀ go gc u',StX X w u' p T l i d bs (.slice go (acc.length + us.length) gc,acc ++ us) rs → K (a.put o.dst (.slice go (acc.length + us.length) gc)) u') : o.wp Tryz.prog a u K Q := by
 obtain ⟨xs,h1,h2,h3⟩ := h.grow
 obtain ⟨i0,hi,hz0,hz1,hz2⟩ := info_parts node_info
 subst hm
 refine wp_append_lies u s x 23 ho 0 25 i0 _ 5 64 Tryz.underlying23 hi hz0 hz1 hz2 rfl (by decide) gv acc.length xs hs h1 ad us.length c cs hx (by rw [hus.len]; omega) hcs hus.plain hm0 (by simp only [maxLen]; omega) (by omega) (Nat.zero_le _) _ rfl ?_
 intro b cap w' hown hgr hat hlt
 have := h.appended (gv' := .slice (some ⟨b,0,none⟩) (acc.length + us.length) cap) h2 h3 hus hown hgr rfl hat
 exact hK _ _ _ this
theorem StX.appN {X : Nat → Prop} {w u : World} {p T : Nat} {l : List Sc.Tok} {i d : Nat} {bs : List Bl} {gv : Value} {acc us : List Tree} {rs : List Rw} {o : Oper} {a : Act} {K : Act → World → Prop} {Q : Exit → Act → World → Prop} (h : StX X w u p T l i d bs (gv,acc) rs) (s x : Operand)
  (ho : o.op = .call { callee := .builtin .append,args := #[s,x],argTypes := #[23,23] }) (hs : a.eval s = gv) (cs : List Value) (n : Nat) (hx : a.eval x = .slice (some ⟨u.heap.size,0,none⟩) n n) (hn : n = us.length) (hm0 : 0 < us.length)
  (hus : CellsIn u (Sy X w bs (gv,acc)) us cs) (hlen : acc.length + us.length ≤ 1000000)
  (hK : ∀ go gc u',StX X w u' p T l i d bs (.slice go (acc.length + us.length) gc,acc ++ us) rs → K (a.put o.dst (.slice go (acc.length + us.length) gc)) u') : o.wp Tryz.prog a (u.alloc (.cells cs.toArray 25)) K Q :=
 (h.other _).appG s x ho hs _ _ _ cs hx hn hm0 (fun j v hv => World.news_of_block (heap_alloc_new u _) j v (by simpa using hv)) (hus.turn fun b hlt hb => ⟨hb,Below.heap_alloc _ _ _ hlt⟩) hlen hK
variable {X : Nat → Prop} {w u : World} {p T : Nat} {l : List Sc.Tok} {i d : Nat} {g : Rw} {rs : List Rw} {b0 b1 b2 b3 b4 b5 b6 b7 b8 : Bl} {bs : List Bl} {b : Nat} {t : TypeId} {x x0 x1 x2 x3 x4 : Value}
theorem StX.n0 (h : StX X w u p T l i d (b0 :: bs) g rs) : w.heap.size ≤ b0.1 ∧ Blk u b0.1 b0.2.1 b0.2.2 := h.blk _ (by simp)
theorem StX.n1 (h : StX X w u p T l i d (b0 :: b1 :: bs) g rs) : w.heap.size ≤ b1.1 ∧ Blk u b1.1 b1.2.1 b1.2.2 := h.blk _ (by simp)
theorem StX.n2 (h : StX X w u p T l i d (b0 :: b1 :: b2 :: bs) g rs) : w.heap.size ≤ b2.1 ∧ Blk u b2.1 b2.2.1 b2.2.2 := h.blk _ (by simp)
theorem StX.n3 (h : StX X w u p T l i d (b0 :: b1 :: b2 :: b3 :: bs) g rs) : w.heap.size ≤ b3.1 ∧ Blk u b3.1 b3.2.1 b3.2.2 := h.blk _ (by simp)
theorem StX.n4 (h : StX X w u p T l i d (b0 :: b1 :: b2 :: b3 :: b4 :: bs) g rs) : w.heap.size ≤ b4.1 ∧ Blk u b4.1 b4.2.1 b4.2.2 := h.blk _ (by simp)
theorem StX.n5 (h : StX X w u p T l i d (b0 :: b1 :: b2 :: b3 :: b4 :: b5 :: bs) g rs) : w.heap.size ≤ b5.1 ∧ Blk u b5.1 b5.2.1 b5.2.2 := h.blk _ (by simp)
theorem StX.n6 (h : StX X w u p T l i d (b0 :: b1 :: b2 :: b3 :: b4 :: b5 :: b6 :: bs) g rs) : w.heap.size ≤ b6.1 ∧ Blk u b6.1 b6.2.1 b6.2.2 := h.blk _ (by simp)
theorem StX.n7 (h : StX X w u p T l i d (b0 :: b1 :: b2 :: b3 :: b4 :: b5 :: b6 :: b7 :: bs) g rs) : w.heap.size ≤ b7.1 ∧ Blk u b7.1 b7.2.1 b7.2.2 := h.blk _ (by simp)
theorem StX.d01 (h : StX X w u p T l i d (b0 :: b1 :: bs) g rs) : ¬ b0.1 = b1.1 ∧ ¬ b1.1 = b0.1 := by
 have := List.pairwise_iff_getElem.1 h.apart 0 1 (by simp) (by simp) (by decide)
 exact ⟨this,fun e => this e.symm⟩
theorem StX.d02 (h : StX X w u p T l i d (b0 :: b1 :: b2 :: bs) g rs) : ¬ b0.1 = b2.1 ∧ ¬ b2.1 = b0.1 := by
 have := List.pairwise_iff_getElem.1 h.apart 0 2 (by simp) (by simp) (by decide)
 exact ⟨this,fun e => this e.symm⟩
theorem StX.d04 (h : StX X w u p T l i d (b0 :: b1 :: b2 :: b3 :: b4 :: bs) g rs) : ¬ b0.1 = b4.1 ∧ ¬ b4.1 = b0.1 := by
 have := List.pairwise_iff_getElem.1 h.apart 0 4 (by simp) (by simp) (by decide)
 exact ⟨this,fun e => this e.symm⟩
theorem StX.d05 (h : StX X w u p T l i d (b0 :: b1 :: b2 :: b3 :: b4 :: b5 :: bs) g rs) : ¬ b0.1 = b5.1 ∧ ¬ b5.1 = b0.1 := by
 have := List.pairwise_iff_getElem.1 h.apart 0 5 (by simp) (by simp) (by decide)
 exact ⟨this,fun e => this e.symm⟩
theorem StX.d07 (h : StX X w u p T l i d (b0 :: b1 :: b2 :: b3 :: b4 :: b5 :: b6 :: b7 :: bs) g rs) : ¬ b0.1 = b7.1 ∧ ¬ b7.1 = b0.1 := by
 have := List.pairwise_iff_getElem.1 h.apart 0 7 (by simp) (by simp) (by decide)
 exact ⟨this,fun e => this e.symm⟩
theorem StX.d12 (h : StX X w u p T l i d (b0 :: b1 :: b2 :: bs) g rs) : ¬ b1.1 = b2.1 ∧ ¬ b2.1 = b1.1 := by
 have := List.pairwise_iff_getElem.1 h.apart 1 2 (by simp) (by simp) (by decide)
 exact ⟨this,fun e => this e.symm⟩
theorem StX.d14 (h : StX X w u p T l i d (b0 :: b1 :: b2 :: b3 :: b4 :: bs) g rs) : ¬ b1.1 = b4.1 ∧ ¬ b4.1 = b1.1 := by
 have := List.pairwise_iff_getElem.1 h.apart 1 4 (by simp) (by simp) (by decide)
 exact ⟨this,fun e => this e.symm⟩
theorem StX.d15 (h : StX X w u p T l i d (b0 :: b1 :: b2 :: b3 :: b4 :: b5 :: bs) g rs) : ¬ b1.1 = b5.1 ∧ ¬ b5.1 = b1.1 := by
 have := List.pairwise_iff_getElem.1 h.apart 1 5 (by simp) (by simp) (by decide)
 exact ⟨this,fun e => this e.symm⟩
theorem StX.d23 (h : StX X w u p T l i d (b0 :: b1 :: b2 :: b3 :: bs) g rs) : ¬ b2.1 = b3.1 ∧ ¬ b3.1 = b2.1 := by
 have := List.pairwise_iff_getElem.1 h.apart 2 3 (by simp) (by simp) (by decide)
 exact ⟨this,fun e => this e.symm⟩
theorem StX.d25 (h : StX X w u p T l i d (b0 :: b1 :: b2 :: b3 :: b4 :: b5 :: bs) g rs) : ¬ b2.1 = b5.1 ∧ ¬ b5.1 = b2.1 := by
 have := List.pairwise_iff_getElem.1 h.apart 2 5 (by simp) (by simp) (by decide)
 exact ⟨this,fun e => this e.symm⟩
theorem StX.d34 (h : StX X w u p T l i d (b0 :: b1 :: b2 :: b3 :: b4 :: bs) g rs) : ¬ b3.1 = b4.1 ∧ ¬ b4.1 = b3.1 := by
 have := List.pairwise_iff_getElem.1 h.apart 3 4 (by simp) (by simp) (by decide)
 exact ⟨this,fun e => this e.symm⟩
theorem StX.d35 (h : StX X w u p T l i d (b0 :: b1 :: b2 :: b3 :: b4 :: b5 :: bs) g rs) : ¬ b3.1 = b5.1 ∧ ¬ b5.1 = b3.1 := by
 have := List.pairwise_iff_getElem.1 h.apart 3 5 (by simp) (by simp) (by decide)
 exact ⟨this,fun e => this e.symm⟩
theorem StX.d67 (h : StX X w u p T l i d (b0 :: b1 :: b2 :: b3 :: b4 :: b5 :: b6 :: b7 :: bs) g rs) : ¬ b6.1 = b7.1 ∧ ¬ b7.1 = b6.1 := by
 have := List.pairwise_iff_getElem.1 h.apart 6 7 (by simp) (by simp) (by decide)
 exact ⟨this,fun e => this e.symm⟩
theorem StX.s00 (h : StX X w u p T l i d ((b,t,#[x0,x1,x2,x3,x4]) :: bs) g rs) (v : Value) : StX X w (u.setCell ⟨b,0,none⟩ v) p T l i d ((b,t,#[v,x1,x2,x3,x4]) :: bs) g rs := h.setGen 0 0 v rfl
theorem StX.s01 (h : StX X w u p T l i d ((b,t,#[x0,x1,x2,x3,x4]) :: bs) g rs) (v : Value) : StX X w (u.setCell ⟨b,1,none⟩ v) p T l i d ((b,t,#[x0,v,x2,x3,x4]) :: bs) g rs := h.setGen 0 1 v rfl
theorem StX.s02 (h : StX X w u p T l i d ((b,t,#[x0,x1,x2,x3,x4]) :: bs) g rs) (v : Value) : StX X w (u.setCell ⟨b,2,none⟩ v) p T l i d ((b,t,#[x0,x1,v,x3,x4]) :: bs) g rs := h.setGen 0 2 v rfl
theorem StX.s03 (h : StX X w u p T l i d ((b,t,#[x0,x1,x2,x3,x4]) :: bs) g rs) (v : Value) : StX X w (u.setCell ⟨b,3,none⟩ v) p T l i d ((b,t,#[x0,x1,x2,v,x4]) :: bs) g rs := h.setGen 0 3 v rfl
theorem StX.s04 (h : StX X w u p T l i d ((b,t,#[x0,x1,x2,x3,x4]) :: bs) g rs) (v : Value) : StX X w (u.setCell ⟨b,4,none⟩ v) p T l i d ((b,t,#[x0,x1,x2,x3,v]) :: bs) g rs := h.setGen 0 4 v rfl
theorem StX.s10 (h : StX X w u p T l i d (b0 :: (b,t,#[x0,x1,x2,x3,x4]) :: bs) g rs) (v : Value) : StX X w (u.setCell ⟨b,0,none⟩ v) p T l i d (b0 :: (b,t,#[v,x1,x2,x3,x4]) :: bs) g rs := h.setGen 1 0 v rfl
theorem StX.s11 (h : StX X w u p T l i d (b0 :: (b,t,#[x0,x1,x2,x3,x4]) :: bs) g rs) (v : Value) : StX X w (u.setCell ⟨b,1,none⟩ v) p T l i d (b0 :: (b,t,#[x0,v,x2,x3,x4]) :: bs) g rs := h.setGen 1 1 v rfl
theorem StX.s12 (h : StX X w u p T l i d (b0 :: (b,t,#[x0,x1,x2,x3,x4]) :: bs) g rs) (v : Value) : StX X w (u.setCell ⟨b,2,none⟩ v) p T l i d (b0 :: (b,t,#[x0,x1,v,x3,x4]) :: bs) g rs := h.setGen 1 2 v rfl
theorem StX.s13 (h : StX X w u p T l i d (b0 :: (b,t,#[x0,x1,x2,x3,x4]) :: bs) g rs) (v : Value) : StX X w (u.setCell ⟨b,3,none⟩ v) p T l i d (b0 :: (b,t,#[x0,x1,x2,v,x4]) :: bs) g rs := h.setGen 1 3 v rfl
theorem StX.s14 (h : StX X w u p T l i d (b0 :: (b,t,#[x0,x1,x2,x3,x4]) :: bs) g rs) (v : Value) : StX X w (u.setCell ⟨b,4,none⟩ v) p T l i d (b0 :: (b,t,#[x0,x1,x2,x3,v]) :: bs) g rs := h.setGen 1 4 v rfl
theorem StX.s20 (h : StX X w u p T l i d (b0 :: b1 :: (b,t,#[x0,x1,x2,x3,x4]) :: bs) g rs) (v : Value) : StX X w (u.setCell ⟨b,0,none⟩ v) p T l i d (b0 :: b1 :: (b,t,#[v,x1,x2,x3,x4]) :: bs) g rs := h.setGen 2 0 v rfl
theorem StX.s21 (h : StX X w u p T l i d (b0 :: b1 :: (b,t,#[x0,x1,x2,x3,x4]) :: bs) g rs) (v : Value) : StX X w (u.setCell ⟨b,1,none⟩ v) p T l i d (b0 :: b1 :: (b,t,#[x0,v,x2,x3,x4]) :: bs) g rs := h.setGen 2 1 v rfl
theorem StX.s22 (h : StX X w u p T l i d (b0 :: b1 :: (b,t,#[x0,x1,x2,x3,x4]) :: bs) g rs) (v : Value) : StX X w (u.setCell ⟨b,2,none⟩ v) p T l i d (b0 :: b1 :: (b,t,#[x0,x1,v,x3,x4]) :: bs) g rs := h.setGen 2 2 v rfl
theorem StX.s23 (h : StX X w u p T l i d (b0 :: b1 :: (b,t,#[x0,x1,x2,x3,x4]) :: bs) g rs) (v : Value) : StX X w (u.setCell ⟨b,3,none⟩ v) p T l i d (b0 :: b1 :: (b,t,#[x0,x1,x2,v,x4]) :: bs) g rs := h.setGen 2 3 v rfl
theorem StX.s24 (h : StX X w u p T l i d (b0 :: b1 :: (b,t,#[x0,x1,x2,x3,x4]) :: bs) g rs) (v : Value) : StX X w (u.setCell ⟨b,4,none⟩ v) p T l i d (b0 :: b1 :: (b,t,#[x0,x1,x2,x3,v]) :: bs) g rs := h.setGen 2 4 v rfl
theorem StX.s30 (h : StX X w u p T l i d (b0 :: b1 :: b2 :: (b,t,#[x0,x1,x2,x3,x4]) :: bs) g rs) (v : Value) : StX X w (u.setCell ⟨b,0,none⟩ v) p T l i d (b0 :: b1 :: b2 :: (b,t,#[v,x1,x2,x3,x4]) :: bs) g rs := h.setGen 3 0 v rfl
theorem StX.s31 (h : StX X w u p T l i d (b0 :: b1 :: b2 :: (b,t,#[x0,x1,x2,x3,x4]) :: bs) g rs) (v : Value) : StX X w (u.setCell ⟨b,1,none⟩ v) p T l i d (b0 :: b1 :: b2 :: (b,t,#[x0,v,x2,x3,x4]) :: bs) g rs := h.setGen 3 1 v rfl
theorem StX.s32 (h : StX X w u p T l i d (b0 :: b1 :: b2 :: (b,t,#[x0,x1,x2,x3,x4]) :: bs) g rs) (v : Value) : StX X w (u.setCell ⟨b,2,none⟩ v) p T l i d (b0 :: b1 :: b2 :: (b,t,#[x0,x1,v,x3,x4]) :: bs) g rs := h.setGen 3 2 v rfl
theorem StX.s33 (h : StX X w u p T l i d (b0 :: b1 :: b2 :: (b,t,#[x0,x1,x2,x3,x4]) :: bs) g rs) (v : Value) : StX X w (u.setCell ⟨b,3,none⟩ v) p T l i d (b0 :: b1 :: b2 :: (b,t,#[x0,x1,x2,v,x4]) :: bs) g rs := h.setGen 3 3 v rfl
theorem StX.s34 (h : StX X w u p T l i d (b0 :: b1 :: b2 :: (b,t,#[x0,x1,x2,x3,x4]) :: bs) g rs) (v : Value) : StX X w (u.setCell ⟨b,4,none⟩ v) p T l i d (b0 :: b1 :: b2 :: (b,t,#[x0,x1,x2,x3,v]) :: bs) g rs := h.setGen 3 4 v rfl
theorem StX.s40 (h : StX X w u p T l i d (b0 :: b1 :: b2 :: b3 :: (b,t,#[x0,x1,x2,x3,x4]) :: bs) g rs) (v : Value) : StX X w (u.setCell ⟨b,0,none⟩ v) p T l i d (b0 :: b1 :: b2 :: b3 :: (b,t,#[v,x1,x2,x3,x4]) :: bs) g rs := h.setGen 4 0 v rfl
theorem StX.s41 (h : StX X w u p T l i d (b0 :: b1 :: b2 :: b3 :: (b,t,#[x0,x1,x2,x3,x4]) :: bs) g rs) (v : Value) : StX X w (u.setCell ⟨b,1,none⟩ v) p T l i d (b0 :: b1 :: b2 :: b3 :: (b,t,#[x0,v,x2,x3,x4]) :: bs) g rs := h.setGen 4 1 v rfl
theorem StX.s42 (h : StX X w u p T l i d (b0 :: b1 :: b2 :: b3 :: (b,t,#[x0,x1,x2,x3,x4]) :: bs) g rs) (v : Value) : StX X w (u.setCell ⟨b,2,none⟩ v) p T l i d (b0 :: b1 :: b2 :: b3 :: (b,t,#[x0,x1,v,x3,x4]) :: bs) g rs := h.setGen 4 2 v rfl
theorem StX.s43 (h : StX X w u p T l i d (b0 :: b1 :: b2 :: b3 :: (b,t,#[x0,x1,x2,x3,x4]) :: bs) g rs) (v : Value) : StX X w (u.setCell ⟨b,3,none⟩ v) p T l i d (b0 :: b1 :: b2 :: b3 :: (b,t,#[x0,x1,x2,v,x4]) :: bs) g rs := h.setGen 4 3 v rfl
theorem StX.s44 (h : StX X w u p T l i d (b0 :: b1 :: b2 :: b3 :: (b,t,#[x0,x1,x2,x3,x4]) :: bs) g rs) (v : Value) : StX X w (u.setCell ⟨b,4,none⟩ v) p T l i d (b0 :: b1 :: b2 :: b3 :: (b,t,#[x0,x1,x2,x3,v]) :: bs) g rs := h.setGen 4 4 v rfl
theorem StX.s64 (h : StX X w u p T l i d (b0 :: b1 :: b2 :: b3 :: b4 :: b5 :: (b,t,#[x0,x1,x2,x3,x4]) :: bs) g rs) (v : Value) : StX X w (u.setCell ⟨b,4,none⟩ v) p T l i d (b0 :: b1 :: b2 :: b3 :: b4 :: b5 :: (b,t,#[x0,x1,x2,x3,v]) :: bs) g rs := h.setGen 6 4 v rfl
theorem StX.s70 (h : StX X w u p T l i d (b0 :: b1 :: b2 :: b3 :: b4 :: b5 :: b6 :: (b,t,#[x0,x1,x2,x3,x4]) :: bs) g rs) (v : Value) : StX X w (u.setCell ⟨b,0,none⟩ v) p T l i d (b0 :: b1 :: b2 :: b3 :: b4 :: b5 :: b6 :: (b,t,#[v,x1,x2,x3,x4]) :: bs) g rs := h.setGen 7 0 v rfl
theorem StX.s71 (h : StX X w u p T l i d (b0 :: b1 :: b2 :: b3 :: b4 :: b5 :: b6 :: (b,t,#[x0,x1,x2,x3,x4]) :: bs) g rs) (v : Value) : StX X w (u.setCell ⟨b,1,none⟩ v) p T l i d (b0 :: b1 :: b2 :: b3 :: b4 :: b5 :: b6 :: (b,t,#[x0,v,x2,x3,x4]) :: bs) g rs := h.setGen 7 1 v rfl
theorem StX.s72 (h : StX X w u p T l i d (b0 :: b1 :: b2 :: b3 :: b4 :: b5 :: b6 :: (b,t,#[x0,x1,x2,x3,x4]) :: bs) g rs) (v : Value) : StX X w (u.setCell ⟨b,2,none⟩ v) p T l i d (b0 :: b1 :: b2 :: b3 :: b4 :: b5 :: b6 :: (b,t,#[x0,x1,v,x3,x4]) :: bs) g rs := h.setGen 7 2 v rfl
theorem StX.s73 (h : StX X w u p T l i d (b0 :: b1 :: b2 :: b3 :: b4 :: b5 :: b6 :: (b,t,#[x0,x1,x2,x3,x4]) :: bs) g rs) (v : Value) : StX X w (u.setCell ⟨b,3,none⟩ v) p T l i d (b0 :: b1 :: b2 :: b3 :: b4 :: b5 :: b6 :: (b,t,#[x0,x1,x2,v,x4]) :: bs) g rs := h.setGen 7 3 v rfl
theorem StX.s74 (h : StX X w u p T l i d (b0 :: b1 :: b2 :: b3 :: b4 :: b5 :: b6 :: (b,t,#[x0,x1,x2,x3,x4]) :: bs) g rs) (v : Value) : StX X w (u.setCell ⟨b,4,none⟩ v) p T l i d (b0 :: b1 :: b2 :: b3 :: b4 :: b5 :: b6 :: (b,t,#[x0,x1,x2,x3,v]) :: bs) g rs := h.setGen 7 4 v rfl
theorem StX.p0 (h : StX X w u p T l i d ((b,t,#[x0,x1,x2,x3,x4]) :: bs) g rs) (y0 y1 y2 y3 y4 : Value) : StX X w (((((u.setCell ⟨b,0,none⟩ y0).setCell ⟨b,1,none⟩ y1).setCell ⟨b,2,none⟩ y2).setCell ⟨b,3,none⟩ y3).setCell ⟨b,4,none⟩ y4) p T l i d ((b,t,#[y0,y1,y2,y3,y4]) :: bs) g rs := ((((h.s00 y0).s01 y1).s02 y2).s03 y3).s04 y4
theorem StX.p1 (h : StX X w u p T l i d (b0 :: (b,t,#[x0,x1,x2,x3,x4]) :: bs) g rs) (y0 y1 y2 y3 y4 : Value) : StX X w (((((u.setCell ⟨b,0,none⟩ y0).setCell ⟨b,1,none⟩ y1).setCell ⟨b,2,none⟩ y2).setCell ⟨b,3,none⟩ y3).setCell ⟨b,4,none⟩ y4) p T l i d (b0 :: (b,t,#[y0,y1,y2,y3,y4]) :: bs) g rs := ((((h.s10 y0).s11 y1).s12 y2).s13 y3).s14 y4
theorem StX.p2 (h : StX X w u p T l i d (b0 :: b1 :: (b,t,#[x0,x1,x2,x3,x4]) :: bs) g rs) (y0 y1 y2 y3 y4 : Value) : StX X w (((((u.setCell ⟨b,0,none⟩ y0).setCell ⟨b,1,none⟩ y1).setCell ⟨b,2,none⟩ y2).setCell ⟨b,3,none⟩ y3).setCell ⟨b,4,none⟩ y4) p T l i d (b0 :: b1 :: (b,t,#[y0,y1,y2,y3,y4]) :: bs) g rs := ((((h.s20 y0).s21 y1).s22 y2).s23 y3).s24 y4
theorem StX.p3 (h : StX X w u p T l i d (b0 :: b1 :: b2 :: (b,t,#[x0,x1,x2,x3,x4]) :: bs) g rs) (y0 y1 y2 y3 y4 : Value) : StX X w (((((u.setCell ⟨b,0,none⟩ y0).setCell ⟨b,1,none⟩ y1).setCell ⟨b,2,none⟩ y2).setCell ⟨b,3,none⟩ y3).setCell ⟨b,4,none⟩ y4) p T l i d (b0 :: b1 :: b2 :: (b,t,#[y0,y1,y2,y3,y4]) :: bs) g rs := ((((h.s30 y0).s31 y1).s32 y2).s33 y3).s34 y4
theorem StX.p4 (h : StX X w u p T l i d (b0 :: b1 :: b2 :: b3 :: (b,t,#[x0,x1,x2,x3,x4]) :: bs) g rs) (y0 y1 y2 y3 y4 : Value) : StX X w (((((u.setCell ⟨b,0,none⟩ y0).setCell ⟨b,1,none⟩ y1).setCell ⟨b,2,none⟩ y2).setCell ⟨b,3,none⟩ y3).setCell ⟨b,4,none⟩ y4) p T l i d (b0 :: b1 :: b2 :: b3 :: (b,t,#[y0,y1,y2,y3,y4]) :: bs) g rs := ((((h.s40 y0).s41 y1).s42 y2).s43 y3).s44 y4
theorem StX.p7 (h : StX X w u p T l i d (b0 :: b1 :: b2 :: b3 :: b4 :: b5 :: b6 :: (b,t,#[x0,x1,x2,x3,x4]) :: bs) g rs) (y0 y1 y2 y3 y4 : Value) : StX X w (((((u.setCell ⟨b,0,none⟩ y0).setCell ⟨b,1,none⟩ y1).setCell ⟨b,2,none⟩ y2).setCell ⟨b,3,none⟩ y3).setCell ⟨b,4,none⟩ y4) p T l i d (b0 :: b1 :: b2 :: b3 :: b4 :: b5 :: b6 :: (b,t,#[y0,y1,y2,y3,y4]) :: bs) g rs := ((((h.s70 y0).s71 y1).s72 y2).s73 y3).s74 y4
theorem StX.o0 (h : StX X w u p T l i d ((b,t,#[x]) :: bs) g rs) (v : Value) : StX X w (u.setCell ⟨b,0,none⟩ v) p T l i d ((b,t,#[v]) :: bs) g rs := h.setGen 0 0 v rfl
theorem Blk.one {w : World} {g : Nat} {t : TypeId} {x : Value} (h : Blk w g t #[x]) : w.cell? ⟨g,0,none⟩ = some x ∧ w.frozen? ⟨g,0,none⟩ = false := ⟨h.cell 0,h.frozen 0⟩
theorem Blk.k1 {w : World} {g : Nat} {t : TypeId} {x : Value} (h : Blk w g t #[x]) : (w.cell? ⟨g,0,none⟩ = some x ∧ w.frozen? ⟨g,0,none⟩ = false) ∧ g < w.heap.size := ⟨h.one,h.lt⟩
theorem Blk.k5 {w : World} {g : Nat} {t : TypeId} {x0 x1 x2 x3 x4 : Value} (h : Blk w g t #[x0,x1,x2,x3,x4]) : ((w.cell? ⟨g,0,none⟩ = some x0 ∧ w.cell? ⟨g,1,none⟩ = some x1 ∧ w.cell? ⟨g,2,none⟩ = some x2 ∧ w.cell? ⟨g,3,none⟩ = some x3 ∧ w.cell? ⟨g,4,none⟩ = some x4) ∧ (w.frozen? ⟨g,0,none⟩ = false ∧ w.frozen? ⟨g,1,none⟩ = false ∧ w.frozen? ⟨g,2,none⟩ = false ∧ w.frozen? ⟨g,3,none⟩ = false ∧ w.frozen? ⟨g,4,none⟩ = false)) ∧ g < w.heap.size := ⟨h.five,h.lt⟩
theorem res5 {fn : Func} {t : Tmp} {tmps : Array Value} {u : World} {g : Nat} {x0 x1 x2 x3 x4 : Value} (hf : fn.results = #[.cell t 25]) (ht : tmps.getD t undef = .pointer (some ⟨g,0,none⟩)) (hb : Blk u g 25 #[x0,x1,x2,x3,x4]) :
  (results fn tmps).run Tryz.prog u = .ok (.agg #[x0,x1,x2,x3,x4]) u := by
 obtain ⟨⟨h0,h1,h2,h3,h4⟩,_⟩ := hb.five
 have ht2 : tmps[t]?.getD undef = .pointer (some ⟨g,0,none⟩) := by simpa using ht
 simp [results,hf,ht2,go_sem,h0,h1,h2,h3,h4]
theorem StX.treeOf {w u : World} {p T : Nat} {l : List Sc.Tok} {i d : Nat} {bs : List Bl} {g : Rw} {rs : List Rw} {sv : Value} {ts : List Tree} {k : Nat} {nm : ByteArray} {num a : Nat} (h : St w u p T l i d bs g rs) (hm : (sv,ts) ∈ rs) : TreeIn u (fun b => w.heap.size ≤ b) (nodeV k nm num a sv) (.node k nm num a ts) :=
 .of ((h.rows _ hm).turn fun _ _ hs => ⟨hs.1.1.resolve_right id,rfl⟩)
theorem StX.treeX {X : Nat → Prop} {w u : World} {p T : Nat} {l : List Sc.Tok} {i d : Nat} {bs : List Bl} {g : Rw} {rs : List Rw} {sv : Value} {ts : List Tree} {k : Nat} {nm : ByteArray} {num a : Nat} (h : StX X w u p T l i d bs g rs) (hm : (sv,ts) ∈ rs) : TreeIn u (fun b => w.heap.size ≤ b ∨ X b) (nodeV k nm num a sv) (.node k nm num a ts) :=
 .of ((h.rows _ hm).turn fun _ _ hs => ⟨hs.1.1,rfl⟩)
theorem StX.cellsOf {X : Nat → Prop} {w u : World} {p T : Nat} {l : List Sc.Tok} {i d : Nat} {bs : List Bl} {g : Rw} {rs : List Rw} {sv : Value} {ts : List Tree} {k : Nat} {nm : ByteArray} {num a : Nat} (h : StX X w u p T l i d bs g rs) (hm : (sv,ts) ∈ rs) : CellsIn u (Sy X w bs g) [.node k nm num a ts] (cells5 k nm num a sv) := cells_one (h.rows _ hm)
theorem StX.built {X : Nat → Prop} {w u : World} {p T : Nat} {l : List Sc.Tok} {i d : Nat} {bs : List Bl} {g : Rw} {rs : List Rw} {cs : List Value} {us : List Tree} (h : StX X w u p T l i d bs g rs) (hc : CellsIn u (Sy X w bs g) us cs) (n : Nat) (hn : n = us.length) (hm : n ≤ 1000000) (B : Nat) (hB : u.heap.size = B) :
  StX X w (u.alloc (.cells cs.toArray 25)) p T l i d bs g ((.slice (some ⟨B,0,none⟩) n n,us) :: rs) := by
 subst hB
 refine (h.alloc 25 cs.toArray).madeRow hn hm (hc.turn fun b hlt hb => ⟨⟨⟨hb.1.1,fun x hx => ?_⟩,hb.2⟩,Below.heap_alloc _ _ _ hlt⟩)
 rcases List.mem_cons.1 hx with rfl | hx
 ·exact fun e => by simp only at e; omega
 ·exact hb.1.2 x hx
theorem StX.built1 {X : Nat → Prop} {w u : World} {p T : Nat} {l : List Sc.Tok} {i d : Nat} {bs : List Bl} {g : Rw} {rs : List Rw} {k0 : Nat} {nm0 : ByteArray} {num0 a0 : Nat} {sv0 : Value} {ts0 : List Tree} (h : StX X w u p T l i d bs g rs) (hm0 : (sv0,ts0) ∈ rs) (B : Nat) (hB : u.heap.size = B) :
  StX X w (u.alloc (.cells #[.int .i64 (k0 : Nat),.string nm0,.int .i64 (num0 : Nat),.int .i64 (a0 : Nat),sv0] 25)) p T l i d bs g ((.slice (some ⟨B,0,none⟩) 1 1,[Tree.node k0 nm0 num0 a0 ts0]) :: rs) := h.built (h.cellsOf hm0) 1 rfl (by decide) B hB
theorem StX.built2 {X : Nat → Prop} {w u : World} {p T : Nat} {l : List Sc.Tok} {i d : Nat} {bs : List Bl} {g : Rw} {rs : List Rw} {k0 : Nat} {nm0 : ByteArray} {num0 a0 : Nat} {sv0 : Value} {ts0 : List Tree} {k1 : Nat} {nm1 : ByteArray} {num1 a1 : Nat} {sv1 : Value} {ts1 : List Tree} (h : StX X w u p T l i d bs g rs) (hm0 : (sv0,ts0) ∈ rs) (hm1 : (sv1,ts1) ∈ rs) (B : Nat) (hB : u.heap.size = B) :
  StX X w (u.alloc (.cells #[.int .i64 (k0 : Nat),.string nm0,.int .i64 (num0 : Nat),.int .i64 (a0 : Nat),sv0,.int .i64 (k1 : Nat),.string nm1,.int .i64 (num1 : Nat),.int .i64 (a1 : Nat),sv1] 25)) p T l i d bs g ((.slice (some ⟨B,0,none⟩) 2 2,[Tree.node k0 nm0 num0 a0 ts0,Tree.node k1 nm1 num1 a1 ts1]) :: rs) := h.built ((h.cellsOf hm0).app (h.cellsOf hm1)) 2 rfl (by decide) B hB
theorem StX.built4 {X : Nat → Prop} {w u : World} {p T : Nat} {l : List Sc.Tok} {i d : Nat} {bs : List Bl} {g : Rw} {rs : List Rw} {k0 : Nat} {nm0 : ByteArray} {num0 a0 : Nat} {sv0 : Value} {ts0 : List Tree} {k1 : Nat} {nm1 : ByteArray} {num1 a1 : Nat} {sv1 : Value} {ts1 : List Tree} {k2 : Nat} {nm2 : ByteArray} {num2 a2 : Nat} {sv2 : Value} {ts2 : List Tree} {k3 : Nat} {nm3 : ByteArray} {num3 a3 : Nat} {sv3 : Value} {ts3 : List Tree} (h : StX X w u p T l i d bs g rs) (hm0 : (sv0,ts0) ∈ rs) (hm1 : (sv1,ts1) ∈ rs) (hm2 : (sv2,ts2) ∈ rs) (hm3 : (sv3,ts3) ∈ rs) (B : Nat) (hB : u.heap.size = B) :
  StX X w (u.alloc (.cells #[.int .i64 (k0 : Nat),.string nm0,.int .i64 (num0 : Nat),.int .i64 (a0 : Nat),sv0,.int .i64 (k1 : Nat),.string nm1,.int .i64 (num1 : Nat),.int .i64 (a1 : Nat),sv1,.int .i64 (k2 : Nat),.string nm2,.int .i64 (num2 : Nat),.int .i64 (a2 : Nat),sv2,.int .i64 (k3 : Nat),.string nm3,.int .i64 (num3 : Nat),.int .i64 (a3 : Nat),sv3] 25)) p T l i d bs g ((.slice (some ⟨B,0,none⟩) 4 4,[Tree.node k0 nm0 num0 a0 ts0,Tree.node k1 nm1 num1 a1 ts1,Tree.node k2 nm2 num2 a2 ts2,Tree.node k3 nm3 num3 a3 ts3]) :: rs) := h.built ((h.cellsOf hm0).app ((h.cellsOf hm1).app ((h.cellsOf hm2).app (h.cellsOf hm3)))) 4 rfl (by decide) B hB
theorem StX.built6 {X : Nat → Prop} {w u : World} {p T : Nat} {l : List Sc.Tok} {i d : Nat} {bs : List Bl} {g : Rw} {rs : List Rw} {k0 : Nat} {nm0 : ByteArray} {num0 a0 : Nat} {sv0 : Value} {ts0 : List Tree} {k1 : Nat} {nm1 : ByteArray} {num1 a1 : Nat} {sv1 : Value} {ts1 : List Tree} {k2 : Nat} {nm2 : ByteArray} {num2 a2 : Nat} {sv2 : Value} {ts2 : List Tree} {k3 : Nat} {nm3 : ByteArray} {num3 a3 : Nat} {sv3 : Value} {ts3 : List Tree} {k4 : Nat} {nm4 : ByteArray} {num4 a4 : Nat} {sv4 : Value} {ts4 : List Tree} {k5 : Nat} {nm5 : ByteArray} {num5 a5 : Nat} {sv5 : Value} {ts5 : List Tree} (h : StX X w u p T l i d bs g rs) (hm0 : (sv0,ts0) ∈ rs) (hm1 : (sv1,ts1) ∈ rs) (hm2 : (sv2,ts2) ∈ rs) (hm3 : (sv3,ts3) ∈ rs) (hm4 : (sv4,ts4) ∈ rs) (hm5 : (sv5,ts5) ∈ rs) (B : Nat) (hB : u.heap.size = B) :
  StX X w (u.alloc (.cells #[.int .i64 (k0 : Nat),.string nm0,.int .i64 (num0 : Nat),.int .i64 (a0 : Nat),sv0,.int .i64 (k1 : Nat),.string nm1,.int .i64 (num1 : Nat),.int .i64 (a1 : Nat),sv1,.int .i64 (k2 : Nat),.string nm2,.int .i64 (num2 : Nat),.int .i64 (a2 : Nat),sv2,.int .i64 (k3 : Nat),.string nm3,.int .i64 (num3 : Nat),.int .i64 (a3 : Nat),sv3,.int .i64 (k4 : Nat),.string nm4,.int .i64 (num4 : Nat),.int .i64 (a4 : Nat),sv4,.int .i64 (k5 : Nat),.string nm5,.int .i64 (num5 : Nat),.int .i64 (a5 : Nat),sv5] 25)) p T l i d bs g ((.slice (some ⟨B,0,none⟩) 6 6,[Tree.node k0 nm0 num0 a0 ts0,Tree.node k1 nm1 num1 a1 ts1,Tree.node k2 nm2 num2 a2 ts2,Tree.node k3 nm3 num3 a3 ts3,Tree.node k4 nm4 num4 a4 ts4,Tree.node k5 nm5 num5 a5 ts5]) :: rs) := h.built ((h.cellsOf hm0).app ((h.cellsOf hm1).app ((h.cellsOf hm2).app ((h.cellsOf hm3).app ((h.cellsOf hm4).app (h.cellsOf hm5)))))) 6 rfl (by decide) B hB
theorem StX.app1 {X : Nat → Prop} {w u : World} {p T : Nat} {l : List Sc.Tok} {i d : Nat} {bs : List Bl} {gv : Value} {acc : List Tree} {rs : List Rw} {o : Oper} {a : Act} {K : Act → World → Prop} {Q : Exit → Act → World → Prop} {k0 : Nat} {nm0 : ByteArray} {num0 a0 : Nat} {sv0 : Value} {ts0 : List Tree} (h : StX X w u p T l i d bs (gv,acc) rs) (hm0 : (sv0,ts0) ∈ rs) (s x : Operand)
  (ho : o.op = .call { callee := .builtin .append,args := #[s,x],argTypes := #[23,23] }) (hs : a.eval s = gv) (hx : a.eval x = .slice (some ⟨u.heap.size,0,none⟩) 1 1) (hlen : acc.length < 500000)
  (hK : ∀ go gc u',StX X w u' p T l i d bs (.slice go (acc.length + 1) gc,acc ++ [Tree.node k0 nm0 num0 a0 ts0]) rs → K (a.put o.dst (.slice go (acc.length + 1) gc)) u') : o.wp Tryz.prog a (u.alloc (.cells #[.int .i64 (k0 : Nat),.string nm0,.int .i64 (num0 : Nat),.int .i64 (a0 : Nat),sv0] 25)) K Q :=
 h.appN s x ho hs _ 1 hx rfl (by simp) (h.cellsOf hm0) (by simp; omega) hK
theorem StX.app2 {X : Nat → Prop} {w u : World} {p T : Nat} {l : List Sc.Tok} {i d : Nat} {bs : List Bl} {gv : Value} {acc : List Tree} {rs : List Rw} {o : Oper} {a : Act} {K : Act → World → Prop} {Q : Exit → Act → World → Prop} {k0 : Nat} {nm0 : ByteArray} {num0 a0 : Nat} {sv0 : Value} {ts0 : List Tree} {k1 : Nat} {nm1 : ByteArray} {num1 a1 : Nat} {sv1 : Value} {ts1 : List Tree} (h : StX X w u p T l i d bs (gv,acc) rs) (hm0 : (sv0,ts0) ∈ rs) (hm1 : (sv1,ts1) ∈ rs) (s x : Operand)
  (ho : o.op = .call { callee := .builtin .append,args := #[s,x],argTypes := #[23,23] }) (hs : a.eval s = gv) (hx : a.eval x = .slice (some ⟨u.heap.size,0,none⟩) 2 2) (hlen : acc.length < 500000)
  (hK : ∀ go gc u',StX X w u' p T l i d bs (.slice go (acc.length + 2) gc,acc ++ [Tree.node k0 nm0 num0 a0 ts0,Tree.node k1 nm1 num1 a1 ts1]) rs → K (a.put o.dst (.slice go (acc.length + 2) gc)) u') : o.wp Tryz.prog a (u.alloc (.cells #[.int .i64 (k0 : Nat),.string nm0,.int .i64 (num0 : Nat),.int .i64 (a0 : Nat),sv0,.int .i64 (k1 : Nat),.string nm1,.int .i64 (num1 : Nat),.int .i64 (a1 : Nat),sv1] 25)) K Q :=
 h.appN s x ho hs _ 2 hx rfl (by simp) ((h.cellsOf hm0).app (h.cellsOf hm1)) (by simp; omega) hK
theorem StX.builtG {X : Nat → Prop} {w u : World} {p T : Nat} {l : List Sc.Tok} {i d : Nat} {bs : List Bl} {rs : List Rw} {cs : List Value} {us : List Tree} (h : StX X w u p T l i d bs g0 rs) (hc : CellsIn u (Sy X w bs g0) us cs) (n : Nat) (hn : n = us.length) (hm : n ≤ 1000000) (B : Nat) (hB : u.heap.size = B) :
  StX X w (u.alloc (.cells cs.toArray 25)) p T l i d bs (.slice (some ⟨B,0,none⟩) n n,us) rs := by
 subst hB
 have ho := h.other (.cells cs.toArray 25)
 have hy : ∀ b,b < u.heap.size → Sy X w bs g0 b → Sy X w bs (.slice (some ⟨u.heap.size,0,none⟩) n n,us) b ∧ (u.alloc (.cells cs.toArray 25)).heap[b]? = u.heap[b]? := fun b hlt hb =>
  ⟨⟨hb.1,fun e => by simp [Value.ownBlock] at e; omega⟩,Below.heap_alloc _ _ _ hlt⟩
 have hl := hc.len
 refine ⟨ho.kp,ho.ps,ho.lt,ho.blk,ho.apart,⟨cs,?_,?_,hc.turn hy⟩,fun r hr => (h.rows r hr).turn hy,ho.far⟩
 ·subst hn
  show World.ownsRow _ 0 _ 5 _ us.length cs
  refine ⟨by omega,.inr ⟨u.heap.size,us.length,cs.toArray,rfl,Nat.zero_le _,Blk.new u _ _,Nat.le_refl _,by simp only [maxLen]; omega,by simp; omega,?_⟩⟩
  rw [List.toList_toArray,List.take_of_length_le (by omega)]
 ·intro b hb
  simp [Value.ownBlock] at hb
  exact ⟨by have := h.size; omega,.inl (by have := h.size; omega),fun x hx e => by have := h.bsLt x hx; omega⟩
theorem StX.builtG1 {X : Nat → Prop} {w u : World} {p T : Nat} {l : List Sc.Tok} {i d : Nat} {bs : List Bl} {rs : List Rw} {k0 : Nat} {nm0 : ByteArray} {num0 a0 : Nat} {sv0 : Value} {ts0 : List Tree} (h : StX X w u p T l i d bs g0 rs) (hm0 : (sv0,ts0) ∈ rs) (B : Nat) (hB : u.heap.size = B) :
  StX X w (u.alloc (.cells #[.int .i64 (k0 : Nat),.string nm0,.int .i64 (num0 : Nat),.int .i64 (a0 : Nat),sv0] 25)) p T l i d bs (.slice (some ⟨B,0,none⟩) 1 1,[Tree.node k0 nm0 num0 a0 ts0]) rs := h.builtG (h.cellsOf hm0) 1 rfl (by decide) B hB
def Xs (w u : World) (bs : List Bl) (g : Rw) (b : Nat) : Prop := Sy X0 w bs g b ∧ b < u.heap.size
theorem StX.rowX {w u : World} {p T : Nat} {l : List Sc.Tok} {i d : Nat} {bs : List Bl} {g : Rw} {rs : List Rw} {sv : Value} {ts : List Tree} (h : St w u p T l i d bs g rs) (hm : (sv,ts) ∈ rs) : RowIn u (Xs w u bs g) sv ts := (h.rows _ hm).turn fun _ hlt hs => ⟨⟨hs,hlt⟩,rfl⟩
theorem StX.farX {w u : World} {p T : Nat} {l : List Sc.Tok} {i d : Nat} {bs : List Bl} {g : Rw} {rs : List Rw} (h : St w u p T l i d bs g rs) : ∀ b,Xs w u bs g b → b < u.heap.size ∧ b ≠ p := fun _ hs => ⟨hs.2,h.nep hs.1.1⟩
theorem StX.callKeepX {w u u' : World} {p T : Nat} {l : List Sc.Tok} {i d j e : Nat} {bs : List Bl} {g : Rw} {rs : List Rw} {sv : Value} {ts : List Tree} (h : St w u p T l i d bs g rs) (hk : Kp u.heap.size p u u') (hp : PS u' p T l j e) (hr : RowIn u' (fun b => u.heap.size ≤ b ∨ Xs w u bs g b) sv ts) : St w u' p T l j e bs g ((sv,ts) :: rs) := by
 have hc := h.call hk hp
 refine ⟨hc.kp,hc.ps,hc.lt,hc.blk,hc.apart,hc.grow,fun r hm => ?_,hc.far⟩
 rcases List.mem_cons.1 hm with rfl | hm
 ·refine hr.turn fun b _ hb => ⟨?_,rfl⟩
  rcases hb with hb | hb
  ·exact ⟨⟨.inl (by have := h.size; omega),fun x hx e => by have := h.bsLt x hx; omega⟩,fun e => by have := h.gLt b e; omega⟩
  ·exact hb.1
 ·exact hc.rows r hm
theorem StX.app1L {X : Nat → Prop} {w u : World} {p T : Nat} {l : List Sc.Tok} {i d : Nat} {bs : List Bl} {gv : Value} {acc : List Tree} {rs : List Rw} {ops : Array Oper} {rest : List Oper} {o : Oper} {a : Act} {Q : Exit → Act → World → Prop} {k0 : Nat} {nm0 : ByteArray} {num0 a0 : Nat} {sv0 : Value} {ts0 : List Tree} (h : StX X w u p T l i d bs (gv,acc) rs) (hm0 : (sv0,ts0) ∈ rs) (hgd : o.guard = none) (s x : Operand)
  (ho : o.op = .call { callee := .builtin .append,args := #[s,x],argTypes := #[23,23] }) (hs : a.eval s = gv) (hx : a.eval x = .slice (some ⟨u.heap.size,0,none⟩) 1 1) (hlen : acc.length < 500000)
  (hK : ∀ go gc u',StX X w u' p T l i d bs (.slice go (acc.length + 1) gc,acc ++ [Tree.node k0 nm0 num0 a0 ts0]) rs → wpList Tryz.prog ops Q rest (a.put o.dst (.slice go (acc.length + 1) gc)) u') : wpList Tryz.prog ops Q (o :: rest) a (u.alloc (.cells #[.int .i64 (k0 : Nat),.string nm0,.int .i64 (num0 : Nat),.int .i64 (a0 : Nat),sv0] 25)) :=
 wpList_plain hgd fun _ hk => h.app1 hm0 s x ho hs hx hlen fun go gc u' hs' => hk _ _ (hK go gc u' hs')
theorem StX.rowOf {w u : World} {p T : Nat} {l : List Sc.Tok} {i d : Nat} {bs : List Bl} {g : Rw} {rs : List Rw} {sv : Value} {ts : List Tree} (h : St w u p T l i d bs g rs) (hm : (sv,ts) ∈ rs) : RowIn u (fun b => w.heap.size ≤ b) sv ts := (h.rows _ hm).turn fun _ _ hs => ⟨hs.1.1.resolve_right id,rfl⟩
theorem StX.callBlk {X : Nat → Prop} {w u u' : World} {p T : Nat} {l : List Sc.Tok} {i d j e : Nat} {bs : List Bl} {g : Rw} {rs : List Rw} (h : StX X w u p T l i d bs g rs) (hk : Kp u.heap.size p u u') (hp : PS u' p T l j e) (b : Nat) (t : TypeId) (cs : Array Value) (hb : u.heap.size ≤ b) (hB : Blk u' b t cs) : StX X w u' p T l j e ((b,t,cs) :: bs) g rs := by
 have hq : ∀ c,c < u.heap.size → Sx X w bs c → Sx X w ((b,t,cs) :: bs) c ∧ u'.heap[c]? = u.heap[c]? := fun c hlt hs => by
  refine ⟨⟨hs.1,fun x hx => ?_⟩,hk.block c hlt (h.nep hs)⟩
  rcases List.mem_cons.1 hx with rfl | hx
  ·exact fun e => by simp only at e; omega
  ·exact hs.2 x hx
 have hc := h.call hk hp
 refine ⟨hc.kp,hc.ps,hc.lt,?_,List.pairwise_cons.2 ⟨fun x hx => ?_,h.apart⟩,h.grow.turn hq,rows_turn h.rows hq,h.far⟩
 ·intro x hx
  rcases List.mem_cons.1 hx with rfl | hx
  ·exact ⟨by have := h.size; show w.heap.size ≤ b; omega,hB⟩
  ·exact hc.blk x hx
 ·have := h.bsLt x hx
  show b ≠ x.1
  omega
theorem own_form {w : World} {b : Nat} {e : TypeId} {size : Nat} {v : Value} {n : Nat} {xs : List Value} (h : w.ownsRow b e size v n xs) : ∃ o c,v = .slice o n c := by
 rcases h.2 with ⟨rfl,rfl⟩ | ⟨g,cap,cur,rfl,_⟩
 ·exact ⟨none,0,rfl⟩
 ·exact ⟨_,cap,rfl⟩
theorem RowIn.form {w : World} {S : Nat → Prop} {sv : Value} {ts : List Tree} (h : RowIn w S sv ts) : ∃ o c,sv = .slice o ts.length c := by
 obtain ⟨xs,h1,_⟩ := h
 exact own_form h1
theorem StX.appAll {X : Nat → Prop} {w u : World} {p T : Nat} {l : List Sc.Tok} {i d : Nat} {bs : List Bl} {gv : Value} {acc us : List Tree} {rs : List Rw} {o : Oper} {a : Act} {K : Act → World → Prop} {Q : Exit → Act → World → Prop} {so : Option Addr} {sn sc : Nat} (h : StX X w u p T l i d bs (gv,acc) rs) (hm : (.slice so sn sc,us) ∈ rs) (s x : Operand)
  (ho : o.op = .call { callee := .builtin .append,args := #[s,x],argTypes := #[23,23] }) (hs : a.eval s = gv) (hx : a.eval x = .slice so sn sc) (h0 : 0 < acc.length) (hlen : acc.length + us.length ≤ 1000000)
  (hK : ∀ go gn gc u',StX X w u' p T l i d bs (.slice go gn gc,acc ++ us) rs → K (a.put o.dst (.slice go gn gc)) u') : o.wp Tryz.prog a u K Q := by
 obtain ⟨xs,h1,h2,h3⟩ := h.grow
 obtain ⟨ys,k1,k2,k3⟩ := h.rows _ hm
 obtain ⟨i0,hi,hz0,hz1,hz2⟩ := info_parts node_info
 dsimp only at h1 k1 k3
 rcases k1.2 with ⟨hn,hz⟩ | ⟨g,cap,cur,hn,_⟩
 ·have hus : us = [] := List.length_eq_zero_iff.1 hz
  have hrun := run_append_owned_none (P := Tryz.prog) (w := u) 0 23 o.type 25 i0 5 Tryz.underlying23 hi gv acc.length xs h1
  obtain ⟨go,gc,hgv⟩ := own_form h1
  have := hK go acc.length gc u (by rw [hus,List.append_nil,← hgv]; exact h)
  unfold Oper.wp execOp
  simp only [ho,resolve,invoke,builtin,Sem.run_bind,Sem.run_pure,Result.andThen_ok,List.map_toArray,List.map_cons,List.map_nil,hs,hx.trans hn,hrun]
  rw [hgv]
  exact this
 ·obtain ⟨v',w',hr,q2,q3,_,q5⟩ := run_append_own_at (P := Tryz.prog) u 0 23 o.type 25 i0 _ 5 64 Tryz.underlying23 hi hz0 hz1 hz2 rfl (by decide) gv acc.length xs h1 ⟨g,0,none⟩ us.length cap ys (by rw [k3.len]; omega) (k1.cells (by rw [hn]; rfl)) k3.plain (by simp only [maxLen]; omega) (by omega) (Nat.zero_le _)
  obtain ⟨b0,cap',rfl,_,hlt⟩ := q2.form (by omega)
  have hat : gv.ownBlock = some b0 ∨ b0 = u.heap.size := by
   rcases q5 with q5 | q5
   ·exact .inl (by rw [← q5]; rfl)
   ·exact .inr (by simpa [Value.ownBlock] using q5)
  have := h.appended (us := us) (cs := ys) h2 h3 k3 q2 q3 rfl hat
  have := hK _ _ _ _ this
  unfold Oper.wp execOp
  simp only [ho,resolve,invoke,builtin,Sem.run_bind,Sem.run_pure,Result.andThen_ok,List.map_toArray,List.map_cons,List.map_nil,hs,hx.trans hn,hr]
  exact this
theorem PT.or {S : Nat → Prop} {p T : Nat} {l : List Sc.Tok} {i0 d : Nat} {r : Ps.R Ps.Tree} {e : Ending} {w' : World} (h : PT S p T l i0 d r e w') :
  (∃ n a,r = .bad n a ∧ Pan w' p n a e) ∨ ∃ k nm num a ts so sc i,r = .ok (.node k nm num a ts) i ∧ e = .returned (nodeV k nm num a (.slice so ts.length sc)) ∧ RowIn w' S (.slice so ts.length sc) ts ∧ PS w' p T l i d ∧ i0 ≤ i := by
 cases r with
 | bad n a => exact .inl ⟨n,a,rfl,h⟩
 | ok t i =>
  obtain ⟨v,rfl,ht,hp,hi⟩ := h
  obtain ⟨k,nm,num,a,ts,sv,rfl,rfl,hr⟩ := ht.parts
  obtain ⟨o,c,rfl⟩ := hr.form
  exact .inr ⟨k,nm,num,a,ts,o,c,i,rfl,rfl,hr,hp,hi⟩
theorem PU.or {p T : Nat} {l : List Sc.Tok} {d : Nat} {r : Ps.R Unit} {e : Ending} {w' : World} (h : PU p T l d r e w') : (∃ n a,r = .bad n a ∧ Pan w' p n a e) ∨ ∃ i,r = .ok () i ∧ e = .returned (.tuple #[]) ∧ PS w' p T l i d := by
 cases r with
 | bad n a => exact .inl ⟨n,a,rfl,h⟩
 | ok t i => obtain ⟨rfl,hp⟩ := h; exact .inr ⟨i,rfl,rfl,hp⟩
theorem PN.or {p T : Nat} {l : List Sc.Tok} {d : Nat} {r : Ps.R ByteArray} {e : Ending} {w' : World} (h : PN p T l d r e w') : (∃ n a,r = .bad n a ∧ Pan w' p n a e) ∨ ∃ s i,r = .ok s i ∧ e = .returned (.string s) ∧ PS w' p T l i d := by
 cases r with
 | bad n a => exact .inl ⟨n,a,rfl,h⟩
 | ok t i => obtain ⟨rfl,hp⟩ := h; exact .inr ⟨t,i,rfl,rfl,hp⟩
theorem PI.or {p T : Nat} {l : List Sc.Tok} {d : Nat} {r : Ps.R Nat} {e : Ending} {w' : World} (h : PI p T l d r e w') : (∃ n a,r = .bad n a ∧ Pan w' p n a e) ∨ ∃ (s i : Nat),r = .ok s i ∧ e = .returned (.int .i64 (s : Nat)) ∧ PS w' p T l i d := by
 cases r with
 | bad n a => exact .inl ⟨n,a,rfl,h⟩
 | ok t i => obtain ⟨rfl,hp⟩ := h; exact .inr ⟨t,i,rfl,rfl,hp⟩
theorem PR.or {S : Nat → Prop} {p T : Nat} {l : List Sc.Tok} {i0 d : Nat} {r : Ps.R (List Ps.Tree)} {e : Ending} {w' : World} (h : PR S p T l i0 d r e w') :
  (∃ n a,r = .bad n a ∧ Pan w' p n a e) ∨ ∃ ts so sc i,r = .ok ts i ∧ e = .returned (.slice so ts.length sc) ∧ RowIn w' S (.slice so ts.length sc) ts ∧ PS w' p T l i d ∧ i0 ≤ i := by
 cases r with
 | bad n a => exact .inl ⟨n,a,rfl,h⟩
 | ok t i =>
  obtain ⟨v,rfl,ht,hp,hi⟩ := h
  obtain ⟨o,c,rfl⟩ := ht.form
  exact .inr ⟨t,o,c,i,rfl,rfl,ht,hp,hi⟩
end Go.Proofs.YtneohanphabneaaGreatDoor
