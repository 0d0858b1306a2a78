/-
  Contracts of the small functions of both sides of the words: letters, digits, errors.
-/
import Derived.Test.YtneohanphabneaaGreatDoorProg
import Derived.Test.YtneohanphabneaaGreatDoorMPlain
import Derived.WalkKit
import Derived.WalkLawsBesides
import Derived.WalkSpells
import Derived.Deep.AppendLies
import Derived.Deep.Draws
import Derived.Deep.QuietTactic
import Derived.BigQuiet
import Derived.Deep.RegionHeld3
import Derived.Defers
import Derived.Maps.OwnSet
import Derived.LoopTactic
namespace Go.Proofs.YtneohanphabneaaGreatDoor
open Go.RowKit
theorem ret_bool {a b : Bool} (h : a = b) : Ending.returned (.bool a) = .returned (.bool b) := by rw [h]
theorem ret_int {k : IntKind} {a b : Int} (h : a = b) : Ending.returned (.int k a) = .returned (.int k b) := by rw [h]
def isLi (r : Int) : Bool := (decide (97 ≤ r) && decide (r ≤ 122)) || (decide (65 ≤ r) && decide (r ≤ 90))
def isDi (r : Int) : Bool := decide (48 ≤ r) && decide (r ≤ 57)
theorem isL_li (c : UInt8) : Sc.isL c = isLi c.toNat := by
 unfold Sc.isL isLi
 rw [Bool.eq_iff_iff]
 simp only [Bool.or_eq_true,Bool.and_eq_true,decide_eq_true_eq,UInt8.le_iff_toNat_le,UInt8.reduceToNat]
 omega
theorem isD_di (c : UInt8) : Sc.isD c = isDi c.toNat := by
 unfold Sc.isD isDi
 rw [Bool.eq_iff_iff]
 simp only [Bool.and_eq_true,decide_eq_true_eq,UInt8.le_iff_toNat_le,UInt8.reduceToNat]
 omega
theorem letter_bd {c : UInt8} (h : Sc.isL c = true) : 65 ≤ (c.toNat : Int) ∧ (c.toNat : Int) ≤ 122 := by
 rw [isL_li] at h
 unfold isLi at h
 simp only [Bool.or_eq_true,Bool.and_eq_true,decide_eq_true_eq] at h
 omega
theorem digit_bd {c : UInt8} (h : Sc.isD c = true) : 48 ≤ (c.toNat : Int) ∧ (c.toNat : Int) ≤ 57 := by
 rw [isD_di] at h
 unfold isDi at h
 simp only [Bool.and_eq_true,decide_eq_true_eq] at h
 omega
theorem letter_any (r : Int) (w : World) : Calls Tryz.prog 49 #[.int .i32 r] w fun e w' => e = .returned (.bool (isLi r)) ∧ w = w' := by
 go_enter Tryz.func49,Tryz.ntmps49
 go_wp2
 all_goals go_ret
 all_goals exact ⟨ret_bool (by unfold isLi; rw [Bool.eq_iff_iff]; simp; omega),rfl⟩
theorem digit_any (r : Int) (w : World) : Calls Tryz.prog 50 #[.int .i32 r] w fun e w' => e = .returned (.bool (isDi r)) ∧ w = w' := by
 go_enter Tryz.func50,Tryz.ntmps50
 go_wp2
 all_goals go_ret
 all_goals exact ⟨ret_bool (by unfold isDi; rw [Bool.eq_iff_iff]; simp; omega),rfl⟩
open Go.RowKit
def Blk (w : World) (g : Nat) (t : TypeId) (cs : Array Value) : Prop := w.heap[g]? = some (.cells cs t (0,0))
section
variable {w w' : World} {g : Nat} {t : TypeId} {cs : Array Value}
theorem Blk.lt (h : Blk w g t cs) : g < w.heap.size := by
 rcases Nat.lt_or_ge g w.heap.size with hlt | hge
 ·exact hlt
 ·unfold Blk at h; rw [Array.getElem?_eq_none hge] at h; cases h
theorem Blk.cell (h : Blk w g t cs) (i : Nat) : w.cell? ⟨g,i,none⟩ = cs[i]? := cell_of_row w g i cs t (0,0) h
theorem Blk.frozen (h : Blk w g t cs) (i : Nat) : w.frozen? ⟨g,i,none⟩ = false := by
 unfold Blk at h
 simp [World.frozen?,h]
theorem Blk.new (w : World) (t : TypeId) (cs : Array Value) : Blk (w.alloc (.cells cs t)) w.heap.size t cs := heap_alloc_new w _
theorem Blk.alloc (h : Blk w g t cs) (o : Obj) : Blk (w.alloc o) g t cs := (Below.heap_alloc w o g h.lt).trans h
theorem Blk.below {B : Nat} (h : Blk w g t cs) (hb : Below B w w') (hg : g < B) : Blk w' g t cs := (hb.block g hg).trans h
end
def tokCells (l : List Sc.Tok) : List Value := l.flatMap fun t => [.string ⟨t.1.toArray⟩,.int .i64 (t.2 : Nat)]
theorem tokCells_snoc (l : List Sc.Tok) (t : Sc.Tok) : tokCells (l ++ [t]) = tokCells l ++ [.string ⟨t.1.toArray⟩,.int .i64 (t.2 : Nat)] := by
 simp [tokCells]
theorem tok_info : (Tryz.prog.info? 87).map (fun i => (i.zero,i.size,i.bytes)) = some (some (.agg #[.string ⟨#[]⟩,.int .i64 0]),2,24) := by kernel_rfl
theorem grown_of_below {a w : World} (h : Below a.heap.size a w) (row : Option Nat) : a.grownBy w row := ⟨h.os,h.tape,h.output,h.size,fun i hi _ => h.block i hi⟩
theorem own_below {w w' : World} {B : Nat} {e : TypeId} {size : Nat} {v : Value} {n : Nat} {xs : List Value} (h : w.ownsRow B e size v n xs) (hb : Below w.heap.size w w') : w'.ownsRow B e size v n xs :=
 h.kept (grown_of_below hb none) (by cases hv : v.ownBlock with
  | none => exact .inl rfl
  | some _ => exact .inr (by simp))
theorem app_tok {ops : Array Oper} {rest : List Oper} {o : Oper} {a : Act} {Q : Exit → Act → World → Prop} (w : World) (hgd : o.guard = none) (s x : Operand)
  (ho : o.op = .call { callee := .builtin .append,args := #[s,x],argTypes := #[46,46] })
  (base : Nat) (v : Value) (l : List Sc.Tok) (hs : a.eval s = v) (hown : w.ownsRow base 87 2 v l.length (tokCells l))
  (S : ByteArray) (k : Nat) (hx : a.eval x = .slice (some ⟨w.heap.size,0,none⟩) 1 1) (hl : l.length ≤ 1000000) (hb : base ≤ w.heap.size)
  (h : ∀ v' w',w'.ownsRow base 87 2 v' (l ++ [(S.data.toList,k)]).length (tokCells (l ++ [(S.data.toList,k)])) → Below base w w' → wpList Tryz.prog ops Q rest (a.put o.dst v') w') :
  wpList Tryz.prog ops Q (o :: rest) a (w.alloc (.cells #[.string S,.int .i64 k] 87)) := by
 obtain ⟨i0,hi,hz0,hz1,hz2⟩ := info_parts tok_info
 refine wpList_append_own _ hgd s x 46 ho base 87 i0 _ 2 24 Tryz.underlying46 hi hz0 hz1 hz2 rfl (by decide) v l.length (tokCells l) hs (hown.alloc _) _ 1 1
  [.string S,.int .i64 k] hx rfl (World.news_of_block (heap_alloc_new w _)) ?_ ?_ ?_ ?_ ?_
 ·intro u hu
  simp only [List.mem_cons,List.mem_nil_iff,or_false] at hu
  rcases hu with rfl | rfl <;> rfl
 ·simp only [maxLen]; omega
 ·omega
 ·simp; omega
 ·intro v' w' hown' hgrow _
  refine h v' w' ?_ ?_
  ·rw [tokCells_snoc,List.length_append]; exact hown'
  ·exact ((Below.refl base w).alloc hb _).grown hgrow (by simp; omega) (fun k hk => (hown.lt k hk).1)
end Go.Proofs.YtneohanphabneaaGreatDoor
namespace Go.Proofs.YtneohanphabneaaGreatDoor
open Go.RowKit Ps
def nodeV (k : Nat) (nm : ByteArray) (num a : Nat) (sv : Value) : Value := .agg #[.int .i64 k,.string nm,.int .i64 num,.int .i64 a,sv]
mutual
def SubsIn (w : World) (S : Nat → Prop) : Tree → Value → Prop
 | .node _ _ _ _ ts => fun sv => ∃ xs,w.ownsRow 0 25 5 sv ts.length xs ∧ (∀ g,sv.ownBlock = some g → S g) ∧ CellsIn w S ts xs
def CellsIn (w : World) (S : Nat → Prop) : List Tree → List Value → Prop
 | [] => fun xs => xs = []
 | t :: ts => fun xs => ∃ k nm num a us sv rest,t = .node k nm num a us ∧ xs = .int .i64 (k : Nat) :: .string nm :: .int .i64 (num : Nat) :: .int .i64 (a : Nat) :: sv :: rest ∧ SubsIn w S t sv ∧ CellsIn w S ts rest
end
def TreeIn (w : World) (S : Nat → Prop) (v : Value) (t : Tree) : Prop := ∃ k nm num a us sv,t = .node k nm num a us ∧ v = nodeV k nm num a sv ∧ SubsIn w S t sv
def RowIn (w : World) (S : Nat → Prop) (sv : Value) (ts : List Tree) : Prop := ∃ xs,w.ownsRow 0 25 5 sv ts.length xs ∧ (∀ g,sv.ownBlock = some g → S g) ∧ CellsIn w S ts xs
theorem subsIn_node {w : World} {S : Nat → Prop} {k : Nat} {nm : ByteArray} {num a : Nat} {ts : List Tree} {sv : Value} : SubsIn w S (.node k nm num a ts) sv ↔ RowIn w S sv ts := by
 unfold SubsIn RowIn; exact Iff.rfl
section
variable {w w' : World} {S S' : Nat → Prop}
theorem own_same {sv : Value} {n : Nat} {xs : List Value} (h : w.ownsRow 0 25 5 sv n xs) (hb : ∀ g,sv.ownBlock = some g → w'.heap[g]? = w.heap[g]?) : w'.ownsRow 0 25 5 sv n xs := by
 obtain ⟨h1,h2⟩ := h
 refine ⟨h1,?_⟩
 rcases h2 with h | ⟨g,cap,cur,rfl,b,c,rest⟩
 ·exact .inl h
 ·exact .inr ⟨g,cap,cur,rfl,b,(hb g rfl).trans c,rest⟩
theorem own_lt {sv : Value} {n : Nat} {xs : List Value} (h : w.ownsRow 0 25 5 sv n xs) : ∀ g,sv.ownBlock = some g → g < w.heap.size := fun g hg => (h.lt g hg).2
mutual
theorem SubsIn.turn (hS : ∀ b,b < w.heap.size → S b → S' b ∧ w'.heap[b]? = w.heap[b]?) : ∀ (t : Tree) (sv : Value),SubsIn w S t sv → SubsIn w' S' t sv
 | .node _ _ _ _ ts,sv,h => by
  unfold SubsIn at h ⊢
  obtain ⟨xs,h1,h2,h3⟩ := h
  exact ⟨xs,own_same h1 (fun g hg => (hS g (own_lt h1 g hg) (h2 g hg)).2),fun g hg => (hS g (own_lt h1 g hg) (h2 g hg)).1,CellsIn.turn hS ts xs h3⟩
theorem CellsIn.turn (hS : ∀ b,b < w.heap.size → S b → S' b ∧ w'.heap[b]? = w.heap[b]?) : ∀ (ts : List Tree) (xs : List Value),CellsIn w S ts xs → CellsIn w' S' ts xs
 | [],xs,h => by unfold CellsIn at h ⊢; exact h
 | t :: ts,xs,h => by
  unfold CellsIn at h ⊢
  obtain ⟨k,nm,num,a,us,sv,rest,e,e2,h1,h2⟩ := h
  exact ⟨k,nm,num,a,us,sv,rest,e,e2,SubsIn.turn hS t sv h1,CellsIn.turn hS ts rest h2⟩
end
theorem RowIn.turn {sv : Value} {ts : List Tree} (h : RowIn w S sv ts) (hS : ∀ b,b < w.heap.size → S b → S' b ∧ w'.heap[b]? = w.heap[b]?) : RowIn w' S' sv ts := by
 have := SubsIn.turn hS (.node 0 ⟨#[]⟩ 0 0 ts) sv (subsIn_node.2 h)
 exact subsIn_node.1 this
theorem TreeIn.turn {v : Value} {t : Tree} (h : TreeIn w S v t) (hS : ∀ b,b < w.heap.size → S b → S' b ∧ w'.heap[b]? = w.heap[b]?) : TreeIn w' S' v t := by
 obtain ⟨k,nm,num,a,us,sv,e,e2,h⟩ := h
 exact ⟨k,nm,num,a,us,sv,e,e2,h.turn hS⟩
theorem CellsIn.len : ∀ {ts : List Tree} {xs : List Value},CellsIn w S ts xs → xs.length = 5 * ts.length
 | [],xs,h => by unfold CellsIn at h; subst h; rfl
 | t :: ts,xs,h => by
  unfold CellsIn at h
  obtain ⟨k,nm,num,a,us,sv,rest,e,rfl,h1,h2⟩ := h
  have := CellsIn.len h2
  simp; omega
theorem CellsIn.app : ∀ {ts us : List Tree} {xs ys : List Value},CellsIn w S ts xs → CellsIn w S us ys → CellsIn w S (ts ++ us) (xs ++ ys)
 | [],us,xs,ys,h,k => by unfold CellsIn at h; subst h; simpa using k
 | t :: ts,us,xs,ys,h,k => by
  unfold CellsIn at h
  obtain ⟨kd,nm,num,a,u,sv,rest,e,rfl,h1,h2⟩ := h
  have := CellsIn.app h2 k
  show CellsIn w S (t :: (ts ++ us)) _
  unfold CellsIn
  exact ⟨kd,nm,num,a,u,sv,rest ++ ys,e,by simp,h1,this⟩
end
def cells5 (k : Nat) (nm : ByteArray) (num a : Nat) (sv : Value) : List Value := [.int .i64 k,.string nm,.int .i64 num,.int .i64 a,sv]
theorem CellsIn.one {w : World} {S : Nat → Prop} {k : Nat} {nm : ByteArray} {num a : Nat} {sv : Value} {us : List Tree} (h : SubsIn w S (.node k nm num a us) sv) : CellsIn w S [.node k nm num a us] (cells5 k nm num a sv) := by
 unfold CellsIn CellsIn
 exact ⟨k,nm,num,a,us,sv,[],rfl,rfl,h,rfl⟩
theorem RowIn.made {w : World} {S : Nat → Prop} {g n : Nat} {cs : List Value} {ts : List Tree} (h : Blk w g 25 cs.toArray) (hn : n = ts.length) (hS : S g) (hm : n ≤ 1000000) (hc : CellsIn w S ts cs) : RowIn w S (.slice (some ⟨g,0,none⟩) n n) ts := by
 have hl := hc.len
 subst hn
 refine ⟨cs,⟨by omega,.inr ⟨g,ts.length,cs.toArray,rfl,Nat.zero_le _,h,Nat.le_refl _,by simp only [maxLen]; omega,by simp; omega,?_⟩⟩,?_,hc⟩
 ·rw [List.toList_toArray,List.take_of_length_le (by omega)]
 ·intro b hb
  simp [Value.ownBlock] at hb
  rw [← hb]; exact hS
theorem RowIn.nil (w : World) (S : Nat → Prop) : RowIn w S (.slice none 0 0) [] := by
 refine ⟨[],World.ownsRow_nil _ _ _ _,?_,by unfold CellsIn; rfl⟩
 intro b hb
 simp [Value.ownBlock] at hb
theorem TreeIn.of {w : World} {S : Nat → Prop} {k : Nat} {nm : ByteArray} {num a : Nat} {sv : Value} {ts : List Tree} (h : RowIn w S sv ts) : TreeIn w S (nodeV k nm num a sv) (.node k nm num a ts) :=
 ⟨k,nm,num,a,ts,sv,rfl,rfl,subsIn_node.2 h⟩
theorem TreeIn.parts {w : World} {S : Nat → Prop} {v : Value} {t : Tree} (h : TreeIn w S v t) : ∃ k nm num a ts sv,t = .node k nm num a ts ∧ v = nodeV k nm num a sv ∧ RowIn w S sv ts := by
 obtain ⟨k,nm,num,a,us,sv,rfl,e,h⟩ := h
 exact ⟨k,nm,num,a,us,sv,rfl,e,subsIn_node.1 h⟩
theorem node_info : (Tryz.prog.info? 25).map (fun i => (i.zero,i.size,i.bytes)) = some (some (.agg #[.int .i64 0,.string ⟨#[]⟩,.int .i64 0,.int .i64 0,.slice none 0 0]),5,64) := by kernel_rfl
end Go.Proofs.YtneohanphabneaaGreatDoor
namespace Go.Proofs.YtneohanphabneaaGreatDoor
open Go.RowKit
structure Kp (B p : Nat) (w w' : World) : Prop where
 os : w'.os = w.os
 tape : w'.tape = w.tape
 output : w'.output = w.output
 size : w.heap.size ≤ w'.heap.size
 block : ∀ k,k < B → k ≠ p → w'.heap[k]? = w.heap[k]?
section
variable {B p : Nat} {a b c w w' : World}
theorem Kp.refl (B p : Nat) (w : World) : Kp B p w w := ⟨rfl,rfl,rfl,Nat.le_refl _,fun _ _ _ => rfl⟩
theorem Kp.trans (h : Kp B p a b) (k : Kp B p b c) : Kp B p a c :=
 ⟨k.os.trans h.os,k.tape.trans h.tape,k.output.trans h.output,Nat.le_trans h.size k.size,fun i hi hp => (k.block i hi hp).trans (h.block i hi hp)⟩
theorem Kp.mono {B' : Nat} (h : Kp B p w w') (hB : B' ≤ B) : Kp B' p w w' := ⟨h.os,h.tape,h.output,h.size,fun k hk hp => h.block k (by omega) hp⟩
theorem Kp.of_below (h : Below B w w') : Kp B p w w' := ⟨h.os,h.tape,h.output,h.size,fun k hk _ => h.block k hk⟩
theorem Kp.drew (h : Kp B p a w) : Kp B p a w.drew := ⟨h.os,h.tape,h.output,h.size,h.block⟩
theorem Kp.alloc (h : Kp B p a w) (hB : B ≤ w.heap.size) (o : Obj) : Kp B p a (w.alloc o) := h.trans (.of_below ((Below.refl B w).alloc hB o))
theorem Kp.setCell (h : Kp B p a w) {x : Addr} (hx : B ≤ x.block ∨ x.block = p) (u : Value) : Kp B p a (w.setCell x u) :=
 h.trans ⟨rfl,rfl,rfl,by simp [World.setCell],fun k hk hp => Below.heap_setCell _ _ _ _ (by omega)⟩
theorem Kp.grown {row : Option Nat} (h : Kp B p a w) (hg : w.grownBy w' row) (hB : B ≤ w.heap.size) (hr : ∀ k,row = some k → B ≤ k) : Kp B p a w' :=
 h.trans (.of_below ((Below.refl B w).grown hg hB hr))
theorem Kp.call (h : Kp B p a b) (hB : B ≤ b.heap.size) (k : Kp b.heap.size p b c) : Kp B p a c := h.trans (k.mono hB)
theorem Kp.blk {g : Nat} {t : TypeId} {cs : Array Value} (k : Kp b.heap.size p b c) (h : Blk b g t cs) (hp : g ≠ p) : Blk c g t cs := (k.block g h.lt hp).trans h
end
theorem Blk.set {w : World} {g : Nat} {t : TypeId} {cs : Array Value} (h : Blk w g t cs) (i : Nat) (v : Value) : Blk (w.setCell ⟨g,i,none⟩ v) g t (cs.setIfInBounds i v) := heap_setCell_same w g i cs t v h
theorem Blk.setOther {w : World} {g : Nat} {t : TypeId} {cs : Array Value} (h : Blk w g t cs) (x : Addr) (v : Value) (hx : g ≠ x.block) : Blk (w.setCell x v) g t cs := (Below.heap_setCell w x v g hx).trans h
theorem Blk.drew {w : World} {g : Nat} {t : TypeId} {cs : Array Value} (h : Blk w g t cs) : Blk w.drew g t cs := h
theorem Blk.two {w : World} {g : Nat} {t : TypeId} {x y : Value} (h : Blk w g t #[x,y]) :
  (w.cell? ⟨g,0,none⟩ = some x ∧ w.cell? ⟨g,1,none⟩ = some y) ∧ (w.frozen? ⟨g,0,none⟩ = false ∧ w.frozen? ⟨g,1,none⟩ = false) :=
 ⟨⟨h.cell 0,h.cell 1⟩,h.frozen 0,h.frozen 1⟩
theorem Blk.five {w : World} {g : Nat} {t : TypeId} {x0 x1 x2 x3 x4 : Value} (h : Blk w g t #[x0,x1,x2,x3,x4]) :
  (w.cell? ⟨g,0,none⟩ = some x0 ∧ w.cell? ⟨g,1,none⟩ = some x1 ∧ w.cell? ⟨g,2,none⟩ = some x2 ∧ w.cell? ⟨g,3,none⟩ = some x3 ∧ w.cell? ⟨g,4,none⟩ = some x4) ∧
  (w.frozen? ⟨g,0,none⟩ = false ∧ w.frozen? ⟨g,1,none⟩ = false ∧ w.frozen? ⟨g,2,none⟩ = false ∧ w.frozen? ⟨g,3,none⟩ = false ∧ w.frozen? ⟨g,4,none⟩ = false) :=
 ⟨⟨h.cell 0,h.cell 1,h.cell 2,h.cell 3,h.cell 4⟩,h.frozen 0,h.frozen 1,h.frozen 2,h.frozen 3,h.frozen 4⟩
def TB (w : World) (T : Nat) (l : List Sc.Tok) : Prop := ∃ cur,w.heap[T]? = some (.cells cur 87 (0,0)) ∧ cur.toList.take (2 * l.length) = tokCells l
theorem tokCells_at (l : List Sc.Tok) : ∀ i,i < l.length → (tokCells l)[2 * i]? = some (.string (Ps.W l i)) ∧ (tokCells l)[2 * i + 1]? = some (.int .i64 (Ps.A l i : Nat)) := by
 induction l with
 | nil => intro i h; exact absurd h (Nat.not_lt_zero _)
 | cons t l ih =>
  intro i h
  cases i with
  | zero => exact ⟨rfl,rfl⟩
  | succ i =>
   have := ih i (by simpa using h)
   have e : tokCells (t :: l) = .string ⟨t.1.toArray⟩ :: .int .i64 (t.2 : Nat) :: tokCells l := rfl
   have e1 : Ps.W (t :: l) (i + 1) = Ps.W l i := by unfold Ps.W; rw [List.getElem?_cons_succ]
   have e2 : Ps.A (t :: l) (i + 1) = Ps.A l i := by unfold Ps.A; rw [List.getElem?_cons_succ]
   rw [e,e1,e2,show 2 * (i + 1) = 2 * i + 1 + 1 from by omega,List.getElem?_cons_succ,List.getElem?_cons_succ,List.getElem?_cons_succ,List.getElem?_cons_succ]
   exact this
theorem TB.cells {w : World} {T : Nat} {l : List Sc.Tok} (h : TB w T l) (i : Nat) (hi : i < l.length) :
  w.cell? ⟨T,2 * i,none⟩ = some (.string (Ps.W l i)) ∧ w.cell? ⟨T,2 * i + 1,none⟩ = some (.int .i64 (Ps.A l i : Nat)) := by
 obtain ⟨cur,h1,h2⟩ := h
 obtain ⟨a,b⟩ := tokCells_at l i hi
 rw [← h2,List.getElem?_take,if_pos (by omega),Array.getElem?_toList] at a
 rw [← h2,List.getElem?_take,if_pos (by omega),Array.getElem?_toList] at b
 exact ⟨(cell_of_row w T _ cur _ _ h1).trans a,(cell_of_row w T _ cur _ _ h1).trans b⟩
theorem TB.lt {w : World} {T : Nat} {l : List Sc.Tok} (h : TB w T l) : T < w.heap.size := by
 obtain ⟨cur,h1,_⟩ := h
 rcases Nat.lt_or_ge T w.heap.size with hlt | hge
 ·exact hlt
 ·rw [Array.getElem?_eq_none hge] at h1; cases h1
theorem TB.same {w w' : World} {T : Nat} {l : List Sc.Tok} (h : TB w T l) (hb : w'.heap[T]? = w.heap[T]?) : TB w' T l := by
 obtain ⟨cur,h1,h2⟩ := h
 exact ⟨cur,hb.trans h1,h2⟩
def Strs (w : World) (b o : Nat) (ks : List ByteArray) : Prop := ∀ j (h : j < ks.length),w.cell? ⟨b,o + j,none⟩ = some (.string ks[j])
def Lv (w : World) (p : Nat) : Prop := 1 < p ∧ ∃ b o c,b < p ∧ w.cell? ⟨1,0,none⟩ = some (.slice (some ⟨b,o,none⟩) 3 c) ∧
 ∀ k (h : k < Ps.levels.length),∃ b1 o1 c1,b1 < p ∧ w.cell? ⟨b,o + k,none⟩ = some (.slice (some ⟨b1,o1,none⟩) Ps.levels[k].length c1) ∧ Strs w b1 o1 Ps.levels[k]
theorem Strs.same {w w' : World} {b o : Nat} {ks : List ByteArray} (h : Strs w b o ks) (hb : w'.heap[b]? = w.heap[b]?) : Strs w' b o ks := fun j hj => (World.cell?_of_block hb).trans (h j hj)
theorem Lv.same {w w' : World} {p : Nat} (h : Lv w p) (hb : ∀ k,k < p → w'.heap[k]? = w.heap[k]?) : Lv w' p := by
 obtain ⟨h0,b,o,c,hp,h1,h2⟩ := h
 refine ⟨h0,b,o,c,hp,(World.cell?_of_block (hb _ h0)).trans h1,fun k hk => ?_⟩
 obtain ⟨b1,o1,c1,hp1,h3,h4⟩ := h2 k hk
 exact ⟨b1,o1,c1,hp1,(World.cell?_of_block (hb b hp)).trans h3,h4.same (hb b1 hp1)⟩
def pp (p : Nat) : Value := .pointer (some ⟨p,0,none⟩)
structure PS (w : World) (p T : Nat) (l : List Sc.Tok) (i d : Nat) : Prop where
 blk : ∃ c,l.length - i ≤ c ∧ Blk w p 64 #[.slice (some ⟨T,2 * i,none⟩) (l.length - i) c,.int .i64 d]
 tok : TB w T l
 ne : T < p
 hi : i < l.length
 hd : d ≤ 20
 last : Ps.Last l
 good : Ps.Good l
 small : l.length ≤ 100000
 lv : Lv w p
section
variable {w w' : World} {p T : Nat} {l : List Sc.Tok} {i d : Nat}
theorem PS.kept (h : PS w p T l i d) (hp : ∀ k,k ≤ p → w'.heap[k]? = w.heap[k]?) : PS w' p T l i d := by
 obtain ⟨⟨c,hc,hb⟩,ht,hn,hi,hd,hz,hg,hs,hv⟩ := h
 exact ⟨⟨c,hc,(hp p (Nat.le_refl _)).trans hb⟩,ht.same (hp T (by omega)),hn,hi,hd,hz,hg,hs,hv.same fun k hk => hp k (by omega)⟩
theorem PS.lt (h : PS w p T l i d) : p < w.heap.size ∧ T < w.heap.size := by
 obtain ⟨c,hc,hb⟩ := h.blk
 exact ⟨hb.lt,h.tok.lt⟩
theorem PS.alloc (h : PS w p T l i d) (o : Obj) : PS (w.alloc o) p T l i d :=
 h.kept fun k hk => Below.heap_alloc w o k (by have := h.lt.1; omega)
theorem PS.setCell (h : PS w p T l i d) {x : Addr} (hp : p < x.block) (v : Value) : PS (w.setCell x v) p T l i d :=
 h.kept fun k hk => Below.heap_setCell w x v k (by omega)
theorem PS.below (h : PS w p T l i d) (hb : Below w.heap.size w w') : PS w' p T l i d :=
 h.kept fun k hk => hb.block k (by have := h.lt.1; omega)
theorem PS.grown {row : Option Nat} (h : PS w p T l i d) (hb : w.grownBy w' row) (hr : ∀ k,row = some k → p < k) : PS w' p T l i d :=
 h.kept fun k hk => hb.block k (by have := h.lt.1; omega) (fun e => by have := hr k e.symm; omega)
theorem PS.drew (h : PS w p T l i d) : PS w.drew p T l i d := h.kept fun _ _ => rfl
end
theorem PS.facts {w : World} {p T : Nat} {l : List Sc.Tok} {i d : Nat} (h : PS w p T l i d) : ∃ c,l.length - i ≤ c ∧ Blk w p 64 #[.slice (some ⟨T,2 * i,none⟩) (l.length - i) c,.int .i64 d] ∧
  (w.cell? ⟨p,0,none⟩ = some (.slice (some ⟨T,2 * i,none⟩) (l.length - i) c) ∧ w.cell? ⟨p,1,none⟩ = some (.int .i64 d)) ∧ (w.frozen? ⟨p,0,none⟩ = false ∧ w.frozen? ⟨p,1,none⟩ = false) ∧
  w.cell? ⟨T,2 * i,none⟩ = some (.string (Ps.W l i)) ∧ w.cell? ⟨T,2 * i + 1,none⟩ = some (.int .i64 (Ps.A l i : Nat)) ∧ ((0 : Int) < ((l.length - i : Nat) : Int) ∧ 0 < l.length - i) ∧ p < w.heap.size ∧ T < w.heap.size := by
 obtain ⟨⟨c,hc,hb⟩,ht,hn,hi,hd,_,_,_,_⟩ := h
 obtain ⟨h1,h2⟩ := hb.two
 obtain ⟨h3,h4⟩ := ht.cells i hi
 exact ⟨c,hc,hb,h1,h2,h3,h4,⟨by omega,by omega⟩,hb.lt,ht.lt⟩
theorem PS.at {w : World} {p T : Nat} {l : List Sc.Tok} {i j d e : Nat} (h : PS w p T l i d) (hij : i = j) (hde : d = e) : PS w p T l j e := hij ▸ hde ▸ h
def Pan (w' : World) (p n a : Nat) (e : Ending) : Prop := ∃ g,e = .panicked [{ v := .iface 60 (.agg #[.pointer (some ⟨g,0,none⟩)]),recovered := false }] ∧
 Blk w' g 81 #[.int .i64 0,.int .i64 a,.iface 26 (.int .i64 n)] ∧ ∃ x y,Blk w' p 64 #[x,.int .i64 y]
def PU (p T : Nat) (l : List Sc.Tok) (d : Nat) (r : Ps.R Unit) (e : Ending) (w' : World) : Prop := match r with
 | .bad n a => Pan w' p n a e
 | .ok _ i => e = .returned (.tuple #[]) ∧ PS w' p T l i d
def PN (p T : Nat) (l : List Sc.Tok) (d : Nat) (r : Ps.R ByteArray) (e : Ending) (w' : World) : Prop := match r with
 | .bad n a => Pan w' p n a e
 | .ok s i => e = .returned (.string s) ∧ PS w' p T l i d
def PI (p T : Nat) (l : List Sc.Tok) (d : Nat) (r : Ps.R Nat) (e : Ending) (w' : World) : Prop := match r with
 | .bad n a => Pan w' p n a e
 | .ok k i => e = .returned (.int .i64 k) ∧ PS w' p T l i d
def PT (S : Nat → Prop) (p T : Nat) (l : List Sc.Tok) (i0 d : Nat) (r : Ps.R Ps.Tree) (e : Ending) (w' : World) : Prop := match r with
 | .bad n a => Pan w' p n a e
 | .ok t i => ∃ v,e = .returned v ∧ TreeIn w' S v t ∧ PS w' p T l i d ∧ i0 ≤ i
def PR (S : Nat → Prop) (p T : Nat) (l : List Sc.Tok) (i0 d : Nat) (r : Ps.R (List Ps.Tree)) (e : Ending) (w' : World) : Prop := match r with
 | .bad n a => Pan w' p n a e
 | .ok ts i => ∃ v,e = .returned v ∧ RowIn w' S v ts ∧ PS w' p T l i d ∧ i0 ≤ i
theorem PT.bad {S : Nat → Prop} {p T : Nat} {l : List Sc.Tok} {i0 d n a : Nat} {r : Ps.R Ps.Tree} {e : Ending} {w' : World} (hr : r = .bad n a) (h : Pan w' p n a e) : PT S p T l i0 d r e w' := by rw [hr]; exact h
theorem PT.ok {S : Nat → Prop} {p T : Nat} {l : List Sc.Tok} {i0 d i : Nat} {t : Ps.Tree} {r : Ps.R Ps.Tree} {e : Ending} {w' : World} {v : Value} (hr : r = .ok t i) (he : e = .returned v) (ht : TreeIn w' S v t) (hp : PS w' p T l i d) (hi : i0 ≤ i) : PT S p T l i0 d r e w' := by
 rw [hr]; exact ⟨v,he,ht,hp,hi⟩
theorem PR.bad {S : Nat → Prop} {p T : Nat} {l : List Sc.Tok} {i0 d n a : Nat} {r : Ps.R (List Ps.Tree)} {e : Ending} {w' : World} (hr : r = .bad n a) (h : Pan w' p n a e) : PR S p T l i0 d r e w' := by rw [hr]; exact h
theorem PR.ok {S : Nat → Prop} {p T : Nat} {l : List Sc.Tok} {i0 d i : Nat} {ts : List Ps.Tree} {r : Ps.R (List Ps.Tree)} {e : Ending} {w' : World} {v : Value} (hr : r = .ok ts i) (he : e = .returned v) (ht : RowIn w' S v ts) (hp : PS w' p T l i d) (hi : i0 ≤ i) : PR S p T l i0 d r e w' := by
 rw [hr]; exact ⟨v,he,ht,hp,hi⟩
end Go.Proofs.YtneohanphabneaaGreatDoor
namespace Go.Proofs.YtneohanphabneaaGreatDoor
open Go.RowKit
theorem bytes_beq (a b : ByteArray) : (a.toList == b.toList) = decide (a = b) := by
 rw [Lib.toList_data,Lib.toList_data,Bool.eq_iff_iff]
 simp only [beq_iff_eq,decide_eq_true_eq]
 constructor
 ·intro h
  rcases a with ⟨⟨a⟩⟩; rcases b with ⟨⟨b⟩⟩
  simp at h; rw [h]
 ·intro h; rw [h]
theorem isW_beq (l : List Sc.Tok) (i : Nat) (s : ByteArray) : ((Ps.W l i).toList == s.toList) = Ps.isW l i s := bytes_beq _ _
theorem isW_empty (l : List Sc.Tok) (i : Nat) : (Ps.W l i).toList.isEmpty = Ps.isW l i ⟨#[]⟩ := by
 rw [← isW_beq,Bool.eq_iff_iff]
 simp only [List.isEmpty_iff,beq_iff_eq]
 rw [show (ByteArray.mk #[]).toList = [] from by rw [Lib.toList_data]]
theorem pfail_any {w : World} {p T : Nat} {l : List Sc.Tok} {i d : Nat} (h : PS w p T l i d) (n : Nat) : Calls Tryz.prog 67 #[pp p,.int .i64 n] w fun e w' =>
  Pan w' p n (Ps.A l i) e ∧ Kp w.heap.size p w w' := by
 obtain ⟨c,hc,hb,⟨h1,h2⟩,⟨h3,h4⟩,h5,h6,h7,hlt⟩ := h.facts
 unfold pp
 go_enter Tryz.func67,Tryz.ntmps67
 go_wp2
 exact ⟨rfl,⟨_,rfl,Blk.new _ _ _,_,_,hb.alloc _⟩,(Kp.refl _ _ _).alloc (Nat.le_refl _) _⟩
theorem pis_any {w : World} {p T : Nat} {l : List Sc.Tok} {i d : Nat} (h : PS w p T l i d) (s : ByteArray) : Calls Tryz.prog 24 #[pp p,.string s] w fun e w' =>
  e = .returned (.bool (Ps.isW l i s)) ∧ w = w' := by
 obtain ⟨c,hc,hb,⟨h1,h2⟩,⟨h3,h4⟩,h5,h6,h7,hlt⟩ := h.facts
 unfold pp
 go_enter Tryz.func24,Tryz.ntmps24
 go_wp2
 go_ret
 exact ⟨ret_bool (isW_beq l i s),rfl⟩
theorem pnode_any {w : World} {p T : Nat} {l : List Sc.Tok} {i d : Nat} (h : PS w p T l i d) (k : Nat) : Calls Tryz.prog 52 #[pp p,.int .i64 k] w fun e w' =>
  e = .returned (nodeV k ⟨#[]⟩ 0 (Ps.A l i) (.slice none 0 0)) ∧ Below w.heap.size w w' := by
 obtain ⟨c,hc,hb,⟨h1,h2⟩,⟨h3,h4⟩,h5,h6,h7,hlt⟩ := h.facts
 unfold pp
 go_enter Tryz.func52,Tryz.ntmps52
 go_wp2
 exact bodyPost_ret (v := nodeV k ⟨#[]⟩ 0 (Ps.A l i) (.slice none 0 0)) (by simp [results,Tryz.results52,go_sem,nodeV]) rfl ⟨rfl,(Below.refl _ _).alloc (Nat.le_refl _) _⟩
theorem pwant_any {w : World} {p T : Nat} {l : List Sc.Tok} {i d : Nat} (h : PS w p T l i d) : Calls Tryz.prog 25 #[pp p] w fun e w' =>
  Pan w' p (Ps.wantN l i) (Ps.A l i) e ∧ Kp w.heap.size p w w' := by
 obtain ⟨c,hc,hb,⟨h1,h2⟩,⟨h3,h4⟩,h5,h6,h7,hlt⟩ := h.facts
 have hf := Lib.hid (fun n => pfail_any h n)
 unfold pp at *
 have he := isW_empty l i
 rcases hw : Ps.isW l i ⟨#[]⟩ with _ | _
 all_goals
  rw [hw] at he
  go_enter Tryz.func25,Tryz.ntmps25
  go_wp2_with fail
  refine (hf.out _).mono ?_
  rintro e w1 ⟨⟨g,rfl,hg⟩,hk⟩
  refine ⟨rfl,?_,hk⟩
  rw [show Ps.wantN l i = _ from by unfold Ps.wantN; rw [hw]]
  exact ⟨g,rfl,hg⟩
theorem ptake_no {w : World} {p T : Nat} {l : List Sc.Tok} {i d : Nat} (h : PS w p T l i d) {s : ByteArray} (hw : Ps.isW l i s = false) : Calls Tryz.prog 55 #[pp p,.string s] w fun e w' =>
  e = .returned (.bool false) ∧ w = w' := by
 have hI := Lib.hid (pis_any h s)
 rw [hw] at hI
 unfold pp at *
 go_enter Tryz.func55,Tryz.ntmps55
 go_wp2_with (go_at_call 24; refine hI.out.mono ?_; rintro e w' ⟨rfl,rfl⟩)
 go_ret
 exact ⟨rfl,rfl⟩
theorem PS.next {w : World} {p T : Nat} {l : List Sc.Tok} {i d c : Nat} (h : PS w p T l i d) (hi : i + 1 < l.length) (hc : l.length - i ≤ c) (hb : Blk w p 64 #[.slice (some ⟨T,2 * i,none⟩) (l.length - i) c,.int .i64 d]) :
  PS (w.setCell ⟨p,0,none⟩ (.slice (some ⟨T,2 * i + 2,none⟩) (l.length - i - 1) (c - 1))) p T l (i + 1) d := by
 refine ⟨⟨c - 1,by omega,?_⟩,h.tok.same (Below.heap_setCell w _ _ T (by have := h.ne; show T ≠ p; omega)),h.ne,hi,h.hd,h.last,h.good,h.small,h.lv.same fun k hk => Below.heap_setCell w _ _ k (by show k ≠ p; omega)⟩
 have := hb.set 0 (.slice (some ⟨T,2 * i + 2,none⟩) (l.length - i - 1) (c - 1))
 rw [show 2 * (i + 1) = 2 * i + 2 from by omega,show l.length - (i + 1) = l.length - i - 1 from by omega]
 exact this
theorem ptake_yes {w : World} {p T : Nat} {l : List Sc.Tok} {i d : Nat} (h : PS w p T l i d) {s : ByteArray} (hw : Ps.isW l i s = true) (hs : s ≠ ⟨#[]⟩) : Calls Tryz.prog 55 #[pp p,.string s] w fun e w' =>
  e = .returned (.bool true) ∧ Kp w.heap.size p w w' ∧ PS w' p T l (i + 1) d := by
 obtain ⟨c,hc,hb,⟨h1,h2⟩,⟨h3,h4⟩,h5,h6,h7,hlt⟩ := h.facts
 have hI := Lib.hid (pis_any h s)
 have hi := Ps.isW_lt h.last h.hi hw hs
 rw [hw] at hI
 unfold pp at *
 go_enter Tryz.func55,Tryz.ntmps55
 go_wp2_with (go_at_call 24; refine hI.out.mono ?_; rintro e w' ⟨rfl,rfl⟩)
 go_ret
 exact ⟨rfl,(Kp.refl _ _ _).setCell (x := ⟨p,0,none⟩) (.inr rfl) _,h.next hi hc hb⟩
theorem pmust_any {w : World} {p T : Nat} {l : List Sc.Tok} {i d : Nat} (h : PS w p T l i d) (s : ByteArray) (hs : s ≠ ⟨#[]⟩) : Calls Tryz.prog 53 #[pp p,.string s] w fun e w' =>
  PU p T l d (Ps.must l s i) e w' ∧ Kp w.heap.size p w w' := by
 have hW := Lib.hid (pwant_any h)
 rcases hw : Ps.isW l i s with _ | _
 ·rw [Ps.must_no hw]
  have hN := Lib.hid (ptake_no h hw)
  unfold pp at *
  go_enter Tryz.func53,Tryz.ntmps53
  go_wp2_with (go_at_call 55; refine hN.out.mono ?_; rintro e w' ⟨rfl,rfl⟩)
  refine hW.out.mono ?_
  rintro e w1 ⟨⟨g,rfl,hg⟩,hk⟩
  exact ⟨rfl,⟨g,rfl,hg⟩,hk⟩
 ·rw [Ps.must_yes hw]
  have hN := Lib.hid (ptake_yes h hw hs)
  unfold pp at *
  go_enter Tryz.func53,Tryz.ntmps53
  go_wp2_with (go_at_call 55; refine hN.out.mono ?_; rintro e w1 ⟨rfl,hk,hp⟩)
  go_end0
  exact ⟨⟨rfl,hp⟩,hk⟩
set_option maxRecDepth 100000
set_option maxHeartbeats 4000000
open Go.RowKit
theorem ba_beq (a b : ByteArray) : (a == b) = decide (a = b) := by
 show (a.data == b.data) = _
 rw [Bool.eq_iff_iff]
 simp only [beq_iff_eq,decide_eq_true_eq]
 constructor
 ·intro h
  rcases a with ⟨a⟩; rcases b with ⟨b⟩
  simp at h; rw [h]
 ·intro h; rw [h]
def ents : List ByteArray → Nat → List MapEntry
 | [],_ => []
 | k :: r,n => { key := .string k,val := .bool true,born := n } :: ents r (n + 1)
theorem ents_snoc (k : ByteArray) : ∀ (ks : List ByteArray) (n : Nat),ents (ks ++ [k]) n = ents ks n ++ [{ key := .string k,val := .bool true,born := n + ks.length }]
 | [],n => by simp [ents]
 | x :: ks,n => by simp [ents,ents_snoc k ks (n + 1)]; omega
def MB (w : World) (g : Nat) (ks : List ByteArray) : Prop := w.heap[g]? = some (.map (ents ks 0).toArray ks.length)
theorem findNow_ents (k : ByteArray) : ∀ (ks : List ByteArray) (n i : Nat),((ks.any fun x => decide (x = k)) = false → Instr.findNow .string (.string k) (ents ks n) i = some none) ∧ ((ks.any fun x => decide (x = k)) = true → ∃ j,Instr.findNow .string (.string k) (ents ks n) i = some (some (j,.bool true)))
 | [],n,i => ⟨fun _ => rfl,fun h => by cases h⟩
 | x :: ks,n,i => by
  have ih := findNow_ents k ks (n + 1) (i + 1)
  by_cases hx : x = k
  ·subst hx
   refine ⟨fun h => by simp at h,fun _ => ⟨i,?_⟩⟩
   simp only [ents,Instr.findNow,Instr.sameNow,ba_beq,decide_true]
  ·have hx' : ¬ k = x := fun e => hx e.symm
   refine ⟨fun h => ?_,fun h => ?_⟩
   ·simp only [List.any_cons,Bool.or_eq_false_iff] at h
    have := ih.1 h.2
    simp only [ents,Instr.findNow,Instr.sameNow,ba_beq,decide_eq_false hx',this]
   ·simp only [List.any_cons,Bool.or_eq_true,decide_eq_true_eq] at h
    rcases h with h | h
    ·exact absurd h hx
    ·obtain ⟨j,hj⟩ := ih.2 h
     exact ⟨j,by simp only [ents,Instr.findNow,Instr.sameNow,ba_beq,decide_eq_false hx',hj]⟩
theorem MB.lt {w : World} {g : Nat} {ks : List ByteArray} (h : MB w g ks) : g < w.heap.size := by
 rcases Nat.lt_or_ge g w.heap.size with hlt | hge
 ·exact hlt
 ·unfold MB at h; rw [Array.getElem?_eq_none hge] at h; cases h
theorem run_put {w : World} {g : Nat} {ks : List ByteArray} (h : MB w g ks) (k : ByteArray) (hk : (ks.any fun x => decide (x = k)) = false) :
  ∃ w',(Instr.mapUpdate 130 (.map (some g)) (.string k) (.bool true)).run Tryz.prog w = .ok () w' ∧ MB w' g (ks ++ [k]) ∧ Below g w w' := by
 have hf := (findNow_ents k ks 0 0).1 hk
 unfold MB at h
 have hset := MapKept.heap_set (o' := .map (ents (ks ++ [k]) 0).toArray (ks ++ [k]).length) h
 refine ⟨{ w with heap := w.heap.setIfInBounds g (.map (ents (ks ++ [k]) 0).toArray (ks ++ [k]).length) },?_,hset.1,⟨rfl,rfl,rfl,by simp,fun i hi => hset.2 i (by omega)⟩⟩
 ·unfold Instr.mapUpdate
  simp only [Sem.run_bind,run_underlying Tryz.underlying130,Result.andThen,MapKept.run_getObj_map h,MapKept.run_checkKey Tryz.underlying9 (k := .string k) trivial,MapKept.run_findKey Tryz.underlying9 hf,MapKept.run_setObj_map _ h]
  simp [ents_snoc]
theorem run_get {w : World} {g : Nat} {ks : List ByteArray} (h : MB w g ks) (k : ByteArray) :
  (Instr.lookup 130 (.map (some g)) (.string k) false).run Tryz.prog w = .ok (.bool (ks.any fun x => decide (x = k))) w := by
 unfold MB at h
 rcases hk : (ks.any fun x => decide (x = k)) with _ | _
 ·have hf := (findNow_ents k ks 0 0).1 hk
  unfold Instr.lookup
  simp only [Sem.run_bind,run_underlying Tryz.underlying130,Result.andThen,MapKept.run_getObj_map h,MapKept.run_checkKey Tryz.underlying9 (k := .string k) trivial]
  simp [go_sem,MapKept.run_findKey Tryz.underlying9 hf]
 ·obtain ⟨j,hf⟩ := (findNow_ents k ks 0 0).2 hk
  unfold Instr.lookup
  simp only [Sem.run_bind,run_underlying Tryz.underlying130,Result.andThen,MapKept.run_getObj_map h,MapKept.run_checkKey Tryz.underlying9 (k := .string k) trivial]
  simp [go_sem,MapKept.run_findKey Tryz.underlying9 hf]
theorem wp_put {ops : Array Oper} {rest : List Oper} {o : Oper} {a : Act} {Q : Exit → Act → World → Prop} {B : Nat} (w0 w : World) (hg : o.guard = none) (m x v : Operand) (hop : o.op = .insert 130 m x v) (g : Nat) (ks : List ByteArray) (k : ByteArray)
  (hm : a.eval m = .map (some g)) (hx : a.eval x = .string k) (hv : a.eval v = .bool true) (h : MB w g ks) (hk : (ks.any fun x => decide (x = k)) = false) (hB : B ≤ g) (hb : Below B w0 w)
  (hK : ∀ w',MB w' g (ks ++ [k]) → Below B w0 w' → wpList Tryz.prog ops Q rest (a.put o.dst undef) w') : wpList Tryz.prog ops Q (o :: rest) a w := by
 refine wpList_plain hg fun K' hK' => ?_
 obtain ⟨w',hrun,r1,r2⟩ := run_put h k hk
 unfold Oper.wp
 simp [execOp,hop,hm,hx,hv,hrun,Result.andThen]
 exact hK' _ _ (hK w' r1 (hb.trans (r2.mono hB)))
theorem keptMap_any (w : World) : Calls Tryz.prog 168 #[] w fun e w' => ∃ g,e = .returned (.map (some g)) ∧ (∀ s,(Instr.lookup 130 (.map (some g)) (.string s) false).run Tryz.prog w' = .ok (.bool (Ps.isKept s)) w') ∧ Below w.heap.size w w' := by
 have hM0 : MB (w.alloc (.map #[] 0)) w.heap.size [] := heap_alloc_new w _
 have hB0 : Below w.heap.size w (w.alloc (.map #[] 0)) := (Below.refl _ _).alloc (Nat.le_refl _) _
 have hmk := fun ty => run_makeMap (P := Tryz.prog) ty w
 go_enter Tryz.func168,Tryz.ntmps168
 go_wp2_with (first | (refine wp_put w _ rfl _ _ _ rfl w.heap.size _ _ (by rfl) (by rfl) (by rfl) (by assumption) (by rfl) (Nat.le_refl _) (by assumption) ?_; intro w1 hm1 hb1))
 go_ret
 exact ⟨w.heap.size,rfl,fun s => run_get (ks := Ps.kept) hm1 s,hb1⟩
theorem kept_any (s : ByteArray) (w : World) : Calls Tryz.prog 124 #[.string s] w fun e w' => e = .returned (.bool (Ps.isKept s)) ∧ Below w.heap.size w w' := by
 go_enter Tryz.func124,Tryz.ntmps124
 go_wp2_with fail
 refine (keptMap_any w).mono ?_
 rintro e w1 ⟨g,rfl,hm,hb⟩
 have hget := hm s
 clear hm
 go_wp2_with fail
 go_ret
 exact ⟨rfl,hb⟩
open Go.RowKit
def cmtEnd : Option Nat → Int
 | none => -1
 | some n => n
end Go.Proofs.YtneohanphabneaaGreatDoor
