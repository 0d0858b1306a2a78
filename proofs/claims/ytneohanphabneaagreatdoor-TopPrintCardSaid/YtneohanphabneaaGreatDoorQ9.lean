/-
  The plain law of what is read: an expression's tree can be read back, and holds no more operators than its words do.
-/
import Derived.Test.YtneohanphabneaaGreatDoorMQ3
namespace Go.Proofs.YtneohanphabneaaGreatDoor.Pr
open Ps Sc
def seps : List ByteArray := [⟨#[59]⟩,⟨#[58,61]⟩,⟨#[84,72,69,78]⟩,⟨#[68,79]⟩,⟨#[69,78,68]⟩,⟨#[66,69,71,73,78]⟩,⟨#[69,76,83,69]⟩,⟨#[85,78,84,73,76]⟩,⟨#[82,69,80,69,65,84]⟩,⟨#[69,76,83,73,70]⟩,⟨#[73,70]⟩,⟨#[87,72,73,76,69]⟩]
def sepW (s : ByteArray) : Bool := seps.any fun k => decide (k = s)
def opsA : List ByteArray := ops0 ++ ops1 ++ ops2
def opW (s : ByteArray) : Bool := opsA.any fun k => decide (k = s)
def pc (p : ByteArray → Bool) (l : List Tok) (j : Nat) : Nat := (l.take j).countP fun t => p ⟨t.1.toArray⟩
theorem pc_succ {p : ByteArray → Bool} (hp : p ⟨#[]⟩ = false) (l : List Tok) (j : Nat) : pc p l (j + 1) = pc p l j + (if p (W l j) = true then 1 else 0) := by
 unfold pc W
 rw [List.take_add_one,List.countP_append]
 cases h : l[j]? with
 | none => simp [hp]
 | some t => simp [List.countP_cons]
theorem any_of {os : List ByteArray} {s : ByteArray} (h : (os.any fun k => decide (k = s)) = true) : s ∈ os := by
 rw [List.any_eq_true] at h
 obtain ⟨k,hk,e⟩ := h
 rw [decide_eq_true_eq] at e
 exact e ▸ hk
theorem sep_no {s : ByteArray} {p : ByteArray → Bool} (h : p s = true) (hd : seps.all (fun k => !p k) = true) : sepW s = false := by
 cases hs : sepW s with
 | false => rfl
 | true =>
  have := List.all_eq_true.1 hd s (any_of hs)
  rw [h] at this; cases this
theorem sep_name {s : ByteArray} (h : isName s = true) : sepW s = false := sep_no h (by decide)
theorem sep_num {s : ByteArray} (h : isNum s = true) : sepW s = false := sep_no h (by decide)
theorem sep_op {s : ByteArray} (h : opW s = true) : sepW s = false := sep_no h (by decide)
def Ex (l : List Tok) (i j n : Nat) : Prop := i ≤ j ∧ n + pc opW l i ≤ pc opW l j ∧ pc sepW l j = pc sepW l i
theorem Ex.refl (l : List Tok) (i : Nat) : Ex l i i 0 := ⟨Nat.le_refl _,by omega,rfl⟩
theorem Ex.word {l : List Tok} {i : Nat} (h : sepW (W l i) = false) : Ex l i (i + 1) 0 := by
 refine ⟨by omega,?_,?_⟩
 ·rw [pc_succ (by decide)]; omega
 ·rw [pc_succ (by decide),h]; simp
theorem Ex.op {l : List Tok} {i : Nat} (h : opW (W l i) = true) : Ex l i (i + 1) 1 := by
 refine ⟨by omega,?_,?_⟩
 ·rw [pc_succ (by decide),h]; simp; omega
 ·rw [pc_succ (by decide),sep_op h]; simp
theorem Ex.trans {l : List Tok} {i j k n m : Nat} (h : Ex l i j n) (g : Ex l j k m) : Ex l i k (n + m) := by
 obtain ⟨h1,h2,h3⟩ := h
 obtain ⟨g1,g2,g3⟩ := g
 exact ⟨by omega,by omega,by omega⟩
theorem Ex.to {l : List Tok} {i j n m : Nat} (h : Ex l i j n) (e : m = n) : Ex l i j m := e ▸ h
theorem isW_eq {l : List Tok} {i : Nat} {s : ByteArray} (h : isW l i s = true) : W l i = s := by
 unfold isW at h; exact of_decide_eq_true h
theorem Ex.is {l : List Tok} {i : Nat} {s : ByteArray} (h : isW l i s = true) (hs : sepW s = false) : Ex l i (i + 1) 0 := Ex.word (by rw [isW_eq h]; exact hs)
theorem inv {α β : Type} {r : R α} {f : α → Nat → R β} {v : β} {i : Nat} (h : r.bind f = .ok v i) : ∃ u k,r = .ok u k ∧ f u k = .ok v i := by
 cases r with
 | bad e a => cases h
 | ok u k => exact ⟨u,k,rfl,h⟩
theorem inv_must {l : List Tok} {s : ByteArray} {i j : Nat} {β : Type} {f : Unit → Nat → R β} {v : β} (h : (must l s i).bind f = .ok v j) : W l i = s ∧ f () (i + 1) = .ok v j := by
 unfold must at h
 by_cases hw : isW l i s = true
 ·rw [if_pos hw] at h; exact ⟨isW_eq hw,h⟩
 ·rw [if_neg hw] at h; cases h
theorem inv_name {l : List Tok} {i j : Nat} {β : Type} {f : ByteArray → Nat → R β} {v : β} (h : (nameR l i).bind f = .ok v j) : isName (W l i) = true ∧ f (W l i) (i + 1) = .ok v j := by
 unfold nameR at h
 by_cases hw : isName (W l i) = true
 ·rw [if_pos hw] at h; exact ⟨hw,h⟩
 ·rw [if_neg hw] at h; cases h
theorem inv_ok {α : Type} {u v : α} {i j : Nat} (h : (R.ok u i) = .ok v j) : v = u ∧ j = i := by
 injection h with h1 h2; exact ⟨h1.symm,h2.symm⟩
theorem nopsL_app : ∀ a b : List Tree,nopsL (a ++ b) = nopsL a + nopsL b
 | [],b => by rw [List.nil_append]; simp only [nopsL]; omega
 | t :: a,b => by rw [List.cons_append]; simp only [nopsL]; rw [nopsL_app a b]; omega
theorem nopsL_one (t : Tree) : nopsL [t] = nops t := by simp only [nopsL]; omega
mutual
theorem Px.mono : ∀ {L v : Nat} {t : Tree},Px L v t → Px (L + 1) v t
 | _,_,_,.num h => .num h
 | _,_,_,.atom h => .atom h
 | _,_,_,.des h hm => .des (Pd.mono h) hm
 | _,_,_,.call h hm ha => .call (Pd.mono h) hm (Pa.mono ha)
 | _,_,_,.not h => .not (Px.mono h)
 | _,_,_,.neg hv h => .neg hv (Px.mono h)
 | _,_,_,.is h ht => .is (Px.mono h) ht
 | _,_,_,.op0 hn h1 h2 => .op0 hn (Px.mono h1) (Px.mono h2)
 | _,_,_,.op1 hn hv h1 h2 => .op1 hn hv (Px.mono h1) (Px.mono h2)
 | _,_,_,.op2 hn hv h1 h2 => .op2 hn hv (Px.mono h1) (Px.mono h2)
 | _,_,_,.par h1 h2 h => .par h1 h2 (Px.mono h)
theorem Pd.mono : ∀ {L m : Nat} {t : Tree},Pd L m t → Pd (L + 1) m t
 | _,_,_,.ref hn => .ref hn
 | _,_,_,.dot hn h => .dot hn (Pd.mono h)
 | _,_,_,.index h hx => .index (Pd.mono h) (Px.mono hx)
 | _,_,_,.hat h => .hat (Pd.mono h)
 | _,_,_,.guard h ht => .guard (Pd.mono h) ht
theorem Pa.mono : ∀ {L : Nat} {ts : List Tree},Pa L ts → Pa (L + 1) ts
 | _,_,.nil => .nil
 | _,_,.cons h hs => .cons (Px.mono h) (Pa.mono hs)
end
abbrev ownT (t : Tree) : Nat := own (kindT t) (nameT t)
theorem Px.to : ∀ {L v : Nat} {t : Tree},Px L v t → ∀ u,u ≤ ownT t → Px L u t
 | _,_,_,.num h,_,_ => .num h
 | _,_,_,.atom h,_,_ => .atom h
 | _,_,_,.des h hm,_,_ => .des h hm
 | _,_,_,.call h hm ha,_,_ => .call h hm ha
 | _,_,_,.not h,_,_ => .not h
 | _,_,_,.neg _ h,u,hu => .neg hu h
 | _,_,_,.is h ht,u,hu => by
  obtain rfl : u = 0 := Nat.le_zero.1 hu
  exact .is h ht
 | _,_,_,.op0 (n := n) hn h1 h2,u,hu => by
  have e : ownT (.node 36 n 0 ‹_› [‹_›,‹_›]) = level n := rfl
  have hu' : u ≤ level n := hu
  rw [level0 hn] at hu'
  obtain rfl : u = 0 := Nat.le_zero.1 hu'
  exact .op0 hn h1 h2
 | _,_,_,.op1 (n := n) hn _ h1 h2,u,hu => by
  have hu' : u ≤ level n := hu
  rw [level1 hn] at hu'
  exact .op1 hn hu' h1 h2
 | _,_,_,.op2 (n := n) hn _ h1 h2,u,hu => by
  have hu' : u ≤ level n := hu
  rw [level2 hn] at hu'
  exact .op2 hn hu' h1 h2
 | _,_,_,.par _ _ h,u,hu => Px.mono (Px.to h u hu)
theorem Px.lower : ∀ {L v : Nat} {t : Tree},Px L v t → ∀ u,u ≤ v → Px L u t
 | _,_,_,.num h,_,_ => .num h
 | _,_,_,.atom h,_,_ => .atom h
 | _,_,_,.des h hm,_,_ => .des h hm
 | _,_,_,.call h hm ha,_,_ => .call h hm ha
 | _,_,_,.not h,_,_ => .not h
 | _,_,_,.neg hv h,u,hu => .neg (Nat.le_trans hu hv) h
 | _,_,_,.is h ht,u,hu => by
  obtain rfl : u = 0 := Nat.le_zero.1 hu
  exact .is h ht
 | _,_,_,.op0 hn h1 h2,u,hu => by
  obtain rfl : u = 0 := Nat.le_zero.1 hu
  exact .op0 hn h1 h2
 | _,_,_,.op1 hn hv h1 h2,u,hu => .op1 hn (Nat.le_trans hu hv) h1 h2
 | _,_,_,.op2 hn hv h1 h2,u,hu => .op2 hn (Nat.le_trans hu hv) h1 h2
 | _,v,t,.par h1 h2 h,u,hu => by
  by_cases hw : u ≤ ownT t
  ·exact Px.mono (Px.to h u hw)
  ·exact .par (Nat.lt_of_not_le hw) (Nat.le_trans hu h2) h
theorem Px.paren {L : Nat} {t : Tree} (h : Px L 0 t) : Px (L + 1) 3 t := by
 by_cases hw : 3 ≤ ownT t
 ·exact Px.mono (Px.to h 3 hw)
 ·exact .par (Nat.lt_of_not_le hw) (Nat.le_refl _) h
theorem Pa.of {L : Nat} : ∀ ts : List Tree,(∀ t ∈ ts,∃ M,L = M + 1 ∧ Px M 0 t) → Pa L ts
 | [],_ => .nil
 | t :: ts,h => by
  obtain ⟨M,rfl,hx⟩ := h t List.mem_cons_self
  exact .cons hx (Pa.of ts fun u hu => h u (List.mem_cons_of_mem _ hu))
theorem fold_bare : ∀ t : List UInt8,t.all isD = true → fold 0 (bare t) = fold 0 t ∧ (bare t).all isD = true
 | [],_ => ⟨rfl,rfl⟩
 | c :: t,h => by
  rw [List.all_cons,Bool.and_eq_true] at h
  by_cases hc : c = 48
  ·subst hc
   have ih := fold_bare t h.2
   unfold bare
   rw [if_pos rfl]
   exact ⟨ih.1,ih.2⟩
  ·unfold bare
   rw [if_neg hc]
   exact ⟨rfl,by rw [List.all_cons,h.1,h.2]; rfl⟩
theorem less_fold : ∀ (a b : List UInt8) (x : Nat),a.length = b.length → a.all isD = true → b.all isD = true → Op.bytesLess a b = true → fold x a ≤ fold x b
 | [],[],_,_,_,_,_ => Nat.le_refl _
 | [],_ :: _,_,h,_,_,_ => by simp at h
 | _ :: _,[],_,h,_,_,_ => by simp at h
 | c :: s,d :: t,x,hl,ha,hb,h => by
  have hl2 : s.length = t.length := by simpa using hl
  rw [List.all_cons,Bool.and_eq_true] at ha hb
  obtain ⟨c1,c2⟩ := isD_nat ha.1
  obtain ⟨d1,d2⟩ := isD_nat hb.1
  rw [Op.bytesLess,Bool.or_eq_true,Bool.and_eq_true] at h
  show fold (x * 10 + (c.toNat - 48)) s ≤ fold (x * 10 + (d.toNat - 48)) t
  rcases h with h | ⟨h1,h2⟩
  ·have hlt : c.toNat < d.toNat := UInt8.lt_iff_toNat_lt.1 (of_decide_eq_true h)
   have l1 := fold_hi s (x * 10 + (c.toNat - 48)) ha.2
   have l2 := fold_lo t (x * 10 + (d.toNat - 48))
   have l3 : (x * 10 + (c.toNat - 48) + 1) * 10 ^ s.length ≤ (x * 10 + (d.toNat - 48)) * 10 ^ t.length := by
    rw [hl2]; exact Nat.mul_le_mul_right _ (by omega)
   omega
  ·have e : c = d := by simpa using h1
   subst e
   exact less_fold s t _ hl2 ha.2 hb.2 h2
theorem num_le {s : ByteArray} (h : s.data.toList.all isD = true) (hb : isBig s.data.toList = false) : numVal s ≤ 2147483647 := by
 obtain ⟨h1,h2⟩ := fold_bare _ h
 unfold numVal
 rw [← h1]
 unfold isBig at hb
 rw [Bool.or_eq_false_iff,Bool.and_eq_false_iff] at hb
 obtain ⟨hb1,hb2⟩ := hb
 generalize bare s.data.toList = b at *
 have hb1 : ¬ 10 < b.length := of_decide_eq_false hb1
 rcases Nat.lt_or_ge b.length 10 with hl | hl
 ·have := fold_hi b 0 h2
  have h9 : 10 ^ b.length ≤ 10 ^ 9 := Nat.pow_le_pow_right (by omega) (by omega)
  omega
 ·have hlen : b.length = 10 := by omega
  have ho : over b = false := by
   rcases hb2 with h | h
   ·rw [hlen] at h; simp at h
   ·exact h
  unfold over at ho
  rw [Bool.and_eq_false_iff] at ho
  have hmax : fold 0 maxNum = 2147483647 := by decide
  rcases ho with h | h
  ·have hless : Op.bytesLess b maxNum = true := by simpa using h
   have := less_fold b maxNum 0 (by rw [hlen]; rfl) h2 (by decide) hless
   omega
  ·have e : b = maxNum := by simpa using h
   rw [e,hmax]; omega
theorem number_inv {l : List Tok} (hg : Good l) {i j : Nat} {β : Type} {f : Nat → Nat → R β} {v : β} (h : (number l i).bind f = .ok v j) : isNum (W l i) = true ∧ ∃ n,n ≤ 2147483647 ∧ f n (i + 1) = .ok v j := by
 unfold number at h
 by_cases hw : isNum (W l i) = true
 ·rw [if_pos hw] at h
  refine ⟨hw,_,?_,h⟩
  have hi : i < l.length := by
   rcases Nat.lt_or_ge i l.length with h | h
   ·exact h
   ·have e : W l i = ⟨#[]⟩ := by unfold W; rw [List.getElem?_eq_none h]
    rw [e] at hw; exact absurd hw (by decide)
  obtain ⟨_,hd⟩ := hg i hi
  obtain ⟨h1,h2⟩ := hd hw
  exact num_le h1 h2
 ·rw [if_neg hw] at h; cases h
theorem tn_ok {l : List Tok} {i j : Nat} {t : Tree} (h : Ps.typeName l i = .ok t j) : PT t ∧ nops t = 0 ∧ Ex l i j 0 := by
 unfold Ps.typeName at h
 obtain ⟨hn,h⟩ := inv_name h
 have e1 := Ex.word (sep_name hn)
 by_cases hw : isW l (i + 1) ⟨#[46]⟩ = true
 ·rw [if_pos hw] at h
  obtain ⟨hn2,h⟩ := inv_name h
  obtain ⟨rfl,rfl⟩ := inv_ok h
  exact ⟨.two hn2 hn,by simp [nops,nopsL],(e1.trans (Ex.is hw (by decide))).trans (Ex.word (sep_name hn2))⟩
 ·rw [if_neg hw] at h
  obtain ⟨rfl,rfl⟩ := inv_ok h
  exact ⟨.one hn,by simp [nops,nopsL],e1⟩
def HX (l : List Tok) (v L : Nat) (f : Nat → R Tree) : Prop := ∀ i t j,f i = .ok t j → ∃ M,L = M + 1 ∧ Px M v t ∧ Ex l i j (nops t)
def HF (l : List Tok) (v L : Nat) (f : Nat → R Tree) : Prop := ∀ i t j,f i = .ok t j → Px L v t ∧ Ex l i j (nops t)
theorem step_ok {l : List Tok} {L m a i j : Nat} {d : Tree} {o : Option Tree} {ex : Nat → R Tree} (hx : HX l 0 L ex) (hd : Pd L m d) (h : Ps.step l ex a d i = .ok o j) :
  (o = none ∧ j = i) ∨ ∃ t n,o = some t ∧ Pd L (m + 1) t ∧ nops t = nops d + n ∧ Ex l i j n := by
 unfold Ps.step at h
 by_cases h1 : isW l i ⟨#[46]⟩ = true
 ·rw [if_pos h1] at h
  obtain ⟨hn,h⟩ := inv_name h
  obtain ⟨rfl,rfl⟩ := inv_ok h
  exact .inr ⟨_,0,rfl,.dot hn hd,by simp [nops,nopsL],(Ex.is h1 (by decide)).trans (Ex.word (sep_name hn))⟩
 rw [if_neg h1] at h
 by_cases h2 : isW l i ⟨#[91]⟩ = true
 ·rw [if_pos h2] at h
  obtain ⟨t,k,ht,h⟩ := inv h
  obtain ⟨hm,h⟩ := inv_must h
  obtain ⟨rfl,rfl⟩ := inv_ok h
  obtain ⟨M,rfl,px,e⟩ := hx _ _ _ ht
  exact .inr ⟨_,nops t,rfl,.index hd px,by simp [nops,nopsL],(((Ex.is h2 (by decide)).trans e).trans (Ex.word (by rw [hm]; decide))).to (by omega)⟩
 rw [if_neg h2] at h
 by_cases h3 : isW l i ⟨#[94]⟩ = true
 ·rw [if_pos h3] at h
  obtain ⟨rfl,rfl⟩ := inv_ok h
  exact .inr ⟨_,0,rfl,.hat hd,by simp [nops,nopsL],Ex.is h3 (by decide)⟩
 rw [if_neg h3] at h
 by_cases h4 : isW l i ⟨#[123]⟩ = true
 ·rw [if_pos h4] at h
  obtain ⟨t,k,ht,h⟩ := inv h
  obtain ⟨hm,h⟩ := inv_must h
  obtain ⟨rfl,rfl⟩ := inv_ok h
  obtain ⟨pt,e0,e⟩ := tn_ok ht
  exact .inr ⟨_,0,rfl,.guard hd pt,by simp [nops,nopsL,e0],(((Ex.is h4 (by decide)).trans e).trans (Ex.word (by rw [hm]; decide))).to (by omega)⟩
 rw [if_neg h4] at h
 obtain ⟨rfl,rfl⟩ := inv_ok h
 exact .inl ⟨rfl,rfl⟩
theorem desigLoop_ok {l : List Tok} {L a : Nat} {ex : Nat → R Tree} (hx : HX l 0 L ex) : ∀ (k m : Nat) (d : Tree) (i : Nat) (t : Tree) (j : Nat),Pd L m d → m + k = 20 → desigLoop l ex a k d i = .ok t j → ∃ m' n,Pd L m' t ∧ m' ≤ 20 ∧ nops t = nops d + n ∧ Ex l i j n
 | k,m,d,i,t,j,hd,hk,h => by
  rw [desigLoop] at h
  obtain ⟨o,i1,h1,h2⟩ := inv h
  clear h
  rcases step_ok hx hd h1 with ⟨rfl,rfl⟩ | ⟨d1,n,rfl,hd1,e1,e2⟩
  ·obtain ⟨rfl,rfl⟩ := inv_ok h2
   exact ⟨m,0,hd,by omega,by omega,Ex.refl _ _⟩
  ·cases k with
   | zero => cases h2
   | succ k =>
    obtain ⟨m',n',g1,g2,g3,g4⟩ := desigLoop_ok hx k (m + 1) d1 i1 t j hd1 (by omega) h2
    exact ⟨m',n + n',g1,g2,by omega,e2.trans g4⟩
theorem desig_ok {l : List Tok} {L : Nat} {ex : Nat → R Tree} (hx : HX l 0 L ex) {i j : Nat} {t : Tree} (h : desig l ex i = .ok t j) : (∃ m,Pd L m t ∧ m ≤ 20) ∧ Ex l i j (nops t) := by
 unfold desig at h
 obtain ⟨hn,h⟩ := inv_name h
 obtain ⟨m,n,h1,h2,h3,h4⟩ := desigLoop_ok hx 20 0 _ _ _ _ (.ref hn) rfl h
 refine ⟨⟨m,h1,h2⟩,((Ex.word (sep_name hn)).trans h4).to ?_⟩
 rw [h3]; simp [nops,nopsL]
theorem argsLoop_ok {l : List Tok} {L : Nat} {ex : Nat → R Tree} (hx : HX l 0 L ex) : ∀ (F i : Nat) (acc ts : List Tree) (j : Nat),argsLoop l ex F i acc = .ok ts j → (∀ t ∈ acc,∃ M,L = M + 1 ∧ Px M 0 t) → (∀ t ∈ ts,∃ M,L = M + 1 ∧ Px M 0 t) ∧ ∃ n,nopsL ts = nopsL acc + n ∧ Ex l i j n
 | 0,i,acc,ts,j,h,ha => by
  rw [argsLoop] at h
  obtain ⟨rfl,rfl⟩ := inv_ok h
  exact ⟨ha,0,by omega,Ex.refl _ _⟩
 | F + 1,i,acc,ts,j,h,ha => by
  rw [argsLoop] at h
  obtain ⟨t,k,ht,h⟩ := inv h
  obtain ⟨M,hM,px,e⟩ := hx _ _ _ ht
  have ha2 : ∀ u ∈ acc ++ [t],∃ M,L = M + 1 ∧ Px M 0 u := fun u hu => by
   rcases List.mem_append.1 hu with hu | hu
   ·exact ha u hu
   ·obtain rfl := List.mem_singleton.1 hu
    exact ⟨M,hM,px⟩
  have e2 : nopsL (acc ++ [t]) = nopsL acc + nops t := by rw [nopsL_app,nopsL_one]
  by_cases hw : isW l k ⟨#[44]⟩ = true
  ·rw [if_pos hw] at h
   obtain ⟨g1,n,g2,g3⟩ := argsLoop_ok hx F _ _ _ _ h ha2
   exact ⟨g1,nops t + n,by omega,((e.trans (Ex.is hw (by decide))).trans g3).to (by omega)⟩
  ·rw [if_neg hw] at h
   obtain ⟨rfl,rfl⟩ := inv_ok h
   exact ⟨ha2,nops t,e2,e⟩
theorem args_ok {l : List Tok} {L : Nat} {ex : Nat → R Tree} (hx : HX l 0 L ex) {i j : Nat} {ts : List Tree} (h : args l ex i = .ok ts j) : Pa L ts ∧ Ex l i j (nopsL ts) := by
 unfold args at h
 by_cases h1 : isW l i ⟨#[40]⟩ = true
 ·rw [if_pos h1] at h
  by_cases h2 : isW l (i + 1) ⟨#[41]⟩ = true
  ·rw [if_pos h2] at h
   obtain ⟨rfl,rfl⟩ := inv_ok h
   exact ⟨.nil,((Ex.is h1 (by decide)).trans (Ex.is h2 (by decide))).to (by simp [nopsL])⟩
  ·rw [if_neg h2] at h
   obtain ⟨us,k,hu,h⟩ := inv h
   obtain ⟨hm,h⟩ := inv_must h
   obtain ⟨rfl,rfl⟩ := inv_ok h
   obtain ⟨g1,n,g2,g3⟩ := argsLoop_ok hx _ _ _ _ _ hu (fun t ht => by cases ht)
   refine ⟨Pa.of _ g1,(((Ex.is h1 (by decide)).trans g3).trans (Ex.word (by rw [hm]; decide))).to ?_⟩
   simp only [nopsL] at g2; omega
 ·rw [if_neg h1] at h
  obtain ⟨rfl,rfl⟩ := inv_ok h
  exact ⟨.nil,Ex.refl _ _⟩
theorem factor_ok {l : List Tok} (hg : Good l) {L : Nat} {ex down : Nat → R Tree} (hx : HX l 0 L ex) (hd : HX l 3 L down) : HF l 3 L (factorOf l ex down) := by
 intro i t j h
 unfold factorOf at h
 by_cases h1 : isNum (W l i) = true
 ·rw [if_pos h1] at h
  obtain ⟨hn,n,hle,h⟩ := number_inv hg h
  obtain ⟨rfl,rfl⟩ := inv_ok h
  exact ⟨.num hle,(Ex.word (sep_num hn)).to (by simp [nops,nopsL])⟩
 rw [if_neg h1] at h
 by_cases h2 : isW l i ⟨#[84,82,85,69]⟩ = true
 ·rw [if_pos h2] at h
  obtain ⟨rfl,rfl⟩ := inv_ok h
  exact ⟨.atom (.inl rfl),(Ex.is h2 (by decide)).to (by simp [nops,nopsL])⟩
 rw [if_neg h2] at h
 by_cases h3 : isW l i ⟨#[70,65,76,83,69]⟩ = true
 ·rw [if_pos h3] at h
  obtain ⟨rfl,rfl⟩ := inv_ok h
  exact ⟨.atom (.inr (.inl rfl)),(Ex.is h3 (by decide)).to (by simp [nops,nopsL])⟩
 rw [if_neg h3] at h
 by_cases h4 : isW l i ⟨#[78,73,76]⟩ = true
 ·rw [if_pos h4] at h
  obtain ⟨rfl,rfl⟩ := inv_ok h
  exact ⟨.atom (.inr (.inr rfl)),(Ex.is h4 (by decide)).to (by simp [nops,nopsL])⟩
 rw [if_neg h4] at h
 by_cases h5 : isW l i ⟨#[126]⟩ = true
 ·rw [if_pos h5] at h
  obtain ⟨x,k,hk,h⟩ := inv h
  obtain ⟨rfl,rfl⟩ := inv_ok h
  obtain ⟨M,rfl,px,e⟩ := hd _ _ _ hk
  exact ⟨.not px,((Ex.is h5 (by decide)).trans e).to (by simp [nops,nopsL])⟩
 rw [if_neg h5] at h
 by_cases h6 : isW l i ⟨#[40]⟩ = true
 ·rw [if_pos h6] at h
  obtain ⟨x,k,hk,h⟩ := inv h
  obtain ⟨hm,h⟩ := inv_must h
  obtain ⟨rfl,rfl⟩ := inv_ok h
  obtain ⟨M,rfl,px,e⟩ := hx _ _ _ hk
  exact ⟨px.paren,(((Ex.is h6 (by decide)).trans e).trans (Ex.word (by rw [hm]; decide))).to (by omega)⟩
 rw [if_neg h6] at h
 obtain ⟨d,k,hk,h⟩ := inv h
 obtain ⟨⟨m,hd,hm⟩,e⟩ := desig_ok hx hk
 by_cases h7 : isW l k ⟨#[40]⟩ = true
 ·rw [if_pos h7] at h
  obtain ⟨ts,k2,hk2,h⟩ := inv h
  obtain ⟨rfl,rfl⟩ := inv_ok h
  obtain ⟨pa,e2⟩ := args_ok hx hk2
  exact ⟨.call hd hm pa,(e.trans e2).to (by simp [nops,nopsL])⟩
 ·rw [if_neg h7] at h
  obtain ⟨rfl,rfl⟩ := inv_ok h
  exact ⟨.des hd hm,e⟩
theorem chain_ok {l : List Tok} {L lev : Nat} {f : Nat → R Tree} (hop : ∀ i a x y,isOp l lev i = true → Px L lev x → Px L (lev + 1) y → Px L lev (.node 36 (W l i) 0 a [x,y])) (how : ∀ i,isOp l lev i = true → opW (W l i) = true) (hf : HF l (lev + 1) L f) :
  ∀ (k : Nat) (a : Tree) (i : Nat) (t : Tree) (j : Nat),Px L lev a → chain l lev f k a i = .ok t j → Px L lev t ∧ ∃ n,nops t = nops a + n ∧ Ex l i j n
 | k,a,i,t,j,ha,h => by
  unfold chain at h
  by_cases ho : isOp l lev i = true
  ·rw [if_pos ho] at h
   cases k with
   | zero => cases h
   | succ k =>
    obtain ⟨b,i1,hb,h⟩ := inv h
    obtain ⟨pb,eb⟩ := hf _ _ _ hb
    obtain ⟨g1,n,g2,g3⟩ := chain_ok hop how hf k _ i1 t j (hop i _ _ _ ho ha pb) h
    refine ⟨g1,1 + nops b + n,?_,((Ex.op (how i ho)).trans eb).trans g3⟩
    rw [g2]; simp [nops,nopsL]; omega
  ·rw [if_neg ho] at h
   obtain ⟨rfl,rfl⟩ := inv_ok h
   exact ⟨ha,0,by omega,Ex.refl _ _⟩
theorem isOp_mem {l : List Tok} {lev i : Nat} {os : List ByteArray} (hl : (levels[lev]?).getD [] = os) (h : isOp l lev i = true) : isOp3 (W l i) os := by
 unfold isOp at h
 rw [hl] at h
 unfold isOp3
 rw [List.any_eq_true] at h ⊢
 obtain ⟨k,hk,e⟩ := h
 exact ⟨k,hk,decide_eq_true (isW_eq e).symm⟩
theorem op_in {l : List Tok} {i : Nat} {os : List ByteArray} (h : isOp3 (W l i) os) (hs : ∀ x ∈ os,x ∈ opsA) : opW (W l i) = true := by
 unfold opW
 rw [List.any_eq_true]
 exact ⟨_,hs _ (isOp3_mem h),decide_eq_true rfl⟩
theorem term_ok {l : List Tok} {L : Nat} {fac : Nat → R Tree} (hf : HF l 3 L fac) : HF l 2 L (term l fac) := by
 intro i t j h
 unfold term at h
 obtain ⟨a,k,ha,h⟩ := inv h
 obtain ⟨pa,ea⟩ := hf _ _ _ ha
 obtain ⟨g1,n,g2,g3⟩ := chain_ok (lev := 2) (fun i a x y ho hx hy => .op2 (isOp_mem (os := ops2) rfl ho) (Nat.le_refl _) hx hy) (fun i ho => op_in (isOp_mem (os := ops2) rfl ho) (fun _ hx => List.mem_append_right _ hx)) hf _ _ _ _ _ (pa.lower 2 (by omega)) h
 exact ⟨g1,(ea.trans g3).to g2⟩
theorem simple_ok {l : List Tok} {L : Nat} {fac : Nat → R Tree} (hf : HF l 3 L fac) : HF l 1 L (simple l fac) := by
 intro i t j h
 have hch := fun k a i t j => chain_ok (l := l) (L := L) (lev := 1) (f := term l fac) (fun i a x y ho hx hy => .op1 (isOp_mem (os := ops1) rfl ho) (Nat.le_refl _) hx hy) (fun i ho => op_in (isOp_mem (os := ops1) rfl ho) (fun _ hx => List.mem_append_left _ (List.mem_append_right _ hx))) (term_ok hf) k a i t j
 unfold simple at h
 by_cases hw : isW l i ⟨#[45]⟩ = true
 ·rw [if_pos hw] at h
  obtain ⟨a,k,ha,h⟩ := inv h
  obtain ⟨pa,ea⟩ := term_ok hf _ _ _ ha
  obtain ⟨g1,n,g2,g3⟩ := hch _ _ _ _ _ (.neg (Nat.le_refl _) pa) h
  refine ⟨g1,(((Ex.is hw (by decide)).trans ea).trans g3).to ?_⟩
  rw [g2]; simp [nops,nopsL]
 ·rw [if_neg hw] at h
  obtain ⟨a,k,ha,h⟩ := inv h
  obtain ⟨pa,ea⟩ := term_ok hf _ _ _ ha
  obtain ⟨g1,n,g2,g3⟩ := hch _ _ _ _ _ (pa.lower 1 (by omega)) h
  exact ⟨g1,(ea.trans g3).to g2⟩
theorem expr_ok {l : List Tok} {L : Nat} {fac : Nat → R Tree} (hf : HF l 3 L fac) : HF l 0 L (exprOf l fac) := by
 intro i t j h
 unfold exprOf at h
 obtain ⟨a,k,ha,h⟩ := inv h
 obtain ⟨pa,ea⟩ := simple_ok hf _ _ _ ha
 by_cases h1 : isW l k ⟨#[73,83]⟩ = true
 ·rw [if_pos h1] at h
  obtain ⟨y,k2,hy,h⟩ := inv h
  obtain ⟨rfl,rfl⟩ := inv_ok h
  obtain ⟨pt,e0,e⟩ := tn_ok hy
  exact ⟨.is pa pt,((ea.trans (Ex.is h1 (by decide))).trans e).to (by simp [nops,nopsL,e0])⟩
 rw [if_neg h1] at h
 by_cases h2 : isOp l 0 k = true
 ·rw [if_pos h2] at h
  obtain ⟨b,k2,hb,h⟩ := inv h
  obtain ⟨rfl,rfl⟩ := inv_ok h
  obtain ⟨pb,eb⟩ := simple_ok hf _ _ _ hb
  have ho := isOp_mem (os := ops0) rfl h2
  exact ⟨.op0 ho pa pb,((ea.trans (Ex.op (op_in ho (fun _ hx => List.mem_append_left _ (List.mem_append_left _ hx))))).trans eb).to (by simp [nops,nopsL]; omega)⟩
 ·rw [if_neg h2] at h
  obtain ⟨rfl,rfl⟩ := inv_ok h
  exact ⟨pa.lower 0 (by omega),ea⟩
theorem F_ok {l : List Tok} (hg : Good l) : ∀ L,HF l 3 L (F l L)
 | 0 => factor_ok hg (fun _ _ _ h => by cases h) (fun _ _ _ h => by cases h)
 | L + 1 => factor_ok hg (fun i t j h => ⟨L,rfl,expr_ok (F_ok hg L) i t j h⟩) (fun i t j h => ⟨L,rfl,F_ok hg L i t j h⟩)
theorem E_ok {l : List Tok} (hg : Good l) : ∀ L,HX l 0 L (E l L)
 | 0 => fun _ _ _ h => by cases h
 | L + 1 => fun i t j h => ⟨L,rfl,expr_ok (F_ok hg L) i t j h⟩
def Few (l : List Tok) : Prop := ∀ i j n,Ex l i j n → n ≤ 20
theorem Xe_ok {l : List Tok} (hg : Good l) (hf : Few l) {L i j : Nat} {t : Tree} (h : E l L i = .ok t j) : Xe L t := by
 obtain ⟨M,rfl,px,e⟩ := E_ok hg L i t j h
 exact ⟨M,rfl,px,hf _ _ _ e⟩
theorem De_ok {l : List Tok} (hg : Good l) (hf : Few l) {L i j : Nat} {t : Tree} (h : desig l (E l L) i = .ok t j) : De L t := by
 obtain ⟨⟨m,pd,hm⟩,e⟩ := desig_ok (E_ok hg L) h
 exact ⟨m,pd,hm,hf _ _ _ e⟩
theorem Ae_ok {l : List Tok} (hg : Good l) (hf : Few l) {L i j : Nat} {ts : List Tree} (h : args l (E l L) i = .ok ts j) : Ae L ts := by
 obtain ⟨pa,e⟩ := args_ok (E_ok hg L) h
 exact ⟨pa,hf _ _ _ e⟩
end Go.Proofs.YtneohanphabneaaGreatDoor.Pr
