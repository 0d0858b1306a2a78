/-
  The plain law of what is written of a tree: which trees can be read back, and their texts' words.
-/
import Derived.Test.YtneohanphabneaaGreatDoorMTopPlain
namespace Go.Proofs.YtneohanphabneaaGreatDoor.Pr
open Ps Sc
def ops0 : List ByteArray := [⟨#[61]⟩,⟨#[35]⟩,⟨#[60]⟩,⟨#[60,61]⟩,⟨#[62]⟩,⟨#[62,61]⟩]
def isOp3 (n : ByteArray) (os : List ByteArray) : Prop := (os.any fun k => decide (k = n)) = true
inductive PT : Tree → Prop
 | one {n a} : isName n = true → PT (.node 13 n 0 a [])
 | two {n n2 a b} : isName n = true → isName n2 = true → PT (.node 13 n 0 a [.node 24 n2 0 b []])
mutual
inductive Px : Nat → Nat → Tree → Prop
 | num {L v n a} : n ≤ 2147483647 → Px L v (.node 29 ⟨#[]⟩ n a [])
 | atom {L v k a} : k = 30 ∨ k = 31 ∨ k = 32 → Px L v (.node k ⟨#[]⟩ 0 a [])
 | des {L v m t} : Pd L m t → m ≤ 20 → Px L v t
 | call {L v m a d ts} : Pd L m d → m ≤ 20 → Pa L ts → Px L v (.node 33 ⟨#[]⟩ 0 a (d :: ts))
 | not {L v a x} : Px L 3 x → Px (L + 1) v (.node 34 ⟨#[]⟩ 0 a [x])
 | neg {L v a x} : v ≤ 1 → Px L 2 x → Px L v (.node 35 ⟨#[]⟩ 0 a [x])
 | is {L a x y} : Px L 1 x → PT y → Px L 0 (.node 37 ⟨#[]⟩ 0 a [x,y])
 | op0 {L n a x y} : isOp3 n ops0 → Px L 1 x → Px L 1 y → Px L 0 (.node 36 n 0 a [x,y])
 | op1 {L v n a x y} : isOp3 n ops1 → v ≤ 1 → Px L 1 x → Px L 2 y → Px L v (.node 36 n 0 a [x,y])
 | op2 {L v n a x y} : isOp3 n ops2 → v ≤ 2 → Px L 2 x → Px L 3 y → Px L v (.node 36 n 0 a [x,y])
 | par {L v t} : own (kindT t) (nameT t) < v → v ≤ 3 → Px L 0 t → Px (L + 1) v t
inductive Pd : Nat → Nat → Tree → Prop
 | ref {L n a} : isName n = true → Pd L 0 (.node 24 n 0 a [])
 | dot {L m n a d} : isName n = true → Pd L m d → Pd L (m + 1) (.node 25 n 0 a [d])
 | index {L m a d x} : Pd (L + 1) m d → Px L 0 x → Pd (L + 1) (m + 1) (.node 26 ⟨#[]⟩ 0 a [d,x])
 | hat {L m a d} : Pd L m d → Pd L (m + 1) (.node 27 ⟨#[]⟩ 0 a [d])
 | guard {L m a d y} : Pd L m d → PT y → Pd L (m + 1) (.node 28 ⟨#[]⟩ 0 a [d,y])
inductive Pa : Nat → List Tree → Prop
 | nil {L} : Pa L []
 | cons {L t ts} : Px L 0 t → Pa (L + 1) ts → Pa (L + 1) (t :: ts)
end
mutual
def nops : Tree → Nat
 | .node k _ _ _ ts => (if k = 36 then 1 else 0) + nopsL ts
def nopsL : List Tree → Nat
 | [] => 0
 | t :: ts => nops t + nopsL ts
end
def Xe (L : Nat) (t : Tree) : Prop := ∃ M,L = M + 1 ∧ Px M 0 t ∧ nops t ≤ 20
def De (L : Nat) (t : Tree) : Prop := ∃ m,Pd L m t ∧ m ≤ 20 ∧ nops t ≤ 20
def Ae (L : Nat) (ts : List Tree) : Prop := Pa L ts ∧ nopsL ts ≤ 20
mutual
inductive Pst : Nat → Tree → Prop
 | asg {L a d x} : De L d → Xe L x → Pst L (.node 14 ⟨#[]⟩ 0 a [d,x])
 | call {L a d ts} : De L d → Ae L ts → Pst L (.node 15 ⟨#[]⟩ 0 a (d :: ts))
 | ifs {L a num ts} : Pi L num ts → Pst L (.node 16 ⟨#[]⟩ num a ts)
 | while_ {L a x b} : Xe L x → Pb L b → Pst L (.node 17 ⟨#[]⟩ 0 a [x,b])
 | repeat_ {L a x b} : Xe L x → Pb L b → Pst L (.node 18 ⟨#[]⟩ 0 a [b,x])
 | ret0 {L a} : Pst L (.node 19 ⟨#[]⟩ 0 a [])
 | ret1 {L a x} : Xe L x → Pst L (.node 19 ⟨#[]⟩ 0 a [x])
 | new {L a d} : De L d → Pst L (.node 20 ⟨#[]⟩ 0 a [d])
 | out {L a x} : Xe L x → Pst L (.node 21 ⟨#[]⟩ 0 a [x])
 | get {L a d} : De L d → Pst L (.node 22 ⟨#[]⟩ 0 a [d])
 | assert {L a x} : Xe L x → Pst L (.node 23 ⟨#[]⟩ 0 a [x])
inductive Pi : Nat → Nat → List Tree → Prop
 | last {L c b} : Xe L c → Pb L b → Pi L 0 [c,b]
 | els {L c b e} : Xe L c → Pb L b → Pb L e → Pi L 1 [c,b,e]
 | more {L num c b ts} : Xe L c → Pb L b → Pi L num ts → Pi L num (c :: b :: ts)
inductive Pb : Nat → Tree → Prop
 | mk {L a ts} : Psq L ts → Pb (L + 1) (.node 1 ⟨#[]⟩ 0 a ts)
inductive Psq : Nat → List Tree → Prop
 | nil {L} : Psq L []
 | cons {L t ts} : Pst L t → Psq L ts → Psq L (t :: ts)
end
def Pdec (kind : Nat) (what : Tree → Prop) (t : Tree) : Prop := ∃ n num a x,t = .node kind n num a [x] ∧ isName n = true ∧ num ≤ 1 ∧ what x
def Pbase (t : Tree) : Prop := (∃ a,t = .node 0 ⟨#[]⟩ 0 a []) ∨ PT t
inductive Pty : Tree → Prop
 | arr {n a x} : n ≤ 2147483647 → PT x → Pty (.node 9 ⟨#[]⟩ n a [x])
 | ptr {a x} : PT x → Pty (.node 12 ⟨#[]⟩ 0 a [x])
 | rec_ {a b fs} : Pbase b → (∀ f ∈ fs,Pdec 11 PT f) → Pty (.node 10 ⟨#[]⟩ 0 a (b :: fs))
def Plist (what : Tree → Prop) (t : Tree) : Prop := ∃ a ts,t = .node 1 ⟨#[]⟩ 0 a ts ∧ ∀ x ∈ ts,what x
def Pvar0 (t : Tree) : Prop := ∃ n a x,t = .node 6 n 0 a [x] ∧ isName n = true ∧ PT x
def Pproc (t : Tree) : Prop := ∃ n num a ps r vs b,t = .node 7 n num a [ps,r,vs,b] ∧ isName n = true ∧ num ≤ 1 ∧ Plist (Pdec 8 PT) ps ∧ Pbase r ∧ Plist Pvar0 vs ∧ Pb 20 b
def Pimp (t : Tree) : Prop := ∃ n a,t = .node 3 n 0 a [] ∧ isName n = true
def Pmod (t : Tree) : Prop := ∃ n a im cs ty vs ps b,t = .node 2 n 0 a [im,cs,ty,vs,ps,b] ∧ isName n = true ∧ Plist Pimp im ∧ Plist (Pdec 4 (Xe 20)) cs ∧ Plist (Pdec 5 Pty) ty ∧ Plist (Pdec 6 PT) vs ∧ Plist Pproc ps ∧ Pb 20 b
def Fit (ps : List Pc) : Prop := Reads (txt ps) (wds ps)
theorem txt_app (a b : List Pc) : txt (a ++ b) = txt a ++ txt b := by unfold txt; rw [List.flatMap_append]
theorem wds_app (a b : List Pc) : wds (a ++ b) = wds a ++ wds b := by unfold wds; rw [List.flatMap_append]
structure Ed (H L : UInt8 → Bool) (ps : List Pc) : Prop where
 fit : Fit ps
 hd : ∃ c,(txt ps).head? = some c ∧ H c = true
 la : ∃ c,(txt ps).getLast? = some c ∧ L c = true
def hX (c : UInt8) : Bool := isLD c || c == 40 || c == 126 || c == 45
def lX (c : UInt8) : Bool := isLD c || c == 41 || c == 93 || c == 125 || c == 94
abbrev EX := Ed hX lX
theorem Ed.app {H1 L1 H2 L2 : UInt8 → Bool} {a b : List Pc} (h : Ed H1 L1 a) (k : Ed H2 L2 b) (hs : ∀ c d,L1 c = true → H2 d = true → safe c d = true) : Ed H1 L2 (a ++ b) := by
 obtain ⟨h1,⟨c,h2,h3⟩,d,h4,h5⟩ := h
 obtain ⟨k1,⟨e,k2,k3⟩,f,k4,k5⟩ := k
 refine ⟨?_,⟨c,by rw [txt_app,List.head?_append,h2]; rfl,h3⟩,f,by rw [txt_app,List.getLast?_append,k4]; rfl,k5⟩
 unfold Fit
 rw [txt_app,wds_app]
 refine Reads.append h1 k1 fun x y hx hy => ?_
 rw [h4] at hx
 rw [k2] at hy
 cases hx
 cases hy
 exact hs _ _ h5 k3
theorem Ed.mono {H1 L1 H2 L2 : UInt8 → Bool} {a : List Pc} (h : Ed H1 L1 a) (hH : ∀ c,H1 c = true → H2 c = true) (hL : ∀ c,L1 c = true → L2 c = true) : Ed H2 L2 a := by
 obtain ⟨h1,⟨c,h2,h3⟩,d,h4,h5⟩ := h
 exact ⟨h1,⟨c,h2,hH c h3⟩,d,h4,hL d h5⟩
abbrev is_ (x : UInt8) (c : UInt8) : Bool := c == x
theorem Ed.of {ps : List Pc} (c d : UInt8) (h : wordsF (txt ps).length (txt ps) = some (wds ps)) (h1 : (txt ps).head? = some c) (h2 : (txt ps).getLast? = some d) : Ed (is_ c) (is_ d) ps :=
 ⟨Reads.of h,⟨c,h1,beq_self_eq_true c⟩,d,h2,beq_self_eq_true d⟩
theorem safe_of {c d : UInt8} (h1 : (isLD c && isLD d) = false) (h2 : c ≠ 58) (h3 : c ≠ 60) (h4 : c ≠ 62) (h5 : c ≠ 40) : safe c d = true := by
 unfold safe
 rw [h1]
 simp [h2,h3,h4,h5]
theorem lX_ne {c : UInt8} (h : lX c = true) : c ≠ 58 ∧ c ≠ 60 ∧ c ≠ 62 ∧ c ≠ 40 := by
 refine ⟨?_,?_,?_,?_⟩ <;> (rintro rfl; revert h; decide)
theorem hX_ne {c : UInt8} (h : hX c = true) : c ≠ 61 ∧ c ≠ 42 := by
 refine ⟨?_,?_⟩ <;> (rintro rfl; revert h; decide)
theorem sXF {x : UInt8} (hx : isLD x = false) : ∀ c d,lX c = true → is_ x d = true → safe c d = true := by
 intro c d h1 h2
 obtain rfl : d = x := by simpa [is_] using h2
 obtain ⟨a1,a2,a3,a4⟩ := lX_ne h1
 exact safe_of (by rw [hx,Bool.and_false]) a1 a2 a3 a4
theorem sFX {x : UInt8} (hx : isLD x = false) : ∀ c d,is_ x c = true → hX d = true → safe c d = true := by
 intro c d h1 h2
 obtain rfl : c = x := by simpa [is_] using h1
 obtain ⟨a1,a2⟩ := hX_ne h2
 unfold safe
 rw [hx]
 simp [a1,a2]
theorem sFF {x y : UInt8} (h : safe x y = true) : ∀ c d,is_ x c = true → is_ y d = true → safe c d = true := by
 intro c d h1 h2
 obtain rfl : c = x := by simpa [is_] using h1
 obtain rfl : d = y := by simpa [is_] using h2
 exact h
theorem Ed.fx {x : UInt8} {L : UInt8 → Bool} {a : List Pc} (h : Ed (is_ x) L a) (hx : hX x = true) : Ed hX L a := h.mono (fun c hc => by
 obtain rfl : c = x := by simpa [is_] using hc
 exact hx) (fun _ h => h)
theorem Ed.lx {x : UInt8} {H : UInt8 → Bool} {a : List Pc} (h : Ed H (is_ x) a) (hx : lX x = true) : Ed H lX a := h.mono (fun _ h => h) (fun c hc => by
 obtain rfl : c = x := by simpa [is_] using hc
 exact hx)
theorem scan_one {c : UInt8} {t : List UInt8} (hg : gap (c :: t) = none) (hw : word (c :: t) = .inr (t.length + 1)) : Reads (c :: t) [c :: t] := by
 refine ⟨[(c :: t,0)],t.length + 1,?_,rfl⟩
 rw [scan_cons,hg]
 simp only [hw]
 rw [show t.length + 1 - 1 = t.length from rfl,List.drop_length,show t.length + 1 = (c :: t).length from rfl,List.take_length,scan_nil]
 simp
theorem takeWhile_all (p : UInt8 → Bool) : ∀ t : List UInt8,t.all p = true → t.takeWhile p = t
 | [],_ => rfl
 | c :: t,h => by
  rw [List.all_cons,Bool.and_eq_true] at h
  rw [List.takeWhile_cons,if_pos h.1,takeWhile_all p t h.2]
theorem isL_not {c : UInt8} (h : isL c = true) : isBlank c = false ∧ c ≠ 40 := by
 unfold isL at h
 simp only [Bool.and_eq_true,decide_eq_true_eq,Bool.or_eq_true,UInt8.le_iff_toNat_le,UInt8.reduceToNat] at h
 refine ⟨?_,by rintro rfl; simp at h⟩
 unfold isBlank
 simp only [Bool.or_eq_false_iff,beq_eq_false_iff_ne,ne_eq]
 refine ⟨⟨⟨?_,?_⟩,?_⟩,?_⟩ <;> (rintro rfl; simp at h)
theorem isD_not {c : UInt8} (h : isD c = true) : isBlank c = false ∧ c ≠ 40 ∧ isL c = false := by
 unfold isD at h
 simp only [Bool.and_eq_true,decide_eq_true_eq,UInt8.le_iff_toNat_le,UInt8.reduceToNat] at h
 refine ⟨?_,by rintro rfl; simp at h,?_⟩
 ·unfold isBlank
  simp only [Bool.or_eq_false_iff,beq_eq_false_iff_ne,ne_eq]
  refine ⟨⟨⟨?_,?_⟩,?_⟩,?_⟩ <;> (rintro rfl; simp at h)
 ·unfold isL
  rw [Bool.eq_false_iff]
  simp only [ne_eq,Bool.and_eq_true,decide_eq_true_eq,Bool.or_eq_true,UInt8.le_iff_toNat_le,UInt8.reduceToNat]
  omega
theorem EX_nm {n : ByteArray} (h : isName n = true) : EX [nm n] := by
 unfold isName at h
 simp only [Bool.and_eq_true,decide_eq_true_eq,Bool.not_eq_true',decide_eq_false_iff_not] at h
 obtain ⟨⟨⟨h0,h12⟩,_⟩,hl⟩ := h
 have hz : n.data.toList.length = n.size := Sc.len_size n
 unfold lettered at hl
 have e : txt [nm n] = n.data.toList := by simp [txt,Pc.b]
 have e2 : wds [nm n] = [n.data.toList] := rfl
 unfold EX
 generalize n.data.toList = b at *
 cases b with
 | nil => cases hl
 | cons c t =>
  simp only [Bool.and_eq_true] at hl
  obtain ⟨hc,ht⟩ := hl
  obtain ⟨hb,h40⟩ := isL_not hc
  have hlen : t.length + 1 = n.size := hz
  refine ⟨?_,⟨c,by rw [e]; rfl,by unfold hX; rw [isL_LD hc]; rfl⟩,?_⟩
  ·unfold Fit
   rw [e,e2]
   refine scan_one ?_ ?_
   ·rw [gap,if_neg (by rw [hb]; decide),if_neg (by rintro ⟨h,_⟩; exact h40 h)]
   ·rw [word,if_pos hc]
    show (if 12 < 1 + (t.takeWhile isLD).length then Sum.inl 3 else Sum.inr (1 + (t.takeWhile isLD).length)) = _
    rw [takeWhile_all _ _ ht,if_neg (by omega),Nat.add_comm]
  ·obtain ⟨x,hx⟩ := last_some c t
   exact ⟨x,by rw [e]; exact hx,by unfold lX; rw [last_all (isL_LD hc) ht hx]; rfl⟩
end Go.Proofs.YtneohanphabneaaGreatDoor.Pr
namespace Go.Proofs.YtneohanphabneaaGreatDoor.Pr
open Ps Sc
theorem dig (u : Nat) (h : u < 10) : isD (UInt8.ofNat (48 + u)) = true ∧ (UInt8.ofNat (48 + u)).toNat = 48 + u := by
 have e : (UInt8.ofNat (48 + u)).toNat = 48 + u := by simp; omega
 refine ⟨?_,e⟩
 unfold isD
 simp only [Bool.and_eq_true,decide_eq_true_eq,UInt8.le_iff_toNat_le,UInt8.reduceToNat,e]
 omega
theorem fold_snoc : ∀ (l : List UInt8) (n : Nat) (c : UInt8),fold n (l ++ [c]) = fold n l * 10 + (c.toNat - 48)
 | [],n,c => rfl
 | x :: l,n,c => by
  show fold (n * 10 + (x.toNat - 48)) (l ++ [c]) = _
  rw [fold_snoc l]; rfl
theorem dec_all (n : Nat) : (dec n).all isD = true ∧ fold 0 (dec n) = n ∧ dec n ≠ [] := by
 induction n using Nat.strongRecOn with
 | _ n ih =>
  by_cases h : n < 10
  ·have d := dig n h
   unfold dec
   rw [Lib.decDigits,dif_pos h]
   refine ⟨by rw [List.all_cons,d.1]; rfl,?_,by simp⟩
   show 0 * 10 + ((UInt8.ofNat (48 + n)).toNat - 48) = n
   rw [d.2]; omega
  ·obtain ⟨h1,h2,h3⟩ := ih (n / 10) (by omega)
   have d := dig (n % 10) (by omega)
   unfold dec at *
   rw [Lib.decDigits,dif_neg h]
   refine ⟨by rw [List.all_append,h1,List.all_cons,d.1]; rfl,?_,by simp⟩
   rw [fold_snoc,h2,d.2]; omega
theorem fold_lo : ∀ (l : List UInt8) (v : Nat),v * 10 ^ l.length ≤ fold v l
 | [],v => Nat.le_of_eq (Nat.mul_one v)
 | c :: l,v => by
  have := fold_lo l (v * 10 + (c.toNat - 48))
  show _ ≤ fold (v * 10 + (c.toNat - 48)) l
  refine Nat.le_trans ?_ this
  rw [List.length_cons,Nat.pow_succ,Nat.mul_comm (10 ^ l.length) 10,← Nat.mul_assoc]
  exact Nat.mul_le_mul_right _ (by omega)
theorem fold_hi : ∀ (l : List UInt8) (v : Nat),l.all isD = true → fold v l < (v + 1) * 10 ^ l.length
 | [],v,_ => Nat.lt_of_lt_of_eq (Nat.lt_succ_self v) (Nat.mul_one _).symm
 | c :: l,v,h => by
  rw [List.all_cons,Bool.and_eq_true] at h
  obtain ⟨h1,h2⟩ := isD_nat h.1
  have := fold_hi l (v * 10 + (c.toNat - 48)) h.2
  show fold (v * 10 + (c.toNat - 48)) l < _
  refine Nat.lt_of_lt_of_le this ?_
  rw [List.length_cons,Nat.pow_succ,Nat.mul_comm (10 ^ l.length) 10,← Nat.mul_assoc]
  exact Nat.mul_le_mul_right _ (by omega)
theorem less_of : ∀ (a b : List UInt8) (x : Nat),a.length = b.length → a.all isD = true → b.all isD = true → fold x a ≤ fold x b → Op.bytesLess a b = true ∨ a = b
 | [],[],_,_,_,_,_ => .inr rfl
 | [],_ :: _,_,h,_,_,_ => by simp at h
 | _ :: _,[],_,h,_,_,_ => by simp at h
 | c :: s,d :: t,x,hl,ha,hb,h => by
  have hl2 : s.length = t.length := by simpa using hl
  rw [List.all_cons,Bool.and_eq_true] at ha hb
  obtain ⟨c1,c2⟩ := isD_nat ha.1
  obtain ⟨d1,d2⟩ := isD_nat hb.1
  have h : fold (x * 10 + (c.toNat - 48)) s ≤ fold (x * 10 + (d.toNat - 48)) t := h
  rcases Nat.lt_trichotomy c.toNat d.toNat with hlt | heq | hgt
  ·refine .inl ?_
   rw [Op.bytesLess]
   have : c < d := UInt8.lt_iff_toNat_lt.2 hlt
   simp [this]
  ·have e : c = d := UInt8.toNat_inj.1 heq
   subst e
   rcases less_of s t _ hl2 ha.2 hb.2 h with h | h
   ·refine .inl ?_
    rw [Op.bytesLess,h]; simp
   ·exact .inr (by rw [h])
  ·exfalso
   have l1 := fold_lo s (x * 10 + (c.toNat - 48))
   have l2 := fold_hi t (x * 10 + (d.toNat - 48)) hb.2
   have l3 : (x * 10 + (d.toNat - 48) + 1) * 10 ^ t.length ≤ (x * 10 + (c.toNat - 48)) * 10 ^ s.length := by
    rw [hl2]; exact Nat.mul_le_mul_right _ (by omega)
   omega
theorem dec_bare (n : Nat) (h : n ≠ 0) : bare (dec n) = dec n := by
 have hd : ∀ m,m ≠ 0 → ∃ c t,dec m = c :: t ∧ c ≠ 48 := by
  intro m
  induction m using Nat.strongRecOn with
  | _ m ih =>
   intro hm
   by_cases h : m < 10
   ·unfold dec
    rw [Lib.decDigits,dif_pos h]
    refine ⟨_,[],rfl,?_⟩
    intro e
    have := (dig m h).2
    rw [e] at this
    have e2 : (48 : UInt8).toNat = 48 := rfl
    omega
   ·obtain ⟨c,t,e,hc⟩ := ih (m / 10) (by omega) (by omega)
    unfold dec at *
    rw [Lib.decDigits,dif_neg h,e]
    exact ⟨c,_,rfl,hc⟩
 obtain ⟨c,t,e,hc⟩ := hd n h
 rw [e,bare,if_neg hc]
theorem dec_big (n : Nat) (h : n ≤ 2147483647) : isBig (dec n) = false := by
 by_cases h0 : n = 0
 ·subst h0
  have e : dec 0 = [48] := by unfold dec; rw [Lib.decDigits,dif_pos (by decide)]; rfl
  rw [e]; decide
 ·obtain ⟨d1,d2,d3⟩ := dec_all n
  have hlen : (dec n).length ≤ 10 := by
   unfold dec
   rw [Lib.decDigits_length]
   rcases Nat.lt_or_ge 10 (Lib.nDigits n) with hc | hc
   ·exfalso
    have hb := fold_lo (dec n).tail 1
    have : 10 ^ (Lib.nDigits n - 1) ≤ n := by
     have hne := dec_bare n h0
     obtain ⟨c,t,e⟩ : ∃ c t,dec n = c :: t := by
      cases hd : dec n with
      | nil => exact absurd hd d3
      | cons c t => exact ⟨c,t,rfl⟩
     have hc48 : c ≠ 48 := by
      rintro rfl
      rw [e,bare,if_pos rfl] at hne
      have hle : ∀ l : List UInt8,(bare l).length ≤ l.length := by
       intro l
       induction l with
       | nil => simp [bare]
       | cons x l ih =>
        rw [bare]
        split
        ·simp only [List.length_cons]; omega
        ·exact Nat.le_refl _
      have := hle t
      rw [hne] at this
      simp only [List.length_cons] at this
      omega
     have hl : Lib.nDigits n = t.length + 1 := by
      rw [← Lib.decDigits_length]; show (dec n).length = _; rw [e]; rfl
     rw [e] at d1 d2
     rw [List.all_cons,Bool.and_eq_true] at d1
     obtain ⟨c1,c2⟩ := isD_nat d1.1
     have c3 : c.toNat ≠ 48 := fun h => hc48 (UInt8.toNat_inj.1 h)
     have := fold_lo t (0 * 10 + (c.toNat - 48))
     have d2 : fold (0 * 10 + (c.toNat - 48)) t = n := d2
     rw [d2] at this
     rw [hl,show t.length + 1 - 1 = t.length from rfl]
     refine Nat.le_trans ?_ this
     exact Nat.le_mul_of_pos_left _ (by omega)
    have h10 : 10 ^ 10 ≤ 10 ^ (Lib.nDigits n - 1) := Nat.pow_le_pow_right (by omega) (by omega)
    have : (10 : Nat) ^ 10 = 10000000000 := rfl
    omega
   ·exact hc
  unfold isBig
  rw [dec_bare n h0,Bool.or_eq_false_iff]
  refine ⟨decide_eq_false (by omega),?_⟩
  rw [Bool.and_eq_false_iff]
  by_cases hl : (dec n).length = 10
  ·right
   unfold over
   have hm : maxNum.all isD = true ∧ fold 0 maxNum = 2147483647 ∧ maxNum.length = 10 := by decide
   rcases less_of (dec n) maxNum 0 (by rw [hl,hm.2.2]) d1 hm.1 (by rw [d2,hm.2.1]; exact h) with h1 | h1
   ·rw [h1]; rfl
   ·rw [h1]
    have : (maxNum == maxNum) = true := by decide
    rw [this]; simp
  ·left
   simpa using hl
theorem EX_dec {n : Nat} (h : n ≤ 2147483647) : EX [.w (dec n)] := by
 obtain ⟨d1,d2,d3⟩ := dec_all n
 have d4 := dec_big n h
 have e : txt [.w (dec n)] = dec n := by simp [txt,Pc.b]
 have e2 : wds [.w (dec n)] = [dec n] := rfl
 unfold EX
 generalize dec n = b at *
 cases b with
 | nil => exact absurd rfl d3
 | cons c t =>
  rw [List.all_cons,Bool.and_eq_true] at d1
  obtain ⟨hc,ht⟩ := d1
  obtain ⟨hb,h40,hl⟩ := isD_not hc
  refine ⟨?_,⟨c,by rw [e]; rfl,by unfold hX; rw [isD_LD hc]; rfl⟩,?_⟩
  ·unfold Fit
   rw [e,e2]
   refine scan_one ?_ ?_
   ·rw [gap,if_neg (by rw [hb]; decide),if_neg (by rintro ⟨h,_⟩; exact h40 h)]
   ·rw [word,if_neg (by rw [hl]; decide),if_pos hc]
    show (if isBig ((c :: t).take (1 + (t.takeWhile isD).length)) = true then Sum.inl 3 else Sum.inr (1 + (t.takeWhile isD).length)) = _
    rw [takeWhile_all _ _ ht,show 1 + t.length = (c :: t).length from Nat.add_comm _ _,List.take_length,d4]
    rfl
  ·obtain ⟨x,hx⟩ := last_some c t
   exact ⟨x,by rw [e]; exact hx,by unfold lX; rw [isD_LD (last_all hc ht hx)]; rfl⟩
theorem EX_type {t : Tree} (h : PT t) : EX (typeName t) := by
 cases h with
 | one hn => exact EX_nm hn
 | two hn hn2 =>
  have hd := Ed.of (ps := [s_dot]) 46 46 (by decide) rfl rfl
  have := ((EX_nm hn2).app hd (sXF (by decide))).app (EX_nm hn) (sFX (by decide))
  exact this
theorem wrap_no {o v : Nat} {s : List Pc} (h : v ≤ o) : wrap o v s = s := if_neg (by omega)
theorem expr_par {t : Tree} {v : Nat} (h : own (kindT t) (nameT t) < v) : expr t v = [s_lp] ++ expr t 0 ++ [s_rp] := by
 cases t with
 | node k n num a ts =>
  rw [expr_node,expr_node,wrap_no (Nat.zero_le _)]
  exact if_pos h
theorem joinP_X {c : UInt8} {sep : List Pc} (hs : Ed (is_ c) (is_ 32) sep) (hc : isLD c = false) : ∀ l : List (List Pc),l ≠ [] → (∀ a ∈ l,EX a) → EX (joinP sep l)
 | [],h,_ => absurd rfl h
 | [a],_,h => h a List.mem_cons_self
 | a :: b :: r,_,h => by
  have ih := joinP_X hs hc (b :: r) (by simp) (fun x hx => h x (List.mem_cons_of_mem _ hx))
  exact ((h a List.mem_cons_self).app hs (sXF hc)).app ih (sFX (by decide))
theorem isOp3_mem {n : ByteArray} {os : List ByteArray} (h : isOp3 n os) : n ∈ os := by
 unfold isOp3 at h
 rw [List.any_eq_true] at h
 obtain ⟨k,hk,e⟩ := h
 rw [decide_eq_true_eq] at e
 rw [← e]; exact hk
theorem level0 {n : ByteArray} (h : isOp3 n ops0) : level n = 0 := by
 have := isOp3_mem h
 simp only [ops0,List.mem_cons,List.not_mem_nil,or_false] at this
 rcases this with rfl | rfl | rfl | rfl | rfl | rfl <;> decide
theorem level1 {n : ByteArray} (h : isOp3 n ops1) : level n = 1 := by
 have := isOp3_mem h
 simp only [ops1,List.mem_cons,List.not_mem_nil,or_false] at this
 rcases this with rfl | rfl | rfl <;> decide
theorem level2 {n : ByteArray} (h : isOp3 n ops2) : level n = 2 := by
 have := isOp3_mem h
 simp only [ops2,List.mem_cons,List.not_mem_nil,or_false] at this
 rcases this with rfl | rfl | rfl | rfl <;> decide
theorem Ed_op {n : ByteArray} (h : isOp3 n ops0 ∨ isOp3 n ops1 ∨ isOp3 n ops2) : Ed (is_ 32) (is_ 32) [.sp,nm n,.sp] := by
 have h : n ∈ ops0 ++ ops1 ++ ops2 := by
  rcases h with h | h | h <;> simp [isOp3_mem h]
 simp only [ops0,ops1,ops2,List.cons_append,List.nil_append,List.mem_cons,List.not_mem_nil,or_false] at h
 rcases h with rfl | rfl | rfl | rfl | rfl | rfl | rfl | rfl | rfl | rfl | rfl | rfl | rfl <;> exact Ed.of 32 32 (by decide) rfl rfl
theorem EX_bin {n : ByteArray} {a b : List Pc} (h : isOp3 n ops0 ∨ isOp3 n ops1 ∨ isOp3 n ops2) (ha : EX a) (hb : EX b) : EX (a ++ [.sp,nm n,.sp] ++ b) :=
 (ha.app (Ed_op h) (sXF (by decide))).app hb (sFX (by decide))
theorem EX_lp {a : List Pc} (ha : EX a) : EX ([s_lp] ++ a ++ [s_rp]) :=
 (((Ed.of (ps := [s_lp]) 40 40 (by decide) rfl rfl).app ha (sFX (by decide))).app (Ed.of (ps := [s_rp]) 41 41 (by decide) rfl rfl) (sXF (by decide))).fx (by decide) |>.lx (by decide)
theorem EX_suf {a b : List Pc} {x y : UInt8} (ha : EX a) (hb : Ed (is_ x) (is_ y) b) (hx : isLD x = false) (hy : lX y = true) : EX (a ++ b) := (ha.app hb (sXF hx)).lx hy
theorem EX_sur {a b f g : List Pc} {x y z u : UInt8} (ha : EX a) (hf : Ed (is_ x) (is_ y) f) (hb : EX b) (hg : Ed (is_ z) (is_ u) g) (hx : isLD x = false) (hy : isLD y = false) (hz : isLD z = false) (hu : lX u = true) : EX (a ++ f ++ b ++ g) :=
 (((ha.app hf (sXF hx)).app hb (sFX hy)).app hg (sXF hz)).lx hu
theorem EX_args {l : List (List Pc)} (h : ∀ a ∈ l,EX a) : Ed (is_ 40) (is_ 41) ([s_lp] ++ joinP [s_comma,.sp] l ++ [s_rp]) := by
 have h1 := Ed.of (ps := [s_lp]) 40 40 (by decide) rfl rfl
 have h2 := Ed.of (ps := [s_rp]) 41 41 (by decide) rfl rfl
 cases l with
 | nil => exact Ed.of 40 41 (by decide) rfl rfl
 | cons a l =>
  have := joinP_X (sep := [s_comma,.sp]) (Ed.of 44 32 (by decide) rfl rfl) (by decide) (a :: l) (by simp) h
  exact (h1.app this (sFX (by decide))).app h2 (sXF (by decide))
mutual
theorem Px.ed : ∀ {L v : Nat} {t : Tree},Px L v t → v ≤ 3 → EX (expr t v)
 | _,_,_,.num h,hv => by rw [expr_node]; exact (wrap_no hv).symm ▸ EX_dec h
 | _,_,_,.atom h,hv => by
  rw [expr_node]
  rcases h with rfl | rfl | rfl
  ·exact (wrap_no hv).symm ▸ ((Ed.of (ps := [kTRUE]) 84 69 (by decide) rfl rfl).fx (by decide)).lx (by decide)
  ·exact (wrap_no hv).symm ▸ ((Ed.of (ps := [kFALSE]) 70 69 (by decide) rfl rfl).fx (by decide)).lx (by decide)
  ·exact (wrap_no hv).symm ▸ ((Ed.of (ps := [kNIL]) 78 76 (by decide) rfl rfl).fx (by decide)).lx (by decide)
 | _,_,_,.des h _,hv => h.ed hv
 | _,_,_,.call (d := d) (ts := ts) h _ ha,hv => by
  have h1 := h.ed (Nat.le_refl 3)
  have h2 := ha.ed
  rw [expr_node]
  refine (wrap_no hv).symm ▸ ?_
  show EX (expr d 3 ++ argsP (ts.map expr))
  refine EX_suf h1 (EX_args (l := (ts.map expr).map fun f => f 0) ?_) (by decide) (by decide)
  intro a ha
  simp only [List.mem_map] at ha
  obtain ⟨f,⟨t,ht,rfl⟩,rfl⟩ := ha
  exact h2 t ht
 | _,_,_,.not (x := x) h,hv => by
  have h1 := h.ed (Nat.le_refl 3)
  rw [expr_node]
  refine (wrap_no hv).symm ▸ ?_
  exact ((Ed.of (ps := [s_tilde]) 126 126 (by decide) rfl rfl).app h1 (sFX (by decide))).fx (by decide)
 | _,_,_,.neg h0 h,hv => by
  have h1 := h.ed (by decide)
  rw [expr_node]
  refine (wrap_no h0).symm ▸ ?_
  exact ((Ed.of (ps := [s_minus]) 45 45 (by decide) rfl rfl).app h1 (sFX (by decide))).fx (by decide)
 | _,_,_,.is h ht,hv => by
  have h1 := h.ed (by decide)
  rw [expr_node]
  refine (wrap_no (Nat.zero_le _)).symm ▸ ?_
  exact (h1.app (Ed.of (ps := [.sp,kIS,.sp]) 32 32 (by decide) rfl rfl) (sXF (by decide))).app (EX_type ht) (sFX (by decide))
 | _,_,_,.op0 (n := n) (x := x) (y := y) h h1 h2,hv => by
  have g1 := h1.ed (by decide)
  have g2 := h2.ed (by decide)
  rw [expr_node]
  refine (wrap_no (Nat.zero_le _)).symm ▸ ?_
  show EX (expr x (if level n = 0 then 1 else level n) ++ [.sp,nm n,.sp] ++ expr y (level n + 1))
  rw [level0 h]
  exact EX_bin (.inl h) g1 g2
 | _,_,_,.op1 (n := n) (x := x) (y := y) h h0 h1 h2,hv => by
  have g1 := h1.ed (by decide)
  have g2 := h2.ed (by decide)
  rw [expr_node]
  refine (wrap_no (show _ ≤ own 36 n from (level1 h).symm ▸ h0)).symm ▸ ?_
  show EX (expr x (if level n = 0 then 1 else level n) ++ [.sp,nm n,.sp] ++ expr y (level n + 1))
  rw [level1 h]
  exact EX_bin (.inr (.inl h)) g1 g2
 | _,_,_,.op2 (n := n) (x := x) (y := y) h h0 h1 h2,hv => by
  have g1 := h1.ed (by decide)
  have g2 := h2.ed (by decide)
  rw [expr_node]
  refine (wrap_no (show _ ≤ own 36 n from (level2 h).symm ▸ h0)).symm ▸ ?_
  show EX (expr x (if level n = 0 then 1 else level n) ++ [.sp,nm n,.sp] ++ expr y (level n + 1))
  rw [level2 h]
  exact EX_bin (.inr (.inr h)) g1 g2
 | _,_,_,.par h0 _ h,hv => by
  rw [expr_par h0]
  exact EX_lp (h.ed (by decide))
theorem Pd.ed : ∀ {L m v : Nat} {t : Tree},Pd L m t → v ≤ 3 → EX (expr t v)
 | _,_,_,_,.ref h,hv => by rw [expr_node]; exact (wrap_no hv).symm ▸ EX_nm h
 | _,_,_,_,.dot (n := n) (d := d) hn h,hv => by
  have h1 := h.ed (Nat.le_refl 3)
  rw [expr_node]
  refine (wrap_no hv).symm ▸ ?_
  show EX (expr d 3 ++ ([s_dot] ++ [nm n]))
  rw [← List.append_assoc]
  exact (h1.app (Ed.of (ps := [s_dot]) 46 46 (by decide) rfl rfl) (sXF (by decide))).app (EX_nm hn) (sFX (by decide))
 | _,_,_,_,.index h hx,hv => by
  have h1 := h.ed (Nat.le_refl 3)
  have h2 := hx.ed (by decide)
  rw [expr_node]
  refine (wrap_no hv).symm ▸ ?_
  exact EX_sur h1 (Ed.of (ps := [s_lb]) 91 91 (by decide) rfl rfl) h2 (Ed.of (ps := [s_rb]) 93 93 (by decide) rfl rfl) (by decide) (by decide) (by decide) (by decide)
 | _,_,_,_,.hat h,hv => by
  have h1 := h.ed (Nat.le_refl 3)
  rw [expr_node]
  refine (wrap_no hv).symm ▸ ?_
  exact EX_suf h1 (Ed.of (ps := [s_hat]) 94 94 (by decide) rfl rfl) (by decide) (by decide)
 | _,_,_,_,.guard h ht,hv => by
  have h1 := h.ed (Nat.le_refl 3)
  rw [expr_node]
  refine (wrap_no hv).symm ▸ ?_
  exact EX_sur h1 (Ed.of (ps := [s_lc]) 123 123 (by decide) rfl rfl) (EX_type ht) (Ed.of (ps := [s_rc]) 125 125 (by decide) rfl rfl) (by decide) (by decide) (by decide) (by decide)
theorem Pa.ed : ∀ {L : Nat} {ts : List Tree},Pa L ts → ∀ t ∈ ts,EX (expr t 0)
 | _,_,.nil,t,ht => by cases ht
 | _,_,.cons h hs,t,ht => by
  have h1 := h.ed (Nat.zero_le _)
  have h2 := hs.ed
  rcases List.mem_cons.1 ht with rfl | ht
  ·exact h1
  ·exact h2 t ht
end
end Go.Proofs.YtneohanphabneaaGreatDoor.Pr
