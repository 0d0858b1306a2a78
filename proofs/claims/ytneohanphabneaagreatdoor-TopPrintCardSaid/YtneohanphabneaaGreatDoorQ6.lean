/-
  The plain law of what is written of a tree: an expression is read back.
-/
import Derived.Test.YtneohanphabneaaGreatDoorMQ3
namespace Go.Proofs.YtneohanphabneaaGreatDoor.Pr
open Ps Sc
mutual
def strip : Tree → Tree
 | .node k n num _ ts => .node k n num 0 (stripL ts)
def stripL : List Tree → List Tree
 | [] => []
 | t :: ts => strip t :: stripL ts
end
theorem stripL_map : ∀ ts : List Tree,stripL ts = ts.map strip
 | [] => by unfold stripL; rfl
 | t :: ts => by unfold stripL; rw [stripL_map ts]; rfl
theorem strip_node (k : Nat) (n : ByteArray) (num a : Nat) (ts : List Tree) : strip (.node k n num a ts) = .node k n num 0 (ts.map strip) := by unfold strip; rw [stripL_map]
theorem nops_node (k : Nat) (n : ByteArray) (num a : Nat) (ts : List Tree) : nops (.node k n num a ts) = (if k = 36 then 1 else 0) + nopsL ts := by unfold nops; rfl
theorem nopsL_cons (t : Tree) (ts : List Tree) : nopsL (t :: ts) = nops t + nopsL ts := by rw [nopsL]
def At (l : List Tok) : Nat → List (List UInt8) → Prop
 | _,[] => True
 | i,w :: r => i < l.length ∧ W l i = ⟨w.toArray⟩ ∧ At l (i + 1) r
theorem At.app {l : List Tok} : ∀ {a b : List (List UInt8)} {i : Nat},At l i (a ++ b) → At l i a ∧ At l (i + a.length) b
 | [],b,i,h => ⟨trivial,h⟩
 | x :: a,b,i,h => by
  obtain ⟨h0,h1,h2⟩ := h
  obtain ⟨h3,h4⟩ := At.app (a := a) h2
  refine ⟨⟨h0,h1,h3⟩,?_⟩
  rw [List.length_cons,show i + (a.length + 1) = i + 1 + a.length from by omega]; exact h4
theorem At.app2 {l : List Tok} {a b : List Pc} {i : Nat} (h : At l i (wds (a ++ b))) : At l i (wds a) ∧ At l (i + (wds a).length) (wds b) := by rw [wds_app] at h; exact h.app
theorem At.len {l : List Tok} : ∀ {a : List (List UInt8)} {i : Nat},At l i a → a ≠ [] → i + a.length ≤ l.length
 | [],i,h,hn => absurd rfl hn
 | [x],i,h,_ => by obtain ⟨h0,_⟩ := h; exact h0
 | x :: y :: a,i,h,_ => by
  have := At.len (a := y :: a) h.2.2 (by simp)
  simp only [List.length_cons] at this ⊢; omega
theorem wlen_app (a b : List Pc) : (wds (a ++ b)).length = (wds a).length + (wds b).length := by rw [wds_app,List.length_append]
theorem ba_eta (n : ByteArray) : (⟨n.data.toList.toArray⟩ : ByteArray) = n := by cases n; rfl
theorem At.nm {l : List Tok} {i : Nat} {n : ByteArray} {r : List (List UInt8)} (h : At l i (n.data.toList :: r)) : W l i = n := by rw [h.2.1,ba_eta]
def bad3 : List ByteArray := [⟨#[46]⟩,⟨#[91]⟩,⟨#[94]⟩,⟨#[123]⟩,⟨#[40]⟩]
def badV : Nat → List ByteArray
 | 0 => bad3 ++ ops2 ++ ops1 ++ ops0 ++ [⟨#[73,83]⟩]
 | 1 => bad3 ++ ops2
 | _ => bad3
abbrev nx (v : Nat) (x : ByteArray) : Prop := (badV v).all (fun s => !decide (x = s)) = true
theorem nx.no {v : Nat} {x s : ByteArray} (h : nx v x) (hs : s ∈ badV v) : x ≠ s := by
 unfold nx at h
 have := List.all_eq_true.1 h s hs
 simpa using this
theorem isW_no {l : List Tok} {i : Nat} {s : ByteArray} (h : W l i ≠ s) : isW l i s = false := decide_eq_false h
theorem isW_at {l : List Tok} {i : Nat} {s : ByteArray} (h : W l i = s) : isW l i s = true := decide_eq_true h
theorem name_no {l : List Tok} {i : Nat} {n : ByteArray} (h : W l i = n) (hn : isName n = true) (s : ByteArray) (hs : isName s = false) : isW l i s = false :=
 isW_no (by rw [h]; rintro rfl; rw [hn] at hs; cases hs)
theorem isOp_no {l : List Tok} {lev i : Nat} (os : List ByteArray) (hos : (levels[lev]?).getD [] = os) (h : ∀ s ∈ os,W l i ≠ s) : isOp l lev i = false := by
 unfold isOp
 rw [hos,Bool.eq_false_iff]
 intro e
 obtain ⟨s,h1,h2⟩ := List.any_eq_true.1 e
 exact h s h1 (of_decide_eq_true h2)
theorem isOp_yes {l : List Tok} {lev i : Nat} {n : ByteArray} (os : List ByteArray) (hos : (levels[lev]?).getD [] = os) (hn : n ∈ os) (h : W l i = n) : isOp l lev i = true := by
 unfold isOp
 rw [hos]
 exact List.any_eq_true.2 ⟨n,hn,isW_at h⟩
theorem chain_end {l : List Tok} {lev : Nat} {f : Nat → R Tree} {k : Nat} {a : Tree} {i : Nat} (h : isOp l lev i = false) : chain l lev f k a i = .ok a i := by
 unfold chain; rw [h]; rfl
theorem chain_step {l : List Tok} {lev : Nat} {f : Nat → R Tree} {k : Nat} {a : Tree} {i : Nat} (h : isOp l lev i = true) : chain l lev f (k + 1) a i = (f (i + 1)).bind fun b i1 => chain l lev f k (.node 36 (W l i) 0 a.at_ [a,b]) i1 := by
 rw [chain,h]; rfl
def Body (l : List Tok) (L v i j : Nat) (t t' : Tree) : Prop := match v with
 | 0 => exprOf l (F l L) i = .ok t' j
 | 1 => ∃ k,k ≤ nops t ∧ simple l (F l L) i = chain l 1 (term l (F l L)) (20 - k) t' j
 | 2 => isW l i ⟨#[45]⟩ = false ∧ ∃ k,k ≤ nops t ∧ term l (F l L) i = chain l 2 (F l L) (20 - k) t' j
 | _ => isW l i ⟨#[45]⟩ = false ∧ F l L i = .ok t' j
theorem nx.op2 {v : Nat} {x : ByteArray} (h : nx v x) (hv : v ≤ 1) : ∀ s ∈ ops2,x ≠ s := fun s hs => h.no (by
 obtain rfl | rfl : v = 0 ∨ v = 1 := by omega
 ·simp [badV,hs]
 ·simp [badV,hs])
theorem nx.op1 {x : ByteArray} (h : nx 0 x) : ∀ s ∈ ops1,x ≠ s := fun s hs => h.no (by simp [badV,hs])
theorem nx.op0 {x : ByteArray} (h : nx 0 x) : ∀ s ∈ ops0,x ≠ s := fun s hs => h.no (by simp [badV,hs])
theorem nx.is {x : ByteArray} (h : nx 0 x) : x ≠ ⟨#[73,83]⟩ := h.no (by simp [badV])
theorem nx.b3 {v : Nat} {x : ByteArray} (h : nx v x) (hv : v ≤ 3) : ∀ s ∈ bad3,x ≠ s := fun s hs => h.no (by
 obtain rfl | rfl | rfl | rfl : v = 0 ∨ v = 1 ∨ v = 2 ∨ v = 3 := by omega
 all_goals simp [badV,hs])
section
variable {l : List Tok} {L v i j : Nat} {t t' : Tree}
theorem lift1 (k : Nat) (hk : k ≤ nops t) (h : simple l (F l L) i = chain l 1 (term l (F l L)) (20 - k) t' j) (hn : nx v (W l j)) (hv : v ≤ 1) : Body l L v i j t t' := by
 obtain rfl | rfl : v = 0 ∨ v = 1 := by omega
 ·show exprOf l (F l L) i = _
  unfold exprOf
  rw [h,chain_end (isOp_no ops1 rfl hn.op1),R.bind_ok]
  simp only [isW_no hn.is,isOp_no (lev := 0) ops0 rfl hn.op0]
  rfl
 ·exact ⟨k,hk,h⟩
theorem lift2 (k : Nat) (hk : k ≤ nops t) (h0 : isW l i ⟨#[45]⟩ = false) (h : term l (F l L) i = chain l 2 (F l L) (20 - k) t' j) (hn : nx v (W l j)) (hv : v ≤ 2) : Body l L v i j t t' := by
 by_cases h2 : v = 2
 ·subst h2; exact ⟨h0,k,hk,h⟩
 ·have hv1 : v ≤ 1 := by omega
  refine lift1 0 (Nat.zero_le _) ?_ hn hv1
  unfold simple
  rw [h0,h,chain_end (isOp_no ops2 rfl (hn.op2 hv1)),R.bind_ok]
  rfl
theorem lift3 (h0 : isW l i ⟨#[45]⟩ = false) (h : F l L i = .ok t' j) (hn : nx v (W l j)) (hv : v ≤ 3) : Body l L v i j t t' := by
 by_cases h3 : v = 3
 ·subst h3; exact ⟨h0,h⟩
 ·refine lift2 0 (Nat.zero_le _) h0 ?_ hn (by omega)
  unfold term
  rw [h,R.bind_ok]
end
theorem F_eq (l : List Tok) (L : Nat) : ∃ down,F l L = factorOf l (E l L) down ∧ ∀ M,L = M + 1 → down = F l M := by
 cases L with
 | zero => exact ⟨tooDeep l,rfl,fun M h => by cases h⟩
 | succ L => exact ⟨F l L,rfl,fun M h => by cases h; rfl⟩
theorem step_end {l : List Tok} {ex : Nat → R Tree} {a : Nat} {d : Tree} {k i : Nat} (h : ∀ s ∈ bad3,W l i ≠ s) : desigLoop l ex a k d i = .ok d i := by
 unfold desigLoop Ps.step
 rw [isW_no (h _ (by simp [bad3])),isW_no (h _ (by simp [bad3])),isW_no (h _ (by simp [bad3])),isW_no (h _ (by simp [bad3]))]
 rfl
theorem desig_step {l : List Tok} {ex : Nat → R Tree} {a : Nat} {d d1 : Tree} {m i i1 : Nat} (hm : m + 1 ≤ 20) (h : Ps.step l ex a d i = .ok (some d1) i1) : desigLoop l ex a (20 - m) d i = desigLoop l ex a (20 - (m + 1)) d1 i1 := by
 rw [show 20 - m = (20 - (m + 1)) + 1 from by omega,desigLoop,h]
 rfl
theorem step_par {l : List Tok} {ex : Nat → R Tree} {a : Nat} {d : Tree} {k i : Nat} (h : W l i = ⟨#[40]⟩) : desigLoop l ex a k d i = .ok d i := by
 unfold desigLoop Ps.step
 rw [isW_no (by rw [h]; decide),isW_no (by rw [h]; decide),isW_no (by rw [h]; decide),isW_no (by rw [h]; decide)]
 rfl
theorem read_type {l : List Tok} {t : Tree} (h : PT t) {i j : Nat} (ha : At l i (wds (typeName t))) (hj : j = i + (wds (typeName t)).length) (hn : W l j ≠ ⟨#[46]⟩) : ∃ t',strip t' = strip t ∧ Ps.typeName l i = .ok t' j := by
 cases h with
 | one hm =>
  rename_i n a
  have h1 : W l i = n := At.nm ha
  have hj : j = i + 1 := hj
  subst hj
  refine ⟨.node 13 n 0 (A l i) [],by simp [strip_node],?_⟩
  unfold Ps.typeName
  rw [name_yes (by rw [h1]; exact hm),R.bind_ok,isW_no hn,h1]
  rfl
 | two hm hm2 =>
  rename_i n n2 a b
  have h1 : W l i = n2 := At.nm ha
  have h2 : W l (i + 1) = ⟨#[46]⟩ := ha.2.2.2.1
  have h3 : W l (i + 1 + 1) = n := At.nm ha.2.2.2.2
  have hj : j = i + 1 + 1 + 1 := hj
  subst hj
  refine ⟨.node 13 n 0 (A l i) [.node 24 n2 0 (A l i) []],by simp [strip_node],?_⟩
  unfold Ps.typeName
  rw [name_yes (by rw [h1]; exact hm2),R.bind_ok,isW_at h2,if_pos rfl,name_yes (by rw [h3]; exact hm),R.bind_ok,h1,h3]
theorem nx_of_op {n : ByteArray} {os : List ByteArray} (h : isOp3 n os) (v : Nat) (hd : os.all (fun s => (badV v).all (fun b => !decide (s = b))) = true) : nx v n :=
 List.all_eq_true.1 hd n (isOp3_mem h)
theorem expr_wrap {k : Nat} {n : ByteArray} {num a v : Nat} {ts : List Tree} (h : v ≤ own k n) : expr (.node k n num a ts) v = bodyE k n num ts (ts.map expr) := by rw [expr_node,wrap_no h]
theorem fac_name {l : List Tok} {ex down : Nat → R Tree} {i : Nat} {n : ByteArray} (h : W l i = n) (hn : isName n = true) : factorOf l ex down i = (desig l ex i).bind fun d i1 => if isW l i1 ⟨#[40]⟩ then (args l ex i1).bind fun ts i2 => .ok (.node 33 ⟨#[]⟩ 0 (A l i) (d :: ts)) i2 else .ok d i1 := by
 have hnum : isNum (W l i) = false := by
  rw [h]
  unfold isName at hn
  simp only [Bool.and_eq_true] at hn
  have hl := hn.2
  unfold lettered at hl
  unfold isNum
  split
  ·rfl
  ·rename_i c t e
   rw [e] at hl
   simp only [Bool.and_eq_true] at hl
   rw [Bool.eq_false_iff]
   intro hd
   rw [(isD_not hd).2.2] at hl
   cases hl.1
 unfold factorOf
 rw [hnum,name_no h hn _ (by decide),name_no h hn _ (by decide),name_no h hn _ (by decide),name_no h hn _ (by decide),name_no h hn _ (by decide)]
 rfl
theorem num_dec {n : Nat} {l : List Tok} {i : Nat} (h : W l i = ⟨(dec n).toArray⟩) : isNum (W l i) = true ∧ numVal (W l i) = n ∧ isW l i ⟨#[45]⟩ = false := by
 obtain ⟨h1,h2,h3⟩ := dec_all n
 rw [h]
 unfold numVal
 refine ⟨?_,h2,?_⟩
 ·unfold isNum
  show (match dec n with | [] => false | c :: _ => isD c) = true
  cases hd : dec n with
  | nil => exact absurd hd h3
  | cons c t => rw [hd,List.all_cons,Bool.and_eq_true] at h1; exact h1.1
 ·refine isW_no ?_
  rw [h]
  intro e
  have e : dec n = [45] := by
   have := congrArg (fun b : ByteArray => b.data.toList) e
   simpa using this
  rw [e] at h1
  exact absurd h1 (by decide)
def firsts : List ByteArray := [⟨#[41]⟩,⟨#[59]⟩,⟨#[]⟩,⟨#[69,78,68]⟩,⟨#[69,76,83,73,70]⟩,⟨#[69,76,83,69]⟩,⟨#[85,78,84,73,76]⟩]
abbrev fw (x : ByteArray) : Prop := firsts.all (fun s => !decide (x = s)) = true
theorem fw.ne {x s : ByteArray} (h : fw x) (hs : s ∈ firsts) : x ≠ s := by simpa using List.all_eq_true.1 h s hs
theorem fw_name {x : ByteArray} (h : isName x = true) : fw x := List.all_eq_true.2 fun s hs => by
 have h2 : isName s = false := by simpa using List.all_eq_true.1 (show firsts.all (fun s => !isName s) = true from by decide) s hs
 have : x ≠ s := by rintro rfl; rw [h] at h2; cases h2
 simpa using this
theorem fw_num {x : ByteArray} (h : isNum x = true) : fw x := List.all_eq_true.2 fun s hs => by
 have h2 : isNum s = false := by simpa using List.all_eq_true.1 (show firsts.all (fun s => !isNum s) = true from by decide) s hs
 have : x ≠ s := by rintro rfl; rw [h] at h2; cases h2
 simpa using this
section
variable (l : List Tok)
def Cl (L v : Nat) (t : Tree) : Prop := ∀ i j,At l i (wds (expr t v)) → j = i + (wds (expr t v)).length → nx v (W l j) → nops t ≤ 20 → ∃ t',strip t' = strip t ∧ fw (W l i) ∧ Body l L v i j t t'
def Cd (L m : Nat) (d : Tree) : Prop := ∀ i j,At l i (wds (expr d 3)) → j = i + (wds (expr d 3)).length → nops d ≤ 20 → m ≤ 20 → ∃ n d',W l i = n ∧ isName n = true ∧ strip d' = strip d ∧ desig l (E l L) i = desigLoop l (E l L) (A l i) (20 - m) d' j
def Ca (L : Nat) (ts : List Tree) : Prop := ∀ i j G acc,ts ≠ [] → At l i (wds (joinP [s_comma,.sp] (ts.map fun t => expr t 0))) → j = i + (wds (joinP [s_comma,.sp] (ts.map fun t => expr t 0))).length → ts.length ≤ G → nopsL ts ≤ 20 → W l j = ⟨#[41]⟩ → ∃ ts',ts'.map strip = ts.map strip ∧ fw (W l i) ∧ argsLoop l (E l L) G i acc = .ok (acc ++ ts') j
end
theorem argsP_map (ts : List Tree) : argsP (ts.map expr) = [s_lp] ++ joinP [s_comma,.sp] (ts.map fun t => expr t 0) ++ [s_rp] := by
 unfold argsP
 rw [List.map_map]; rfl
theorem Pd.pos : ∀ {L m : Nat} {t : Tree},Pd L m t → 1 ≤ (wds (expr t 3)).length := by
 intro L m t h
 have h1 : ∀ (a b : List Pc),1 ≤ (wds b).length → 1 ≤ (wds (a ++ b)).length := fun a b h => by rw [wlen_app]; omega
 cases h with
 | ref hn => rw [expr_wrap (Nat.le_refl 3)]; exact Nat.le_refl 1
 | dot hn h => rename_i m n a d; rw [expr_wrap (Nat.le_refl 3)]; exact h1 _ [s_dot,nm n] (Nat.le_add_left 1 1)
 | index h hx => rw [expr_wrap (Nat.le_refl 3)]; exact h1 _ [s_rb] (Nat.le_refl 1)
 | hat h => rw [expr_wrap (Nat.le_refl 3)]; exact h1 _ [s_hat] (Nat.le_refl 1)
 | guard h ht => rw [expr_wrap (Nat.le_refl 3)]; exact h1 _ [s_rc] (Nat.le_refl 1)
theorem wrap_pos {o v : Nat} {s : List Pc} (h : 1 ≤ (wds s).length) : 1 ≤ (wds (wrap o v s)).length := by
 unfold wrap
 split
 ·rw [wlen_app]; exact Nat.le_add_left 1 _
 ·exact h
theorem Px.pos : ∀ {L v : Nat} {t : Tree},Px L v t → v ≤ 3 → 1 ≤ (wds (expr t v)).length := by
 intro L v t h hv
 have hpos : ∀ {k : Nat} {n : ByteArray} {num a : Nat} {ts : List Tree},1 ≤ (wds (bodyE k n num ts (ts.map expr))).length → 1 ≤ (wds (expr (.node k n num a ts) v)).length := fun h => by rw [expr_node]; exact wrap_pos h
 have h1 : ∀ (a b : List Pc),1 ≤ (wds b).length → 1 ≤ (wds (a ++ b)).length := fun a b h => by rw [wlen_app]; omega
 have h2 : ∀ (a b : List Pc),1 ≤ (wds a).length → 1 ≤ (wds (a ++ b)).length := fun a b h => by rw [wlen_app]; omega
 cases h with
 | num h => exact hpos (Nat.le_refl 1)
 | atom h => rcases h with rfl | rfl | rfl <;> exact hpos (Nat.le_refl 1)
 | des h hm =>
  have := h.pos
  cases t with
  | node k n num a ts =>
   refine hpos ?_
   have ho : own k n = 3 := by cases h <;> rfl
   rw [expr_wrap (by rw [ho]; exact Nat.le_refl 3)] at this
   exact this
 | call h hm ha => exact hpos (h1 _ (argsP _) (by unfold argsP; exact h1 _ _ (Nat.le_refl 1)))
 | not h => exact hpos (h2 [s_tilde] _ (Nat.le_refl 1))
 | neg h0 h => exact hpos (h2 [s_minus] _ (Nat.le_refl 1))
 | is h ht => exact hpos (h2 _ _ (h1 _ [.sp,kIS,.sp] (Nat.le_refl 1)))
 | op0 h hx hy => rename_i n a x y; exact hpos (h2 _ _ (h1 _ [.sp,nm n,.sp] (Nat.le_refl 1)))
 | op1 h h0 hx hy => rename_i n a x y; exact hpos (h2 _ _ (h1 _ [.sp,nm n,.sp] (Nat.le_refl 1)))
 | op2 h h0 hx hy => rename_i n a x y; exact hpos (h2 _ _ (h1 _ [.sp,nm n,.sp] (Nat.le_refl 1)))
 | par h0 hv h => rw [expr_par h0]; exact h1 _ _ (Nat.le_refl 1)
theorem Pa.all : ∀ {L : Nat} {ts : List Tree},Pa L ts → ∀ t ∈ ts,∃ M,Px M 0 t
 | _,_,.nil,t,ht => by cases ht
 | _,_,.cons h hs,t,ht => by
  rcases List.mem_cons.1 ht with rfl | ht
  ·exact ⟨_,h⟩
  ·exact hs.all t ht
theorem join_pos : ∀ ts : List Tree,(∀ t ∈ ts,1 ≤ (wds (expr t 0)).length) → ts.length ≤ (wds (joinP [s_comma,.sp] (ts.map fun t => expr t 0))).length
 | [],_ => Nat.zero_le _
 | [t],h => h t List.mem_cons_self
 | t :: u :: ts,h => by
  have := join_pos (u :: ts) (fun x hx => h x (List.mem_cons_of_mem _ hx))
  show _ ≤ (wds (expr t 0 ++ [s_comma,.sp] ++ joinP [s_comma,.sp] ((u :: ts).map fun t => expr t 0))).length
  rw [wlen_app,wlen_app,show (wds [s_comma,.sp]).length = 1 from rfl]
  simp only [List.length_cons] at this ⊢; omega
theorem at_sur {l : List Tok} {i j : Nat} {a b : List Pc} {x y : List UInt8} (ha : At l i (wds (a ++ [.w x] ++ b ++ [.w y]))) (hj : j = i + (wds (a ++ [.w x] ++ b ++ [.w y])).length) :
  At l i (wds a) ∧ W l (i + (wds a).length) = ⟨x.toArray⟩ ∧ At l (i + (wds a).length + 1) (wds b) ∧ W l (i + (wds a).length + 1 + (wds b).length) = ⟨y.toArray⟩ ∧ j = i + (wds a).length + 1 + (wds b).length + 1 := by
 have e1 : ∀ z : List UInt8,(wds [.w z]).length = 1 := fun _ => rfl
 obtain ⟨g1,g2⟩ := ha.app2
 obtain ⟨g3,g4⟩ := g1.app2
 obtain ⟨g5,g6⟩ := g3.app2
 simp only [wlen_app,e1] at g2 g4 hj
 rw [show i + ((wds a).length + 1 + (wds b).length) = i + (wds a).length + 1 + (wds b).length from by omega] at g2
 rw [← Nat.add_assoc] at g4
 exact ⟨g5,g6.2.1,g4,g2.2.1,by omega⟩
theorem at_bin {l : List Tok} {i j : Nat} {x y : List Pc} {n : ByteArray} (ha : At l i (wds (x ++ [.sp,nm n,.sp] ++ y))) (hj : j = i + (wds (x ++ [.sp,nm n,.sp] ++ y)).length) :
  At l i (wds x) ∧ W l (i + (wds x).length) = n ∧ At l (i + (wds x).length + 1) (wds y) ∧ j = i + (wds x).length + 1 + (wds y).length := by
 obtain ⟨h1,h2⟩ := ha.app2
 obtain ⟨h3,h4⟩ := h1.app2
 rw [wlen_app,wlen_app] at hj
 rw [wlen_app] at h2
 have e : (wds [.sp,nm n,.sp]).length = 1 := rfl
 rw [e] at h2 hj
 rw [← Nat.add_assoc] at h2
 exact ⟨h3,At.nm h4,h2,by omega⟩
theorem args_read {l : List Tok} {L : Nat} {ts : List Tree} {i j : Nat} (hc : Ca l L ts) (hp : ∀ t ∈ ts,1 ≤ (wds (expr t 0)).length) (ha : At l i (wds (argsP (ts.map expr)))) (hj : j = i + (wds (argsP (ts.map expr))).length) (ho : nopsL ts ≤ 20) :
  W l i = ⟨#[40]⟩ ∧ ∃ ts',ts'.map strip = ts.map strip ∧ args l (E l L) i = .ok ts' j := by
 rw [argsP_map] at ha hj
 obtain ⟨h1,h2⟩ := ha.app2
 obtain ⟨h3,h4⟩ := h1.app2
 have h0 : W l i = ⟨#[40]⟩ := h3.2.1
 refine ⟨h0,?_⟩
 rw [wlen_app,wlen_app] at hj
 rw [wlen_app] at h2
 have e1 : (wds [s_lp]).length = 1 := rfl
 have e2 : (wds [s_rp]).length = 1 := rfl
 rw [e1,e2] at hj
 rw [e1] at h2 h4
 rw [← Nat.add_assoc] at h2
 have h5 : W l (i + 1 + (wds (joinP [s_comma,.sp] (ts.map fun t => expr t 0))).length) = ⟨#[41]⟩ := h2.2.1
 cases ts with
 | nil =>
  refine ⟨[],rfl,?_⟩
  unfold args
  have h5 : W l (i + 1) = ⟨#[41]⟩ := h5
  rw [isW_at h0,isW_at h5]
  have hj : j = i + (1 + 0 + 1) := hj
  subst hj
  rfl
 | cons t ts =>
  have hne : wds (joinP [s_comma,.sp] ((t :: ts).map fun t => expr t 0)) ≠ [] := by
   have := join_pos (t :: ts) hp
   intro e; rw [e] at this; simp at this
  have hl := h4.len hne
  have hlen := join_pos (t :: ts) hp
  obtain ⟨ts',h6,hrp,h7⟩ := hc (i + 1) _ l.length [] (by simp) h4 rfl (by omega) ho h5
  refine ⟨ts',h6,?_⟩
  unfold args
  rw [isW_at h0,isW_no (hrp.ne (by simp [firsts])),if_pos rfl,if_neg (by simp),h7,R.bind_ok,must_yes (isW_at h5),R.bind_ok]
  congr 1; omega
theorem name_ne {l : List Tok} {i : Nat} {n : ByteArray} (h : W l i = n) (hn : isName n = true) (s : ByteArray) (hs : isName s = false) : W l i ≠ s := of_decide_eq_false (name_no h hn s hs)
theorem args_j {l : List Tok} {i j : Nat} {t u : Tree} {ts : List Tree} (ha : At l i (wds (joinP [s_comma,.sp] ((t :: u :: ts).map fun t => expr t 0)))) (hj : j = i + (wds (joinP [s_comma,.sp] ((t :: u :: ts).map fun t => expr t 0))).length) :
  At l i (wds (expr t 0)) ∧ W l (i + (wds (expr t 0)).length) = ⟨#[44]⟩ ∧ At l (i + (wds (expr t 0)).length + 1) (wds (joinP [s_comma,.sp] ((u :: ts).map fun t => expr t 0))) ∧ j = i + (wds (expr t 0)).length + 1 + (wds (joinP [s_comma,.sp] ((u :: ts).map fun t => expr t 0))).length := by
 have e : joinP [s_comma,.sp] ((t :: u :: ts).map fun t => expr t 0) = expr t 0 ++ [s_comma,.sp] ++ joinP [s_comma,.sp] ((u :: ts).map fun t => expr t 0) := rfl
 rw [e] at ha hj
 obtain ⟨h1,h2⟩ := ha.app2
 obtain ⟨h3,h4⟩ := h1.app2
 rw [wlen_app,wlen_app] at hj
 rw [wlen_app] at h2
 have e1 : (wds [s_comma,.sp]).length = 1 := rfl
 rw [e1] at h2 hj
 rw [← Nat.add_assoc] at h2
 exact ⟨h3,h4.2.1,h2,by omega⟩
mutual
theorem Px.cl (l : List Tok) : ∀ {L v : Nat} {t : Tree},Px L v t → v ≤ 3 → Cl l L v t
 | L,v,_,.num (n := n) (a := a) h,hv => by
  intro i j ha hj hn ho
  rw [expr_wrap hv] at ha hj
  have h1 : W l i = ⟨(dec n).toArray⟩ := ha.2.1
  obtain ⟨h2,h3,h4⟩ := num_dec h1
  have hj : j = i + 1 := hj
  subst hj
  refine ⟨.node 29 ⟨#[]⟩ n (A l i) [],by simp [strip_node],fw_num h2,lift3 h4 ?_ hn hv⟩
  ·obtain ⟨down,e,_⟩ := F_eq l L
   rw [e]
   unfold factorOf
   rw [h2,if_pos rfl,number_yes h2,R.bind_ok,h3]
 | L,v,_,.atom (k := k) (a := a) h,hv => by
  intro i j ha hj hn ho
  obtain ⟨down,e,_⟩ := F_eq l L
  have ho : own k ⟨#[]⟩ = 3 := by rcases h with rfl | rfl | rfl <;> rfl
  rw [expr_wrap (by rw [ho]; exact hv)] at ha hj
  rcases h with rfl | rfl | rfl
  all_goals
   have h1 := ha.2.1
   have hj : j = i + 1 := hj
   subst hj
  ·refine ⟨.node 30 ⟨#[]⟩ 0 (A l i) [],by simp [strip_node],by rw [h1]; decide,lift3 (isW_no (by rw [h1]; decide)) ?_ hn hv⟩
   rw [e]; unfold factorOf
   rw [show isNum (W l i) = false from by rw [h1]; decide,isW_at h1]; rfl
  ·refine ⟨.node 31 ⟨#[]⟩ 0 (A l i) [],by simp [strip_node],by rw [h1]; decide,lift3 (isW_no (by rw [h1]; decide)) ?_ hn hv⟩
   rw [e]; unfold factorOf
   rw [show isNum (W l i) = false from by rw [h1]; decide,isW_no (s := ⟨#[84,82,85,69]⟩) (by rw [h1]; decide),isW_at h1]; rfl
  ·refine ⟨.node 32 ⟨#[]⟩ 0 (A l i) [],by simp [strip_node],by rw [h1]; decide,lift3 (isW_no (by rw [h1]; decide)) ?_ hn hv⟩
   rw [e]; unfold factorOf
   rw [show isNum (W l i) = false from by rw [h1]; decide,isW_no (s := ⟨#[84,82,85,69]⟩) (by rw [h1]; decide),isW_no (s := ⟨#[70,65,76,83,69]⟩) (by rw [h1]; decide),isW_at h1]; rfl
 | L,v,t,.des (m := m) h hm,hv => by
  have ih := h.cd l
  intro i j ha hj hn ho
  have ho3 : expr t v = expr t 3 := by
   cases t with
   | node k n num a ts =>
    have ho : own k n = 3 := by cases h <;> rfl
    rw [expr_wrap (by rw [ho]; exact hv),expr_wrap (by rw [ho]; exact Nat.le_refl 3)]
  rw [ho3] at ha hj
  obtain ⟨n,d',h1,h2,h3,h4⟩ := ih i j ha hj ho hm
  obtain ⟨down,e,_⟩ := F_eq l L
  refine ⟨d',h3,h1 ▸ fw_name h2,lift3 (name_no h1 h2 _ (by decide)) ?_ hn hv⟩
  rw [e,fac_name h1 h2,h4,step_end (hn.b3 hv),R.bind_ok,isW_no (hn.b3 hv _ (by simp [bad3]))]
  rfl
 | L,v,_,.call (m := m) (a := a) (d := d) (ts := ts) h hm hs,hv => by
  have ih := h.cd l
  have ih2 := hs.ca l
  have hall := hs.all
  intro i j ha hj hn ho
  rw [expr_wrap (show v ≤ own 33 ⟨#[]⟩ from hv)] at ha hj
  have eb : bodyE 33 ⟨#[]⟩ 0 (d :: ts) ((d :: ts).map expr) = expr d 3 ++ argsP (ts.map expr) := rfl
  rw [eb] at ha hj
  rw [wlen_app,← Nat.add_assoc] at hj
  obtain ⟨g1,g2⟩ := ha.app2
  rw [nops_node,nopsL_cons] at ho
  obtain ⟨n,d',h1,h2,h3,h4⟩ := ih i _ g1 rfl (by omega) hm
  obtain ⟨h5,ts',h6,h7⟩ := args_read ih2 (fun t ht => by obtain ⟨M,hp⟩ := hall t ht; exact hp.pos (by decide)) g2 hj (by omega)
  obtain ⟨down,e,_⟩ := F_eq l L
  refine ⟨.node 33 ⟨#[]⟩ 0 (A l i) (d' :: ts'),by simp [strip_node,h3,h6],h1 ▸ fw_name h2,lift3 (name_no h1 h2 _ (by decide)) ?_ hn hv⟩
  rw [e,fac_name h1 h2,h4,step_par h5,R.bind_ok,isW_at h5,if_pos rfl,h7]
  rfl
 | _,v,_,.not (L := L) (a := a) (x := x) h,hv => by
  have ih := h.cl l (Nat.le_refl 3)
  intro i j ha hj hn ho
  rw [expr_wrap (show v ≤ own 34 ⟨#[]⟩ from hv)] at ha hj
  have eb : bodyE 34 ⟨#[]⟩ 0 [x] ([x].map expr) = [s_tilde] ++ expr x 3 := rfl
  rw [eb] at ha hj
  rw [wlen_app,← Nat.add_assoc] at hj
  obtain ⟨g1,g2⟩ := ha.app2
  have h1 : W l i = ⟨#[126]⟩ := g1.2.1
  rw [nops_node,nopsL_cons] at ho
  obtain ⟨x',h2,_,h3,h4⟩ := ih (i + 1) j g2 hj (List.all_eq_true.2 fun s hs => by simpa using hn.b3 hv s hs) (by omega)
  refine ⟨.node 34 ⟨#[]⟩ 0 (A l i) [x'],by simp [strip_node,h2],by rw [h1]; decide,lift3 (isW_no (by rw [h1]; decide)) ?_ hn hv⟩
  show factorOf l (exprOf l (F l L)) (F l L) i = _
  unfold factorOf
  rw [show isNum (W l i) = false from by rw [h1]; decide,isW_no (s := ⟨#[84,82,85,69]⟩) (by rw [h1]; decide),isW_no (s := ⟨#[70,65,76,83,69]⟩) (by rw [h1]; decide),isW_no (s := ⟨#[78,73,76]⟩) (by rw [h1]; decide),isW_at h1,h4]
  rfl
 | L,v,_,.neg (a := a) (x := x) h0 h,hv => by
  have ih := h.cl l (by decide)
  intro i j ha hj hn ho
  rw [expr_wrap (show v ≤ own 35 ⟨#[]⟩ from h0)] at ha hj
  have eb : bodyE 35 ⟨#[]⟩ 0 [x] ([x].map expr) = [s_minus] ++ expr x 2 := rfl
  rw [eb] at ha hj
  rw [wlen_app,← Nat.add_assoc] at hj
  obtain ⟨g1,g2⟩ := ha.app2
  have h1 : W l i = ⟨#[45]⟩ := g1.2.1
  rw [nops_node,nopsL_cons] at ho
  obtain ⟨x',h2,_,h3,k,hk,h4⟩ := ih (i + 1) j g2 hj (List.all_eq_true.2 fun s hs => by simpa using hn.b3 hv s hs) (by omega)
  refine ⟨.node 35 ⟨#[]⟩ 0 (A l i) [x'],by simp [strip_node,h2],by rw [h1]; decide,lift1 0 (Nat.zero_le _) ?_ hn h0⟩
  unfold simple
  rw [isW_at h1,if_pos rfl,h4,chain_end (isOp_no ops2 rfl (hn.op2 h0)),R.bind_ok]
 | L,_,_,.is (a := a) (x := x) (y := y) h ht,hv => by
  have ih := h.cl l (by decide)
  intro i j ha hj hn ho
  rw [expr_wrap (Nat.zero_le _)] at ha hj
  have eb : bodyE 37 ⟨#[]⟩ 0 [x,y] ([x,y].map expr) = expr x 1 ++ [.sp,nm ⟨#[73,83]⟩,.sp] ++ typeName y := rfl
  rw [eb] at ha hj
  obtain ⟨g1,g2,g3,g4⟩ := at_bin ha hj
  rw [nops_node,nopsL_cons] at ho
  obtain ⟨x',h2,hp,k,hk,h4⟩ := ih i _ g1 rfl (by rw [g2]; decide) (by omega)
  obtain ⟨y',h5,h6⟩ := read_type ht g3 g4 (hn.b3 hv _ (by simp [bad3]))
  refine ⟨.node 37 ⟨#[]⟩ 0 x'.at_ [x',y'],by simp [strip_node,h2,h5],hp,?_⟩
  show exprOf l (F l L) i = _
  unfold exprOf
  rw [h4,chain_end (isOp_no ops1 rfl (by rw [g2]; decide)),R.bind_ok]
  simp only [isW_at g2,if_true,h6,R.bind_ok]
 | L,_,_,.op0 (n := n) (a := a) (x := x) (y := y) h hx hy,hv => by
  have ih := hx.cl l (by decide)
  have ih2 := hy.cl l (by decide)
  intro i j ha hj hn ho
  rw [expr_wrap (Nat.zero_le _)] at ha hj
  have eb : bodyE 36 n 0 [x,y] ([x,y].map expr) = expr x 1 ++ [.sp,nm n,.sp] ++ expr y 1 := by
   show expr x (if level n = 0 then 1 else level n) ++ [.sp,nm n,.sp] ++ expr y (level n + 1) = _
   rw [level0 h]; rfl
  rw [eb] at ha hj
  obtain ⟨g1,g2,g3,g4⟩ := at_bin ha hj
  rw [nops_node,nopsL_cons,nopsL_cons,if_pos rfl] at ho
  have hm := isOp3_mem h
  obtain ⟨x',h2,hp,k,hk,h4⟩ := ih i _ g1 rfl (by rw [g2]; exact nx_of_op h 1 (by decide)) (by omega)
  obtain ⟨y',h5,_,k2,hk2,h6⟩ := ih2 _ j g3 g4 (List.all_eq_true.2 fun s hs => by
   have : s ∈ badV 0 := by
    have hs : s ∈ bad3 ++ ops2 := hs
    rw [List.mem_append] at hs
    rcases hs with hs | hs <;> simp [badV,hs]
   simpa using hn.no this) (by omega)
  refine ⟨.node 36 n 0 x'.at_ [x',y'],by simp [strip_node,h2,h5],hp,?_⟩
  show exprOf l (F l L) i = _
  unfold exprOf
  have hno1 : isOp l 1 (i + (wds (expr x 1)).length) = false := isOp_no ops1 rfl (by rw [g2]; intro s hs; have := List.all_eq_true.1 (show ops0.all (fun x => ops1.all fun s => !decide (x = s)) = true from by decide) n hm; simpa using List.all_eq_true.1 this s hs)
  have hno0 : isW l (i + (wds (expr x 1)).length) ⟨#[73,83]⟩ = false := isW_no (by rw [g2]; have := List.all_eq_true.1 (show ops0.all (fun x => !decide (x = ⟨#[73,83]⟩)) = true from by decide) n hm; simpa using this)
  have hyes : isOp l 0 (i + (wds (expr x 1)).length) = true := isOp_yes ops0 rfl hm g2
  rw [h4,chain_end hno1,R.bind_ok]
  have h6 : simple l (F l L) (i + (wds (expr x 1)).length + 1) = chain l 1 (term l (F l L)) (20 - k2) y' j := h6
  rw [hno0,hyes,if_neg (by simp),if_pos rfl,h6,chain_end (isOp_no (lev := 1) ops1 rfl hn.op1),R.bind_ok,g2]
 | L,v,_,.op1 (n := n) (a := a) (x := x) (y := y) h h0 hx hy,hv => by
  have ih := hx.cl l (by decide)
  have ih2 := hy.cl l (by decide)
  intro i j ha hj hn ho
  have hlev := level1 h
  rw [expr_wrap (show v ≤ own 36 n from (show own 36 n = level n from rfl).symm ▸ hlev.symm ▸ h0)] at ha hj
  have eb : bodyE 36 n 0 [x,y] ([x,y].map expr) = expr x 1 ++ [.sp,nm n,.sp] ++ expr y 2 := by
   show expr x (if level n = 0 then 1 else level n) ++ [.sp,nm n,.sp] ++ expr y (level n + 1) = _
   rw [hlev]; rfl
  rw [eb] at ha hj
  obtain ⟨g1,g2,g3,g4⟩ := at_bin ha hj
  rw [nops_node,nopsL_cons,nopsL_cons,if_pos rfl] at ho
  have hm := isOp3_mem h
  obtain ⟨x',h2,hp,k,hk,h4⟩ := ih i _ g1 rfl (by rw [show (W l _) = n from g2]; exact nx_of_op h 1 (by decide)) (by omega)
  obtain ⟨y',h5,_,_,k2,hk2,h6⟩ := ih2 _ j g3 g4 (List.all_eq_true.2 fun s hs => by simpa using hn.b3 hv s hs) (by omega)
  refine ⟨.node 36 n 0 x'.at_ [x',y'],by simp [strip_node,h2,h5],hp,lift1 (k + 1) ?_ ?_ hn h0⟩
  ·rw [nops_node,nopsL_cons,nopsL_cons,if_pos rfl]; omega
  ·have h4 : simple l (F l L) i = chain l 1 (term l (F l L)) (20 - k) x' (i + (wds (expr x 1)).length) := h4
   rw [h4,show 20 - k = (20 - (k + 1)) + 1 from by omega,chain_step (isOp_yes ops1 rfl hm g2),h6,chain_end (isOp_no ops2 rfl (hn.op2 h0)),R.bind_ok,show W l _ = n from g2]
 | L,v,_,.op2 (n := n) (a := a) (x := x) (y := y) h h0 hx hy,hv => by
  have ih := hx.cl l (by decide)
  have ih2 := hy.cl l (by decide)
  intro i j ha hj hn ho
  have hlev := level2 h
  rw [expr_wrap (show v ≤ own 36 n from (show own 36 n = level n from rfl).symm ▸ hlev.symm ▸ h0)] at ha hj
  have eb : bodyE 36 n 0 [x,y] ([x,y].map expr) = expr x 2 ++ [.sp,nm n,.sp] ++ expr y 3 := by
   show expr x (if level n = 0 then 1 else level n) ++ [.sp,nm n,.sp] ++ expr y (level n + 1) = _
   rw [hlev]; rfl
  rw [eb] at ha hj
  obtain ⟨g1,g2,g3,g4⟩ := at_bin ha hj
  rw [nops_node,nopsL_cons,nopsL_cons,if_pos rfl] at ho
  have hm := isOp3_mem h
  obtain ⟨x',h2,hp,hm0,k,hk,h4⟩ := ih i _ g1 rfl (by rw [show (W l _) = n from g2]; exact nx_of_op h 2 (by decide)) (by omega)
  obtain ⟨y',h5,_,_,h6⟩ := ih2 _ j g3 g4 (List.all_eq_true.2 fun s hs => by simpa using hn.b3 hv s hs) (by omega)
  refine ⟨.node 36 n 0 x'.at_ [x',y'],by simp [strip_node,h2,h5],hp,lift2 (k + 1) ?_ hm0 ?_ hn h0⟩
  ·rw [nops_node,nopsL_cons,nopsL_cons,if_pos rfl]; omega
  ·have h4 : term l (F l L) i = chain l 2 (F l L) (20 - k) x' (i + (wds (expr x 2)).length) := h4
   rw [h4,show 20 - k = (20 - (k + 1)) + 1 from by omega,chain_step (isOp_yes ops2 rfl hm g2),h6,R.bind_ok,show W l _ = n from g2]
 | _,v,t,.par (L := L) h0 _ h,hv => by
  have ih := h.cl l (by decide)
  intro i j ha hj hn ho
  rw [expr_par h0] at ha hj
  obtain ⟨g1,g2⟩ := ha.app2
  obtain ⟨g3,g4⟩ := g1.app2
  rw [wlen_app,wlen_app] at hj
  rw [wlen_app] at g2
  have e1 : (wds [s_lp]).length = 1 := rfl
  have e2 : (wds [s_rp]).length = 1 := rfl
  rw [e1,e2] at hj
  rw [e1,← Nat.add_assoc] at g2
  have h1 : W l i = ⟨#[40]⟩ := g3.2.1
  have h5 : W l (i + 1 + (wds (expr t 0)).length) = ⟨#[41]⟩ := g2.2.1
  obtain ⟨t',h2,_,h4⟩ := ih (i + 1) _ g4 rfl (by rw [h5]; decide) ho
  have h4 : exprOf l (F l L) (i + 1) = .ok t' (i + 1 + (wds (expr t 0)).length) := h4
  refine ⟨t',h2,by rw [h1]; decide,lift3 (isW_no (by rw [h1]; decide)) ?_ hn hv⟩
  show factorOf l (exprOf l (F l L)) (F l L) i = _
  unfold factorOf
  rw [show isNum (W l i) = false from by rw [h1]; decide,isW_no (s := ⟨#[84,82,85,69]⟩) (by rw [h1]; decide),isW_no (s := ⟨#[70,65,76,83,69]⟩) (by rw [h1]; decide),isW_no (s := ⟨#[78,73,76]⟩) (by rw [h1]; decide),isW_no (s := ⟨#[126]⟩) (by rw [h1]; decide),isW_at h1,h4,R.bind_ok,must_yes (isW_at h5)]
  subst hj
  simp only [R.bind_ok,if_true,Bool.false_eq_true,if_false]
  congr 1; omega
theorem Pd.cd (l : List Tok) : ∀ {L m : Nat} {t : Tree},Pd L m t → Cd l L m t
 | L,_,_,.ref (n := n) (a := a) hn => by
  intro i j ha hj ho hm
  rw [expr_wrap (Nat.le_refl 3)] at ha hj
  have h1 : W l i = n := At.nm ha
  have hj : j = i + 1 := hj
  subst hj
  refine ⟨n,.node 24 n 0 (A l i) [],h1,hn,by simp [strip_node],?_⟩
  unfold desig
  rw [name_yes (by rw [h1]; exact hn),R.bind_ok,h1]
 | L,_,_,.dot (m := m) (n := n) (a := a) (d := d) hn h => by
  have ih := h.cd l
  intro i j ha hj ho hm
  rw [expr_wrap (Nat.le_refl 3)] at ha hj
  have eb : bodyE 25 n 0 [d] ([d].map expr) = expr d 3 ++ [s_dot,nm n] := rfl
  rw [eb] at ha hj
  rw [wlen_app,← Nat.add_assoc] at hj
  obtain ⟨g1,g2⟩ := ha.app2
  have h1 : W l (i + (wds (expr d 3)).length) = ⟨#[46]⟩ := g2.2.1
  have h2 : W l (i + (wds (expr d 3)).length + 1) = n := At.nm g2.2.2
  have hj : j = i + (wds (expr d 3)).length + 1 + 1 := hj
  rw [nops_node,nopsL_cons] at ho
  obtain ⟨n0,d',h3,h4,h5,h6⟩ := ih i _ g1 rfl (by omega) (by omega)
  refine ⟨n0,.node 25 n 0 (A l i) [d'],h3,h4,by simp [strip_node,h5],?_⟩
  rw [h6]
  refine desig_step hm ?_
  unfold Ps.step
  rw [isW_at h1,if_pos rfl,name_yes (by rw [h2]; exact hn),R.bind_ok,h2,hj]
 | _,_,_,.index (L := L) (m := m) (a := a) (d := d) (x := x) h hx => by
  have ih := h.cd l
  have ih2 := hx.cl l (by decide)
  intro i j ha hj ho hm
  rw [expr_wrap (Nat.le_refl 3)] at ha hj
  have eb : bodyE 26 ⟨#[]⟩ 0 [d,x] ([d,x].map expr) = expr d 3 ++ [s_lb] ++ expr x 0 ++ [s_rb] := rfl
  rw [eb] at ha hj
  obtain ⟨g5,h1,g4,h2,hj⟩ := at_sur ha hj
  rw [nops_node,nopsL_cons,nopsL_cons] at ho
  obtain ⟨n0,d',h3,h4,h5,h6⟩ := ih i _ g5 rfl (by omega) (by omega)
  obtain ⟨x',h7,_,h8⟩ := ih2 _ _ g4 rfl (by rw [h2]; decide) (by omega)
  have h8 : E l (L + 1) (i + (wds (expr d 3)).length + 1) = .ok x' (i + (wds (expr d 3)).length + 1 + (wds (expr x 0)).length) := h8
  refine ⟨n0,.node 26 ⟨#[]⟩ 0 (A l i) [d',x'],h3,h4,by simp [strip_node,h5,h7],?_⟩
  rw [h6]
  refine desig_step hm ?_
  unfold Ps.step
  rw [isW_no (by rw [h1]; decide),isW_at h1,if_neg (by simp),if_pos rfl,h8,R.bind_ok,must_yes (isW_at h2),R.bind_ok]
  congr 1; omega
 | L,_,_,.hat (m := m) (a := a) (d := d) h => by
  have ih := h.cd l
  intro i j ha hj ho hm
  rw [expr_wrap (Nat.le_refl 3)] at ha hj
  have eb : bodyE 27 ⟨#[]⟩ 0 [d] ([d].map expr) = expr d 3 ++ [s_hat] := rfl
  rw [eb] at ha hj
  rw [wlen_app,← Nat.add_assoc] at hj
  obtain ⟨g1,g2⟩ := ha.app2
  have h1 : W l (i + (wds (expr d 3)).length) = ⟨#[94]⟩ := g2.2.1
  have hj : j = i + (wds (expr d 3)).length + 1 := hj
  rw [nops_node,nopsL_cons] at ho
  obtain ⟨n0,d',h3,h4,h5,h6⟩ := ih i _ g1 rfl (by omega) (by omega)
  refine ⟨n0,.node 27 ⟨#[]⟩ 0 (A l i) [d'],h3,h4,by simp [strip_node,h5],?_⟩
  rw [h6]
  refine desig_step hm ?_
  unfold Ps.step
  rw [isW_no (by rw [h1]; decide),isW_no (by rw [h1]; decide),isW_at h1,hj]
  rfl
 | L,_,_,.guard (m := m) (a := a) (d := d) (y := y) h ht => by
  have ih := h.cd l
  intro i j ha hj ho hm
  rw [expr_wrap (Nat.le_refl 3)] at ha hj
  have eb : bodyE 28 ⟨#[]⟩ 0 [d,y] ([d,y].map expr) = expr d 3 ++ [s_lc] ++ typeName y ++ [s_rc] := rfl
  rw [eb] at ha hj
  obtain ⟨g5,h1,g4,h2,hj⟩ := at_sur ha hj
  rw [nops_node,nopsL_cons] at ho
  obtain ⟨n0,d',h3,h4,h5,h6⟩ := ih i _ g5 rfl (by omega) (by omega)
  obtain ⟨y',h7,h8⟩ := read_type ht g4 rfl (by rw [h2]; decide)
  refine ⟨n0,.node 28 ⟨#[]⟩ 0 (A l i) [d',y'],h3,h4,by simp [strip_node,h5,h7],?_⟩
  rw [h6]
  refine desig_step hm ?_
  unfold Ps.step
  rw [isW_no (by rw [h1]; decide),isW_no (by rw [h1]; decide),isW_no (by rw [h1]; decide),isW_at h1,if_neg (by simp),if_neg (by simp),if_neg (by simp),if_pos rfl,h8,R.bind_ok,must_yes (isW_at h2),R.bind_ok]
  congr 1; omega
theorem Pa.ca (l : List Tok) : ∀ {L : Nat} {ts : List Tree},Pa L ts → Ca l L ts
 | _,_,.nil => fun i j G acc hne => absurd rfl hne
 | _,_,.cons (L := L) (t := t) (ts := ts) h hs => by
  have ih := h.cl l (by decide)
  have ih2 := hs.ca l
  intro i j G acc hne ha hj hG ho hrp
  rw [nopsL_cons] at ho
  cases G with
  | zero => simp at hG
  | succ G =>
   cases ts with
   | nil =>
    have ha : At l i (wds (expr t 0)) := ha
    have hj : j = i + (wds (expr t 0)).length := hj
    obtain ⟨t',h1,h2,h3⟩ := ih i j ha hj (by rw [hrp]; decide) (by omega)
    have h3 : exprOf l (F l L) i = .ok t' j := h3
    refine ⟨[t'],by simp [h1],h2,?_⟩
    unfold argsLoop
    show (exprOf l (F l L) i).bind _ = _
    rw [h3,R.bind_ok,isW_no (by rw [hrp]; decide)]
    rfl
   | cons u ts =>
    obtain ⟨g1,g2,g3,g4⟩ := args_j ha hj
    obtain ⟨t',h1,h2,h3⟩ := ih i _ g1 rfl (by rw [g2]; decide) (by omega)
    have h3 : exprOf l (F l L) i = .ok t' (i + (wds (expr t 0)).length) := h3
    obtain ⟨ts',h4,_,h5⟩ := ih2 _ j G (acc ++ [t']) (by simp) g3 g4 (by simpa using hG) (by omega) hrp
    refine ⟨t' :: ts',by simp [h1] at h4 ⊢; exact h4,h2,?_⟩
    unfold argsLoop
    show (exprOf l (F l L) i).bind _ = _
    rw [h3,R.bind_ok,isW_at g2,if_pos rfl,h5,List.append_assoc]
    rfl
end
end Go.Proofs.YtneohanphabneaaGreatDoor.Pr
