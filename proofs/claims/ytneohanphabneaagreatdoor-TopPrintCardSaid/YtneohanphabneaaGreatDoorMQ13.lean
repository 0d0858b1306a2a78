/-
  The plain law of what is written: how long a tree's text is.
-/
import Derived.Test.YtneohanphabneaaGreatDoorQ12
import Derived.Test.YtneohanphabneaaGreatDoorMQ11
namespace Go.Proofs.YtneohanphabneaaGreatDoor.Pr
open Ps Sc
def sz (ps : List Pc) : Nat := (txt ps).length
theorem sz_app (a b : List Pc) : sz (a ++ b) = sz a + sz b := by unfold sz; rw [txt_app,List.length_append]
theorem sz_cons (p : Pc) (ps : List Pc) : sz (p :: ps) = p.b.length + sz ps := by
 show (txt (p :: ps)).length = _
 unfold txt sz
 rw [List.flatMap_cons,List.length_append]
 rfl
theorem sz_nil : sz [] = 0 := rfl
theorem sz_ind (d : Nat) : sz (ind d) = 2 * d := by
 have : ∀ n,sz (List.replicate n .sp) = n := fun n => by
  induction n with
  | zero => rfl
  | succ n ih => rw [List.replicate_succ,sz_cons,ih]; show 1 + n = _; omega
 exact this _
theorem sz_line (d : Nat) (s : List Pc) : sz (line d s) = 2 * d + sz s + 1 := by
 unfold line
 rw [sz_app,sz_app,sz_ind]
 rfl
theorem sz_nm {n : ByteArray} (h : isName n = true) : (nm n).b.length ≤ 12 := by
 show n.data.toList.length ≤ 12
 rw [Sc.len_size]
 unfold isName at h
 simp only [Bool.and_eq_true,decide_eq_true_eq] at h
 exact h.1.1.2
theorem sz_dec {n : Nat} (h : n ≤ 2147483647) : (dec n).length ≤ 10 := by
 by_cases h0 : n = 0
 ·subst h0
  have e : dec 0 = [48] := by unfold dec; rw [Lib.decDigits,dif_pos (by decide)]; rfl
  rw [e]; decide
 ·have hb := dec_big n h
  unfold isBig at hb
  rw [Bool.or_eq_false_iff] at hb
  have h1 : ¬ 10 < (bare (dec n)).length := of_decide_eq_false hb.1
  rw [dec_bare n h0] at h1
  omega
theorem sz_join {sep : List Pc} {f : Tree → List Pc} {K : Nat} : ∀ ts : List Tree,(∀ t ∈ ts,sz (f t) + sz sep ≤ K * wt t) → sz (joinP sep (ts.map f)) ≤ K * wtL ts
 | [],_ => by simp [joinP,sz_nil]
 | [a],h => by
  have := h a List.mem_cons_self
  rw [wtL_one]
  show sz (f a) ≤ _
  omega
 | a :: b :: r,h => by
  have h1 := h a List.mem_cons_self
  have ih := sz_join (b :: r) fun t ht => h t (List.mem_cons_of_mem _ ht)
  show sz (f a ++ sep ++ joinP sep ((b :: r).map f)) ≤ _
  rw [sz_app,sz_app]
  have e : wtL (a :: b :: r) = wt a + wtL (b :: r) := rfl
  rw [e,Nat.mul_add]
  omega
theorem sz_flat {f : Tree → List Pc} {K : Nat} : ∀ ts : List Tree,(∀ t ∈ ts,sz (f t) ≤ K * wt t) → sz (ts.flatMap f) ≤ K * wtL ts
 | [],_ => by simp [sz_nil]
 | a :: r,h => by
  have h1 := h a List.mem_cons_self
  have ih := sz_flat r fun t ht => h t (List.mem_cons_of_mem _ ht)
  rw [List.flatMap_cons,sz_app]
  have e : wtL (a :: r) = wt a + wtL r := rfl
  rw [e,Nat.mul_add]
  omega
theorem PT.sz {t : Tree} (h : PT t) : sz (typeName t) ≤ 25 * wt t := by
 cases h with
 | one hn =>
  have := sz_nm hn
  simp only [typeName,sz_cons,sz_nil,wt,wtL]; omega
 | two hn hn2 =>
  have := sz_nm hn
  have := sz_nm hn2
  simp only [typeName,sz_cons,sz_nil,wt,wtL]
  have : s_dot.b.length = 1 := rfl
  omega
theorem b_op {n : ByteArray} {os : List ByteArray} (h : isOp3 n os) (hs : (os.all fun k => decide (k.data.toList.length ≤ 3)) = true) : (nm n).b.length ≤ 3 := of_decide_eq_true (List.all_eq_true.1 hs n (isOp3_mem h))
def Bd (t : Tree) (v : Nat) : Prop := sz (expr t v) ≤ 30 * wt t ∧ (v = 0 → sz (expr t v) + 2 ≤ 30 * wt t)
theorem Bd.of {t : Tree} {v : Nat} (h : sz (expr t v) + 2 ≤ 30 * wt t) : Bd t v := ⟨by omega,fun _ => h⟩
theorem wt1 (k : Nat) (n : ByteArray) (num a : Nat) (x : Tree) : wt (.node k n num a [x]) = 1 + wt x := by simp only [wt,wtL]; omega
theorem wt2 (k : Nat) (n : ByteArray) (num a : Nat) (x y : Tree) : wt (.node k n num a [x,y]) = 1 + wt x + wt y := by simp only [wt,wtL]; omega
theorem wtC (k : Nat) (n : ByteArray) (num a : Nat) (x : Tree) (ts : List Tree) : wt (.node k n num a (x :: ts)) = 1 + wt x + wtL ts := by simp only [wt,wtL]; omega
theorem wt0 (k : Nat) (n : ByteArray) (num a : Nat) : wt (.node k n num a []) = 1 := by simp only [wt,wtL]
theorem sz_args {ts : List Tree} (h : ∀ t ∈ ts,Bd t 0) : sz (argsP (ts.map expr)) ≤ 30 * wtL ts + 2 := by
 unfold argsP
 rw [sz_app,sz_app,List.map_map]
 have := sz_join (sep := [s_comma,.sp]) (f := (fun f => f 0) ∘ expr) (K := 30) ts fun t ht => by
  have := (h t ht).2 rfl
  show sz (expr t 0) + 2 ≤ _
  exact this
 have e1 : sz [s_lp] = 1 := rfl
 have e2 : sz [s_rp] = 1 := rfl
 omega
mutual
theorem Px.bd : ∀ {L v : Nat} {t : Tree},Px L v t → v ≤ 3 → Bd t v
 | _,_,_,.num (n := n) h,hv => by
  refine Bd.of ?_
  rw [expr_node,wrap_no (o := own 29 ⟨#[]⟩) hv,wt0]
  show sz [.w (dec n)] + 2 ≤ _
  have := sz_dec h
  rw [sz_cons,sz_nil]
  show (dec n).length + 0 + 2 ≤ _
  omega
 | _,_,_,.atom h,hv => by
  refine Bd.of ?_
  rw [expr_node,wt0]
  rcases h with rfl | rfl | rfl
  ·rw [wrap_no (o := own 30 ⟨#[]⟩) hv]; decide
  ·rw [wrap_no (o := own 31 ⟨#[]⟩) hv]; decide
  ·rw [wrap_no (o := own 32 ⟨#[]⟩) hv]; decide
 | _,_,_,.des h _,hv => Bd.of (Pd.bd h hv)
 | _,_,_,.call (d := d) (ts := ts) h _ ha,hv => by
  have h1 := Pd.bd h (Nat.le_refl 3)
  have h2 := sz_args (Pa.bd ha)
  refine Bd.of ?_
  rw [expr_node,wrap_no (o := own 33 ⟨#[]⟩) hv,wtC]
  show sz (expr d 3 ++ argsP (ts.map expr)) + 2 ≤ _
  rw [sz_app]
  omega
 | _,_,_,.not (x := x) h,hv => by
  have h1 := (Px.bd h (Nat.le_refl 3)).1
  refine Bd.of ?_
  rw [expr_node,wrap_no (o := own 34 ⟨#[]⟩) hv,wt1]
  show sz ([s_tilde] ++ expr x 3) + 2 ≤ _
  rw [sz_app]
  have : sz [s_tilde] = 1 := rfl
  omega
 | _,_,_,.neg (x := x) h0 h,hv => by
  have h1 := (Px.bd h (by decide)).1
  refine Bd.of ?_
  rw [expr_node,wrap_no (o := own 35 ⟨#[]⟩) h0,wt1]
  show sz ([s_minus] ++ expr x 2) + 2 ≤ _
  rw [sz_app]
  have : sz [s_minus] = 1 := rfl
  omega
 | _,_,_,.is (x := x) (y := y) h ht,hv => by
  have h1 := (Px.bd h (by decide)).1
  have h2 := ht.sz
  refine Bd.of ?_
  rw [expr_node,wrap_no (o := own 37 ⟨#[]⟩) (Nat.zero_le _),wt2]
  show sz (expr x 1 ++ [.sp,kIS,.sp] ++ typeName y) + 2 ≤ _
  rw [sz_app,sz_app]
  have : sz [.sp,kIS,.sp] = 4 := rfl
  omega
 | _,_,_,.op0 (n := n) (x := x) (y := y) h h1 h2,hv => by
  have g1 := (Px.bd h1 (by decide)).1
  have g2 := (Px.bd h2 (by decide)).1
  have g3 := b_op h (by decide)
  refine Bd.of ?_
  rw [expr_node,wrap_no (o := own 36 n) (Nat.zero_le _),wt2]
  show sz (expr x (if level n = 0 then 1 else level n) ++ [.sp,nm n,.sp] ++ expr y (level n + 1)) + 2 ≤ _
  rw [level0 h,sz_app,sz_app,sz_cons,sz_cons,sz_cons,sz_nil]
  show sz (expr x 1) + (1 + ((nm n).b.length + (1 + 0))) + sz (expr y 1) + 2 ≤ _
  omega
 | _,_,_,.op1 (n := n) (x := x) (y := y) h h0 h1 h2,hv => by
  have g1 := (Px.bd h1 (by decide)).1
  have g2 := (Px.bd h2 (by decide)).1
  have g3 := b_op h (by decide)
  refine Bd.of ?_
  rw [expr_node,wrap_no (o := own 36 n) (by show _ ≤ level n; rw [level1 h]; exact h0),wt2]
  show sz (expr x (if level n = 0 then 1 else level n) ++ [.sp,nm n,.sp] ++ expr y (level n + 1)) + 2 ≤ _
  rw [level1 h,sz_app,sz_app,sz_cons,sz_cons,sz_cons,sz_nil]
  show sz (expr x 1) + (1 + ((nm n).b.length + (1 + 0))) + sz (expr y 2) + 2 ≤ _
  omega
 | _,_,_,.op2 (n := n) (x := x) (y := y) h h0 h1 h2,hv => by
  have g1 := (Px.bd h1 (by decide)).1
  have g2 := (Px.bd h2 (by decide)).1
  have g3 := b_op h (by decide)
  refine Bd.of ?_
  rw [expr_node,wrap_no (o := own 36 n) (by show _ ≤ level n; rw [level2 h]; exact h0),wt2]
  show sz (expr x (if level n = 0 then 1 else level n) ++ [.sp,nm n,.sp] ++ expr y (level n + 1)) + 2 ≤ _
  rw [level2 h,sz_app,sz_app,sz_cons,sz_cons,sz_cons,sz_nil]
  show sz (expr x 2) + (1 + ((nm n).b.length + (1 + 0))) + sz (expr y 3) + 2 ≤ _
  omega
 | _,v,t,.par h0 _ h,hv => by
  have h1 := (Px.bd h (by decide)).2 rfl
  refine ⟨?_,fun e => by subst e; omega⟩
  rw [expr_par h0,sz_app,sz_app]
  have e1 : sz [s_lp] = 1 := rfl
  have e2 : sz [s_rp] = 1 := rfl
  omega
theorem Pd.bd : ∀ {L m v : Nat} {t : Tree},Pd L m t → v ≤ 3 → sz (expr t v) + 2 ≤ 30 * wt t
 | _,_,_,_,.ref (n := n) h,hv => by
  rw [expr_node,wrap_no (o := own 24 n) hv,wt0]
  show sz [nm n] + 2 ≤ _
  have := sz_nm h
  rw [sz_cons,sz_nil]
  omega
 | _,_,_,_,.dot (n := n) (d := d) hn h,hv => by
  have h1 := Pd.bd h (Nat.le_refl 3)
  have h2 := sz_nm hn
  rw [expr_node,wrap_no (o := own 25 n) hv,wt1]
  show sz (expr d 3 ++ [s_dot,nm n]) + 2 ≤ _
  rw [sz_app,sz_cons,sz_cons,sz_nil]
  have : s_dot.b.length = 1 := rfl
  omega
 | _,_,_,_,.index (d := d) (x := x) h hx,hv => by
  have h1 := Pd.bd h (Nat.le_refl 3)
  have h2 := (Px.bd hx (by decide)).1
  rw [expr_node,wrap_no (o := own 26 ⟨#[]⟩) hv,wt2]
  show sz (expr d 3 ++ [s_lb] ++ expr x 0 ++ [s_rb]) + 2 ≤ _
  rw [sz_app,sz_app,sz_app]
  have e1 : sz [s_lb] = 1 := rfl
  have e2 : sz [s_rb] = 1 := rfl
  omega
 | _,_,_,_,.hat (d := d) h,hv => by
  have h1 := Pd.bd h (Nat.le_refl 3)
  rw [expr_node,wrap_no (o := own 27 ⟨#[]⟩) hv,wt1]
  show sz (expr d 3 ++ [s_hat]) + 2 ≤ _
  rw [sz_app]
  have e1 : sz [s_hat] = 1 := rfl
  omega
 | _,_,_,_,.guard (d := d) (y := y) h ht,hv => by
  have h1 := Pd.bd h (Nat.le_refl 3)
  have h2 := ht.sz
  rw [expr_node,wrap_no (o := own 28 ⟨#[]⟩) hv,wt2]
  show sz (expr d 3 ++ [s_lc] ++ typeName y ++ [s_rc]) + 2 ≤ _
  rw [sz_app,sz_app,sz_app]
  have e1 : sz [s_lc] = 1 := rfl
  have e2 : sz [s_rc] = 1 := rfl
  omega
theorem Pa.bd : ∀ {L : Nat} {ts : List Tree},Pa L ts → ∀ t ∈ ts,Bd t 0
 | _,_,.nil,t,ht => by cases ht
 | _,_,.cons h hs,t,ht => by
  have h1 := Px.bd h (Nat.zero_le _)
  have h2 := Pa.bd hs
  rcases List.mem_cons.1 ht with rfl | ht
  ·exact h1
  ·exact h2 t ht
end
theorem Xe.bd {L : Nat} {t : Tree} (h : Xe L t) : sz (expr t 0) ≤ 30 * wt t := by
 obtain ⟨M,_,h,_⟩ := h
 exact (h.bd (by decide)).1
theorem De.bd {L : Nat} {t : Tree} (h : De L t) (v : Nat) (hv : v ≤ 3) : sz (expr t v) ≤ 30 * wt t := by
 obtain ⟨m,h,_⟩ := h
 have := h.bd hv
 omega
theorem sz_word4 (k : Nat) : sz [word4 k,s_lp] ≤ 7 := by
 unfold word4
 split
 ·decide
 ·split
  ·decide
  ·split <;> decide
mutual
theorem Pst.bd : ∀ {L : Nat} {t : Tree},Pst L t → ∀ d e,d + L ≤ 40 → sz e ≤ 1 → sz (stmt t d e) ≤ 400 * wt t
 | _,_,.asg (d := y) (x := x) hd hx,d,e,h,he => by
  have g1 := hd.bd 3 (by decide)
  have g2 := hx.bd
  unfold stmt
  show sz (line d (expr y 3 ++ [.sp,s_asg,.sp] ++ expr x 0 ++ e)) ≤ _
  rw [sz_line,sz_app,sz_app,sz_app,wt2]
  have : sz [.sp,s_asg,.sp] = 4 := rfl
  omega
 | _,_,.call (d := y) (ts := ts) hd ha,d,e,h,he => by
  have g1 := hd.bd 3 (by decide)
  have g2 := sz_args (Pa.bd ha.1)
  unfold stmt
  show sz (line d (expr y 3 ++ (if ts.isEmpty then [] else argsP (ts.map expr)) ++ e)) ≤ _
  rw [sz_line,sz_app,sz_app,wtC]
  split
  ·rw [sz_nil]; omega
  ·omega
 | _,_,.ifs (num := num) (ts := ts) hi,d,e,h,he => by
  obtain ⟨g1,g2⟩ := hi.bd d kIF h (by decide)
  unfold stmt
  show sz (ifs d kIF ts (blockL ts) ++ (if num = 1 then line d [kELSE] ++ blk (blockL ts) (ts.length - 1) d else []) ++ line d ([kEND] ++ e)) ≤ _
  rw [sz_app,sz_app,sz_line,sz_app]
  have e1 : sz [kEND] = 3 := rfl
  simp only [wt]
  split
  ·rename_i hn
   rw [if_pos hn] at g1
   rw [sz_app,sz_line]
   have e3 : sz [kELSE] = 4 := rfl
   omega
  ·rw [sz_nil]
   omega
 | _,_,.while_ (x := x) (b := b) hx hb,d,e,h,he => by
  have g1 := hx.bd
  have g2 := hb.bd d h
  unfold stmt
  show sz (line d ([kWHILE,.sp] ++ expr x 0 ++ [.sp,kDO]) ++ blk (blockL [x,b]) 1 d ++ line d ([kEND] ++ e)) ≤ _
  rw [sz_app,sz_app,sz_line,sz_line,sz_app,sz_app,sz_app,wt2]
  have e0 : blk (blockL [x,b]) 1 d = block b d := by unfold blockL blockL; rfl
  rw [e0]
  have e1 : sz [kWHILE,.sp] = 6 := rfl
  have e2 : sz [.sp,kDO] = 3 := rfl
  have e3 : sz [kEND] = 3 := rfl
  omega
 | _,_,.repeat_ (x := x) (b := b) hx hb,d,e,h,he => by
  have g1 := hx.bd
  have g2 := hb.bd d h
  unfold stmt
  show sz (line d [kREPEAT] ++ blk (blockL [b,x]) 0 d ++ line d ([kUNTIL,.sp] ++ expr x 0 ++ e)) ≤ _
  rw [sz_app,sz_app,sz_line,sz_line,sz_app,sz_app,wt2]
  have e0 : blk (blockL [b,x]) 0 d = block b d := by unfold blockL; rfl
  rw [e0]
  have e1 : sz [kREPEAT] = 6 := rfl
  have e2 : sz [kUNTIL,.sp] = 6 := rfl
  omega
 | _,_,.ret0,d,e,h,he => by
  unfold stmt
  show sz (line d ([kRETURN] ++ e)) ≤ _
  rw [sz_line,sz_app,wt0]
  have e1 : sz [kRETURN] = 6 := rfl
  omega
 | _,_,.ret1 (x := x) hx,d,e,h,he => by
  have g1 := hx.bd
  unfold stmt
  show sz (line d ([kRETURN,.sp] ++ expr x 0 ++ e)) ≤ _
  rw [sz_line,sz_app,sz_app,wt1]
  have e1 : sz [kRETURN,.sp] = 7 := rfl
  omega
 | _,_,.new (d := y) hd,d,e,h,he => by
  have g1 := hd.bd 0 (by decide)
  have g2 := sz_word4 20
  unfold stmt
  show sz (line d ([word4 20,s_lp] ++ expr y 0 ++ [s_rp] ++ e)) ≤ _
  rw [sz_line,sz_app,sz_app,sz_app,wt1]
  have e1 : sz [s_rp] = 1 := rfl
  omega
 | _,_,.out (x := x) hx,d,e,h,he => by
  have g1 := hx.bd
  have g2 := sz_word4 21
  unfold stmt
  show sz (line d ([word4 21,s_lp] ++ expr x 0 ++ [s_rp] ++ e)) ≤ _
  rw [sz_line,sz_app,sz_app,sz_app,wt1]
  have e1 : sz [s_rp] = 1 := rfl
  omega
 | _,_,.get (d := y) hd,d,e,h,he => by
  have g1 := hd.bd 0 (by decide)
  have g2 := sz_word4 22
  unfold stmt
  show sz (line d ([word4 22,s_lp] ++ expr y 0 ++ [s_rp] ++ e)) ≤ _
  rw [sz_line,sz_app,sz_app,sz_app,wt1]
  have e1 : sz [s_rp] = 1 := rfl
  omega
 | _,_,.assert (x := x) hx,d,e,h,he => by
  have g1 := hx.bd
  have g2 := sz_word4 23
  unfold stmt
  show sz (line d ([word4 23,s_lp] ++ expr x 0 ++ [s_rp] ++ e)) ≤ _
  rw [sz_line,sz_app,sz_app,sz_app,wt1]
  have e1 : sz [s_rp] = 1 := rfl
  omega
theorem Pi.bd : ∀ {L num : Nat} {ts : List Tree},Pi L num ts → ∀ d w,d + L ≤ 40 → w.b.length ≤ 6 → sz (ifs d w ts (blockL ts)) + (if num = 1 then sz (blk (blockL ts) (ts.length - 1) d) else 0) ≤ 400 * wtL ts ∧ num ≤ 1
 | _,_,_,.last (c := c) (b := b) hx hb,d,w,h,hw => by
  have g1 := hx.bd
  have g2 := hb.bd d h
  refine ⟨?_,Nat.zero_le _⟩
  unfold blockL blockL blockL
  show sz (line d ([w,.sp] ++ expr c 0 ++ [.sp,kTHEN]) ++ block b d ++ []) + 0 ≤ _
  rw [sz_app,sz_app,sz_line,sz_app,sz_app,sz_nil,sz_cons]
  have e1 : sz [Pc.sp] = 1 := rfl
  have e2 : sz [.sp,kTHEN] = 5 := rfl
  have e3 : wtL [c,b] = wt c + wt b := by simp only [wtL]; omega
  rw [e3]
  have := wt_pos c
  omega
 | _,_,_,.els (c := c) (b := b) (e := e) hx hb he,d,w,h,hw => by
  have g1 := hx.bd
  have g2 := hb.bd d h
  have g3 := he.bd d h
  refine ⟨?_,Nat.le_refl _⟩
  unfold blockL blockL blockL blockL
  show sz (line d ([w,.sp] ++ expr c 0 ++ [.sp,kTHEN]) ++ block b d ++ []) + sz (block e d) ≤ _
  rw [sz_app,sz_app,sz_line,sz_app,sz_app,sz_nil,sz_cons]
  have e1 : sz [Pc.sp] = 1 := rfl
  have e2 : sz [.sp,kTHEN] = 5 := rfl
  have e3 : wtL [c,b,e] = wt c + wt b + wt e := by simp only [wtL]; omega
  rw [e3]
  have := wt_pos c
  omega
 | _,num,_,.more (c := c) (b := b) (ts := ts) hx hb hi,d,w,h,hw => by
  have g1 := hx.bd
  have g2 := hb.bd d h
  obtain ⟨g3,g4⟩ := hi.bd d kELSIF h (by decide)
  refine ⟨?_,g4⟩
  have hlen : 2 ≤ ts.length := by cases hi <;> simp
  have e4 : blk (blockL (c :: b :: ts)) ((c :: b :: ts).length - 1) d = blk (blockL ts) (ts.length - 1) d := by
   unfold blk
   rw [blockL_map,blockL_map,List.map_cons,List.map_cons,List.length_cons,List.length_cons,show ts.length + 1 + 1 - 1 = ts.length - 1 + 1 + 1 from by omega,List.getElem?_cons_succ,List.getElem?_cons_succ]
  rw [e4]
  have e5 : ifs d w (c :: b :: ts) (blockL (c :: b :: ts)) = line d ([w,.sp] ++ expr c 0 ++ [.sp,kTHEN]) ++ block b d ++ ifs d kELSIF ts (blockL ts) := by
   rw [blockL_map,blockL_map,List.map_cons,List.map_cons]
   conv => lhs; unfold ifs
  rw [e5,sz_app,sz_app,sz_line,sz_app,sz_app,sz_cons]
  have e1 : sz [Pc.sp] = 1 := rfl
  have e2 : sz [.sp,kTHEN] = 5 := rfl
  have e3 : wtL (c :: b :: ts) = wt c + wt b + wtL ts := by simp only [wtL]; omega
  rw [e3]
  have := wt_pos c
  omega
theorem Pb.bd : ∀ {L : Nat} {t : Tree},Pb L t → ∀ d,d + L ≤ 40 → sz (block t d) ≤ 400 * wt t
 | _,_,.mk (ts := ts) hs,d,h => by
  have g := hs.bd (d + 1) (by omega)
  unfold block
  simp only [wt]
  omega
theorem Psq.bd : ∀ {L : Nat} {ts : List Tree},Psq L ts → ∀ d,d + L ≤ 40 → sz (seqS ts d) ≤ 400 * wtL ts
 | _,_,.nil,d,h => by unfold seqS; rw [sz_nil]; exact Nat.zero_le _
 | _,_,.cons (t := t) (ts := ts) ht hs,d,h => by
  have g2 := hs.bd d h
  have g1 := ht.bd d (if ts.isEmpty then [] else [s_semi]) h (by split <;> decide)
  unfold seqS
  rw [sz_app]
  have e3 : wtL (t :: ts) = wt t + wtL ts := rfl
  rw [e3]
  omega
end
theorem sz_star {num : Nat} : sz (star num) ≤ 1 := by
 unfold star
 split <;> decide
theorem var_bd {kind : Nat} {t : Tree} (h : Pdec kind PT t) : sz (variable_ t) ≤ 60 * wt t := by
 obtain ⟨n,num,a,x,rfl,hn,hnum,hx⟩ := h
 have g1 := sz_nm hn
 have g2 := hx.sz
 have g3 := sz_star (num := num)
 show sz ([nm n] ++ star num ++ [s_colon,.sp] ++ typeName x) ≤ _
 rw [sz_app,sz_app,sz_app,sz_cons,sz_nil,wt1]
 have e1 : sz [s_colon,.sp] = 2 := rfl
 omega
theorem var0_bd {t : Tree} (h : Pvar0 t) : sz (variable_ t) ≤ 60 * wt t := by
 obtain ⟨n,a,x,rfl,hn,hx⟩ := h
 exact var_bd (kind := 6) ⟨n,0,a,x,rfl,hn,by decide,hx⟩
theorem param_bd {t : Tree} (h : Pdec 8 PT t) : sz (param t) + 2 ≤ 60 * wt t := by
 obtain ⟨n,num,a,x,rfl,hn,hnum,hx⟩ := h
 have g1 := sz_nm hn
 have g2 := hx.sz
 show sz ((if num = 1 then [kVAR,.sp] else []) ++ [nm n,s_colon,.sp] ++ typeName x) + 2 ≤ _
 rw [sz_app,sz_app,sz_cons,wt1]
 have e1 : sz [s_colon,.sp] = 2 := rfl
 have e2 : sz (if num = 1 then [kVAR,.sp] else []) ≤ 4 := by split <;> decide
 omega
theorem typ_bd {t : Tree} (h : Pty t) : sz (typ t) ≤ 100 * wt t := by
 cases h with
 | @arr n a x hn hx =>
  have g1 := sz_dec hn
  have g2 := hx.sz
  show sz ([kARRAY,.sp,.w (dec n),.sp,kOF,.sp] ++ typeName x) ≤ _
  rw [sz_app,sz_cons,sz_cons,sz_cons,wt1]
  have e1 : kARRAY.b.length = 5 := rfl
  have e2 : Pc.sp.b.length = 1 := rfl
  have e3 : (Pc.w (dec n)).b.length = (dec n).length := rfl
  have e4 : sz [.sp,kOF,.sp] = 4 := rfl
  omega
 | @ptr a x hx =>
  have g2 := hx.sz
  show sz ([kPOINTER,.sp,kTO,.sp] ++ typeName x) ≤ _
  rw [sz_app,wt1]
  have e1 : sz [kPOINTER,.sp,kTO,.sp] = 11 := rfl
  omega
 | @rec_ a b fs hb hf =>
  have g1 := sz_flat (f := fun f => [.sp] ++ variable_ f ++ [s_semi]) (K := 100) fs fun f hm => by
   have := var_bd (hf f hm)
   have := wt_pos f
   rw [sz_app,sz_app]
   have e1 : sz [Pc.sp] = 1 := rfl
   have e2 : sz [s_semi] = 1 := rfl
   omega
  show sz ([kRECORD] ++ (if kindT b = 0 then [] else [.sp,s_lp] ++ typeName b ++ [s_rp]) ++ fs.flatMap (fun f => [.sp] ++ variable_ f ++ [s_semi]) ++ [.sp,kEND]) ≤ _
  rw [sz_app,sz_app,sz_app,wtC]
  have e1 : sz [kRECORD] = 6 := rfl
  have e2 : sz [.sp,kEND] = 4 := rfl
  have g2 : sz (if kindT b = 0 then [] else [.sp,s_lp] ++ typeName b ++ [s_rp]) ≤ 25 * wt b + 3 := by
   split
   ·rw [sz_nil]; exact Nat.zero_le _
   ·rename_i hk
    rcases hb with ⟨a2,rfl⟩ | hb
    ·exact absurd rfl hk
    ·have := hb.sz
     rw [sz_app,sz_app]
     have e1 : sz [.sp,s_lp] = 2 := rfl
     have e2 : sz [s_rp] = 1 := rfl
     omega
  omega
theorem const_bd {t : Tree} (h : Pdec 4 (Xe 20) t) : sz (const_ t) ≤ 60 * wt t := by
 obtain ⟨n,num,a,x,rfl,hn,hnum,hx⟩ := h
 have g1 := sz_nm hn
 have g2 := hx.bd
 have g3 := sz_star (num := num)
 show sz ([nm n] ++ star num ++ [.sp,s_eq,.sp] ++ expr x 0) ≤ _
 rw [sz_app,sz_app,sz_app,sz_cons,sz_nil,wt1]
 have e1 : sz [.sp,s_eq,.sp] = 3 := rfl
 omega
theorem named_bd {t : Tree} (h : Pdec 5 Pty t) : sz (named t) ≤ 110 * wt t := by
 obtain ⟨n,num,a,x,rfl,hn,hnum,hx⟩ := h
 have g1 := sz_nm hn
 have g2 := typ_bd hx
 have g3 := sz_star (num := num)
 show sz ([nm n] ++ star num ++ [.sp,s_eq,.sp] ++ typ x) ≤ _
 rw [sz_app,sz_app,sz_app,sz_cons,sz_nil,wt1]
 have e1 : sz [.sp,s_eq,.sp] = 3 := rfl
 omega
theorem section_bd {w : Pc} {one : Tree → List Pc} {a : Nat} {ts : List Tree} (hw : w.b.length ≤ 10) (h : ∀ t ∈ ts,sz (one t) ≤ 110 * wt t) : sz (section_ 0 w ts one) ≤ 200 * wt (.node 1 ⟨#[]⟩ 0 a ts) := by
 unfold section_
 split
 ·rw [sz_nil]; exact Nat.zero_le _
 ·rw [sz_app,sz_line,sz_cons,sz_nil]
  have := sz_flat (f := fun x => line 1 (one x ++ [s_semi])) (K := 200) ts fun t ht => by
   have g1 := h t ht
   have := wt_pos t
   rw [sz_line,sz_app]
   have e1 : sz [s_semi] = 1 := rfl
   omega
  have e : wt (.node 1 ⟨#[]⟩ 0 a ts) = 1 + wtL ts := by simp only [wt]
  rw [e]
  show 2 * 0 + (w.b.length + 0) + 1 + sz (ts.flatMap fun x => line 1 (one x ++ [s_semi])) ≤ _
  omega
theorem proc_bd {t : Tree} (h : Pproc t) : sz (proc t) ≤ 400 * wt t := by
 obtain ⟨n,num,a,ps,r,vs,b,rfl,hn,hnum,⟨a1,pl,rfl,hpl⟩,hr,⟨a3,vl,rfl,hvl⟩,hb⟩ := h
 have g1 := sz_nm hn
 have g2 := sz_star (num := num)
 have g3 := sz_join (sep := [s_semi,.sp]) (f := param) (K := 60) pl fun t ht => by
  have := param_bd (hpl t ht)
  have e1 : sz [s_semi,.sp] = 2 := rfl
  omega
 have g4 := section_bd (w := kVAR) (one := variable_) (a := a3) (by decide) (fun t ht => Nat.le_trans (var0_bd (hvl t ht)) (Nat.mul_le_mul_right _ (by decide)))
 have g5 := hb.bd 0 (by decide)
 have g6 : sz (if kindT r = 0 then [] else [s_colon,.sp] ++ typeName r) ≤ 25 * wt r + 2 := by
  split
  ·rw [sz_nil]; exact Nat.zero_le _
  ·rename_i hk
   rcases hr with ⟨a2,rfl⟩ | hr
   ·exact absurd rfl hk
   ·have := hr.sz
    rw [sz_app]
    have e1 : sz [s_colon,.sp] = 2 := rfl
    omega
 have g7 : sz (if pl.isEmpty && kindT r = 0 then [] else [s_lp] ++ joinP [s_semi,.sp] (pl.map param) ++ [s_rp]) ≤ 60 * wtL pl + 2 := by
  split
  ·rw [sz_nil]; exact Nat.zero_le _
  ·rw [sz_app,sz_app]
   have e1 : sz [s_lp] = 1 := rfl
   have e2 : sz [s_rp] = 1 := rfl
   omega
 show sz (line 0 ([kPROCEDURE,.sp,nm n] ++ star num ++ (if pl.isEmpty && kindT r = 0 then [] else [s_lp] ++ joinP [s_semi,.sp] (pl.map param) ++ [s_rp]) ++ (if kindT r = 0 then [] else [s_colon,.sp] ++ typeName r) ++ [s_semi]) ++
  section_ 0 kVAR vl variable_ ++ line 0 [kBEGIN] ++ block b 0 ++ line 0 [kEND,.sp,nm n,s_semi]) ≤ _
 rw [sz_app,sz_app,sz_app,sz_app,sz_line,sz_line,sz_line,sz_app,sz_app,sz_app,sz_app]
 have e1 : sz [kPROCEDURE,.sp,nm n] = 10 + (nm n).b.length := by simp only [sz_cons,sz_nil]; show 9 + (1 + ((nm n).b.length + 0)) = _; omega
 have e2 : sz [kEND,.sp,nm n,s_semi] = 5 + (nm n).b.length := by simp only [sz_cons,sz_nil]; show 3 + (1 + ((nm n).b.length + (1 + 0))) = _; omega
 have e3 : sz [kBEGIN] = 5 := rfl
 have e4 : sz [s_semi] = 1 := rfl
 have e5 : wt (.node 7 n num a [.node 1 ⟨#[]⟩ 0 a1 pl,r,.node 1 ⟨#[]⟩ 0 a3 vl,b]) = 1 + (1 + wtL pl) + wt r + wt (.node 1 ⟨#[]⟩ 0 a3 vl) + wt b := by simp only [wt,wtL]; omega
 rw [e5]
 omega
theorem module_bd {t : Tree} (h : Pmod t) : sz (module t) ≤ 400 * wt t := by
 obtain ⟨n,a,im,cs,ty,vs,ps,b,rfl,hn,⟨a1,il,rfl,hil⟩,⟨a2,cl,rfl,hcl⟩,⟨a3,tl,rfl,htl⟩,⟨a4,vl,rfl,hvl⟩,⟨a5,pl,rfl,hpl⟩,hb⟩ := h
 have g1 := sz_nm hn
 have g2 := sz_join (sep := [s_comma,.sp]) (f := fun i => [nm (nameT i)]) (K := 60) il fun t ht => by
  obtain ⟨n,a,rfl,hn⟩ := hil t ht
  have := sz_nm hn
  have e1 : sz [s_comma,.sp] = 2 := rfl
  have e2 : sz [nm (nameT (.node 3 n 0 a []))] = (nm n).b.length := by simp only [sz_cons,sz_nil]; rfl
  rw [e1,e2,wt0]
  omega
 have g3 := section_bd (w := kCONST) (one := const_) (a := a2) (by decide) (fun t ht => Nat.le_trans (const_bd (hcl t ht)) (Nat.mul_le_mul_right _ (by decide)))
 have g4 := section_bd (w := kTYPE) (one := named) (a := a3) (by decide) (fun t ht => named_bd (htl t ht))
 have g5 := section_bd (w := kVAR) (one := variable_) (a := a4) (by decide) (fun t ht => Nat.le_trans (var_bd (hvl t ht)) (Nat.mul_le_mul_right _ (by decide)))
 have g6 := sz_flat (f := proc) (K := 400) pl fun t ht => proc_bd (hpl t ht)
 have g7 := hb.bd 0 (by decide)
 have g8 : sz (if il.isEmpty then [] else line 0 ([kIMPORT,.sp] ++ joinP [s_comma,.sp] (il.map fun i => [nm (nameT i)]) ++ [s_semi])) ≤ 60 * wtL il + 10 := by
  split
  ·rw [sz_nil]; exact Nat.zero_le _
  ·rw [sz_line,sz_app,sz_app]
   have e1 : sz [kIMPORT,.sp] = 7 := rfl
   have e2 : sz [s_semi] = 1 := rfl
   omega
 have g9 : sz (if (subsT b).isEmpty then [] else line 0 [kBEGIN] ++ block b 0) ≤ 6 + 400 * wt b := by
  split
  ·rw [sz_nil]; exact Nat.zero_le _
  ·rw [sz_app,sz_line]
   have e1 : sz [kBEGIN] = 5 := rfl
   omega
 show sz (line 0 [kMODULE,.sp,nm n,s_semi] ++ (if il.isEmpty then [] else line 0 ([kIMPORT,.sp] ++ joinP [s_comma,.sp] (il.map fun i => [nm (nameT i)]) ++ [s_semi])) ++ section_ 0 kCONST cl const_ ++ section_ 0 kTYPE tl named ++ section_ 0 kVAR vl variable_ ++ pl.flatMap proc ++
  (if (subsT b).isEmpty then [] else line 0 [kBEGIN] ++ block b 0) ++ line 0 [kEND,.sp,nm n,s_dot]) ≤ _
 rw [sz_app,sz_app,sz_app,sz_app,sz_app,sz_app,sz_app,sz_line,sz_line]
 have e1 : sz [kMODULE,.sp,nm n,s_semi] = 8 + (nm n).b.length := by simp only [sz_cons,sz_nil]; show 6 + (1 + ((nm n).b.length + (1 + 0))) = _; omega
 have e2 : sz [kEND,.sp,nm n,s_dot] = 5 + (nm n).b.length := by simp only [sz_cons,sz_nil]; show 3 + (1 + ((nm n).b.length + (1 + 0))) = _; omega
 have e5 : wt (.node 2 n 0 a [.node 1 ⟨#[]⟩ 0 a1 il,.node 1 ⟨#[]⟩ 0 a2 cl,.node 1 ⟨#[]⟩ 0 a3 tl,.node 1 ⟨#[]⟩ 0 a4 vl,.node 1 ⟨#[]⟩ 0 a5 pl,b]) = 1 + (1 + wtL il) + wt (.node 1 ⟨#[]⟩ 0 a2 cl) + wt (.node 1 ⟨#[]⟩ 0 a3 tl) + wt (.node 1 ⟨#[]⟩ 0 a4 vl) + (1 + wtL pl) + wt b := by simp only [wt,wtL]; omega
 rw [e5]
 omega
end Go.Proofs.YtneohanphabneaaGreatDoor.Pr
namespace Go.Proofs.YtneohanphabneaaGreatDoor.Pr
open Ps Sc
theorem made_few {s : ByteArray} {k n : Nat} {h g : Bool} (hs : Gn.Cs 0 k n h g s) {l : List Tok} (hw : words s.data.toList = .ok l) : Few l := by
 obtain ⟨ws,d,⟨l0,q,h1,h2⟩,hc,_⟩ := hs.words
 unfold words at hw
 split at hw
 ·cases hw
 ·rw [h1] at hw
  injection hw with hw
  subst hw
  refine few_of (d := d) ?_
  rw [List.map_append,h2,cnt_app,hc]
  show cnt d [[]] = some d
  have e1 : sepW ⟨([] : List UInt8).toArray⟩ = false := by decide
  have e2 : opW ⟨([] : List UInt8).toArray⟩ = false := by decide
  unfold cnt
  rw [e1,e2]
  rfl
theorem made_pmod {s : ByteArray} {k n : Nat} {h g : Bool} (hs : Gn.Cs 0 k n h g s) {l : List Tok} {t : Tree} {j : Nat} (hw : words s.data.toList = .ok l) (ht : Ps.tree l = .ok t j) : Pmod t ∧ (txt (module t)).length ≤ 80000000 := by
 obtain ⟨_,hg,hl,hpos⟩ := words_good hw
 have hp := tree_ok hg (made_few hs hw) hpos ht
 refine ⟨hp,?_⟩
 have h1 := module_bd hp
 have h2 := tree_wt ht
 unfold sz at h1
 omega
theorem again {t : Tree} (h : Pmod t) {s : ByteArray} (hs : s.data.toList = txt (module t)) (hl : (txt (module t)).length ≤ 4000) : ∃ l t' j,words s.data.toList = .ok l ∧ Ps.tree l = .ok t' j ∧ strip t' = strip t ∧ Pmod t' ∧ module t' = module t := by
 obtain ⟨l,t',j,h1,h2,h3⟩ := read_back h hs (by rw [hs]; exact hl)
 exact ⟨l,t',j,h1,h2,h3,h.as h3,module_as h3⟩
def smallB : List UInt8 := [77,79,68,85,76,69,32,77,59,32,66,69,71,73,78,32,79,85,84,40,49,41,32,69,78,68,32,77,46]
theorem small_reads : ∃ l t j,words smallB = .ok l ∧ Ps.tree l = .ok t j ∧ nameT t = ⟨#[77]⟩ := by
 have h : (match scanF 29 smallB 0 [] with
  | .ok l => (match Ps.tree l with
   | .ok t _ => decide (nameT t = ⟨#[77]⟩)
   | .bad _ _ => false)
  | _ => false) = true := by decide +kernel
 have hw : words smallB = scanF 29 smallB 0 [] := by
  unfold words
  rw [if_neg (by decide),scan_scanF 29 smallB 0 [] (by decide)]
 cases hl : scanF 29 smallB 0 [] with
 | limit => rw [hl] at h; cases h
 | bad e a => rw [hl] at h; cases h
 | ok l =>
  rw [hl] at h
  simp only at h
  cases ht : Ps.tree l with
  | bad e a => rw [ht] at h; cases h
  | ok t j =>
   rw [ht] at h
   exact ⟨l,t,j,by rw [hw,hl],ht,of_decide_eq_true h⟩
end Go.Proofs.YtneohanphabneaaGreatDoor.Pr
