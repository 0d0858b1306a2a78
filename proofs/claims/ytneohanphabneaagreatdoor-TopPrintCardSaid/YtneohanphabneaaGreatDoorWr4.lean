/-
  Walks of print's texts: expressions. Printed by tools/gen_s.py.
-/
import Derived.Test.YtneohanphabneaaGreatDoorMSh3
namespace Go.Proofs.YtneohanphabneaaGreatDoor
set_option maxRecDepth 100000
set_option maxHeartbeats 2000000
open Go.RowKit Ps
def Tab10 (w : World) : Prop := Lib.TabIs Tryz.prog w "internal/strconv.uint64pow10" .u64 Lib.pow10Tab
theorem Tab10.below {w w' : World} (h : Tab10 w) (hb : Below w.heap.size w w') : Tab10 w' := by
 unfold Tab10 Lib.TabIs World.var? at *
 cases hg : Tryz.prog.globalNamed "internal/strconv.uint64pow10" with
 | none => rw [hg] at h; simp at h
 | some g =>
  rw [hg] at h
  simp only [Option.bind_some] at h ⊢
  have hlt : g < w.heap.size := by
   rcases Nat.lt_or_ge g w.heap.size with h' | h'
   ·exact h'
   ·rw [Array.getElem?_eq_none h'] at h; simp at h
  rw [hb.block g hlt]
  exact h
theorem itoa_says {n : Nat} (hn : n ≤ 2147483647) (w : World) (hW : Tab10 w) : Calls Tryz.prog 139 #[.int .i64 n] w fun e w' => e = .returned (.string (Pr.tx [.w (Pr.dec n)])) ∧ Below w.heap.size w w' := by
 refine (Tryz.strconv_Itoa (n : Int) (by omega) (by omega) w hW).mono ?_
 rintro e w' ⟨rfl,k,os,rfl⟩
 refine ⟨?_,⟨rfl,rfl,rfl,by show w.heap.size ≤ (w.heap ++ os).size; rw [Array.size_append]; omega,fun j hj => Array.getElem?_append_left hj⟩⟩
 have h1 : Lib.itoa (n : Int) = Pr.dec n := by
  unfold Lib.itoa Pr.dec
  rw [if_neg (by omega),Int.toNat_natCast]
 rw [h1]
 have h2 : Pr.txt [.w (Pr.dec n)] = Pr.dec n := by simp [Pr.txt,Pr.Pc.b]
 unfold Pr.tx
 rw [h2]
abbrev ExS (t : Tree) : Prop := ∀ (w : World) (v : Value) (lv : Nat),lv ≤ 3 → Tab10 w → TI w v t → (Pr.tx (Pr.expr t lv)).size ≤ 100000000 → Calls Tryz.prog 89 #[v,.int .i64 lv] w (Say (Pr.expr t lv) w)
theorem say_to {L : List Pr.Pc} {X : ByteArray} {f : FuncId} {xs : Array Value} {w : World} (h : Calls Tryz.prog f xs w (Say L w)) (hX : X = Pr.tx L) : Calls Tryz.prog f xs w fun e w' => e = .returned (.string X) ∧ Below w.heap.size w w' := by
 subst hX
 exact h
abbrev ExC (t : Tree) (i : Int) (X : ByteArray) : Prop := ∀ (w : World) (v : Value),Tab10 w → TI w v t → Calls Tryz.prog 89 #[v,.int .i64 i] w fun e w' => e = .returned (.string X) ∧ Below w.heap.size w w'
theorem ExS.to {t : Tree} (h : ExS t) {lv : Nat} {X : ByteArray} (hX : X = Pr.tx (Pr.expr t lv)) (h3 : lv ≤ 3) (hs : X.size ≤ 100000000) {i : Int} (hi : (lv : Int) = i) : ExC t i X := fun w v hw ht => by
 subst hi
 have := h w v lv h3 hw ht (by rw [← hX]; exact hs)
 unfold Say at this
 rw [← hX] at this
 exact this
theorem joinP_mem (sep : List Pr.Pc) : ∀ (l : List (List Pr.Pc)) (p : List Pr.Pc),p ∈ l → (Pr.txt p).length ≤ (Pr.txt (Pr.joinP sep l)).length
 | [a],p,h => by rw [List.mem_singleton.1 h]; exact Nat.le_refl _
 | a :: b :: r,p,h => by
  show _ ≤ (Pr.txt (a ++ sep ++ Pr.joinP sep (b :: r))).length
  rw [Pr.txt_app,Pr.txt_app,List.length_append,List.length_append]
  rcases List.mem_cons.1 h with rfl | h
  ·omega
  ·have := joinP_mem sep (b :: r) p h
   omega
theorem joinP_len (sep : List Pr.Pc) (hs : 1 ≤ (Pr.txt sep).length) : ∀ (l : List (List Pr.Pc)),l.length ≤ (Pr.txt (Pr.joinP sep l)).length + 1
 | [] => Nat.zero_le _
 | [a] => Nat.le_add_left _ _
 | a :: b :: r => by
  show _ ≤ (Pr.txt (a ++ sep ++ Pr.joinP sep (b :: r))).length + 1
  rw [Pr.txt_app,Pr.txt_app,List.length_append,List.length_append]
  have := joinP_len sep hs (b :: r)
  simp only [List.length_cons] at this ⊢
  omega
theorem arg_says {t : Tree} (ht : ExS t) (hsz : (Pr.tx (Pr.expr t 0)).size ≤ 100000000) (w : World) (v : Value) (hW : Tab10 w) (h : TI w v t) : Calls Tryz.prog 174 #[v] w (Say (Pr.expr t 0) w) := by
 have hT := h
 obtain ⟨k,nm,num,a,ts⟩ := t
 obtain ⟨so,sc,rfl,hsc,hr⟩ := h.node
 have hA := Blk.new w 25 #[.int .i64 k,.string nm,.int .i64 num,.int .i64 a,.slice so ts.length sc]
 have hB : Below w.heap.size w (w.alloc (.cells #[.int .i64 k,.string nm,.int .i64 num,.int .i64 a,.slice so ts.length sc] 25)) := (Below.refl _ _).alloc (Nat.le_refl _) _
 have c1 := ht _ _ 0 (by omega) (hW.below hB) (hT.below hB) hsz
 unfold Say at *
 obtain ⟨X,hX⟩ : ∃ X,X = Pr.tx (Pr.expr (.node k nm num a ts) 0) := ⟨_,rfl⟩
 rw [← hX] at c1 ⊢
 clear ht hW hX hsz hr hT h
 obtain ⟨⟨q1,q2,q3,q4,q5⟩,_⟩ := hA.five
 go_enter Tryz.func174,Tryz.ntmps174
 go_wp2_with fail
 refine c1.mono ?_
 rintro e w2 ⟨rfl,hb⟩
 go_wp2_with fail
 go_ret
 exact ⟨rfl,hB.trans (hb.mono hB.size)⟩
theorem args_says (so : Option Addr) (sc : Nat) (ts : List Tree) (hx : ∀ t ∈ ts,ExS t) (hsz : (Pr.tx (Pr.argsP (ts.map Pr.expr))).size ≤ 100000000) (w : World) (hW : Tab10 w) (hsc : ts.length ≤ sc) (hr : RowAt w so ts) : Calls Tryz.prog 140 #[.slice so ts.length sc] w (Say (Pr.argsP (ts.map Pr.expr)) w) := by
 have e1 : (ts.map Pr.expr).map (fun f => f 0) = ts.map (fun t => Pr.expr t 0) := by rw [List.map_map]; rfl
 have eT : Pr.argsP (ts.map Pr.expr) = [Pr.s_lp] ++ Pr.joinP [Pr.s_comma,.sp] (ts.map fun t => Pr.expr t 0) ++ [Pr.s_rp] := by unfold Pr.argsP; rw [e1]
 rw [eT] at hsz ⊢
 clear eT e1
 rw [Pr.tx_size,Pr.txt_app,Pr.txt_app,List.length_append,List.length_append] at hsz
 have hN : ts.length ≤ 200000000 := by
  have := joinP_len [Pr.s_comma,.sp] (by decide) (ts.map fun t => Pr.expr t 0)
  rw [List.length_map] at this
  have h3 := hsz
  omega
 have hm : ∀ t ∈ ts,(Pr.txt (Pr.expr t 0)).length ≤ (Pr.txt (Pr.joinP [Pr.s_comma,.sp] (ts.map fun t => Pr.expr t 0))).length := fun t ht => joinP_mem _ _ _ (List.mem_map.2 ⟨t,ht,rfl⟩)
 have c1 := join_says 174 (cf_of Tryz.func174 (by kernel_rfl) (by kernel_rfl)) (fun t => Pr.expr t 0) w so sc ts hsc hr hN (fun t ht w' v hb hv => arg_says (hx t ht) (by rw [Pr.tx_size]; have := hm t ht; omega) w' v (hW.below hb) hv) [Pr.s_comma,.sp] (by omega)
 have s1 : (Pr.tx (Pr.joinP [Pr.s_comma,.sp] (ts.map fun t => Pr.expr t 0))).size ≤ 100000000 := by rw [Pr.tx_size]; omega
 unfold Say at *
 rw [Pr.tx_app,Pr.tx_app]
 obtain ⟨X,hX⟩ : ∃ X,X = Pr.tx (Pr.joinP [Pr.s_comma,.sp] (ts.map fun t => Pr.expr t 0)) := ⟨_,rfl⟩
 rw [← hX] at c1 s1 ⊢
 clear hx hX hm hsz hr
 have z1 : ¬ 9223372036854775807 < 1 + X.size := by omega
 have z2 : ¬ 9223372036854775807 < 1 + X.size + 1 := by omega
 go_enter Tryz.func140,Tryz.ntmps140
 go_wp2_with fail
 refine c1.mono ?_
 rintro e w2 ⟨rfl,hb⟩
 go_wp2_with fail
 go_ret
 exact ⟨rfl,hb⟩
theorem eref0_says {a : Nat} {n : ByteArray}  {lv : Nat} (hlv : lv ≤ 3) (_ : lv ≤ 3) (hsz : (Pr.tx (Pr.expr (.node 24 n 0 a []) lv)).size ≤ 100000000) (w : World) (v : Value) (_ : Tab10 w) (h : TI w v (.node 24 n 0 a [])) : Calls Tryz.prog 89 #[v,.int .i64 lv] w (Say (Pr.expr (.node 24 n 0 a []) lv) w) := by
 obtain ⟨so,sc,rfl,hsc,hR⟩ := h.node
 clear h
 change Calls _ _ #[NodeC n 24 0 a so 0 sc,.int .i64 lv] _ _
 have hA := Blk.new w 25 #[.int .i64 24,.string n,.int .i64 0,.int .i64 a,.slice so 0 sc]
 have hB := Below.al w 25 #[.int .i64 24,.string n,.int .i64 0,.int .i64 a,.slice so 0 sc]
 have eT : Pr.expr (.node 24 n 0 a []) lv = [Pr.nm n] := by
  rw [Pr.expr_node,Pr.wrap_no (show lv ≤ Pr.own 24 n from hlv)]
  try first | rfl | (simp only [List.append_assoc]; rfl)
 have eB : Pr.tx ([Pr.nm n]) = n := by
  try simp only [Pr.tx_nm]
  try rfl
 have eX : Pr.tx (Pr.expr (.node 24 n 0 a []) lv) = n := by
  rw [eT,eB]
 rw [eX] at hsz
 unfold Say
 rw [eX]
 clear eT eB eX
 try simp only [ByteArray.size_append] at hsz
 have hS : n.size ≤ 100000000 := by omega
 clear hsz
 have hc : ¬ (3 : Int) < (lv : Int) := by omega
 clear hS hlv
 have qA := hA.five.1
 go_enter Tryz.func89,Tryz.ntmps89
 go_wp2_with fail
 go_ret
 exact ⟨by first | rfl | simp [ByteArray.append_assoc],hB⟩
theorem edot0_says {a : Nat} {d : Tree} {n : ByteArray} (hd : ExS d) {lv : Nat} (hlv : lv ≤ 3) (_ : lv ≤ 3) (hsz : (Pr.tx (Pr.expr (.node 25 n 0 a [d]) lv)).size ≤ 100000000) (w : World) (v : Value) (hW : Tab10 w) (h : TI w v (.node 25 n 0 a [d])) : Calls Tryz.prog 89 #[v,.int .i64 lv] w (Say (Pr.expr (.node 25 n 0 a [d]) lv) w) := by
 obtain ⟨so,sc,rfl,hsc,hR⟩ := h.node
 clear h
 change Calls _ _ #[NodeC n 25 0 a so 1 sc,.int .i64 lv] _ _
 have hA := Blk.new w 25 #[.int .i64 25,.string n,.int .i64 0,.int .i64 a,.slice so 1 sc]
 have hB := Below.al w 25 #[.int .i64 25,.string n,.int .i64 0,.int .i64 a,.slice so 1 sc]
 obtain ⟨X0,hX0⟩ : ∃ X,X = Pr.tx (Pr.expr d 3) := ⟨_,rfl⟩
 have eT : Pr.expr (.node 25 n 0 a [d]) lv = Pr.expr d 3 ++ [Pr.s_dot] ++ [Pr.nm n] := by
  rw [Pr.expr_node,Pr.wrap_no (show lv ≤ Pr.own 25 n from hlv)]
  try first | rfl | (simp only [List.append_assoc]; rfl)
 have eB : Pr.tx (Pr.expr d 3 ++ [Pr.s_dot] ++ [Pr.nm n]) = X0 ++ (⟨#[46]⟩ : ByteArray) ++ n := by
  try simp only [Pr.tx_app,Pr.tx_nm,← hX0]
  try rfl
 have eX : Pr.tx (Pr.expr (.node 25 n 0 a [d]) lv) = X0 ++ (⟨#[46]⟩ : ByteArray) ++ n := by
  rw [eT,eB]
 rw [eX] at hsz
 unfold Say
 rw [eX]
 clear eT eB eX
 try simp only [ByteArray.size_append] at hsz
 have : (⟨#[46]⟩ : ByteArray).size = 1 := rfl
 have hS : X0.size + 1 + n.size ≤ 100000000 := by omega
 have hC0 : ExC d 3 X0 := hd.to hX0 (by omega) (by omega) rfl
 clear hsz hX0 hd
 have z1 : ¬ 9223372036854775807 < X0.size + 1 := by omega
 have z2 : ¬ 9223372036854775807 < X0.size + 1 + n.size := by omega
 have hc : ¬ (3 : Int) < (lv : Int) := by omega
 clear hS hlv
 obtain ⟨g,o,k0,n0,m0,a0,s0,u0,c0,rfl,hg,-,f0,t0⟩ := hR.at0
 have qA := hA.five.1
 have q0 := (f0.below hB hg).c0
 go_enter Tryz.func89,Tryz.ntmps89
 go_wp2_with fail
 replace hA := hA.below (drew_below _) hA.lt
 replace hB := hB.drew
 clear qA q0
 refine Ch.wp_region_tree (fun u => Blk u w.heap.size 25 #[.int .i64 25,.string n,.int .i64 0,.int .i64 a,.slice (some ⟨g,o,none⟩) 1 sc] ∧ Below w.heap.size w u) [1,3,7] [] (.take 0 (.take 1 (.take 2 (.take 3 (.take 6 (.take 7 (.one 4 (.take 5 (.take 8 (.take 9 .done)))))))))) (by kernel_rfl) (by kernel_rfl) (fun _ _ d _ _ h => by cases d <;> first | exact h | exact ⟨h.1,h.2.drew⟩) ⟨hA,hB⟩ ?_
 repeat
  first
  | refine Ch.treeT_take rfl (by rfl) (by rfl) (fun u => by go_simp; rfl) ?_
  | refine Ch.treeT_load rfl (by rfl) (by rfl) (fun u ⟨hA,hB⟩ => by have qA := (Blk.five hA).1; have q0 := (f0.below hB hg).c0; go_simp; rfl) ?_
  try simp only [putq]
 refine Ch.treeT_mid rfl (by rfl) (fun K hKK => ?_)
 go_simp
 refine (hC0 _ _ (hW.below hB) (t0.below hB)).mono ?_
 rintro e w3 ⟨rfl,hb⟩
 replace hA := hA.below hb hA.lt
 replace hB := hB.trans (hb.mono hB.size)
 clear hb
 refine hKK _ _ ⟨hA,hB⟩ ?_
 clear hKK K
 try simp only [putq]
 repeat
  refine Ch.treeT_take rfl (by rfl) (by rfl) (fun u => by go_simp; rfl) ?_
  try simp only [putq]
 refine Ch.tree_end ?_
 have qA := hA.five.1
 have q0 := (f0.below hB hg).c0
 go_wp2_with fail
 go_ret
 exact ⟨by first | rfl | simp [ByteArray.append_assoc],hB⟩
theorem eindex0_says {a : Nat} {d x : Tree} (hd : ExS d) (hx : ExS x) {lv : Nat} (hlv : lv ≤ 3) (_ : lv ≤ 3) (hsz : (Pr.tx (Pr.expr (.node 26 ⟨#[]⟩ 0 a [d,x]) lv)).size ≤ 100000000) (w : World) (v : Value) (hW : Tab10 w) (h : TI w v (.node 26 ⟨#[]⟩ 0 a [d,x])) : Calls Tryz.prog 89 #[v,.int .i64 lv] w (Say (Pr.expr (.node 26 ⟨#[]⟩ 0 a [d,x]) lv) w) := by
 obtain ⟨so,sc,rfl,hsc,hR⟩ := h.node
 clear h
 change Calls _ _ #[NodeC ⟨#[]⟩ 26 0 a so 2 sc,.int .i64 lv] _ _
 have hA := Blk.new w 25 #[.int .i64 26,.string ⟨#[]⟩,.int .i64 0,.int .i64 a,.slice so 2 sc]
 have hB := Below.al w 25 #[.int .i64 26,.string ⟨#[]⟩,.int .i64 0,.int .i64 a,.slice so 2 sc]
 obtain ⟨X0,hX0⟩ : ∃ X,X = Pr.tx (Pr.expr d 3) := ⟨_,rfl⟩
 obtain ⟨X1,hX1⟩ : ∃ X,X = Pr.tx (Pr.expr x 0) := ⟨_,rfl⟩
 have eT : Pr.expr (.node 26 ⟨#[]⟩ 0 a [d,x]) lv = Pr.expr d 3 ++ [Pr.s_lb] ++ Pr.expr x 0 ++ [Pr.s_rb] := by
  rw [Pr.expr_node,Pr.wrap_no (show lv ≤ Pr.own 26 ⟨#[]⟩ from hlv)]
  try first | rfl | (simp only [List.append_assoc]; rfl)
 have eB : Pr.tx (Pr.expr d 3 ++ [Pr.s_lb] ++ Pr.expr x 0 ++ [Pr.s_rb]) = X0 ++ (⟨#[91]⟩ : ByteArray) ++ X1 ++ (⟨#[93]⟩ : ByteArray) := by
  try simp only [Pr.tx_app,← hX0,← hX1]
  try rfl
 have eX : Pr.tx (Pr.expr (.node 26 ⟨#[]⟩ 0 a [d,x]) lv) = X0 ++ (⟨#[91]⟩ : ByteArray) ++ X1 ++ (⟨#[93]⟩ : ByteArray) := by
  rw [eT,eB]
 rw [eX] at hsz
 unfold Say
 rw [eX]
 clear eT eB eX
 try simp only [ByteArray.size_append] at hsz
 have : (⟨#[91]⟩ : ByteArray).size = 1 := rfl
 have : (⟨#[93]⟩ : ByteArray).size = 1 := rfl
 have hS : X0.size + 1 + X1.size + 1 ≤ 100000000 := by omega
 have hC0 : ExC d 3 X0 := hd.to hX0 (by omega) (by omega) rfl
 have hC1 : ExC x 0 X1 := hx.to hX1 (by omega) (by omega) rfl
 clear hsz hX0 hX1 hd hx
 have z1 : ¬ 9223372036854775807 < X0.size + 1 := by omega
 have z2 : ¬ 9223372036854775807 < X0.size + 1 + X1.size := by omega
 have z3 : ¬ 9223372036854775807 < X0.size + 1 + X1.size + 1 := by omega
 have hc : ¬ (3 : Int) < (lv : Int) := by omega
 clear hS hlv
 obtain ⟨g,o,k0,n0,m0,a0,s0,u0,c0,rfl,hg,-,f0,t0⟩ := hR.at0
 obtain ⟨k1,n1,m1,a1,s1,u1,c1,-,f1,t1⟩ := hR.at1
 have qA := hA.five.1
 have q0 := (f0.below hB hg).c0
 have q1 := (f1.below hB hg).c5
 go_enter Tryz.func89,Tryz.ntmps89
 go_wp2_with fail
 replace hA := hA.below (drew_below _) hA.lt
 replace hB := hB.drew
 clear qA q0 q1
 refine Ch.wp_region_tree (fun u => Blk u w.heap.size 25 #[.int .i64 26,.string ⟨#[]⟩,.int .i64 0,.int .i64 a,.slice (some ⟨g,o,none⟩) 2 sc] ∧ Below w.heap.size w u) [1,3,7,9] [] (.take 0 (.take 1 (.take 2 (.take 3 (.take 6 (.take 7 (.take 8 (.take 9 (.one 4 (.take 5 (.one 10 (.take 11 (.take 12 (.take 13 .done)))))))))))))) (by kernel_rfl) (by kernel_rfl) (fun _ _ d _ _ h => by cases d <;> first | exact h | exact ⟨h.1,h.2.drew⟩) ⟨hA,hB⟩ ?_
 repeat
  first
  | refine Ch.treeT_take rfl (by rfl) (by rfl) (fun u => by go_simp; rfl) ?_
  | refine Ch.treeT_load rfl (by rfl) (by rfl) (fun u ⟨hA,hB⟩ => by have qA := (Blk.five hA).1; have q0 := (f0.below hB hg).c0; have q1 := (f1.below hB hg).c5; go_simp; rfl) ?_
  try simp only [putq]
 refine Ch.treeT_mid rfl (by rfl) (fun K hKK => ?_)
 go_simp
 refine (hC0 _ _ (hW.below hB) (t0.below hB)).mono ?_
 rintro e w4 ⟨rfl,hb⟩
 replace hA := hA.below hb hA.lt
 replace hB := hB.trans (hb.mono hB.size)
 clear hb
 refine hKK _ _ ⟨hA,hB⟩ ?_
 clear hKK K
 try simp only [putq]
 refine Ch.treeT_take rfl (by rfl) (by rfl) (fun u => by go_simp; rfl) ?_
 try simp only [putq]
 refine Ch.treeT_mid rfl (by rfl) (fun K hKK => ?_)
 go_simp
 refine (hC1 _ _ (hW.below hB) (t1.below hB)).mono ?_
 rintro e w5 ⟨rfl,hb⟩
 replace hA := hA.below hb hA.lt
 replace hB := hB.trans (hb.mono hB.size)
 clear hb
 refine hKK _ _ ⟨hA,hB⟩ ?_
 clear hKK K
 try simp only [putq]
 repeat
  refine Ch.treeT_take rfl (by rfl) (by rfl) (fun u => by go_simp; rfl) ?_
  try simp only [putq]
 refine Ch.tree_end ?_
 have qA := hA.five.1
 have q0 := (f0.below hB hg).c0
 have q1 := (f1.below hB hg).c5
 go_wp2_with fail
 go_ret
 exact ⟨by first | rfl | simp [ByteArray.append_assoc],hB⟩
theorem ehat0_says {a : Nat} {d : Tree} (hd : ExS d) {lv : Nat} (hlv : lv ≤ 3) (_ : lv ≤ 3) (hsz : (Pr.tx (Pr.expr (.node 27 ⟨#[]⟩ 0 a [d]) lv)).size ≤ 100000000) (w : World) (v : Value) (hW : Tab10 w) (h : TI w v (.node 27 ⟨#[]⟩ 0 a [d])) : Calls Tryz.prog 89 #[v,.int .i64 lv] w (Say (Pr.expr (.node 27 ⟨#[]⟩ 0 a [d]) lv) w) := by
 obtain ⟨so,sc,rfl,hsc,hR⟩ := h.node
 clear h
 change Calls _ _ #[NodeC ⟨#[]⟩ 27 0 a so 1 sc,.int .i64 lv] _ _
 have hA := Blk.new w 25 #[.int .i64 27,.string ⟨#[]⟩,.int .i64 0,.int .i64 a,.slice so 1 sc]
 have hB := Below.al w 25 #[.int .i64 27,.string ⟨#[]⟩,.int .i64 0,.int .i64 a,.slice so 1 sc]
 obtain ⟨X0,hX0⟩ : ∃ X,X = Pr.tx (Pr.expr d 3) := ⟨_,rfl⟩
 have eT : Pr.expr (.node 27 ⟨#[]⟩ 0 a [d]) lv = Pr.expr d 3 ++ [Pr.s_hat] := by
  rw [Pr.expr_node,Pr.wrap_no (show lv ≤ Pr.own 27 ⟨#[]⟩ from hlv)]
  try first | rfl | (simp only [List.append_assoc]; rfl)
 have eB : Pr.tx (Pr.expr d 3 ++ [Pr.s_hat]) = X0 ++ (⟨#[94]⟩ : ByteArray) := by
  try simp only [Pr.tx_app,← hX0]
  try rfl
 have eX : Pr.tx (Pr.expr (.node 27 ⟨#[]⟩ 0 a [d]) lv) = X0 ++ (⟨#[94]⟩ : ByteArray) := by
  rw [eT,eB]
 rw [eX] at hsz
 unfold Say
 rw [eX]
 clear eT eB eX
 try simp only [ByteArray.size_append] at hsz
 have : (⟨#[94]⟩ : ByteArray).size = 1 := rfl
 have hS : X0.size + 1 ≤ 100000000 := by omega
 have hC0 : ExC d 3 X0 := hd.to hX0 (by omega) (by omega) rfl
 clear hsz hX0 hd
 have z1 : ¬ 9223372036854775807 < X0.size + 1 := by omega
 have hc : ¬ (3 : Int) < (lv : Int) := by omega
 clear hS hlv
 obtain ⟨g,o,k0,n0,m0,a0,s0,u0,c0,rfl,hg,-,f0,t0⟩ := hR.at0
 have qA := hA.five.1
 have q0 := (f0.below hB hg).c0
 go_enter Tryz.func89,Tryz.ntmps89
 go_wp2_with fail
 refine (hC0 _ _ (hW.below hB) (t0.below hB)).mono ?_
 rintro e w2 ⟨rfl,hb⟩
 clear qA q0
 replace hA := hA.below hb hA.lt
 replace hB := hB.trans (hb.mono hB.size)
 clear hb
 have qA := hA.five.1
 have q0 := (f0.below hB hg).c0
 go_wp2_with fail
 go_ret
 exact ⟨by first | rfl | simp [ByteArray.append_assoc],hB⟩
theorem eguard0_says {a : Nat} {d y : Tree} (hd : ExS d) (hy : Pr.PT y) {lv : Nat} (hlv : lv ≤ 3) (_ : lv ≤ 3) (hsz : (Pr.tx (Pr.expr (.node 28 ⟨#[]⟩ 0 a [d,y]) lv)).size ≤ 100000000) (w : World) (v : Value) (hW : Tab10 w) (h : TI w v (.node 28 ⟨#[]⟩ 0 a [d,y])) : Calls Tryz.prog 89 #[v,.int .i64 lv] w (Say (Pr.expr (.node 28 ⟨#[]⟩ 0 a [d,y]) lv) w) := by
 obtain ⟨so,sc,rfl,hsc,hR⟩ := h.node
 clear h
 change Calls _ _ #[NodeC ⟨#[]⟩ 28 0 a so 2 sc,.int .i64 lv] _ _
 have hA := Blk.new w 25 #[.int .i64 28,.string ⟨#[]⟩,.int .i64 0,.int .i64 a,.slice so 2 sc]
 have hB := Below.al w 25 #[.int .i64 28,.string ⟨#[]⟩,.int .i64 0,.int .i64 a,.slice so 2 sc]
 obtain ⟨X0,hX0⟩ : ∃ X,X = Pr.tx (Pr.expr d 3) := ⟨_,rfl⟩
 obtain ⟨X1,hX1⟩ : ∃ X,X = Pr.tx (Pr.typeName y) := ⟨_,rfl⟩
 have eT : Pr.expr (.node 28 ⟨#[]⟩ 0 a [d,y]) lv = Pr.expr d 3 ++ [Pr.s_lc] ++ Pr.typeName y ++ [Pr.s_rc] := by
  rw [Pr.expr_node,Pr.wrap_no (show lv ≤ Pr.own 28 ⟨#[]⟩ from hlv)]
  try first | rfl | (simp only [List.append_assoc]; rfl)
 have eB : Pr.tx (Pr.expr d 3 ++ [Pr.s_lc] ++ Pr.typeName y ++ [Pr.s_rc]) = X0 ++ (⟨#[123]⟩ : ByteArray) ++ X1 ++ (⟨#[125]⟩ : ByteArray) := by
  try simp only [Pr.tx_app,← hX0,← hX1]
  try rfl
 have eX : Pr.tx (Pr.expr (.node 28 ⟨#[]⟩ 0 a [d,y]) lv) = X0 ++ (⟨#[123]⟩ : ByteArray) ++ X1 ++ (⟨#[125]⟩ : ByteArray) := by
  rw [eT,eB]
 rw [eX] at hsz
 unfold Say
 rw [eX]
 clear eT eB eX
 try simp only [ByteArray.size_append] at hsz
 have : (⟨#[123]⟩ : ByteArray).size = 1 := rfl
 have : (⟨#[125]⟩ : ByteArray).size = 1 := rfl
 have hS : X0.size + 1 + X1.size + 1 ≤ 100000000 := by omega
 have hC0 : ExC d 3 X0 := hd.to hX0 (by omega) (by omega) rfl
 have hC1 : ∀ (w : World) (v : Value),Tab10 w → TI w v y → Calls Tryz.prog 138 #[v] w fun e w' => e = .returned (.string X1) ∧ Below w.heap.size w w' := fun w v _ ht => say_to (typeName_says hy w v ht) hX1
 clear hsz hX0 hX1 hd hy
 have z1 : ¬ 9223372036854775807 < X0.size + 1 := by omega
 have z2 : ¬ 9223372036854775807 < X0.size + 1 + X1.size := by omega
 have z3 : ¬ 9223372036854775807 < X0.size + 1 + X1.size + 1 := by omega
 have hc : ¬ (3 : Int) < (lv : Int) := by omega
 clear hS hlv
 obtain ⟨g,o,k0,n0,m0,a0,s0,u0,c0,rfl,hg,-,f0,t0⟩ := hR.at0
 obtain ⟨k1,n1,m1,a1,s1,u1,c1,-,f1,t1⟩ := hR.at1
 have qA := hA.five.1
 have q0 := (f0.below hB hg).c0
 have q1 := (f1.below hB hg).c5
 go_enter Tryz.func89,Tryz.ntmps89
 go_wp2_with fail
 replace hA := hA.below (drew_below _) hA.lt
 replace hB := hB.drew
 clear qA q0 q1
 refine Ch.wp_region_tree (fun u => Blk u w.heap.size 25 #[.int .i64 28,.string ⟨#[]⟩,.int .i64 0,.int .i64 a,.slice (some ⟨g,o,none⟩) 2 sc] ∧ Below w.heap.size w u) [1,3,7,9] [] (.take 0 (.take 1 (.take 2 (.take 3 (.take 6 (.take 7 (.take 8 (.take 9 (.one 4 (.take 5 (.one 10 (.take 11 (.take 12 (.take 13 .done)))))))))))))) (by kernel_rfl) (by kernel_rfl) (fun _ _ d _ _ h => by cases d <;> first | exact h | exact ⟨h.1,h.2.drew⟩) ⟨hA,hB⟩ ?_
 repeat
  first
  | refine Ch.treeT_take rfl (by rfl) (by rfl) (fun u => by go_simp; rfl) ?_
  | refine Ch.treeT_load rfl (by rfl) (by rfl) (fun u ⟨hA,hB⟩ => by have qA := (Blk.five hA).1; have q0 := (f0.below hB hg).c0; have q1 := (f1.below hB hg).c5; go_simp; rfl) ?_
  try simp only [putq]
 refine Ch.treeT_mid rfl (by rfl) (fun K hKK => ?_)
 go_simp
 refine (hC0 _ _ (hW.below hB) (t0.below hB)).mono ?_
 rintro e w4 ⟨rfl,hb⟩
 replace hA := hA.below hb hA.lt
 replace hB := hB.trans (hb.mono hB.size)
 clear hb
 refine hKK _ _ ⟨hA,hB⟩ ?_
 clear hKK K
 try simp only [putq]
 refine Ch.treeT_take rfl (by rfl) (by rfl) (fun u => by go_simp; rfl) ?_
 try simp only [putq]
 refine Ch.treeT_mid rfl (by rfl) (fun K hKK => ?_)
 go_simp
 refine (hC1 _ _ (hW.below hB) (t1.below hB)).mono ?_
 rintro e w5 ⟨rfl,hb⟩
 replace hA := hA.below hb hA.lt
 replace hB := hB.trans (hb.mono hB.size)
 clear hb
 refine hKK _ _ ⟨hA,hB⟩ ?_
 clear hKK K
 try simp only [putq]
 repeat
  refine Ch.treeT_take rfl (by rfl) (by rfl) (fun u => by go_simp; rfl) ?_
  try simp only [putq]
 refine Ch.tree_end ?_
 have qA := hA.five.1
 have q0 := (f0.below hB hg).c0
 have q1 := (f1.below hB hg).c5
 go_wp2_with fail
 go_ret
 exact ⟨by first | rfl | simp [ByteArray.append_assoc],hB⟩
theorem enum0_says {a : Nat} {m : Nat} (hm : m ≤ 2147483647) {lv : Nat} (hlv : lv ≤ 3) (_ : lv ≤ 3) (hsz : (Pr.tx (Pr.expr (.node 29 ⟨#[]⟩ m a []) lv)).size ≤ 100000000) (w : World) (v : Value) (hW : Tab10 w) (h : TI w v (.node 29 ⟨#[]⟩ m a [])) : Calls Tryz.prog 89 #[v,.int .i64 lv] w (Say (Pr.expr (.node 29 ⟨#[]⟩ m a []) lv) w) := by
 obtain ⟨so,sc,rfl,hsc,hR⟩ := h.node
 clear h
 change Calls _ _ #[NodeC ⟨#[]⟩ 29 m a so 0 sc,.int .i64 lv] _ _
 have hA := Blk.new w 25 #[.int .i64 29,.string ⟨#[]⟩,.int .i64 m,.int .i64 a,.slice so 0 sc]
 have hB := Below.al w 25 #[.int .i64 29,.string ⟨#[]⟩,.int .i64 m,.int .i64 a,.slice so 0 sc]
 obtain ⟨X0,hX0⟩ : ∃ X,X = Pr.tx ([Pr.Pc.w (Pr.dec m)]) := ⟨_,rfl⟩
 have eT : Pr.expr (.node 29 ⟨#[]⟩ m a []) lv = [Pr.Pc.w (Pr.dec m)] := by
  rw [Pr.expr_node,Pr.wrap_no (show lv ≤ Pr.own 29 ⟨#[]⟩ from hlv)]
  try first | rfl | (simp only [List.append_assoc]; rfl)
 have eB : Pr.tx ([Pr.Pc.w (Pr.dec m)]) = X0 := by
  try simp only [← hX0]
  try rfl
 have eX : Pr.tx (Pr.expr (.node 29 ⟨#[]⟩ m a []) lv) = X0 := by
  rw [eT,eB]
 rw [eX] at hsz
 unfold Say
 rw [eX]
 clear eT eB eX
 try simp only [ByteArray.size_append] at hsz
 have hS : X0.size ≤ 100000000 := by omega
 have hC0 : ∀ (w : World),Tab10 w → Calls Tryz.prog 139 #[.int .i64 m] w fun e w' => e = .returned (.string X0) ∧ Below w.heap.size w w' := fun w hw => say_to (itoa_says hm w hw) hX0
 clear hsz hX0 hm
 have hc : ¬ (3 : Int) < (lv : Int) := by omega
 clear hS hlv
 have qA := hA.five.1
 go_enter Tryz.func89,Tryz.ntmps89
 go_wp2_with fail
 refine (hC0 _ (hW.below hB)).mono ?_
 rintro e w1 ⟨rfl,hb⟩
 clear qA
 replace hA := hA.below hb hA.lt
 replace hB := hB.trans (hb.mono hB.size)
 clear hb
 have qA := hA.five.1
 go_wp2_with fail
 go_ret
 exact ⟨by first | rfl | simp [ByteArray.append_assoc],hB⟩
theorem eatom300_says {a : Nat}  {lv : Nat} (hlv : lv ≤ 3) (_ : lv ≤ 3) (_ : (Pr.tx (Pr.expr (.node 30 ⟨#[]⟩ 0 a []) lv)).size ≤ 100000000) (w : World) (v : Value) (_ : Tab10 w) (h : TI w v (.node 30 ⟨#[]⟩ 0 a [])) : Calls Tryz.prog 89 #[v,.int .i64 lv] w (Say (Pr.expr (.node 30 ⟨#[]⟩ 0 a []) lv) w) := by
 obtain ⟨so,sc,rfl,hsc,hR⟩ := h.node
 clear h
 change Calls _ _ #[NodeC ⟨#[]⟩ 30 0 a so 0 sc,.int .i64 lv] _ _
 have hA := Blk.new w 25 #[.int .i64 30,.string ⟨#[]⟩,.int .i64 0,.int .i64 a,.slice so 0 sc]
 have hB := Below.al w 25 #[.int .i64 30,.string ⟨#[]⟩,.int .i64 0,.int .i64 a,.slice so 0 sc]
 have eT : Pr.expr (.node 30 ⟨#[]⟩ 0 a []) lv = [Pr.kTRUE] := by
  rw [Pr.expr_node,Pr.wrap_no (show lv ≤ Pr.own 30 ⟨#[]⟩ from hlv)]
  try first | rfl | (simp only [List.append_assoc]; rfl)
 have eB : Pr.tx ([Pr.kTRUE]) = (⟨#[84,82,85,69]⟩ : ByteArray) := by
  try simp only [Pr.tx_app,Pr.tx_nm]
  try rfl
 have eX : Pr.tx (Pr.expr (.node 30 ⟨#[]⟩ 0 a []) lv) = (⟨#[84,82,85,69]⟩ : ByteArray) := by
  rw [eT,eB]
 unfold Say
 rw [eX]
 clear eT eB eX
 have : (⟨#[84,82,85,69]⟩ : ByteArray).size = 4 := rfl
 have hS : 4 ≤ 100000000 := by omega
 have hc : ¬ (3 : Int) < (lv : Int) := by omega
 clear hS hlv
 have qA := hA.five.1
 go_enter Tryz.func89,Tryz.ntmps89
 go_wp2_with fail
 go_ret
 exact ⟨by first | rfl | simp [ByteArray.append_assoc],hB⟩
theorem eatom310_says {a : Nat}  {lv : Nat} (hlv : lv ≤ 3) (_ : lv ≤ 3) (_ : (Pr.tx (Pr.expr (.node 31 ⟨#[]⟩ 0 a []) lv)).size ≤ 100000000) (w : World) (v : Value) (_ : Tab10 w) (h : TI w v (.node 31 ⟨#[]⟩ 0 a [])) : Calls Tryz.prog 89 #[v,.int .i64 lv] w (Say (Pr.expr (.node 31 ⟨#[]⟩ 0 a []) lv) w) := by
 obtain ⟨so,sc,rfl,hsc,hR⟩ := h.node
 clear h
 change Calls _ _ #[NodeC ⟨#[]⟩ 31 0 a so 0 sc,.int .i64 lv] _ _
 have hA := Blk.new w 25 #[.int .i64 31,.string ⟨#[]⟩,.int .i64 0,.int .i64 a,.slice so 0 sc]
 have hB := Below.al w 25 #[.int .i64 31,.string ⟨#[]⟩,.int .i64 0,.int .i64 a,.slice so 0 sc]
 have eT : Pr.expr (.node 31 ⟨#[]⟩ 0 a []) lv = [Pr.kFALSE] := by
  rw [Pr.expr_node,Pr.wrap_no (show lv ≤ Pr.own 31 ⟨#[]⟩ from hlv)]
  try first | rfl | (simp only [List.append_assoc]; rfl)
 have eB : Pr.tx ([Pr.kFALSE]) = (⟨#[70,65,76,83,69]⟩ : ByteArray) := by
  try simp only [Pr.tx_app,Pr.tx_nm]
  try rfl
 have eX : Pr.tx (Pr.expr (.node 31 ⟨#[]⟩ 0 a []) lv) = (⟨#[70,65,76,83,69]⟩ : ByteArray) := by
  rw [eT,eB]
 unfold Say
 rw [eX]
 clear eT eB eX
 have : (⟨#[70,65,76,83,69]⟩ : ByteArray).size = 5 := rfl
 have hS : 5 ≤ 100000000 := by omega
 have hc : ¬ (3 : Int) < (lv : Int) := by omega
 clear hS hlv
 have qA := hA.five.1
 go_enter Tryz.func89,Tryz.ntmps89
 go_wp2_with fail
 go_ret
 exact ⟨by first | rfl | simp [ByteArray.append_assoc],hB⟩
theorem eatom320_says {a : Nat}  {lv : Nat} (hlv : lv ≤ 3) (_ : lv ≤ 3) (_ : (Pr.tx (Pr.expr (.node 32 ⟨#[]⟩ 0 a []) lv)).size ≤ 100000000) (w : World) (v : Value) (_ : Tab10 w) (h : TI w v (.node 32 ⟨#[]⟩ 0 a [])) : Calls Tryz.prog 89 #[v,.int .i64 lv] w (Say (Pr.expr (.node 32 ⟨#[]⟩ 0 a []) lv) w) := by
 obtain ⟨so,sc,rfl,hsc,hR⟩ := h.node
 clear h
 change Calls _ _ #[NodeC ⟨#[]⟩ 32 0 a so 0 sc,.int .i64 lv] _ _
 have hA := Blk.new w 25 #[.int .i64 32,.string ⟨#[]⟩,.int .i64 0,.int .i64 a,.slice so 0 sc]
 have hB := Below.al w 25 #[.int .i64 32,.string ⟨#[]⟩,.int .i64 0,.int .i64 a,.slice so 0 sc]
 have eT : Pr.expr (.node 32 ⟨#[]⟩ 0 a []) lv = [Pr.kNIL] := by
  rw [Pr.expr_node,Pr.wrap_no (show lv ≤ Pr.own 32 ⟨#[]⟩ from hlv)]
  try first | rfl | (simp only [List.append_assoc]; rfl)
 have eB : Pr.tx ([Pr.kNIL]) = (⟨#[78,73,76]⟩ : ByteArray) := by
  try simp only [Pr.tx_app,Pr.tx_nm]
  try rfl
 have eX : Pr.tx (Pr.expr (.node 32 ⟨#[]⟩ 0 a []) lv) = (⟨#[78,73,76]⟩ : ByteArray) := by
  rw [eT,eB]
 unfold Say
 rw [eX]
 clear eT eB eX
 have : (⟨#[78,73,76]⟩ : ByteArray).size = 3 := rfl
 have hS : 3 ≤ 100000000 := by omega
 have hc : ¬ (3 : Int) < (lv : Int) := by omega
 clear hS hlv
 have qA := hA.five.1
 go_enter Tryz.func89,Tryz.ntmps89
 go_wp2_with fail
 go_ret
 exact ⟨by first | rfl | simp [ByteArray.append_assoc],hB⟩
theorem ecall0_says {a : Nat} {d : Tree} {ts : List Tree} (hd : ExS d) (hts : ∀ t ∈ ts,ExS t) {lv : Nat} (hlv : lv ≤ 3) (_ : lv ≤ 3) (hsz : (Pr.tx (Pr.expr (.node 33 ⟨#[]⟩ 0 a (d :: ts)) lv)).size ≤ 100000000) (w : World) (v : Value) (hW : Tab10 w) (h : TI w v (.node 33 ⟨#[]⟩ 0 a (d :: ts))) : Calls Tryz.prog 89 #[v,.int .i64 lv] w (Say (Pr.expr (.node 33 ⟨#[]⟩ 0 a (d :: ts)) lv) w) := by
 obtain ⟨so,sc,rfl,hsc,hR⟩ := h.node
 clear h
 change Calls _ _ #[NodeC ⟨#[]⟩ 33 0 a so (ts.length + 1) sc,.int .i64 lv] _ _
 have hA := Blk.new w 25 #[.int .i64 33,.string ⟨#[]⟩,.int .i64 0,.int .i64 a,.slice so (ts.length + 1) sc]
 have hB := Below.al w 25 #[.int .i64 33,.string ⟨#[]⟩,.int .i64 0,.int .i64 a,.slice so (ts.length + 1) sc]
 obtain ⟨X0,hX0⟩ : ∃ X,X = Pr.tx (Pr.expr d 3) := ⟨_,rfl⟩
 obtain ⟨X1,hX1⟩ : ∃ X,X = Pr.tx (Pr.argsP (ts.map Pr.expr)) := ⟨_,rfl⟩
 have eT : Pr.expr (.node 33 ⟨#[]⟩ 0 a (d :: ts)) lv = Pr.expr d 3 ++ Pr.argsP (ts.map Pr.expr) := by
  rw [Pr.expr_node,Pr.wrap_no (show lv ≤ Pr.own 33 ⟨#[]⟩ from hlv)]
  try first | rfl | (simp only [List.append_assoc]; rfl)
 have eB : Pr.tx (Pr.expr d 3 ++ Pr.argsP (ts.map Pr.expr)) = X0 ++ X1 := by
  try simp only [Pr.tx_app,← hX0,← hX1]
  try rfl
 have eX : Pr.tx (Pr.expr (.node 33 ⟨#[]⟩ 0 a (d :: ts)) lv) = X0 ++ X1 := by
  rw [eT,eB]
 rw [eX] at hsz
 unfold Say
 rw [eX]
 clear eT eB eX
 try simp only [ByteArray.size_append] at hsz
 have hS : X0.size + X1.size ≤ 100000000 := by omega
 have hC0 : ExC d 3 X0 := hd.to hX0 (by omega) (by omega) rfl
 have hC1 : ∀ (w : World) (so : Option Addr) (sc : Nat),ts.length ≤ sc → Tab10 w → RowAt w so ts → Calls Tryz.prog 140 #[.slice so ts.length sc] w fun e w' => e = .returned (.string X1) ∧ Below w.heap.size w w' := fun w so sc h1 hw ht => say_to (args_says so sc ts hts (by rw [← hX1]; omega) w hw h1 ht) hX1
 clear hsz hX0 hX1 hd hts
 have z1 : ¬ 9223372036854775807 < X0.size + X1.size := by omega
 have hc : ¬ (3 : Int) < (lv : Int) := by omega
 clear hS hlv
 obtain ⟨g,o,k0,n0,m0,a0,s0,u0,c0,rfl,hg,-,f0,t0⟩ := hR.at0
 have hT := hR.tail
 clear hR
 have hmx := hT.max
 replace hsc : ts.length + 1 ≤ sc := hsc
 have hl0 : (0 : Int) < ((ts.length + 1 : Nat) : Int) := by omega
 rcases Nat.lt_or_ge 1 sc with h1 | h1
 ·have h2 : (1 : Int) < (sc : Int) := by omega
  have h3 : (1 : Int) ≤ (ts.length : Int) + 1 := by omega
  have h4 : ¬ sc = 1 := by omega
  have qA := hA.five.1
  have q0 := (f0.below hB hg).c0
  go_enter Tryz.func89,Tryz.ntmps89
  go_wp2_with fail
  replace hA := hA.below (drew_below _) hA.lt
  replace hB := hB.drew
  clear qA q0
  refine Ch.wp_region_tree (fun u => Blk u w.heap.size 25 #[.int .i64 33,.string ⟨#[]⟩,.int .i64 0,.int .i64 a,.slice (some ⟨g,o,none⟩) (ts.length + 1) sc] ∧ Below w.heap.size w u) [1,3,6] [] (.take 0 (.take 1 (.take 2 (.take 3 (.take 5 (.take 6 (.take 7 (.one 4 (.one 8 (.take 9 (.take 10 .done))))))))))) (by kernel_rfl) (by kernel_rfl) (fun _ _ d _ _ h => by cases d <;> first | exact h | exact ⟨h.1,h.2.drew⟩) ⟨hA,hB⟩ ?_
  repeat
   first
   | refine Ch.treeT_take rfl (by rfl) (by rfl) (fun u => by go_simp; rfl) ?_
   | refine Ch.treeT_load rfl (by rfl) (by rfl) (fun u ⟨hA,hB⟩ => by have qA := (Blk.five hA).1; have q0 := (f0.below hB hg).c0; go_simp; rfl) ?_
   try simp only [putq]
  refine Ch.treeT_mid rfl (by rfl) (fun K hKK => ?_)
  go_simp
  refine (hC0 _ _ (hW.below hB) (t0.below hB)).mono ?_
  rintro e w2 ⟨rfl,hb⟩
  replace hA := hA.below hb hA.lt
  replace hB := hB.trans (hb.mono hB.size)
  clear hb
  refine hKK _ _ ⟨hA,hB⟩ ?_
  clear hKK K
  try simp only [putq]
  refine Ch.treeT_mid rfl (by rfl) (fun K hKK => ?_)
  go_simp
  refine (hC1 _ (some ⟨g,o + 5,none⟩) (sc - 1) (by omega) (hW.below hB) (hT.below hB)).mono ?_
  rintro e w3 ⟨rfl,hb⟩
  replace hA := hA.below hb hA.lt
  replace hB := hB.trans (hb.mono hB.size)
  clear hb
  refine hKK _ _ ⟨hA,hB⟩ ?_
  clear hKK K
  try simp only [putq]
  repeat
   refine Ch.treeT_take rfl (by rfl) (by rfl) (fun u => by go_simp; rfl) ?_
   try simp only [putq]
  refine Ch.tree_end ?_
  have qA := hA.five.1
  have q0 := (f0.below hB hg).c0
  go_wp2_with fail
  go_ret
  exact ⟨by first | rfl | simp [ByteArray.append_assoc],hB⟩
 ·obtain rfl : sc = 1 := by omega
  obtain rfl : ts = [] := by
   cases ts with
   | nil => rfl
   | cons _ _ => simp at hsc
  clear h1
  try simp only [List.length_nil,Nat.zero_add] at hA
  try simp only [List.length_nil,Nat.zero_add] at hB
  try simp only [List.length_nil,Nat.zero_add]
  have qA := hA.five.1
  have q0 := (f0.below hB hg).c0
  go_enter Tryz.func89,Tryz.ntmps89
  go_wp2_with fail
  replace hA := hA.below (drew_below _) hA.lt
  replace hB := hB.drew
  clear qA q0
  refine Ch.wp_region_tree (fun u => Blk u w.heap.size 25 #[.int .i64 33,.string ⟨#[]⟩,.int .i64 0,.int .i64 a,.slice (some ⟨g,o,none⟩) 1 1] ∧ Below w.heap.size w u) [1,3,6] [] (.take 0 (.take 1 (.take 2 (.take 3 (.take 5 (.take 6 (.take 7 (.one 4 (.one 8 (.take 9 (.take 10 .done))))))))))) (by kernel_rfl) (by kernel_rfl) (fun _ _ d _ _ h => by cases d <;> first | exact h | exact ⟨h.1,h.2.drew⟩) ⟨hA,hB⟩ ?_
  repeat
   first
   | refine Ch.treeT_take rfl (by rfl) (by rfl) (fun u => by go_simp; rfl) ?_
   | refine Ch.treeT_load rfl (by rfl) (by rfl) (fun u ⟨hA,hB⟩ => by have qA := (Blk.five hA).1; have q0 := (f0.below hB hg).c0; go_simp; rfl) ?_
   try simp only [putq]
  refine Ch.treeT_mid rfl (by rfl) (fun K hKK => ?_)
  go_simp
  refine (hC0 _ _ (hW.below hB) (t0.below hB)).mono ?_
  rintro e w4 ⟨rfl,hb⟩
  replace hA := hA.below hb hA.lt
  replace hB := hB.trans (hb.mono hB.size)
  clear hb
  refine hKK _ _ ⟨hA,hB⟩ ?_
  clear hKK K
  try simp only [putq]
  refine Ch.treeT_mid rfl (by rfl) (fun K hKK => ?_)
  go_simp
  refine (hC1 _ (some ⟨g,o,none⟩) 0 (Nat.le_refl _) (hW.below hB) (RowAt.empty rfl)).mono ?_
  rintro e w5 ⟨rfl,hb⟩
  replace hA := hA.below hb hA.lt
  replace hB := hB.trans (hb.mono hB.size)
  clear hb
  refine hKK _ _ ⟨hA,hB⟩ ?_
  clear hKK K
  try simp only [putq]
  repeat
   refine Ch.treeT_take rfl (by rfl) (by rfl) (fun u => by go_simp; rfl) ?_
   try simp only [putq]
  refine Ch.tree_end ?_
  have qA := hA.five.1
  have q0 := (f0.below hB hg).c0
  go_wp2_with fail
  go_ret
  exact ⟨by first | rfl | simp [ByteArray.append_assoc],hB⟩
theorem enot0_says {a : Nat} {x : Tree} (hx : ExS x) {lv : Nat} (hlv : lv ≤ 3) (_ : lv ≤ 3) (hsz : (Pr.tx (Pr.expr (.node 34 ⟨#[]⟩ 0 a [x]) lv)).size ≤ 100000000) (w : World) (v : Value) (hW : Tab10 w) (h : TI w v (.node 34 ⟨#[]⟩ 0 a [x])) : Calls Tryz.prog 89 #[v,.int .i64 lv] w (Say (Pr.expr (.node 34 ⟨#[]⟩ 0 a [x]) lv) w) := by
 obtain ⟨so,sc,rfl,hsc,hR⟩ := h.node
 clear h
 change Calls _ _ #[NodeC ⟨#[]⟩ 34 0 a so 1 sc,.int .i64 lv] _ _
 have hA := Blk.new w 25 #[.int .i64 34,.string ⟨#[]⟩,.int .i64 0,.int .i64 a,.slice so 1 sc]
 have hB := Below.al w 25 #[.int .i64 34,.string ⟨#[]⟩,.int .i64 0,.int .i64 a,.slice so 1 sc]
 obtain ⟨X0,hX0⟩ : ∃ X,X = Pr.tx (Pr.expr x 3) := ⟨_,rfl⟩
 have eT : Pr.expr (.node 34 ⟨#[]⟩ 0 a [x]) lv = [Pr.s_tilde] ++ Pr.expr x 3 := by
  rw [Pr.expr_node,Pr.wrap_no (show lv ≤ Pr.own 34 ⟨#[]⟩ from hlv)]
  try first | rfl | (simp only [List.append_assoc]; rfl)
 have eB : Pr.tx ([Pr.s_tilde] ++ Pr.expr x 3) = (⟨#[126]⟩ : ByteArray) ++ X0 := by
  try simp only [Pr.tx_app,← hX0]
  try rfl
 have eX : Pr.tx (Pr.expr (.node 34 ⟨#[]⟩ 0 a [x]) lv) = (⟨#[126]⟩ : ByteArray) ++ X0 := by
  rw [eT,eB]
 rw [eX] at hsz
 unfold Say
 rw [eX]
 clear eT eB eX
 try simp only [ByteArray.size_append] at hsz
 have : (⟨#[126]⟩ : ByteArray).size = 1 := rfl
 have hS : 1 + X0.size ≤ 100000000 := by omega
 have hC0 : ExC x 3 X0 := hx.to hX0 (by omega) (by omega) rfl
 clear hsz hX0 hx
 have z1 : ¬ 9223372036854775807 < 1 + X0.size := by omega
 have hc : ¬ (3 : Int) < (lv : Int) := by omega
 clear hS hlv
 obtain ⟨g,o,k0,n0,m0,a0,s0,u0,c0,rfl,hg,-,f0,t0⟩ := hR.at0
 have qA := hA.five.1
 have q0 := (f0.below hB hg).c0
 go_enter Tryz.func89,Tryz.ntmps89
 go_wp2_with fail
 refine (hC0 _ _ (hW.below hB) (t0.below hB)).mono ?_
 rintro e w2 ⟨rfl,hb⟩
 clear qA q0
 replace hA := hA.below hb hA.lt
 replace hB := hB.trans (hb.mono hB.size)
 clear hb
 have qA := hA.five.1
 have q0 := (f0.below hB hg).c0
 go_wp2_with fail
 go_ret
 exact ⟨by first | rfl | simp [ByteArray.append_assoc],hB⟩
theorem eneg_says {a : Nat} {x : Tree} (hx : ExS x) {lv : Nat} (hl3 : lv ≤ 3) (hsz : (Pr.tx (Pr.expr (.node 35 ⟨#[]⟩ 0 a [x]) lv)).size ≤ 100000000) (w : World) (v : Value) (hW : Tab10 w) (h : TI w v (.node 35 ⟨#[]⟩ 0 a [x])) : Calls Tryz.prog 89 #[v,.int .i64 lv] w (Say (Pr.expr (.node 35 ⟨#[]⟩ 0 a [x]) lv) w) := by
 obtain ⟨so,sc,rfl,hsc,hR⟩ := h.node
 clear h
 change Calls _ _ #[NodeC ⟨#[]⟩ 35 0 a so 1 sc,.int .i64 lv] _ _
 have hA := Blk.new w 25 #[.int .i64 35,.string ⟨#[]⟩,.int .i64 0,.int .i64 a,.slice so 1 sc]
 have hB := Below.al w 25 #[.int .i64 35,.string ⟨#[]⟩,.int .i64 0,.int .i64 a,.slice so 1 sc]
 obtain ⟨X0,hX0⟩ : ∃ X,X = Pr.tx (Pr.expr x 2) := ⟨_,rfl⟩
 have eB : Pr.tx ([Pr.s_minus] ++ Pr.expr x 2) = (⟨#[45]⟩ : ByteArray) ++ X0 := by
  try simp only [Pr.tx_app,← hX0]
  try rfl
 obtain ⟨RR,hR0⟩ : ∃ R,R = Pr.tx (Pr.expr (.node 35 ⟨#[]⟩ 0 a [x]) lv) := ⟨_,rfl⟩
 unfold Say
 rw [← hR0] at hsz ⊢
 have hRR : (¬ (1 : Int) < (lv : Int) ∧ RR = (⟨#[45]⟩ : ByteArray) ++ X0) ∨ ((1 : Int) < (lv : Int) ∧ RR = (⟨#[40]⟩ : ByteArray) ++ ((⟨#[45]⟩ : ByteArray) ++ X0) ++ (⟨#[41]⟩ : ByteArray)) := by
  rcases Nat.lt_or_ge 1 lv with q | q
  ·refine .inr ⟨by omega,?_⟩
   have eT : Pr.expr (.node 35 ⟨#[]⟩ 0 a [x]) lv = [Pr.s_lp] ++ ([Pr.s_minus] ++ Pr.expr x 2) ++ [Pr.s_rp] := by
    rw [Pr.expr_node,show ∀ q,Pr.wrap (Pr.own 35 ⟨#[]⟩) lv q = [Pr.s_lp] ++ q ++ [Pr.s_rp] from fun _ => if_pos (by rw [(show Pr.own 35 ⟨#[]⟩ = 1 from rfl)]; exact q)]
    first | rfl | (simp only [List.append_assoc]; rfl)
   rw [hR0,eT,Pr.tx_app,Pr.tx_app,eB]; rfl
  ·refine .inl ⟨by omega,?_⟩
   have eT : Pr.expr (.node 35 ⟨#[]⟩ 0 a [x]) lv = [Pr.s_minus] ++ Pr.expr x 2 := by
    rw [Pr.expr_node,Pr.wrap_no (by rw [(show Pr.own 35 ⟨#[]⟩ = 1 from rfl)]; exact q)]
    first | rfl | (simp only [List.append_assoc]; rfl)
   rw [hR0,eT,eB]
 have hS : 1 + X0.size ≤ 100000000 := by
  rcases hRR with ⟨_,e⟩ | ⟨_,e⟩ <;> rw [e] at hsz <;> simp only [ByteArray.size_append] at hsz
  all_goals have : (⟨#[45]⟩ : ByteArray).size = 1 := rfl
  all_goals omega
 clear eB hR0 hsz
 have hC0 : ExC x 2 X0 := hx.to hX0 (by omega) (by omega) rfl
 clear hX0 hx
 have z1 : ¬ 9223372036854775807 < 1 + X0.size := by omega
 have z2 : ¬ 9223372036854775807 < 1 + (1 + X0.size) := by omega
 have z3 : ¬ 9223372036854775807 < 1 + (1 + X0.size) + 1 := by omega
 clear hS hl3
 obtain ⟨g,o,k0,n0,m0,a0,s0,u0,c0,rfl,hg,-,f0,t0⟩ := hR.at0
 rcases hRR with ⟨hc,rfl⟩ | ⟨hc,rfl⟩
 all_goals
  have qA := hA.five.1
  have q0 := (f0.below hB hg).c0
  go_enter Tryz.func89,Tryz.ntmps89
  go_wp2_with fail
  refine (hC0 _ _ (hW.below hB) (t0.below hB)).mono ?_
  rintro e w4 ⟨rfl,hb⟩
  clear qA q0
  replace hA := hA.below hb hA.lt
  replace hB := hB.trans (hb.mono hB.size)
  clear hb
  have qA := hA.five.1
  have q0 := (f0.below hB hg).c0
  go_wp2_with fail
  go_ret
  exact ⟨by first | rfl | simp [ByteArray.append_assoc],hB⟩
theorem eis_says {a : Nat} {x y : Tree} (hx : ExS x) (hy : Pr.PT y) {lv : Nat} (hl3 : lv ≤ 3) (hsz : (Pr.tx (Pr.expr (.node 37 ⟨#[]⟩ 0 a [x,y]) lv)).size ≤ 100000000) (w : World) (v : Value) (hW : Tab10 w) (h : TI w v (.node 37 ⟨#[]⟩ 0 a [x,y])) : Calls Tryz.prog 89 #[v,.int .i64 lv] w (Say (Pr.expr (.node 37 ⟨#[]⟩ 0 a [x,y]) lv) w) := by
 obtain ⟨so,sc,rfl,hsc,hR⟩ := h.node
 clear h
 change Calls _ _ #[NodeC ⟨#[]⟩ 37 0 a so 2 sc,.int .i64 lv] _ _
 have hA := Blk.new w 25 #[.int .i64 37,.string ⟨#[]⟩,.int .i64 0,.int .i64 a,.slice so 2 sc]
 have hB := Below.al w 25 #[.int .i64 37,.string ⟨#[]⟩,.int .i64 0,.int .i64 a,.slice so 2 sc]
 obtain ⟨X0,hX0⟩ : ∃ X,X = Pr.tx (Pr.expr x 1) := ⟨_,rfl⟩
 obtain ⟨X1,hX1⟩ : ∃ X,X = Pr.tx (Pr.typeName y) := ⟨_,rfl⟩
 have eB : Pr.tx (Pr.expr x 1 ++ [.sp,Pr.kIS,.sp] ++ Pr.typeName y) = X0 ++ (⟨#[32,73,83,32]⟩ : ByteArray) ++ X1 := by
  try simp only [Pr.tx_app,← hX0,← hX1]
  try rfl
 obtain ⟨RR,hR0⟩ : ∃ R,R = Pr.tx (Pr.expr (.node 37 ⟨#[]⟩ 0 a [x,y]) lv) := ⟨_,rfl⟩
 unfold Say
 rw [← hR0] at hsz ⊢
 have hRR : (¬ (0 : Int) < (lv : Int) ∧ RR = X0 ++ (⟨#[32,73,83,32]⟩ : ByteArray) ++ X1) ∨ ((0 : Int) < (lv : Int) ∧ RR = (⟨#[40]⟩ : ByteArray) ++ (X0 ++ (⟨#[32,73,83,32]⟩ : ByteArray) ++ X1) ++ (⟨#[41]⟩ : ByteArray)) := by
  rcases Nat.lt_or_ge 0 lv with q | q
  ·refine .inr ⟨by omega,?_⟩
   have eT : Pr.expr (.node 37 ⟨#[]⟩ 0 a [x,y]) lv = [Pr.s_lp] ++ (Pr.expr x 1 ++ [.sp,Pr.kIS,.sp] ++ Pr.typeName y) ++ [Pr.s_rp] := by
    rw [Pr.expr_node,show ∀ q,Pr.wrap (Pr.own 37 ⟨#[]⟩) lv q = [Pr.s_lp] ++ q ++ [Pr.s_rp] from fun _ => if_pos (by rw [(show Pr.own 37 ⟨#[]⟩ = 0 from rfl)]; exact q)]
    first | rfl | (simp only [List.append_assoc]; rfl)
   rw [hR0,eT,Pr.tx_app,Pr.tx_app,eB]; rfl
  ·refine .inl ⟨by omega,?_⟩
   have eT : Pr.expr (.node 37 ⟨#[]⟩ 0 a [x,y]) lv = Pr.expr x 1 ++ [.sp,Pr.kIS,.sp] ++ Pr.typeName y := by
    rw [Pr.expr_node,Pr.wrap_no (by rw [(show Pr.own 37 ⟨#[]⟩ = 0 from rfl)]; exact q)]
    first | rfl | (simp only [List.append_assoc]; rfl)
   rw [hR0,eT,eB]
 have hS : X0.size + 4 + X1.size ≤ 100000000 := by
  rcases hRR with ⟨_,e⟩ | ⟨_,e⟩ <;> rw [e] at hsz <;> simp only [ByteArray.size_append] at hsz
  all_goals have : (⟨#[32,73,83,32]⟩ : ByteArray).size = 4 := rfl
  all_goals omega
 clear eB hR0 hsz
 have hC0 : ExC x 1 X0 := hx.to hX0 (by omega) (by omega) rfl
 have hC1 : ∀ (w : World) (v : Value),Tab10 w → TI w v y → Calls Tryz.prog 138 #[v] w fun e w' => e = .returned (.string X1) ∧ Below w.heap.size w w' := fun w v _ ht => say_to (typeName_says hy w v ht) hX1
 clear hX0 hX1 hx hy
 have z1 : ¬ 9223372036854775807 < X0.size + 4 := by omega
 have z2 : ¬ 9223372036854775807 < X0.size + 4 + X1.size := by omega
 have z3 : ¬ 9223372036854775807 < 1 + (X0.size + 4 + X1.size) := by omega
 have z4 : ¬ 9223372036854775807 < 1 + (X0.size + 4 + X1.size) + 1 := by omega
 clear hS hl3
 obtain ⟨g,o,k0,n0,m0,a0,s0,u0,c0,rfl,hg,-,f0,t0⟩ := hR.at0
 obtain ⟨k1,n1,m1,a1,s1,u1,c1,-,f1,t1⟩ := hR.at1
 rcases hRR with ⟨hc,rfl⟩ | ⟨hc,rfl⟩
 all_goals
  have qA := hA.five.1
  have q0 := (f0.below hB hg).c0
  have q1 := (f1.below hB hg).c5
  go_enter Tryz.func89,Tryz.ntmps89
  go_wp2_with fail
  replace hA := hA.below (drew_below _) hA.lt
  replace hB := hB.drew
  clear qA q0 q1
  refine Ch.wp_region_tree (fun u => Blk u w.heap.size 25 #[.int .i64 37,.string ⟨#[]⟩,.int .i64 0,.int .i64 a,.slice (some ⟨g,o,none⟩) 2 sc] ∧ Below w.heap.size w u) [1,3,7,9] [] (.take 0 (.take 1 (.take 2 (.take 3 (.take 6 (.take 7 (.take 8 (.take 9 (.one 4 (.take 5 (.one 10 (.take 11 (.take 12 (.take 13 .done)))))))))))))) (by kernel_rfl) (by kernel_rfl) (fun _ _ d _ _ h => by cases d <;> first | exact h | exact ⟨h.1,h.2.drew⟩) ⟨hA,hB⟩ ?_
  repeat
   first
   | refine Ch.treeT_take rfl (by rfl) (by rfl) (fun u => by go_simp; rfl) ?_
   | refine Ch.treeT_load rfl (by rfl) (by rfl) (fun u ⟨hA,hB⟩ => by have qA := (Blk.five hA).1; have q0 := (f0.below hB hg).c0; have q1 := (f1.below hB hg).c5; go_simp; rfl) ?_
   try simp only [putq]
  refine Ch.treeT_mid rfl (by rfl) (fun K hKK => ?_)
  go_simp
  refine (hC0 _ _ (hW.below hB) (t0.below hB)).mono ?_
  rintro e w5 ⟨rfl,hb⟩
  replace hA := hA.below hb hA.lt
  replace hB := hB.trans (hb.mono hB.size)
  clear hb
  refine hKK _ _ ⟨hA,hB⟩ ?_
  clear hKK K
  try simp only [putq]
  refine Ch.treeT_take rfl (by rfl) (by rfl) (fun u => by go_simp; rfl) ?_
  try simp only [putq]
  refine Ch.treeT_mid rfl (by rfl) (fun K hKK => ?_)
  go_simp
  refine (hC1 _ _ (hW.below hB) (t1.below hB)).mono ?_
  rintro e w6 ⟨rfl,hb⟩
  replace hA := hA.below hb hA.lt
  replace hB := hB.trans (hb.mono hB.size)
  clear hb
  refine hKK _ _ ⟨hA,hB⟩ ?_
  clear hKK K
  try simp only [putq]
  repeat
   refine Ch.treeT_take rfl (by rfl) (by rfl) (fun u => by go_simp; rfl) ?_
   try simp only [putq]
  refine Ch.tree_end ?_
  have qA := hA.five.1
  have q0 := (f0.below hB hg).c0
  have q1 := (f1.below hB hg).c5
  go_wp2_with fail
  go_ret
  exact ⟨by first | rfl | simp [ByteArray.append_assoc],hB⟩
end Go.Proofs.YtneohanphabneaaGreatDoor
