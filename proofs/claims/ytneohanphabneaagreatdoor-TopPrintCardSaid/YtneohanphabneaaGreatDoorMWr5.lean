/-
  Walks of print's texts: operators. Printed by tools/gen_s.py.
-/
import Derived.Test.YtneohanphabneaaGreatDoorWr4
namespace Go.Proofs.YtneohanphabneaaGreatDoor
set_option maxRecDepth 100000
set_option maxHeartbeats 2000000
open Go.RowKit Ps
theorem level_says {n : ByteArray} (hn : (opsM.any fun k => decide (k = n)) = true) (w : World) : Calls Tryz.prog 141 #[.string n] w fun e w' => e = .returned (.int .i64 (Pr.level n)) ∧ Below w.heap.size w w' := by
 simp only [opsM,List.any_cons,List.any_nil,Bool.or_false,Bool.or_eq_true,decide_eq_true_eq] at hn
 rcases hn with rfl | rfl | rfl | rfl | rfl | rfl | rfl | rfl | rfl | rfl | rfl | rfl | rfl
 all_goals
  go_enter Tryz.func141,Tryz.ntmps141
  go_wp2_with fail
  go_ret
  exact ⟨rfl,Below.refl _ _⟩
theorem eop_says {a : Nat} {x y : Tree} {n : ByteArray} (hn : (opsM.any fun k => decide (k = n)) = true) {L l1 l2 : Nat} (hv : Pr.level n = L) (hL : L = 0 ∧ l1 = 1 ∧ l2 = 1 ∨ L = 1 ∧ l1 = 1 ∧ l2 = 2 ∨ L = 2 ∧ l1 = 2 ∧ l2 = 3) (hx : ExS x) (hy : ExS y) {lv : Nat} (hl3 : lv ≤ 3) (hsz : (Pr.tx (Pr.expr (.node 36 n 0 a [x,y]) lv)).size ≤ 100000000) (w : World) (v : Value) (hW : Tab10 w) (h : TI w v (.node 36 n 0 a [x,y])) : Calls Tryz.prog 89 #[v,.int .i64 lv] w (Say (Pr.expr (.node 36 n 0 a [x,y]) lv) w) := by
 obtain ⟨so,sc,rfl,hsc,hR⟩ := h.node
 clear h
 change Calls _ _ #[NodeC n 36 0 a so 2 sc,.int .i64 lv] _ _
 have hA := Blk.new w 25 #[.int .i64 36,.string n,.int .i64 0,.int .i64 a,.slice so 2 sc]
 have hB := Below.al w 25 #[.int .i64 36,.string n,.int .i64 0,.int .i64 a,.slice so 2 sc]
 obtain ⟨X0,hX0⟩ : ∃ X,X = Pr.tx (Pr.expr x l1) := ⟨_,rfl⟩
 obtain ⟨X1,hX1⟩ : ∃ X,X = Pr.tx (Pr.expr y l2) := ⟨_,rfl⟩
 have eB : Pr.tx (Pr.expr x l1 ++ [.sp] ++ [Pr.nm n] ++ [.sp] ++ Pr.expr y l2) = X0 ++ (⟨#[32]⟩ : ByteArray) ++ n ++ (⟨#[32]⟩ : ByteArray) ++ X1 := by
  try simp only [Pr.tx_app,Pr.tx_nm,← hX0,← hX1]
  try rfl
 obtain ⟨RR,hR0⟩ : ∃ R,R = Pr.tx (Pr.expr (.node 36 n 0 a [x,y]) lv) := ⟨_,rfl⟩
 unfold Say
 rw [← hR0] at hsz ⊢
 obtain ⟨Li,i1,i2,eL,e1,e2⟩ : ∃ Li i1 i2 : Int,(L : Int) = Li ∧ (l1 : Int) = i1 ∧ (l2 : Int) = i2 := ⟨_,_,_,rfl,rfl,rfl⟩
 have hif : (if L = 0 then 1 else L) = l1 := by rcases hL with ⟨rfl,rfl,rfl⟩ | ⟨rfl,rfl,rfl⟩ | ⟨rfl,rfl,rfl⟩ <;> rfl
 have hl2 : L + 1 = l2 := by omega
 have hRR : (¬ Li < (lv : Int) ∧ RR = X0 ++ (⟨#[32]⟩ : ByteArray) ++ n ++ (⟨#[32]⟩ : ByteArray) ++ X1) ∨ (Li < (lv : Int) ∧ RR = (⟨#[40]⟩ : ByteArray) ++ (X0 ++ (⟨#[32]⟩ : ByteArray) ++ n ++ (⟨#[32]⟩ : ByteArray) ++ X1) ++ (⟨#[41]⟩ : ByteArray)) := by
  rcases Nat.lt_or_ge L lv with q | q
  ·refine .inr ⟨by omega,?_⟩
   have eT : Pr.expr (.node 36 n 0 a [x,y]) lv = [Pr.s_lp] ++ (Pr.expr x l1 ++ [.sp] ++ [Pr.nm n] ++ [.sp] ++ Pr.expr y l2) ++ [Pr.s_rp] := by
    rw [Pr.expr_node,show ∀ q,Pr.wrap (Pr.own 36 n) lv q = [Pr.s_lp] ++ q ++ [Pr.s_rp] from fun _ => if_pos (by rw [(show Pr.own 36 n = L from hv)]; exact q)]
    show [Pr.s_lp] ++ (Pr.expr x (if Pr.level n = 0 then 1 else Pr.level n) ++ [.sp,Pr.nm n,.sp] ++ Pr.expr y (Pr.level n + 1)) ++ [Pr.s_rp] = _
    rw [hv,hif,hl2]
    first | rfl | (simp only [List.append_assoc]; rfl)
   rw [hR0,eT,Pr.tx_app,Pr.tx_app,eB]; rfl
  ·refine .inl ⟨by omega,?_⟩
   have eT : Pr.expr (.node 36 n 0 a [x,y]) lv = Pr.expr x l1 ++ [.sp] ++ [Pr.nm n] ++ [.sp] ++ Pr.expr y l2 := by
    rw [Pr.expr_node,Pr.wrap_no (by rw [(show Pr.own 36 n = L from hv)]; exact q)]
    show Pr.expr x (if Pr.level n = 0 then 1 else Pr.level n) ++ [.sp,Pr.nm n,.sp] ++ Pr.expr y (Pr.level n + 1) = _
    rw [hv,hif,hl2]
    first | rfl | (simp only [List.append_assoc]; rfl)
   rw [hR0,eT,eB]
 have hS : X0.size + 1 + n.size + 1 + X1.size ≤ 100000000 := by
  rcases hRR with ⟨_,e⟩ | ⟨_,e⟩ <;> rw [e] at hsz <;> simp only [ByteArray.size_append] at hsz
  all_goals have : (⟨#[32]⟩ : ByteArray).size = 1 := rfl
  all_goals omega
 clear eB hR0 hsz
 have hC0 : ExC x i1 X0 := hx.to hX0 (by omega) (by omega) e1
 have hC1 : ExC y i2 X1 := hy.to hX1 (by omega) (by omega) e2
 have hCL : ∀ (w : World),Calls Tryz.prog 141 #[.string n] w fun e w' => e = .returned (.int .i64 Li) ∧ Below w.heap.size w w' := fun w => by
  have := level_says hn w
  rw [hv,eL] at this
  exact this
 have hI : Li = 0 ∧ i1 = 1 ∧ i2 = 1 ∨ Li = 1 ∧ i1 = 1 ∧ i2 = 2 ∨ Li = 2 ∧ i1 = 2 ∧ i2 = 3 := by omega
 clear hL hv hn eL e1 e2 hif hl2
 clear hX0 hX1 hx hy
 have z1 : ¬ 9223372036854775807 < X0.size + 1 := by omega
 have z2 : ¬ 9223372036854775807 < X0.size + 1 + n.size := by omega
 have z3 : ¬ 9223372036854775807 < X0.size + 1 + n.size + 1 := by omega
 have z4 : ¬ 9223372036854775807 < X0.size + 1 + n.size + 1 + X1.size := by omega
 have z5 : ¬ 9223372036854775807 < 1 + (X0.size + 1 + n.size + 1 + X1.size) := by omega
 have z6 : ¬ 9223372036854775807 < 1 + (X0.size + 1 + n.size + 1 + X1.size) + 1 := by omega
 clear hS hl3
 obtain ⟨g,o,k0,n0,m0,a0,s0,u0,c0,rfl,hg,-,f0,t0⟩ := hR.at0
 obtain ⟨k1,n1,m1,a1,s1,u1,c1,-,f1,t1⟩ := hR.at1
 rcases hI with ⟨rfl,rfl,rfl⟩ | ⟨rfl,rfl,rfl⟩ | ⟨rfl,rfl,rfl⟩ <;> rcases hRR with ⟨hc,rfl⟩ | ⟨hc,rfl⟩
 all_goals
  have qA := hA.five.1
  have q0 := (f0.below hB hg).c0
  have q1 := (f1.below hB hg).c5
  go_enter Tryz.func89,Tryz.ntmps89
  go_wp2_with fail
  refine (hCL _).mono ?_
  rintro e w7 ⟨rfl,hb⟩
  clear qA q0 q1
  replace hA := hA.below hb hA.lt
  replace hB := hB.trans (hb.mono hB.size)
  clear hb
  have qA := hA.five.1
  have q0 := (f0.below hB hg).c0
  have q1 := (f1.below hB hg).c5
  go_wp2_with fail
  replace hA := hA.below (drew_below _) hA.lt
  replace hB := hB.drew
  clear qA q0 q1
  refine Ch.wp_region_tree (fun u => Blk u w.heap.size 25 #[.int .i64 36,.string n,.int .i64 0,.int .i64 a,.slice (some ⟨g,o,none⟩) 2 sc] ∧ Below w.heap.size w u) [1,3,8,12,14] [] (.take 0 (.take 1 (.take 2 (.take 3 (.take 4 (.take 7 (.take 8 (.take 11 (.take 12 (.take 13 (.take 14 (.take 15 (.take 16 (.one 5 (.take 6 (.take 9 (.take 10 (.one 17 (.take 18 (.take 19 .done)))))))))))))))))))) (by kernel_rfl) (by kernel_rfl) (fun _ _ d _ _ h => by cases d <;> first | exact h | exact ⟨h.1,h.2.drew⟩) ⟨hA,hB⟩ ?_
  repeat
   first
   | refine Ch.treeT_take rfl (by rfl) (by rfl) (fun u => by go_simp; rfl) ?_
   | refine Ch.treeT_load rfl (by rfl) (by rfl) (fun u ⟨hA,hB⟩ => by have qA := (Blk.five hA).1; have q0 := (f0.below hB hg).c0; have q1 := (f1.below hB hg).c5; go_simp; rfl) ?_
   try simp only [putq]
  refine Ch.treeT_mid rfl (by rfl) (fun K hKK => ?_)
  go_simp
  refine (hC0 _ _ (hW.below hB) (t0.below hB)).mono ?_
  rintro e w8 ⟨rfl,hb⟩
  replace hA := hA.below hb hA.lt
  replace hB := hB.trans (hb.mono hB.size)
  clear hb
  refine hKK _ _ ⟨hA,hB⟩ ?_
  clear hKK K
  try simp only [putq]
  repeat
   refine Ch.treeT_take rfl (by rfl) (by rfl) (fun u => by go_simp; rfl) ?_
   try simp only [putq]
  refine Ch.treeT_mid rfl (by rfl) (fun K hKK => ?_)
  go_simp
  refine (hC1 _ _ (hW.below hB) (t1.below hB)).mono ?_
  rintro e w9 ⟨rfl,hb⟩
  replace hA := hA.below hb hA.lt
  replace hB := hB.trans (hb.mono hB.size)
  clear hb
  refine hKK _ _ ⟨hA,hB⟩ ?_
  clear hKK K
  try simp only [putq]
  repeat
   refine Ch.treeT_take rfl (by rfl) (by rfl) (fun u => by go_simp; rfl) ?_
   try simp only [putq]
  refine Ch.tree_end ?_
  have qA := hA.five.1
  have q0 := (f0.below hB hg).c0
  have q1 := (f1.below hB hg).c5
  go_wp2_with fail
  go_ret
  exact ⟨by first | rfl | simp [ByteArray.append_assoc],hB⟩
open Go.RowKit Ps
theorem lev0 {n : ByteArray} (h : Pr.isOp3 n Pr.ops0) : Pr.level n = 0 := by
 simp only [Pr.isOp3,Pr.ops0,List.any_cons,List.any_nil,Bool.or_false,Bool.or_eq_true,decide_eq_true_eq] at h
 rcases h with rfl | rfl | rfl | rfl | rfl | rfl <;> decide
theorem lev1 {n : ByteArray} (h : Pr.isOp3 n Pr.ops1) : Pr.level n = 1 := by
 simp only [Pr.isOp3,Pr.ops1,List.any_cons,List.any_nil,Bool.or_false,Bool.or_eq_true,decide_eq_true_eq] at h
 rcases h with rfl | rfl | rfl <;> decide
theorem lev2 {n : ByteArray} (h : Pr.isOp3 n Pr.ops2) : Pr.level n = 2 := by
 simp only [Pr.isOp3,Pr.ops2,List.any_cons,List.any_nil,Bool.or_false,Bool.or_eq_true,decide_eq_true_eq] at h
 rcases h with rfl | rfl | rfl | rfl <;> decide
mutual
theorem Px_says : ∀ {L u : Nat} {t : Tree},Pr.Px L u t → ExS t
 | _,_,_,.num h => fun w v lv h3 hW hv hs => enum0_says h h3 h3 hs w v hW hv
 | _,_,_,.atom h => by
  rcases h with rfl | rfl | rfl
  ·exact fun w v lv h3 hW hv hs => eatom300_says h3 h3 hs w v hW hv
  ·exact fun w v lv h3 hW hv hs => eatom310_says h3 h3 hs w v hW hv
  ·exact fun w v lv h3 hW hv hs => eatom320_says h3 h3 hs w v hW hv
 | _,_,_,.des h _ => Pd_says h
 | _,_,_,.call h _ hs => fun w v lv h3 hW hv hz => ecall0_says (Pd_says h) (Pa_says hs) h3 h3 hz w v hW hv
 | _,_,_,.not h => fun w v lv h3 hW hv hs => enot0_says (Px_says h) h3 h3 hs w v hW hv
 | _,_,_,.neg _ h => fun w v lv h3 hW hv hs => eneg_says (Px_says h) h3 hs w v hW hv
 | _,_,_,.is h ht => fun w v lv h3 hW hv hs => eis_says (Px_says h) ht h3 hs w v hW hv
 | _,_,_,.op0 hn h1 h2 => fun w v lv h3 hW hv hs => eop_says (ops_in (.inl hn)) (lev0 hn) (.inl ⟨rfl,rfl,rfl⟩) (Px_says h1) (Px_says h2) h3 hs w v hW hv
 | _,_,_,.op1 hn _ h1 h2 => fun w v lv h3 hW hv hs => eop_says (ops_in (.inr (.inl hn))) (lev1 hn) (.inr (.inl ⟨rfl,rfl,rfl⟩)) (Px_says h1) (Px_says h2) h3 hs w v hW hv
 | _,_,_,.op2 hn _ h1 h2 => fun w v lv h3 hW hv hs => eop_says (ops_in (.inr (.inr hn))) (lev2 hn) (.inr (.inr ⟨rfl,rfl,rfl⟩)) (Px_says h1) (Px_says h2) h3 hs w v hW hv
 | _,_,_,.par _ _ h => Px_says h
theorem Pd_says : ∀ {L m : Nat} {t : Tree},Pr.Pd L m t → ExS t
 | _,_,_,.ref _ => fun w v _ h3 hW hv hs => eref0_says h3 h3 hs w v hW hv
 | _,_,_,.dot _ h => fun w v _ h3 hW hv hs => edot0_says (Pd_says h) h3 h3 hs w v hW hv
 | _,_,_,.index h hx => fun w v _ h3 hW hv hs => eindex0_says (Pd_says h) (Px_says hx) h3 h3 hs w v hW hv
 | _,_,_,.hat h => fun w v _ h3 hW hv hs => ehat0_says (Pd_says h) h3 h3 hs w v hW hv
 | _,_,_,.guard h ht => fun w v _ h3 hW hv hs => eguard0_says (Pd_says h) ht h3 h3 hs w v hW hv
theorem Pa_says : ∀ {L : Nat} {ts : List Tree},Pr.Pa L ts → ∀ t ∈ ts,ExS t
 | _,_,.nil => fun t ht => by cases ht
 | _,_,.cons h hs => fun t ht => by
  have h1 := Px_says h
  have h2 := Pa_says hs
  rcases List.mem_cons.1 ht with rfl | ht
  ·exact h1
  ·exact h2 t ht
end
theorem De_says {L : Nat} {t : Tree} (h : Pr.De L t) : ExS t := by
 obtain ⟨m,h,_⟩ := h
 exact Pd_says h
theorem Xe_says {L : Nat} {t : Tree} (h : Pr.Xe L t) : ExS t := by
 obtain ⟨M,_,h,_⟩ := h
 exact Px_says h
end Go.Proofs.YtneohanphabneaaGreatDoor
