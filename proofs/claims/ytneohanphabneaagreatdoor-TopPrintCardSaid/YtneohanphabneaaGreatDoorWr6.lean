/-
  Walks of print's texts: what is declared. Printed by tools/gen_s.py.
-/
import Derived.Test.YtneohanphabneaaGreatDoorWr4
namespace Go.Proofs.YtneohanphabneaaGreatDoor
set_option maxRecDepth 100000
set_option maxHeartbeats 2000000
open Go.RowKit Ps
theorem var6_says {n : ByteArray} {num a : Nat} {x : Tree} (hnum : num ≤ 1) (hx : Pr.PT x) (hsz : (Pr.tx (Pr.variable_ (.node 6 n num a [x]))).size ≤ 100000000) (w : World) (v : Value) (hW : Tab10 w) (h : TI w v (.node 6 n num a [x])) : Calls Tryz.prog 92 #[v] w (Say (Pr.variable_ (.node 6 n num a [x])) w) := by
 have hT := h
 obtain ⟨so,sc,rfl,hsc,hR⟩ := h.node
 clear h
 change Calls _ _ #[NodeC n 6 num a so 1 sc] _ _
 have hA := Blk.new w 25 #[.int .i64 6,.string n,.int .i64 num,.int .i64 a,.slice so 1 sc]
 have hB := Below.al w 25 #[.int .i64 6,.string n,.int .i64 num,.int .i64 a,.slice so 1 sc]
 obtain ⟨X0,hX0⟩ : ∃ X,X = Pr.tx (Pr.star num) := ⟨_,rfl⟩
 obtain ⟨X1,hX1⟩ : ∃ X,X = Pr.tx (Pr.typeName x) := ⟨_,rfl⟩
 have eT : Pr.variable_ (.node 6 n num a [x]) = [Pr.nm n] ++ Pr.star num ++ [Pr.s_colon,.sp] ++ Pr.typeName x := by
  try first | rfl | (simp only [List.append_assoc]; rfl)
 have eX : Pr.tx (Pr.variable_ (.node 6 n num a [x])) = n ++ X0 ++ (⟨#[58,32]⟩ : ByteArray) ++ X1 := by
  rw [eT]
  try simp only [Pr.tx_app,Pr.tx_nm,← hX0,← hX1]
  try rfl
 rw [eX] at hsz
 unfold Say
 rw [eX]
 clear eT eX
 try simp only [ByteArray.size_append] at hsz
 have : (⟨#[58,32]⟩ : ByteArray).size = 2 := rfl
 have hS : n.size + X0.size + 2 + X1.size ≤ 100000000 := by omega
 have hC0 : ∀ (w : World) (v : Value),Tab10 w → TI w v (.node 6 n num a [x]) → Calls Tryz.prog 88 #[v] w fun e w' => e = .returned (.string X0) ∧ Below w.heap.size w w' := fun w v hw ht => say_to (star_says hnum w v ht) hX0
 have hC1 : ∀ (w : World) (v : Value),Tab10 w → TI w v x → Calls Tryz.prog 138 #[v] w fun e w' => e = .returned (.string X1) ∧ Below w.heap.size w w' := fun w v hw ht => say_to (typeName_says hx w v ht) hX1
 clear hsz hX0 hX1 hnum hx
 have z1 : ¬ 9223372036854775807 < n.size + X0.size := by omega
 have z2 : ¬ 9223372036854775807 < n.size + X0.size + 2 := by omega
 have z3 : ¬ 9223372036854775807 < n.size + X0.size + 2 + X1.size := by omega
 clear hS
 obtain ⟨g,o,k0,n0,m0,a0,s0,u0,c0,rfl,hg,-,f0,t0⟩ := hR.at0
 have qA := hA.five.1
 have q0 := (f0.below hB hg).c0
 go_enter Tryz.func92,Tryz.ntmps92
 go_wp2_with fail
 replace hA := hA.below (drew_below _) hA.lt
 replace hB := hB.drew
 clear qA q0
 refine Ch.wp_region_tree (fun u => Blk u w.heap.size 25 #[.int .i64 6,.string n,.int .i64 num,.int .i64 a,.slice (some ⟨g,o,none⟩) 1 sc] ∧ Below w.heap.size w u) [1,2,7,9] [] (.take 0 (.take 1 (.take 2 (.take 6 (.take 7 (.take 8 (.take 9 (.one 3 (.take 4 (.take 5 (.one 10 (.take 11 (.take 12 .done))))))))))))) (by kernel_rfl) (by kernel_rfl) (fun _ _ d _ _ h => by cases d <;> first | exact h | exact ⟨h.1,h.2.drew⟩) ⟨hA,hB⟩ ?_
 refine Ch.tk0 rfl (by rfl) (fun u => by go_simp; rfl) ?_
 try simp only [putq]
 refine Ch.ld1 rfl (by rfl) (fun u ⟨hA,hB⟩ => by have qA := (Blk.five hA).1; have q0 := (f0.below hB hg).c0; go_simp; rfl) ?_
 try simp only [putq]
 refine Ch.ld2 rfl (by rfl) (fun u ⟨hA,hB⟩ => by have qA := (Blk.five hA).1; have q0 := (f0.below hB hg).c0; go_simp; rfl) ?_
 try simp only [putq]
 refine Ch.tk6 rfl (by rfl) (fun u => by go_simp; rfl) ?_
 try simp only [putq]
 refine Ch.ld7 rfl (by rfl) (fun u ⟨hA,hB⟩ => by have qA := (Blk.five hA).1; have q0 := (f0.below hB hg).c0; go_simp; rfl) ?_
 try simp only [putq]
 refine Ch.tk8 rfl (by rfl) (fun u => by go_simp; rfl) ?_
 try simp only [putq]
 refine Ch.ld9 rfl (by rfl) (fun u ⟨hA,hB⟩ => by have qA := (Blk.five hA).1; have q0 := (f0.below hB hg).c0; go_simp; rfl) ?_
 try simp only [putq]
 refine Ch.treeT_mid rfl (by rfl) (fun K hKK => ?_)
 go_simp
 refine (hC0 _ _ (hW.below hB) (hT.below hB)).mono ?_
 rintro e w4 ⟨rfl,hb⟩
 replace hA := hA.below hb hA.lt
 replace hB := hB.trans (hb.mono hB.size)
 clear hb
 refine hKK _ _ ⟨hA,hB⟩ ?_
 clear hKK K
 try simp only [putq]
 refine Ch.tk4 rfl (by rfl) (fun u => by go_simp; rfl) ?_
 try simp only [putq]
 refine Ch.tk5 rfl (by rfl) (fun u => by go_simp; rfl) ?_
 try simp only [putq]
 refine Ch.treeT_mid rfl (by rfl) (fun K hKK => ?_)
 go_simp
 refine (hC1 _ _ (hW.below hB) (t0.below hB)).mono ?_
 rintro e w5 ⟨rfl,hb⟩
 replace hA := hA.below hb hA.lt
 replace hB := hB.trans (hb.mono hB.size)
 clear hb
 refine hKK _ _ ⟨hA,hB⟩ ?_
 clear hKK K
 try simp only [putq]
 refine Ch.tk11 rfl (by rfl) (fun u => by go_simp; rfl) ?_
 try simp only [putq]
 refine Ch.tk12 rfl (by rfl) (fun u => by go_simp; rfl) ?_
 try simp only [putq]
 refine Ch.tree_end ?_
 have qA := hA.five.1
 have q0 := (f0.below hB hg).c0
 go_wp2_with fail
 go_ret
 exact ⟨by first | rfl | simp [ByteArray.append_assoc],hB⟩
theorem var11_says {n : ByteArray} {num a : Nat} {x : Tree} (hnum : num ≤ 1) (hx : Pr.PT x) (hsz : (Pr.tx (Pr.variable_ (.node 11 n num a [x]))).size ≤ 100000000) (w : World) (v : Value) (hW : Tab10 w) (h : TI w v (.node 11 n num a [x])) : Calls Tryz.prog 92 #[v] w (Say (Pr.variable_ (.node 11 n num a [x])) w) := by
 have hT := h
 obtain ⟨so,sc,rfl,hsc,hR⟩ := h.node
 clear h
 change Calls _ _ #[NodeC n 11 num a so 1 sc] _ _
 have hA := Blk.new w 25 #[.int .i64 11,.string n,.int .i64 num,.int .i64 a,.slice so 1 sc]
 have hB := Below.al w 25 #[.int .i64 11,.string n,.int .i64 num,.int .i64 a,.slice so 1 sc]
 obtain ⟨X0,hX0⟩ : ∃ X,X = Pr.tx (Pr.star num) := ⟨_,rfl⟩
 obtain ⟨X1,hX1⟩ : ∃ X,X = Pr.tx (Pr.typeName x) := ⟨_,rfl⟩
 have eT : Pr.variable_ (.node 11 n num a [x]) = [Pr.nm n] ++ Pr.star num ++ [Pr.s_colon,.sp] ++ Pr.typeName x := by
  try first | rfl | (simp only [List.append_assoc]; rfl)
 have eX : Pr.tx (Pr.variable_ (.node 11 n num a [x])) = n ++ X0 ++ (⟨#[58,32]⟩ : ByteArray) ++ X1 := by
  rw [eT]
  try simp only [Pr.tx_app,Pr.tx_nm,← hX0,← hX1]
  try rfl
 rw [eX] at hsz
 unfold Say
 rw [eX]
 clear eT eX
 try simp only [ByteArray.size_append] at hsz
 have : (⟨#[58,32]⟩ : ByteArray).size = 2 := rfl
 have hS : n.size + X0.size + 2 + X1.size ≤ 100000000 := by omega
 have hC0 : ∀ (w : World) (v : Value),Tab10 w → TI w v (.node 11 n num a [x]) → Calls Tryz.prog 88 #[v] w fun e w' => e = .returned (.string X0) ∧ Below w.heap.size w w' := fun w v hw ht => say_to (star_says hnum w v ht) hX0
 have hC1 : ∀ (w : World) (v : Value),Tab10 w → TI w v x → Calls Tryz.prog 138 #[v] w fun e w' => e = .returned (.string X1) ∧ Below w.heap.size w w' := fun w v hw ht => say_to (typeName_says hx w v ht) hX1
 clear hsz hX0 hX1 hnum hx
 have z1 : ¬ 9223372036854775807 < n.size + X0.size := by omega
 have z2 : ¬ 9223372036854775807 < n.size + X0.size + 2 := by omega
 have z3 : ¬ 9223372036854775807 < n.size + X0.size + 2 + X1.size := by omega
 clear hS
 obtain ⟨g,o,k0,n0,m0,a0,s0,u0,c0,rfl,hg,-,f0,t0⟩ := hR.at0
 have qA := hA.five.1
 have q0 := (f0.below hB hg).c0
 go_enter Tryz.func92,Tryz.ntmps92
 go_wp2_with fail
 replace hA := hA.below (drew_below _) hA.lt
 replace hB := hB.drew
 clear qA q0
 refine Ch.wp_region_tree (fun u => Blk u w.heap.size 25 #[.int .i64 11,.string n,.int .i64 num,.int .i64 a,.slice (some ⟨g,o,none⟩) 1 sc] ∧ Below w.heap.size w u) [1,2,7,9] [] (.take 0 (.take 1 (.take 2 (.take 6 (.take 7 (.take 8 (.take 9 (.one 3 (.take 4 (.take 5 (.one 10 (.take 11 (.take 12 .done))))))))))))) (by kernel_rfl) (by kernel_rfl) (fun _ _ d _ _ h => by cases d <;> first | exact h | exact ⟨h.1,h.2.drew⟩) ⟨hA,hB⟩ ?_
 refine Ch.tk0 rfl (by rfl) (fun u => by go_simp; rfl) ?_
 try simp only [putq]
 refine Ch.ld1 rfl (by rfl) (fun u ⟨hA,hB⟩ => by have qA := (Blk.five hA).1; have q0 := (f0.below hB hg).c0; go_simp; rfl) ?_
 try simp only [putq]
 refine Ch.ld2 rfl (by rfl) (fun u ⟨hA,hB⟩ => by have qA := (Blk.five hA).1; have q0 := (f0.below hB hg).c0; go_simp; rfl) ?_
 try simp only [putq]
 refine Ch.tk6 rfl (by rfl) (fun u => by go_simp; rfl) ?_
 try simp only [putq]
 refine Ch.ld7 rfl (by rfl) (fun u ⟨hA,hB⟩ => by have qA := (Blk.five hA).1; have q0 := (f0.below hB hg).c0; go_simp; rfl) ?_
 try simp only [putq]
 refine Ch.tk8 rfl (by rfl) (fun u => by go_simp; rfl) ?_
 try simp only [putq]
 refine Ch.ld9 rfl (by rfl) (fun u ⟨hA,hB⟩ => by have qA := (Blk.five hA).1; have q0 := (f0.below hB hg).c0; go_simp; rfl) ?_
 try simp only [putq]
 refine Ch.treeT_mid rfl (by rfl) (fun K hKK => ?_)
 go_simp
 refine (hC0 _ _ (hW.below hB) (hT.below hB)).mono ?_
 rintro e w4 ⟨rfl,hb⟩
 replace hA := hA.below hb hA.lt
 replace hB := hB.trans (hb.mono hB.size)
 clear hb
 refine hKK _ _ ⟨hA,hB⟩ ?_
 clear hKK K
 try simp only [putq]
 refine Ch.tk4 rfl (by rfl) (fun u => by go_simp; rfl) ?_
 try simp only [putq]
 refine Ch.tk5 rfl (by rfl) (fun u => by go_simp; rfl) ?_
 try simp only [putq]
 refine Ch.treeT_mid rfl (by rfl) (fun K hKK => ?_)
 go_simp
 refine (hC1 _ _ (hW.below hB) (t0.below hB)).mono ?_
 rintro e w5 ⟨rfl,hb⟩
 replace hA := hA.below hb hA.lt
 replace hB := hB.trans (hb.mono hB.size)
 clear hb
 refine hKK _ _ ⟨hA,hB⟩ ?_
 clear hKK K
 try simp only [putq]
 refine Ch.tk11 rfl (by rfl) (fun u => by go_simp; rfl) ?_
 try simp only [putq]
 refine Ch.tk12 rfl (by rfl) (fun u => by go_simp; rfl) ?_
 try simp only [putq]
 refine Ch.tree_end ?_
 have qA := hA.five.1
 have q0 := (f0.below hB hg).c0
 go_wp2_with fail
 go_ret
 exact ⟨by first | rfl | simp [ByteArray.append_assoc],hB⟩
theorem const_says {n : ByteArray} {num a : Nat} {x : Tree} (hnum : num ≤ 1) (hx : ExS x) (hsz : (Pr.tx (Pr.const_ (.node 4 n num a [x]))).size ≤ 100000000) (w : World) (v : Value) (hW : Tab10 w) (h : TI w v (.node 4 n num a [x])) : Calls Tryz.prog 87 #[v] w (Say (Pr.const_ (.node 4 n num a [x])) w) := by
 have hT := h
 obtain ⟨so,sc,rfl,hsc,hR⟩ := h.node
 clear h
 change Calls _ _ #[NodeC n 4 num a so 1 sc] _ _
 have hA := Blk.new w 25 #[.int .i64 4,.string n,.int .i64 num,.int .i64 a,.slice so 1 sc]
 have hB := Below.al w 25 #[.int .i64 4,.string n,.int .i64 num,.int .i64 a,.slice so 1 sc]
 obtain ⟨X0,hX0⟩ : ∃ X,X = Pr.tx (Pr.star num) := ⟨_,rfl⟩
 obtain ⟨X1,hX1⟩ : ∃ X,X = Pr.tx (Pr.expr x 0) := ⟨_,rfl⟩
 have eT : Pr.const_ (.node 4 n num a [x]) = [Pr.nm n] ++ Pr.star num ++ [.sp,Pr.s_eq,.sp] ++ Pr.expr x 0 := by
  try first | rfl | (simp only [List.append_assoc]; rfl)
 have eX : Pr.tx (Pr.const_ (.node 4 n num a [x])) = n ++ X0 ++ (⟨#[32,61,32]⟩ : ByteArray) ++ X1 := by
  rw [eT]
  try simp only [Pr.tx_app,Pr.tx_nm,← hX0,← hX1]
  try rfl
 rw [eX] at hsz
 unfold Say
 rw [eX]
 clear eT eX
 try simp only [ByteArray.size_append] at hsz
 have : (⟨#[32,61,32]⟩ : ByteArray).size = 3 := rfl
 have hS : n.size + X0.size + 3 + X1.size ≤ 100000000 := by omega
 have hC0 : ∀ (w : World) (v : Value),Tab10 w → TI w v (.node 4 n num a [x]) → Calls Tryz.prog 88 #[v] w fun e w' => e = .returned (.string X0) ∧ Below w.heap.size w w' := fun w v hw ht => say_to (star_says hnum w v ht) hX0
 have hC1 : ∀ (w : World) (v : Value),Tab10 w → TI w v x → Calls Tryz.prog 89 #[v,.int .i64 0] w fun e w' => e = .returned (.string X1) ∧ Below w.heap.size w w' := fun w v hw ht => say_to (hx w v 0 (by omega) hw ht (by rw [← hX1]; omega)) hX1
 clear hsz hX0 hX1 hnum hx
 have z1 : ¬ 9223372036854775807 < n.size + X0.size := by omega
 have z2 : ¬ 9223372036854775807 < n.size + X0.size + 3 := by omega
 have z3 : ¬ 9223372036854775807 < n.size + X0.size + 3 + X1.size := by omega
 clear hS
 obtain ⟨g,o,k0,n0,m0,a0,s0,u0,c0,rfl,hg,-,f0,t0⟩ := hR.at0
 have qA := hA.five.1
 have q0 := (f0.below hB hg).c0
 go_enter Tryz.func87,Tryz.ntmps87
 go_wp2_with fail
 replace hA := hA.below (drew_below _) hA.lt
 replace hB := hB.drew
 clear qA q0
 refine Ch.wp_region_tree (fun u => Blk u w.heap.size 25 #[.int .i64 4,.string n,.int .i64 num,.int .i64 a,.slice (some ⟨g,o,none⟩) 1 sc] ∧ Below w.heap.size w u) [1,2,7,9] [] (.take 0 (.take 1 (.take 2 (.take 6 (.take 7 (.take 8 (.take 9 (.one 3 (.take 4 (.take 5 (.one 10 (.take 11 (.take 12 .done))))))))))))) (by kernel_rfl) (by kernel_rfl) (fun _ _ d _ _ h => by cases d <;> first | exact h | exact ⟨h.1,h.2.drew⟩) ⟨hA,hB⟩ ?_
 refine Ch.tk0 rfl (by rfl) (fun u => by go_simp; rfl) ?_
 try simp only [putq]
 refine Ch.ld1 rfl (by rfl) (fun u ⟨hA,hB⟩ => by have qA := (Blk.five hA).1; have q0 := (f0.below hB hg).c0; go_simp; rfl) ?_
 try simp only [putq]
 refine Ch.ld2 rfl (by rfl) (fun u ⟨hA,hB⟩ => by have qA := (Blk.five hA).1; have q0 := (f0.below hB hg).c0; go_simp; rfl) ?_
 try simp only [putq]
 refine Ch.tk6 rfl (by rfl) (fun u => by go_simp; rfl) ?_
 try simp only [putq]
 refine Ch.ld7 rfl (by rfl) (fun u ⟨hA,hB⟩ => by have qA := (Blk.five hA).1; have q0 := (f0.below hB hg).c0; go_simp; rfl) ?_
 try simp only [putq]
 refine Ch.tk8 rfl (by rfl) (fun u => by go_simp; rfl) ?_
 try simp only [putq]
 refine Ch.ld9 rfl (by rfl) (fun u ⟨hA,hB⟩ => by have qA := (Blk.five hA).1; have q0 := (f0.below hB hg).c0; go_simp; rfl) ?_
 try simp only [putq]
 refine Ch.treeT_mid rfl (by rfl) (fun K hKK => ?_)
 go_simp
 refine (hC0 _ _ (hW.below hB) (hT.below hB)).mono ?_
 rintro e w4 ⟨rfl,hb⟩
 replace hA := hA.below hb hA.lt
 replace hB := hB.trans (hb.mono hB.size)
 clear hb
 refine hKK _ _ ⟨hA,hB⟩ ?_
 clear hKK K
 try simp only [putq]
 refine Ch.tk4 rfl (by rfl) (fun u => by go_simp; rfl) ?_
 try simp only [putq]
 refine Ch.tk5 rfl (by rfl) (fun u => by go_simp; rfl) ?_
 try simp only [putq]
 refine Ch.treeT_mid rfl (by rfl) (fun K hKK => ?_)
 go_simp
 refine (hC1 _ _ (hW.below hB) (t0.below hB)).mono ?_
 rintro e w5 ⟨rfl,hb⟩
 replace hA := hA.below hb hA.lt
 replace hB := hB.trans (hb.mono hB.size)
 clear hb
 refine hKK _ _ ⟨hA,hB⟩ ?_
 clear hKK K
 try simp only [putq]
 refine Ch.tk11 rfl (by rfl) (fun u => by go_simp; rfl) ?_
 try simp only [putq]
 refine Ch.tk12 rfl (by rfl) (fun u => by go_simp; rfl) ?_
 try simp only [putq]
 refine Ch.tree_end ?_
 have qA := hA.five.1
 have q0 := (f0.below hB hg).c0
 go_wp2_with fail
 go_ret
 exact ⟨by first | rfl | simp [ByteArray.append_assoc],hB⟩
abbrev TyS (t : Tree) : Prop := ∀ (w : World) (v : Value),Tab10 w → TI w v t → (Pr.tx (Pr.typ t)).size ≤ 100000000 → Calls Tryz.prog 91 #[v] w (Say (Pr.typ t) w)
theorem named_says {n : ByteArray} {num a : Nat} {x : Tree} (hnum : num ≤ 1) (hx : TyS x) (hsz : (Pr.tx (Pr.named (.node 5 n num a [x]))).size ≤ 100000000) (w : World) (v : Value) (hW : Tab10 w) (h : TI w v (.node 5 n num a [x])) : Calls Tryz.prog 90 #[v] w (Say (Pr.named (.node 5 n num a [x])) w) := by
 have hT := h
 obtain ⟨so,sc,rfl,hsc,hR⟩ := h.node
 clear h
 change Calls _ _ #[NodeC n 5 num a so 1 sc] _ _
 have hA := Blk.new w 25 #[.int .i64 5,.string n,.int .i64 num,.int .i64 a,.slice so 1 sc]
 have hB := Below.al w 25 #[.int .i64 5,.string n,.int .i64 num,.int .i64 a,.slice so 1 sc]
 obtain ⟨X0,hX0⟩ : ∃ X,X = Pr.tx (Pr.star num) := ⟨_,rfl⟩
 obtain ⟨X1,hX1⟩ : ∃ X,X = Pr.tx (Pr.typ x) := ⟨_,rfl⟩
 have eT : Pr.named (.node 5 n num a [x]) = [Pr.nm n] ++ Pr.star num ++ [.sp,Pr.s_eq,.sp] ++ Pr.typ x := by
  try first | rfl | (simp only [List.append_assoc]; rfl)
 have eX : Pr.tx (Pr.named (.node 5 n num a [x])) = n ++ X0 ++ (⟨#[32,61,32]⟩ : ByteArray) ++ X1 := by
  rw [eT]
  try simp only [Pr.tx_app,Pr.tx_nm,← hX0,← hX1]
  try rfl
 rw [eX] at hsz
 unfold Say
 rw [eX]
 clear eT eX
 try simp only [ByteArray.size_append] at hsz
 have : (⟨#[32,61,32]⟩ : ByteArray).size = 3 := rfl
 have hS : n.size + X0.size + 3 + X1.size ≤ 100000000 := by omega
 have hC0 : ∀ (w : World) (v : Value),Tab10 w → TI w v (.node 5 n num a [x]) → Calls Tryz.prog 88 #[v] w fun e w' => e = .returned (.string X0) ∧ Below w.heap.size w w' := fun w v hw ht => say_to (star_says hnum w v ht) hX0
 have hC1 : ∀ (w : World) (v : Value),Tab10 w → TI w v x → Calls Tryz.prog 91 #[v] w fun e w' => e = .returned (.string X1) ∧ Below w.heap.size w w' := fun w v hw ht => say_to (hx w v hw ht (by rw [← hX1]; omega)) hX1
 clear hsz hX0 hX1 hnum hx
 have z1 : ¬ 9223372036854775807 < n.size + X0.size := by omega
 have z2 : ¬ 9223372036854775807 < n.size + X0.size + 3 := by omega
 have z3 : ¬ 9223372036854775807 < n.size + X0.size + 3 + X1.size := by omega
 clear hS
 obtain ⟨g,o,k0,n0,m0,a0,s0,u0,c0,rfl,hg,-,f0,t0⟩ := hR.at0
 have qA := hA.five.1
 have q0 := (f0.below hB hg).c0
 go_enter Tryz.func90,Tryz.ntmps90
 go_wp2_with fail
 replace hA := hA.below (drew_below _) hA.lt
 replace hB := hB.drew
 clear qA q0
 refine Ch.wp_region_tree (fun u => Blk u w.heap.size 25 #[.int .i64 5,.string n,.int .i64 num,.int .i64 a,.slice (some ⟨g,o,none⟩) 1 sc] ∧ Below w.heap.size w u) [1,2,7,9] [] (.take 0 (.take 1 (.take 2 (.take 6 (.take 7 (.take 8 (.take 9 (.one 3 (.take 4 (.take 5 (.one 10 (.take 11 (.take 12 .done))))))))))))) (by kernel_rfl) (by kernel_rfl) (fun _ _ d _ _ h => by cases d <;> first | exact h | exact ⟨h.1,h.2.drew⟩) ⟨hA,hB⟩ ?_
 refine Ch.tk0 rfl (by rfl) (fun u => by go_simp; rfl) ?_
 try simp only [putq]
 refine Ch.ld1 rfl (by rfl) (fun u ⟨hA,hB⟩ => by have qA := (Blk.five hA).1; have q0 := (f0.below hB hg).c0; go_simp; rfl) ?_
 try simp only [putq]
 refine Ch.ld2 rfl (by rfl) (fun u ⟨hA,hB⟩ => by have qA := (Blk.five hA).1; have q0 := (f0.below hB hg).c0; go_simp; rfl) ?_
 try simp only [putq]
 refine Ch.tk6 rfl (by rfl) (fun u => by go_simp; rfl) ?_
 try simp only [putq]
 refine Ch.ld7 rfl (by rfl) (fun u ⟨hA,hB⟩ => by have qA := (Blk.five hA).1; have q0 := (f0.below hB hg).c0; go_simp; rfl) ?_
 try simp only [putq]
 refine Ch.tk8 rfl (by rfl) (fun u => by go_simp; rfl) ?_
 try simp only [putq]
 refine Ch.ld9 rfl (by rfl) (fun u ⟨hA,hB⟩ => by have qA := (Blk.five hA).1; have q0 := (f0.below hB hg).c0; go_simp; rfl) ?_
 try simp only [putq]
 refine Ch.treeT_mid rfl (by rfl) (fun K hKK => ?_)
 go_simp
 refine (hC0 _ _ (hW.below hB) (hT.below hB)).mono ?_
 rintro e w4 ⟨rfl,hb⟩
 replace hA := hA.below hb hA.lt
 replace hB := hB.trans (hb.mono hB.size)
 clear hb
 refine hKK _ _ ⟨hA,hB⟩ ?_
 clear hKK K
 try simp only [putq]
 refine Ch.tk4 rfl (by rfl) (fun u => by go_simp; rfl) ?_
 try simp only [putq]
 refine Ch.tk5 rfl (by rfl) (fun u => by go_simp; rfl) ?_
 try simp only [putq]
 refine Ch.treeT_mid rfl (by rfl) (fun K hKK => ?_)
 go_simp
 refine (hC1 _ _ (hW.below hB) (t0.below hB)).mono ?_
 rintro e w5 ⟨rfl,hb⟩
 replace hA := hA.below hb hA.lt
 replace hB := hB.trans (hb.mono hB.size)
 clear hb
 refine hKK _ _ ⟨hA,hB⟩ ?_
 clear hKK K
 try simp only [putq]
 refine Ch.tk11 rfl (by rfl) (fun u => by go_simp; rfl) ?_
 try simp only [putq]
 refine Ch.tk12 rfl (by rfl) (fun u => by go_simp; rfl) ?_
 try simp only [putq]
 refine Ch.tree_end ?_
 have qA := hA.five.1
 have q0 := (f0.below hB hg).c0
 go_wp2_with fail
 go_ret
 exact ⟨by first | rfl | simp [ByteArray.append_assoc],hB⟩
theorem param1_says {n : ByteArray} {a : Nat} {x : Tree} (hx : Pr.PT x) (hsz : (Pr.tx (Pr.param (.node 8 n 1 a [x]))).size ≤ 100000000) (w : World) (v : Value) (hW : Tab10 w) (h : TI w v (.node 8 n 1 a [x])) : Calls Tryz.prog 142 #[v] w (Say (Pr.param (.node 8 n 1 a [x])) w) := by
 have hT := h
 obtain ⟨so,sc,rfl,hsc,hR⟩ := h.node
 clear h
 change Calls _ _ #[NodeC n 8 1 a so 1 sc] _ _
 have hA := Blk.new w 25 #[.int .i64 8,.string n,.int .i64 1,.int .i64 a,.slice so 1 sc]
 have hB := Below.al w 25 #[.int .i64 8,.string n,.int .i64 1,.int .i64 a,.slice so 1 sc]
 obtain ⟨X0,hX0⟩ : ∃ X,X = Pr.tx (Pr.typeName x) := ⟨_,rfl⟩
 have eT : Pr.param (.node 8 n 1 a [x]) = [Pr.kVAR,.sp] ++ [Pr.nm n] ++ [Pr.s_colon,.sp] ++ Pr.typeName x := by
  try first | rfl | (simp only [List.append_assoc]; rfl)
 have eX : Pr.tx (Pr.param (.node 8 n 1 a [x])) = (⟨#[86,65,82,32]⟩ : ByteArray) ++ n ++ (⟨#[58,32]⟩ : ByteArray) ++ X0 := by
  rw [eT]
  try simp only [Pr.tx_app,Pr.tx_nm,← hX0]
  try rfl
 rw [eX] at hsz
 unfold Say
 rw [eX]
 clear eT eX
 try simp only [ByteArray.size_append] at hsz
 have : (⟨#[58,32]⟩ : ByteArray).size = 2 := rfl
 have : (⟨#[86,65,82,32]⟩ : ByteArray).size = 4 := rfl
 have hS : 4 + n.size + 2 + X0.size ≤ 100000000 := by omega
 have hC0 : ∀ (w : World) (v : Value),Tab10 w → TI w v x → Calls Tryz.prog 138 #[v] w fun e w' => e = .returned (.string X0) ∧ Below w.heap.size w w' := fun w v hw ht => say_to (typeName_says hx w v ht) hX0
 clear hsz hX0 hx
 have z1 : ¬ 9223372036854775807 < 4 + n.size := by omega
 have z2 : ¬ 9223372036854775807 < 4 + n.size + 2 := by omega
 have z3 : ¬ 9223372036854775807 < 4 + n.size + 2 + X0.size := by omega
 clear hS
 obtain ⟨g,o,k0,n0,m0,a0,s0,u0,c0,rfl,hg,-,f0,t0⟩ := hR.at0
 have qA := hA.five.1
 have q0 := (f0.below hB hg).c0
 go_enter Tryz.func142,Tryz.ntmps142
 go_wp2_with fail
 replace hA := hA.below (drew_below _) hA.lt
 replace hB := hB.drew
 clear qA q0
 refine Ch.wp_region_tree (fun u => Blk u w.heap.size 25 #[.int .i64 8,.string n,.int .i64 1,.int .i64 a,.slice (some ⟨g,o,none⟩) 1 sc] ∧ Below w.heap.size w u) [1,5,7] [] (.take 0 (.take 1 (.take 2 (.take 3 (.take 4 (.take 5 (.take 6 (.take 7 (.one 8 (.take 9 (.take 10 .done))))))))))) (by kernel_rfl) (by kernel_rfl) (fun _ _ d _ _ h => by cases d <;> first | exact h | exact ⟨h.1,h.2.drew⟩) ⟨hA,hB⟩ ?_
 refine Ch.tk0 rfl (by rfl) (fun u => by go_simp; rfl) ?_
 try simp only [putq]
 refine Ch.ld1 rfl (by rfl) (fun u ⟨hA,hB⟩ => by have qA := (Blk.five hA).1; have q0 := (f0.below hB hg).c0; go_simp; rfl) ?_
 try simp only [putq]
 refine Ch.tk2 rfl (by rfl) (fun u => by go_simp; rfl) ?_
 try simp only [putq]
 refine Ch.tk3 rfl (by rfl) (fun u => by go_simp; rfl) ?_
 try simp only [putq]
 refine Ch.tk4 rfl (by rfl) (fun u => by go_simp; rfl) ?_
 try simp only [putq]
 refine Ch.ld5 rfl (by rfl) (fun u ⟨hA,hB⟩ => by have qA := (Blk.five hA).1; have q0 := (f0.below hB hg).c0; go_simp; rfl) ?_
 try simp only [putq]
 refine Ch.tk6 rfl (by rfl) (fun u => by go_simp; rfl) ?_
 try simp only [putq]
 refine Ch.ld7 rfl (by rfl) (fun u ⟨hA,hB⟩ => by have qA := (Blk.five hA).1; have q0 := (f0.below hB hg).c0; go_simp; rfl) ?_
 try simp only [putq]
 refine Ch.treeT_mid rfl (by rfl) (fun K hKK => ?_)
 go_simp
 refine (hC0 _ _ (hW.below hB) (t0.below hB)).mono ?_
 rintro e w4 ⟨rfl,hb⟩
 replace hA := hA.below hb hA.lt
 replace hB := hB.trans (hb.mono hB.size)
 clear hb
 refine hKK _ _ ⟨hA,hB⟩ ?_
 clear hKK K
 try simp only [putq]
 refine Ch.tk9 rfl (by rfl) (fun u => by go_simp; rfl) ?_
 try simp only [putq]
 refine Ch.tk10 rfl (by rfl) (fun u => by go_simp; rfl) ?_
 try simp only [putq]
 refine Ch.tree_end ?_
 have qA := hA.five.1
 have q0 := (f0.below hB hg).c0
 go_wp2_with fail
 go_ret
 exact ⟨by first | rfl | simp [ByteArray.append_assoc],hB⟩
theorem param0_says {n : ByteArray} {a : Nat} {x : Tree} (hx : Pr.PT x) (hsz : (Pr.tx (Pr.param (.node 8 n 0 a [x]))).size ≤ 100000000) (w : World) (v : Value) (hW : Tab10 w) (h : TI w v (.node 8 n 0 a [x])) : Calls Tryz.prog 142 #[v] w (Say (Pr.param (.node 8 n 0 a [x])) w) := by
 have hT := h
 obtain ⟨so,sc,rfl,hsc,hR⟩ := h.node
 clear h
 change Calls _ _ #[NodeC n 8 0 a so 1 sc] _ _
 have hA := Blk.new w 25 #[.int .i64 8,.string n,.int .i64 0,.int .i64 a,.slice so 1 sc]
 have hB := Below.al w 25 #[.int .i64 8,.string n,.int .i64 0,.int .i64 a,.slice so 1 sc]
 obtain ⟨X0,hX0⟩ : ∃ X,X = Pr.tx (Pr.typeName x) := ⟨_,rfl⟩
 have eT : Pr.param (.node 8 n 0 a [x]) = [Pr.nm n] ++ [Pr.s_colon,.sp] ++ Pr.typeName x := by
  try first | rfl | (simp only [List.append_assoc]; rfl)
 have eX : Pr.tx (Pr.param (.node 8 n 0 a [x])) = n ++ (⟨#[58,32]⟩ : ByteArray) ++ X0 := by
  rw [eT]
  try simp only [Pr.tx_app,Pr.tx_nm,← hX0]
  try rfl
 rw [eX] at hsz
 unfold Say
 rw [eX]
 clear eT eX
 try simp only [ByteArray.size_append] at hsz
 have : (⟨#[58,32]⟩ : ByteArray).size = 2 := rfl
 have hS : n.size + 2 + X0.size ≤ 100000000 := by omega
 have hC0 : ∀ (w : World) (v : Value),Tab10 w → TI w v x → Calls Tryz.prog 138 #[v] w fun e w' => e = .returned (.string X0) ∧ Below w.heap.size w w' := fun w v hw ht => say_to (typeName_says hx w v ht) hX0
 clear hsz hX0 hx
 have z1 : ¬ 9223372036854775807 < n.size + 2 := by omega
 have z2 : ¬ 9223372036854775807 < n.size + 2 + X0.size := by omega
 clear hS
 obtain ⟨g,o,k0,n0,m0,a0,s0,u0,c0,rfl,hg,-,f0,t0⟩ := hR.at0
 have qA := hA.five.1
 have q0 := (f0.below hB hg).c0
 go_enter Tryz.func142,Tryz.ntmps142
 go_wp2_with fail
 replace hA := hA.below (drew_below _) hA.lt
 replace hB := hB.drew
 clear qA q0
 refine Ch.wp_region_tree (fun u => Blk u w.heap.size 25 #[.int .i64 8,.string n,.int .i64 0,.int .i64 a,.slice (some ⟨g,o,none⟩) 1 sc] ∧ Below w.heap.size w u) [1,4,6] [] (.take 0 (.take 1 (.take 2 (.take 3 (.take 4 (.take 5 (.take 6 (.one 7 (.take 8 (.take 9 .done)))))))))) (by kernel_rfl) (by kernel_rfl) (fun _ _ d _ _ h => by cases d <;> first | exact h | exact ⟨h.1,h.2.drew⟩) ⟨hA,hB⟩ ?_
 refine Ch.tk0 rfl (by rfl) (fun u => by go_simp; rfl) ?_
 try simp only [putq]
 refine Ch.ld1 rfl (by rfl) (fun u ⟨hA,hB⟩ => by have qA := (Blk.five hA).1; have q0 := (f0.below hB hg).c0; go_simp; rfl) ?_
 try simp only [putq]
 refine Ch.tk2 rfl (by rfl) (fun u => by go_simp; rfl) ?_
 try simp only [putq]
 refine Ch.tk3 rfl (by rfl) (fun u => by go_simp; rfl) ?_
 try simp only [putq]
 refine Ch.ld4 rfl (by rfl) (fun u ⟨hA,hB⟩ => by have qA := (Blk.five hA).1; have q0 := (f0.below hB hg).c0; go_simp; rfl) ?_
 try simp only [putq]
 refine Ch.tk5 rfl (by rfl) (fun u => by go_simp; rfl) ?_
 try simp only [putq]
 refine Ch.ld6 rfl (by rfl) (fun u ⟨hA,hB⟩ => by have qA := (Blk.five hA).1; have q0 := (f0.below hB hg).c0; go_simp; rfl) ?_
 try simp only [putq]
 refine Ch.treeT_mid rfl (by rfl) (fun K hKK => ?_)
 go_simp
 refine (hC0 _ _ (hW.below hB) (t0.below hB)).mono ?_
 rintro e w3 ⟨rfl,hb⟩
 replace hA := hA.below hb hA.lt
 replace hB := hB.trans (hb.mono hB.size)
 clear hb
 refine hKK _ _ ⟨hA,hB⟩ ?_
 clear hKK K
 try simp only [putq]
 refine Ch.tk8 rfl (by rfl) (fun u => by go_simp; rfl) ?_
 try simp only [putq]
 refine Ch.tk9 rfl (by rfl) (fun u => by go_simp; rfl) ?_
 try simp only [putq]
 refine Ch.tree_end ?_
 have qA := hA.five.1
 have q0 := (f0.below hB hg).c0
 go_wp2_with fail
 go_ret
 exact ⟨by first | rfl | simp [ByteArray.append_assoc],hB⟩
theorem arr_says {m a : Nat} {x : Tree} (hm : m ≤ 2147483647) (hx : Pr.PT x) (hsz : (Pr.tx (Pr.typ (.node 9 ⟨#[]⟩ m a [x]))).size ≤ 100000000) (w : World) (v : Value) (hW : Tab10 w) (h : TI w v (.node 9 ⟨#[]⟩ m a [x])) : Calls Tryz.prog 91 #[v] w (Say (Pr.typ (.node 9 ⟨#[]⟩ m a [x])) w) := by
 have hT := h
 obtain ⟨so,sc,rfl,hsc,hR⟩ := h.node
 clear h
 change Calls _ _ #[NodeC ⟨#[]⟩ 9 m a so 1 sc] _ _
 have hA := Blk.new w 25 #[.int .i64 9,.string ⟨#[]⟩,.int .i64 m,.int .i64 a,.slice so 1 sc]
 have hB := Below.al w 25 #[.int .i64 9,.string ⟨#[]⟩,.int .i64 m,.int .i64 a,.slice so 1 sc]
 obtain ⟨X0,hX0⟩ : ∃ X,X = Pr.tx ([Pr.Pc.w (Pr.dec m)]) := ⟨_,rfl⟩
 obtain ⟨X1,hX1⟩ : ∃ X,X = Pr.tx (Pr.typeName x) := ⟨_,rfl⟩
 have eT : Pr.typ (.node 9 ⟨#[]⟩ m a [x]) = [Pr.kARRAY,.sp] ++ [.w (Pr.dec m)] ++ [.sp,Pr.kOF,.sp] ++ Pr.typeName x := by
  try first | rfl | (simp only [List.append_assoc]; rfl)
 have eX : Pr.tx (Pr.typ (.node 9 ⟨#[]⟩ m a [x])) = (⟨#[65,82,82,65,89,32]⟩ : ByteArray) ++ X0 ++ (⟨#[32,79,70,32]⟩ : ByteArray) ++ X1 := by
  rw [eT]
  try simp only [Pr.tx_app,← hX0,← hX1]
  try rfl
 rw [eX] at hsz
 unfold Say
 rw [eX]
 clear eT eX
 try simp only [ByteArray.size_append] at hsz
 have : (⟨#[32,79,70,32]⟩ : ByteArray).size = 4 := rfl
 have : (⟨#[65,82,82,65,89,32]⟩ : ByteArray).size = 6 := rfl
 have hS : 6 + X0.size + 4 + X1.size ≤ 100000000 := by omega
 have hC0 : ∀ (w : World),Tab10 w → Calls Tryz.prog 139 #[.int .i64 m] w fun e w' => e = .returned (.string X0) ∧ Below w.heap.size w w' := fun w hw => say_to (itoa_says hm w hw) hX0
 have hC1 : ∀ (w : World) (v : Value),Tab10 w → TI w v x → Calls Tryz.prog 138 #[v] w fun e w' => e = .returned (.string X1) ∧ Below w.heap.size w w' := fun w v hw ht => say_to (typeName_says hx w v ht) hX1
 clear hsz hX0 hX1 hm hx
 have z1 : ¬ 9223372036854775807 < 6 + X0.size := by omega
 have z2 : ¬ 9223372036854775807 < 6 + X0.size + 4 := by omega
 have z3 : ¬ 9223372036854775807 < 6 + X0.size + 4 + X1.size := by omega
 clear hS
 obtain ⟨g,o,k0,n0,m0,a0,s0,u0,c0,rfl,hg,-,f0,t0⟩ := hR.at0
 have qA := hA.five.1
 have q0 := (f0.below hB hg).c0
 go_enter Tryz.func91,Tryz.ntmps91
 go_wp2_with fail
 replace hA := hA.below (drew_below _) hA.lt
 replace hB := hB.drew
 clear qA q0
 refine Ch.wp_region_tree (fun u => Blk u w.heap.size 25 #[.int .i64 9,.string ⟨#[]⟩,.int .i64 m,.int .i64 a,.slice (some ⟨g,o,none⟩) 1 sc] ∧ Below w.heap.size w u) [1,6,8] [] (.take 0 (.take 1 (.take 5 (.take 6 (.take 7 (.take 8 (.one 2 (.take 3 (.take 4 (.one 9 (.take 10 (.take 11 .done)))))))))))) (by kernel_rfl) (by kernel_rfl) (fun _ _ d _ _ h => by cases d <;> first | exact h | exact ⟨h.1,h.2.drew⟩) ⟨hA,hB⟩ ?_
 refine Ch.tk0 rfl (by rfl) (fun u => by go_simp; rfl) ?_
 try simp only [putq]
 refine Ch.ld1 rfl (by rfl) (fun u ⟨hA,hB⟩ => by have qA := (Blk.five hA).1; have q0 := (f0.below hB hg).c0; go_simp; rfl) ?_
 try simp only [putq]
 refine Ch.tk5 rfl (by rfl) (fun u => by go_simp; rfl) ?_
 try simp only [putq]
 refine Ch.ld6 rfl (by rfl) (fun u ⟨hA,hB⟩ => by have qA := (Blk.five hA).1; have q0 := (f0.below hB hg).c0; go_simp; rfl) ?_
 try simp only [putq]
 refine Ch.tk7 rfl (by rfl) (fun u => by go_simp; rfl) ?_
 try simp only [putq]
 refine Ch.ld8 rfl (by rfl) (fun u ⟨hA,hB⟩ => by have qA := (Blk.five hA).1; have q0 := (f0.below hB hg).c0; go_simp; rfl) ?_
 try simp only [putq]
 refine Ch.treeT_mid rfl (by rfl) (fun K hKK => ?_)
 go_simp
 refine (hC0 _ (hW.below hB)).mono ?_
 rintro e w4 ⟨rfl,hb⟩
 replace hA := hA.below hb hA.lt
 replace hB := hB.trans (hb.mono hB.size)
 clear hb
 refine hKK _ _ ⟨hA,hB⟩ ?_
 clear hKK K
 try simp only [putq]
 refine Ch.tk3 rfl (by rfl) (fun u => by go_simp; rfl) ?_
 try simp only [putq]
 refine Ch.tk4 rfl (by rfl) (fun u => by go_simp; rfl) ?_
 try simp only [putq]
 refine Ch.treeT_mid rfl (by rfl) (fun K hKK => ?_)
 go_simp
 refine (hC1 _ _ (hW.below hB) (t0.below hB)).mono ?_
 rintro e w5 ⟨rfl,hb⟩
 replace hA := hA.below hb hA.lt
 replace hB := hB.trans (hb.mono hB.size)
 clear hb
 refine hKK _ _ ⟨hA,hB⟩ ?_
 clear hKK K
 try simp only [putq]
 refine Ch.tk10 rfl (by rfl) (fun u => by go_simp; rfl) ?_
 try simp only [putq]
 refine Ch.tk11 rfl (by rfl) (fun u => by go_simp; rfl) ?_
 try simp only [putq]
 refine Ch.tree_end ?_
 have qA := hA.five.1
 have q0 := (f0.below hB hg).c0
 go_wp2_with fail
 go_ret
 exact ⟨by first | rfl | simp [ByteArray.append_assoc],hB⟩
theorem ptr_says {a : Nat} {x : Tree} (hx : Pr.PT x) (hsz : (Pr.tx (Pr.typ (.node 12 ⟨#[]⟩ 0 a [x]))).size ≤ 100000000) (w : World) (v : Value) (hW : Tab10 w) (h : TI w v (.node 12 ⟨#[]⟩ 0 a [x])) : Calls Tryz.prog 91 #[v] w (Say (Pr.typ (.node 12 ⟨#[]⟩ 0 a [x])) w) := by
 have hT := h
 obtain ⟨so,sc,rfl,hsc,hR⟩ := h.node
 clear h
 change Calls _ _ #[NodeC ⟨#[]⟩ 12 0 a so 1 sc] _ _
 have hA := Blk.new w 25 #[.int .i64 12,.string ⟨#[]⟩,.int .i64 0,.int .i64 a,.slice so 1 sc]
 have hB := Below.al w 25 #[.int .i64 12,.string ⟨#[]⟩,.int .i64 0,.int .i64 a,.slice so 1 sc]
 obtain ⟨X0,hX0⟩ : ∃ X,X = Pr.tx (Pr.typeName x) := ⟨_,rfl⟩
 have eT : Pr.typ (.node 12 ⟨#[]⟩ 0 a [x]) = [Pr.kPOINTER,.sp,Pr.kTO,.sp] ++ Pr.typeName x := by
  try first | rfl | (simp only [List.append_assoc]; rfl)
 have eX : Pr.tx (Pr.typ (.node 12 ⟨#[]⟩ 0 a [x])) = (⟨#[80,79,73,78,84,69,82,32,84,79,32]⟩ : ByteArray) ++ X0 := by
  rw [eT]
  try simp only [Pr.tx_app,← hX0]
  try rfl
 rw [eX] at hsz
 unfold Say
 rw [eX]
 clear eT eX
 try simp only [ByteArray.size_append] at hsz
 have : (⟨#[80,79,73,78,84,69,82,32,84,79,32]⟩ : ByteArray).size = 11 := rfl
 have hS : 11 + X0.size ≤ 100000000 := by omega
 have hC0 : ∀ (w : World) (v : Value),Tab10 w → TI w v x → Calls Tryz.prog 138 #[v] w fun e w' => e = .returned (.string X0) ∧ Below w.heap.size w w' := fun w v hw ht => say_to (typeName_says hx w v ht) hX0
 clear hsz hX0 hx
 have z1 : ¬ 9223372036854775807 < 11 + X0.size := by omega
 clear hS
 obtain ⟨g,o,k0,n0,m0,a0,s0,u0,c0,rfl,hg,-,f0,t0⟩ := hR.at0
 have qA := hA.five.1
 have q0 := (f0.below hB hg).c0
 go_enter Tryz.func91,Tryz.ntmps91
 go_wp2_with fail
 refine (hC0 _ _ (hW.below hB) (t0.below hB)).mono ?_
 rintro e w2 ⟨rfl,hb⟩
 clear qA q0
 replace hA := hA.below hb hA.lt
 replace hB := hB.trans (hb.mono hB.size)
 clear hb
 have qA := hA.five.1
 have q0 := (f0.below hB hg).c0
 go_wp2_with fail
 go_ret
 exact ⟨by first | rfl | simp [ByteArray.append_assoc],hB⟩
theorem imp_says {n : ByteArray} {a : Nat} (hsz : (Pr.tx ([Pr.nm n])).size ≤ 100000000) (w : World) (v : Value) (_ : Tab10 w) (h : TI w v (.node 3 n 0 a [])) : Calls Tryz.prog 85 #[v] w (Say ([Pr.nm n]) w) := by
 have hT := h
 obtain ⟨so,sc,rfl,hsc,hR⟩ := h.node
 clear h
 change Calls _ _ #[NodeC n 3 0 a so 0 sc] _ _
 have hA := Blk.new w 25 #[.int .i64 3,.string n,.int .i64 0,.int .i64 a,.slice so 0 sc]
 have hB := Below.al w 25 #[.int .i64 3,.string n,.int .i64 0,.int .i64 a,.slice so 0 sc]
 have eT : [Pr.nm n] = [Pr.nm n] := by
  try first | rfl | (simp only [List.append_assoc]; rfl)
 have eX : Pr.tx ([Pr.nm n]) = n := by
  rw [eT]
  try simp only [Pr.tx_nm]
  try rfl
 rw [eX] at hsz
 unfold Say
 rw [eX]
 clear eT eX
 try simp only [ByteArray.size_append] at hsz
 have hS : n.size ≤ 100000000 := by omega
 clear hsz
 clear hS
 have qA := hA.five.1
 go_enter Tryz.func85,Tryz.ntmps85
 go_wp2_with fail
 go_ret
 exact ⟨by first | rfl | simp [ByteArray.append_assoc],hB⟩
end Go.Proofs.YtneohanphabneaaGreatDoor
