/-
  Print's writer: the words of built-in procedures. Printed by tools/gen_s.py.
-/
import Derived.Test.YtneohanphabneaaGreatDoorMWr10
namespace Go.Proofs.YtneohanphabneaaGreatDoor
set_option maxRecDepth 100000
set_option maxHeartbeats 4000000
open Go.RowKit Ps
def builtM : List (Nat × ByteArray) := [(20,⟨#[78,69,87]⟩),(21,⟨#[79,85,84]⟩),(22,⟨#[71,69,84]⟩),(23,⟨#[65,83,83,69,82,84]⟩)]
theorem built_any (w : World) : Calls Tryz.prog 175 #[] w fun e w' => (∃ g,e = .returned (.map (some g)) ∧ ∀ k y (u : World),builtM.find? (fun x => decide (x.1 = k)) = some y → Below w'.heap.size w' u → (Instr.lookup 169 (.map (some g)) (.int .i64 (k : Nat)) false).run Tryz.prog u = .ok (.string y.2) u) ∧ Below w.heap.size w w' := by
 have hM0 : MBK (w.alloc (.map #[] 0)) w.heap.size [] := heap_alloc_new w _
 have hB0 : Below w.heap.size w (w.alloc (.map #[] 0)) := (Below.refl _ _).alloc (Nat.le_refl _) _
 have hmk := fun ty => run_makeMap (P := Tryz.prog) ty w
 go_enter Tryz.func175,Tryz.ntmps175
 go_wp2_with (first | (refine wp_putK w _ rfl _ _ _ rfl w.heap.size _ _ _ (by rfl) (by rfl) (by rfl) (by assumption) (by rfl) (Nat.le_refl _) (by assumption) ?_; intro w1 hm1 hb1))
 go_ret
 have hm2 : MBK w1 w.heap.size builtM := hm1
 clear hm1
 have hlt : w.heap.size < w1.heap.size := by
  rcases Nat.lt_or_ge w.heap.size w1.heap.size with h | h
  ·exact h
  ·unfold MBK at hm2; rw [Array.getElem?_eq_none h] at hm2; cases hm2
 exact ⟨⟨w.heap.size,rfl,fun k y z u hk hu => run_getK (show MBK u w.heap.size builtM from (hu.block _ hlt).trans hm2) k (y,z) hk⟩,hb1⟩
theorem sbuilt_says {a d : Nat} {x : Tree} {k : Nat} {nw : ByteArray} {kw : Pr.Pc} (hk : k = 20 ∧ nw = ⟨#[78,69,87]⟩ ∧ kw = Pr.kNEW ∨ k = 21 ∧ nw = ⟨#[79,85,84]⟩ ∧ kw = Pr.kOUT ∨ k = 22 ∧ nw = ⟨#[71,69,84]⟩ ∧ kw = Pr.kGET ∨ k = 23 ∧ nw = ⟨#[65,83,83,69,82,84]⟩ ∧ kw = Pr.kASSERT) (hd : d ≤ 1000) (hx : ExS x) : StC (.node k ⟨#[]⟩ 0 a [x]) d := by
 intro w B b l v e he hP hv hl
 obtain ⟨so,sc,rfl,hsc,hR⟩ := hv.node
 clear hv
 have hkw : Pr.tx [kw,Pr.s_lp] = nw ++ (⟨#[40]⟩ : ByteArray) := by rcases hk with ⟨rfl,rfl,rfl⟩ | ⟨rfl,rfl,rfl⟩ | ⟨rfl,rfl,rfl⟩ | ⟨rfl,rfl,rfl⟩ <;> rfl
 have hfind : builtM.find? (fun x => decide (x.1 = k)) = some (k,nw) := by rcases hk with ⟨rfl,rfl,rfl⟩ | ⟨rfl,rfl,rfl⟩ | ⟨rfl,rfl,rfl⟩ | ⟨rfl,rfl,rfl⟩ <;> rfl
 have k14 : ¬ (k : Int) = 14 := by omega
 have k15 : ¬ (k : Int) = 15 := by omega
 have k16 : ¬ (k : Int) = 16 := by omega
 have k17 : ¬ (k : Int) = 17 := by omega
 have k18 : ¬ (k : Int) = 18 := by omega
 have k19 : ¬ (k : Int) = 19 := by omega
 have eT : Pr.stmt (.node k ⟨#[]⟩ 0 a [x]) d e = Pr.line d ([kw,Pr.s_lp] ++ Pr.expr x 0 ++ [Pr.s_rp] ++ e) := by
  rcases hk with ⟨rfl,rfl,rfl⟩ | ⟨rfl,rfl,rfl⟩ | ⟨rfl,rfl,rfl⟩ | ⟨rfl,rfl,rfl⟩ <;> (unfold Pr.stmt; rw [Pr.blockL_map]; rfl)
 rw [eT] at hl ⊢
 clear eT
 have hE1 : (Pr.tx e).size ≤ 1 := by rcases he with rfl | rfl <;> decide
 obtain ⟨E,hE⟩ : ∃ E,E = Pr.tx e := ⟨_,rfl⟩
 rw [← hE] at hE1 ⊢
 obtain ⟨X0,hX0⟩ : ∃ X,X = Pr.tx (Pr.expr x 0) := ⟨_,rfl⟩
 have eS0 : nw ++ (⟨#[40]⟩ : ByteArray) ++ X0 ++ (⟨#[41]⟩ : ByteArray) ++ E = Pr.tx ([kw,Pr.s_lp] ++ Pr.expr x 0 ++ [Pr.s_rp] ++ e) := by
  try simp only [Pr.tx_app,← hX0,← hE,hkw]
  try rfl
 have hZ0 : nw.size + 1 + X0.size + 1 + E.size ≤ (Pr.txt (Pr.line d ([kw,Pr.s_lp] ++ Pr.expr x 0 ++ [Pr.s_rp] ++ e))).length := by
  rw [txt_line,List.length_append,List.length_append,← Pr.tx_size,← eS0]
  try simp only [ByteArray.size_append]
  simp only [ByteArray.size,List.size_toArray,List.length_cons,List.length_nil]
  omega
 have z0_2 : ¬ 9223372036854775807 < nw.size + 1 := by
  try simp only [List.length_append] at hl
  omega
 have z0_3 : ¬ 9223372036854775807 < nw.size + 1 + X0.size := by
  try simp only [List.length_append] at hl
  omega
 have z0_4 : ¬ 9223372036854775807 < nw.size + 1 + X0.size + 1 := by
  try simp only [List.length_append] at hl
  omega
 have z0_5 : ¬ 9223372036854775807 < nw.size + 1 + X0.size + 1 + E.size := by
  try simp only [List.length_append] at hl
  omega
 have hC0 : ExC x 0 X0 := hx.to hX0 (by omega) (by (try simp only [List.length_append] at hl); omega) rfl
 have HL := Lib.hid hl
 have hne : w.heap.size ≠ b := by have := hP.lt; omega
 clear hl hk hkw hX0 hE he hE1 hZ0
 have HS0 := Lib.hid eS0
 clear eS0
 have hA := Blk.new w 25 #[.int .i64 k,.string ⟨#[]⟩,.int .i64 0,.int .i64 a,.slice so 1 sc]
 have hal := Below.al w 25 #[.int .i64 k,.string ⟨#[]⟩,.int .i64 0,.int .i64 a,.slice so 1 sc]
 have hK := Wk.of (b := b) hP.hB hal
 have hB0 := hP.hB
 replace hP := hP.below hal
 clear hal
 obtain ⟨g,o,k0,n0,m0,a0,s0,u0,c0,rfl,hg,-,f0,t0⟩ := hR.at0
 clear hR
 have HN : Hid (d ≤ 1000) := Lib.hid hd
 clear hd
 change Calls _ _ #[.pointer (some ⟨b,0,none⟩),NodeC ⟨#[]⟩ k 0 a (some ⟨g,o,none⟩) 1 sc,.string E] _ _
 have qA := hA.five.1
 have q0 := (f0.below hK.below hg).c0
 go_enter Tryz.func143,Tryz.ntmps143
 go_wp2_with fail
 replace hA := hA.below (drew_below _) hA.lt
 replace hK := hK.trans (Wk.of hP.hB (drew_below _))
 replace hP := hP.below (drew_below _)
 clear qA q0
 refine Ch.wp_region_tree (fun u => Blk u w.heap.size 25 #[.int .i64 k,.string ⟨#[]⟩,.int .i64 0,.int .i64 a,.slice (some ⟨g,o,none⟩) 1 sc] ∧ Wk B b w u) [3,7,9] [] (.take 0 (.take 2 (.take 3 (.take 6 (.take 7 (.take 8 (.take 9 (.take 13 (.one 1 (.two 4 (.take 5 (.one 10 (.take 11 (.take 12 (.take 14 (.one 15 .done)))))) 10 (.one 4 (.take 5 (.take 11 (.take 12 (.take 14 (.one 15 .done)))))))))))))))) (by kernel_rfl) (by kernel_rfl) (fun _ _ d _ _ h => by cases d <;> first | exact h | exact ⟨h.1,h.2.drew⟩) ⟨hA,hK⟩ ?_
 repeat
  first
  | refine Ch.treeT_take rfl (by rfl) (by rfl) (fun u => by go_simp; rfl) ?_
  | refine Ch.treeT_load rfl (by rfl) (by rfl) (fun u ⟨hA,hK⟩ => by have qA := (Blk.five hA).1; have q0 := (f0.below hK.below hg).c0; go_simp; rfl) ?_
  try simp only [putq]
 refine Ch.treeT_mid rfl (by rfl) (fun K hKK => ?_)
 go_simp
 refine (built_any _).mono ?_
 rintro e w1 ⟨⟨gm,rfl,hlk⟩,hb⟩
 replace hA := hA.below hb hA.lt
 replace hK := hK.trans (Wk.of hP.hB hb)
 replace hP := hP.below hb
 clear hb
 have hlkB := Below.refl w1.heap.size w1
 refine hKK _ _ ⟨hA,hK⟩ ?_
 clear hKK K
 try simp only [putq]
 refine Ch.tree_two ?_ ?_
 ·refine Ch.treeT_mid rfl (by rfl) (fun K hKK => ?_)
  have hl0 : (Instr.lookup 169 (.map (some gm)) (.int .i64 k) false).run Tryz.prog w1 = .ok (.string nw) w1 := hlk k (k,nw) _ hfind hlkB
  clear hlk hlkB
  go_simp
  refine hKK _ _ ⟨hA,hK⟩ ?_
  clear hKK K
  try simp only [putq]
  clear hl0
  refine Ch.treeT_take rfl (by rfl) (by rfl) (fun u => by go_simp; rfl) ?_
  try simp only [putq]
  refine Ch.treeT_mid rfl (by rfl) (fun K hKK => ?_)
  go_simp
  refine (hC0 _ _ hP.tab.1 (t0.below hK.below).ti).mono ?_
  rintro e w2 ⟨rfl,hb⟩
  replace hA := hA.below hb hA.lt
  replace hK := hK.trans (Wk.of hP.hB hb)
  replace hP := hP.below hb
  clear hb
  refine hKK _ _ ⟨hA,hK⟩ ?_
  clear hKK K
  try simp only [putq]
  repeat
   refine Ch.treeT_take rfl (by rfl) (by rfl) (fun u => by go_simp; rfl) ?_
   try simp only [putq]
  refine Ch.treeT_mid rfl (by rfl) (fun K hKK => ?_)
  go_simp
  refine (hP.line HN.out ([kw,Pr.s_lp] ++ Pr.expr x 0 ++ [Pr.s_rp] ++ e) (nw ++ (⟨#[40]⟩ : ByteArray) ++ X0 ++ (⟨#[41]⟩ : ByteArray) ++ E) HS0.out (by have := HL.out; (try simp only [List.length_append] at this ⊢); omega)).mono ?_
  rintro e w3 ⟨rfl,hp,hk⟩
  replace hA := hA.wk hk hne (by decide)
  replace hK := hK.trans hk
  clear hP hk
  have hP := hp
  clear hp
  refine hKK _ _ ⟨hA,hK⟩ ?_
  clear hKK K
  try simp only [putq]
  refine Ch.tree_end ?_
  have qA := hA.five.1
  have q0 := (f0.below hK.below hg).c0
  go_wp2_with fail
  refine ⟨rfl,_,by simp [results,Tryz.results143],rfl,hP.to ?_,hK⟩
  first | rfl | (simp only [List.append_assoc]; done) | simp
 ·refine Ch.treeT_mid rfl (by rfl) (fun K hKK => ?_)
  go_simp
  refine (hC0 _ _ hP.tab.1 (t0.below hK.below).ti).mono ?_
  rintro e w4 ⟨rfl,hb⟩
  replace hA := hA.below hb hA.lt
  replace hlkB := hlkB.trans (hb.mono hlkB.size)
  replace hK := hK.trans (Wk.of hP.hB hb)
  replace hP := hP.below hb
  clear hb
  refine hKK _ _ ⟨hA,hK⟩ ?_
  clear hKK K
  try simp only [putq]
  refine Ch.treeT_mid rfl (by rfl) (fun K hKK => ?_)
  have hl0 : (Instr.lookup 169 (.map (some gm)) (.int .i64 k) false).run Tryz.prog w4 = .ok (.string nw) w4 := hlk k (k,nw) _ hfind hlkB
  clear hlk hlkB
  go_simp
  refine hKK _ _ ⟨hA,hK⟩ ?_
  clear hKK K
  try simp only [putq]
  clear hl0
  repeat
   refine Ch.treeT_take rfl (by rfl) (by rfl) (fun u => by go_simp; rfl) ?_
   try simp only [putq]
  refine Ch.treeT_mid rfl (by rfl) (fun K hKK => ?_)
  go_simp
  refine (hP.line HN.out ([kw,Pr.s_lp] ++ Pr.expr x 0 ++ [Pr.s_rp] ++ e) (nw ++ (⟨#[40]⟩ : ByteArray) ++ X0 ++ (⟨#[41]⟩ : ByteArray) ++ E) HS0.out (by have := HL.out; (try simp only [List.length_append] at this ⊢); omega)).mono ?_
  rintro e w5 ⟨rfl,hp,hk⟩
  replace hA := hA.wk hk hne (by decide)
  replace hK := hK.trans hk
  clear hP hk
  have hP := hp
  clear hp
  refine hKK _ _ ⟨hA,hK⟩ ?_
  clear hKK K
  try simp only [putq]
  refine Ch.tree_end ?_
  have qA := hA.five.1
  have q0 := (f0.below hK.below hg).c0
  go_wp2_with fail
  refine ⟨rfl,_,by simp [results,Tryz.results143],rfl,hP.to ?_,hK⟩
  first | rfl | (simp only [List.append_assoc]; done) | simp
set_option maxRecDepth 100000
set_option maxHeartbeats 2000000
open Go.RowKit Ps
theorem scall0_says {a d : Nat} {y : Tree} (hd : d ≤ 1000) (hy : ExS y) : StC (.node 15 ⟨#[]⟩ 0 a [y]) d := by
 intro w B b l v e he hP hv hl
 obtain ⟨so,sc,rfl,hsc,hR⟩ := hv.node
 clear hv
 have eT : Pr.stmt (.node 15 ⟨#[]⟩ 0 a [y]) d e = Pr.line d (Pr.expr y 3 ++ e) := by
  unfold Pr.stmt
  rw [Pr.blockL_map]
  show Pr.line d (Pr.expr y 3 ++ [] ++ e) = _
  rw [List.append_nil]
 rw [eT] at hl ⊢
 clear eT
 have hE1 : (Pr.tx e).size ≤ 1 := by rcases he with rfl | rfl <;> decide
 obtain ⟨E,hE⟩ : ∃ E,E = Pr.tx e := ⟨_,rfl⟩
 rw [← hE] at hE1 ⊢
 obtain ⟨X0,hX0⟩ : ∃ X,X = Pr.tx (Pr.expr y 3) := ⟨_,rfl⟩
 have eS0 : X0 ++ E = Pr.tx (Pr.expr y 3 ++ e) := by
  try simp only [Pr.tx_app,← hX0,← hE]
  try rfl
 have hZ0 : X0.size + E.size ≤ (Pr.txt (Pr.line d (Pr.expr y 3 ++ e))).length := by
  rw [txt_line,List.length_append,List.length_append,← Pr.tx_size,← eS0]
  try simp only [ByteArray.size_append]
  simp only [ByteArray.size,List.length_cons,List.length_nil]
  omega
 have z0_2 : ¬ 9223372036854775807 < X0.size + E.size := by
  try simp only [List.length_append] at hl
  omega
 have hC0 : ExC y 3 X0 := hy.to hX0 (by omega) (by (try simp only [List.length_append] at hl); omega) rfl
 have HL := Lib.hid hl
 have hne : w.heap.size ≠ b := by have := hP.lt; omega
 clear hl hX0 hE he hE1 hZ0
 have HS0 := Lib.hid eS0
 clear eS0
 have hA := Blk.new w 25 #[.int .i64 15,.string ⟨#[]⟩,.int .i64 0,.int .i64 a,.slice so 1 sc]
 have hal := Below.al w 25 #[.int .i64 15,.string ⟨#[]⟩,.int .i64 0,.int .i64 a,.slice so 1 sc]
 have hK := Wk.of (b := b) hP.hB hal
 have hB0 := hP.hB
 replace hP := hP.below hal
 clear hal
 obtain ⟨g,o,k0,n0,m0,a0,s0,u0,c0,rfl,hg,-,f0,t0⟩ := hR.at0
 clear hR
 have HN : Hid (d ≤ 1000) := Lib.hid hd
 clear hd
 change Calls _ _ #[.pointer (some ⟨b,0,none⟩),NodeC ⟨#[]⟩ 15 0 a (some ⟨g,o,none⟩) 1 sc,.string E] _ _
 have qA := hA.five.1
 have q0 := (f0.below hK.below hg).c0
 go_enter Tryz.func143,Tryz.ntmps143
 go_wp2_with fail
 refine (hC0 _ _ hP.tab.1 (t0.below hK.below).ti).mono ?_
 rintro e w1 ⟨rfl,hb⟩
 clear qA q0
 replace hA := hA.below hb hA.lt
 replace hK := hK.trans (Wk.of hP.hB hb)
 replace hP := hP.below hb
 clear hb
 have qA := hA.five.1
 have q0 := (f0.below hK.below hg).c0
 go_wp2_with fail
 refine (hP.line HN.out (Pr.expr y 3 ++ e) (X0 ++ E) HS0.out (by have := HL.out; (try simp only [List.length_append] at this ⊢); omega)).mono ?_
 rintro e w2 ⟨rfl,hp,hk⟩
 clear qA q0
 replace hA := hA.wk hk hne (by decide)
 replace hK := hK.trans hk
 clear hP hk
 have hP := hp
 clear hp
 have qA := hA.five.1
 have q0 := (f0.below hK.below hg).c0
 go_wp2_with fail
 refine ⟨rfl,_,by simp [results,Tryz.results143],rfl,hP.to ?_,hK⟩
 first | rfl | (simp only [List.append_assoc]; done) | simp
theorem scall1_says {a d : Nat} {y : Tree} (hd : d ≤ 1000) (hy : ExS y) {ts : List Tree} (hz : ts ≠ []) (hts : ∀ t ∈ ts,ExS t) : StC (.node 15 ⟨#[]⟩ 0 a (y :: ts)) d := by
 intro w B b l v e he hP hv hl
 obtain ⟨so,sc,rfl,hsc,hR⟩ := hv.node
 clear hv
 have eT : Pr.stmt (.node 15 ⟨#[]⟩ 0 a (y :: ts)) d e = Pr.line d (Pr.expr y 3 ++ Pr.argsP (ts.map Pr.expr) ++ e) := by
  unfold Pr.stmt
  rw [Pr.blockL_map]
  cases ts with
  | nil => exact absurd rfl hz
  | cons _ _ => rfl
 rw [eT] at hl ⊢
 clear eT
 have hE1 : (Pr.tx e).size ≤ 1 := by rcases he with rfl | rfl <;> decide
 obtain ⟨E,hE⟩ : ∃ E,E = Pr.tx e := ⟨_,rfl⟩
 rw [← hE] at hE1 ⊢
 obtain ⟨X0,hX0⟩ : ∃ X,X = Pr.tx (Pr.expr y 3) := ⟨_,rfl⟩
 obtain ⟨XA,hXA⟩ : ∃ X,X = Pr.tx (Pr.argsP (ts.map Pr.expr)) := ⟨_,rfl⟩
 have eS0 : X0 ++ XA ++ E = Pr.tx (Pr.expr y 3 ++ Pr.argsP (ts.map Pr.expr) ++ e) := by
  try simp only [Pr.tx_app,← hX0,← hXA,← hE]
  try rfl
 have hZ0 : X0.size + XA.size + E.size ≤ (Pr.txt (Pr.line d (Pr.expr y 3 ++ Pr.argsP (ts.map Pr.expr) ++ e))).length := by
  rw [txt_line,List.length_append,List.length_append,← Pr.tx_size,← eS0]
  try simp only [ByteArray.size_append]
  simp only [ByteArray.size,List.length_cons,List.length_nil]
  omega
 have z0_2 : ¬ 9223372036854775807 < X0.size + XA.size := by
  try simp only [List.length_append] at hl
  omega
 have z0_3 : ¬ 9223372036854775807 < X0.size + XA.size + E.size := by
  try simp only [List.length_append] at hl
  omega
 have hC0 : ExC y 3 X0 := hy.to hX0 (by omega) (by (try simp only [List.length_append] at hl); omega) rfl
 have hCA : ∀ (w : World) (so : Option Addr) (sc : Nat),ts.length ≤ sc → Tab10 w → RowAt w so ts → Calls Tryz.prog 140 #[.slice so ts.length sc] w fun e w' => e = .returned (.string XA) ∧ Below w.heap.size w w' := fun w so sc h1 hw ht => say_to (args_says so sc ts hts (by rw [← hXA]; (try simp only [List.length_append] at hl); omega) w hw h1 ht) hXA
 have HL := Lib.hid hl
 have hne : w.heap.size ≠ b := by have := hP.lt; omega
 clear hl hX0 hXA hE he hE1 hZ0
 have HS0 := Lib.hid eS0
 clear eS0
 have hA := Blk.new w 25 #[.int .i64 15,.string ⟨#[]⟩,.int .i64 0,.int .i64 a,.slice so (ts.length + 1) sc]
 have hal := Below.al w 25 #[.int .i64 15,.string ⟨#[]⟩,.int .i64 0,.int .i64 a,.slice so (ts.length + 1) sc]
 have hK := Wk.of (b := b) hP.hB hal
 have hB0 := hP.hB
 replace hP := hP.below hal
 clear hal
 obtain ⟨g,o,k0,n0,m0,a0,s0,u0,c0,rfl,hg,-,f0,t0⟩ := hR.at0
 have hT := hR.tail
 clear hR
 have hmx := hT.max
 replace hsc : ts.length + 1 ≤ sc := hsc
 have hl1 : 1 ≤ ts.length := by
  rcases Nat.eq_zero_or_pos ts.length with h | h
  ·exact absurd (List.length_eq_zero_iff.1 h) hz
  ·exact h
 have hl0 : (0 : Int) < ((ts.length + 1 : Nat) : Int) := by omega
 have hg1 : (1 : Int) < (ts.length : Int) + 1 := by omega
 have h2 : (1 : Int) < (sc : Int) := by omega
 have h3 : (1 : Int) ≤ (ts.length : Int) + 1 := by omega
 have h4 : ¬ sc = 1 := by omega
 clear hz
 have HN : Hid (d ≤ 1000) := Lib.hid hd
 clear hd
 change Calls _ _ #[.pointer (some ⟨b,0,none⟩),NodeC ⟨#[]⟩ 15 0 a (some ⟨g,o,none⟩) (ts.length + 1) sc,.string E] _ _
 have qA := hA.five.1
 have q0 := (f0.below hK.below hg).c0
 go_enter Tryz.func143,Tryz.ntmps143
 go_wp2_with fail
 refine (hC0 _ _ hP.tab.1 (t0.below hK.below).ti).mono ?_
 rintro e w3 ⟨rfl,hb⟩
 clear qA q0
 replace hA := hA.below hb hA.lt
 replace hK := hK.trans (Wk.of hP.hB hb)
 replace hP := hP.below hb
 clear hb
 have qA := hA.five.1
 have q0 := (f0.below hK.below hg).c0
 go_wp2_with fail
 refine (hCA _ (some ⟨g,o + 5,none⟩) (sc - 1) (by omega) hP.tab.1 (hT.below hK.below hB0).at).mono ?_
 rintro e w4 ⟨rfl,hb⟩
 clear qA q0
 replace hA := hA.below hb hA.lt
 replace hK := hK.trans (Wk.of hP.hB hb)
 replace hP := hP.below hb
 clear hb
 have qA := hA.five.1
 have q0 := (f0.below hK.below hg).c0
 go_wp2_with fail
 refine (hP.line HN.out (Pr.expr y 3 ++ Pr.argsP (ts.map Pr.expr) ++ e) (X0 ++ XA ++ E) HS0.out (by have := HL.out; (try simp only [List.length_append] at this ⊢); omega)).mono ?_
 rintro e w5 ⟨rfl,hp,hk⟩
 clear qA q0
 replace hA := hA.wk hk hne (by decide)
 replace hK := hK.trans hk
 clear hP hk
 have hP := hp
 clear hp
 have qA := hA.five.1
 have q0 := (f0.below hK.below hg).c0
 go_wp2_with fail
 refine ⟨rfl,_,by simp [results,Tryz.results143],rfl,hP.to ?_,hK⟩
 first | rfl | (simp only [List.append_assoc]; done) | simp
set_option maxRecDepth 100000
set_option maxHeartbeats 8000000
open Go.RowKit Ps
theorem ifs_two (d : Nat) (w : Pr.Pc) (c b : Tree) (ts : List Tree) : Pr.ifs d w (c :: b :: ts) (Pr.blockL (c :: b :: ts)) = Pr.line d ([w,.sp] ++ Pr.expr c 0 ++ [.sp,Pr.kTHEN]) ++ Pr.block b d ++ Pr.ifs d Pr.kELSIF ts (Pr.blockL ts) := by
 rw [Pr.blockL_map,Pr.blockL_map,List.map_cons,List.map_cons]
 conv => lhs; unfold Pr.ifs
theorem ifs_one (d : Nat) (w : Pr.Pc) (ts : List Tree) (h : ts.length ≤ 1) : Pr.ifs d w ts (Pr.blockL ts) = [] := by
 match ts,h with
 | [],_ => rfl
 | [_],_ => rfl
theorem drop_two {ts : List Tree} {q : Nat} (h : q + 1 < ts.length) : ts.drop q = ts[q] :: ts[q + 1] :: ts.drop (q + 2) := by
 rw [List.drop_eq_getElem_cons (by omega),List.drop_eq_getElem_cons h]
theorem blk_at {ts : List Tree} {i d : Nat} (h : i < ts.length) : Pr.blk (Pr.blockL ts) i d = Pr.block ts[i] d := by
 unfold Pr.blk
 rw [Pr.blockL_map,List.getElem?_map,List.getElem?_eq_getElem h]
 rfl
theorem sif0_says {a d : Nat} {ts : List Tree} (hd : d ≤ 1000) (hlen : 2 ≤ ts.length) (hnum : ts.length % 2 = 0) (hE : ∀ i (h : i < ts.length),i % 2 = 0 → i + 1 < ts.length → ExS ts[i]) (hS : ∀ i (h : i < ts.length),¬ (i % 2 = 0 ∧ i + 1 < ts.length) → BlC ts[i] d) : StC (.node 16 ⟨#[]⟩ 0 a ts) d := by
 intro w B b l v e he hP hv hl
 obtain ⟨so,sc,rfl,hsc,hR⟩ := hv.node
 clear hv
 obtain ⟨r,hr⟩ : ∃ r,ts.length = r + 1 := ⟨ts.length - 1,by omega⟩
 have hrl : r < ts.length := by omega
 have eT : Pr.stmt (.node 16 ⟨#[]⟩ 0 a ts) d e = Pr.ifs d Pr.kIF ts (Pr.blockL ts) ++ ([]) ++ Pr.line d ([Pr.kEND] ++ e) := by
  conv => lhs; unfold Pr.stmt
  show Pr.ifs d Pr.kIF ts (Pr.blockL ts) ++ (if 0 = 1 then Pr.line d [Pr.kELSE] ++ Pr.blk (Pr.blockL ts) (ts.length - 1) d else []) ++ Pr.line d ([Pr.kEND] ++ e) = _
  rw [if_neg (by decide)]
 rw [eT] at hl ⊢
 clear eT
 rw [List.append_nil] at hl ⊢
 simp only [Pr.txt_app] at hl ⊢
 have hE1 : (Pr.tx e).size ≤ 1 := by rcases he with rfl | rfl <;> decide
 obtain ⟨E,hEe⟩ : ∃ E,E = Pr.tx e := ⟨_,rfl⟩
 rw [← hEe] at hE1 ⊢
 have eS1 : (⟨#[69,78,68]⟩ : ByteArray) ++ E = Pr.tx ([Pr.kEND] ++ e) := by
  rw [Pr.tx_app,← hEe]
  rfl
 have z1 : ¬ 9223372036854775807 < 3 + E.size := by omega
 obtain ⟨T,hT⟩ : ∃ T,T = Pr.txt (Pr.ifs d Pr.kIF ts (Pr.blockL ts)) := ⟨_,rfl⟩
 rw [← hT] at hl ⊢
 have HL := Lib.hid hl
 have hne : w.heap.size ≠ b := by have := hP.lt; omega
 clear hl he hE1 hEe
 have HS1 := Lib.hid eS1
 clear eS1
 have hA := Blk.new w 25 #[.int .i64 16,.string ⟨#[]⟩,.int .i64 0,.int .i64 a,.slice so ts.length sc]
 have hal : Below w.heap.size w (w.alloc (.cells #[.int .i64 16,.string ⟨#[]⟩,.int .i64 0,.int .i64 a,.slice so ts.length sc] 25)) := (Below.refl _ _).alloc (Nat.le_refl _) _
 have hK := Wk.refl B b w
 have HR := Lib.hid (hR.below (hal.mono hP.hB) hP.hB)
 have hmx := hR.max
 clear hR
 replace hK := hK.trans (Wk.of hP.hB hal)
 replace hP := hP.below hal
 clear hal
 have HN : Hid (d ≤ 1000) := Lib.hid hd
 have HE := Lib.hid hE
 have HS := Lib.hid hS
 have HRR := Lib.hid hr
 clear hd hE hS hr
 change Calls _ _ #[.pointer (some ⟨b,0,none⟩),NodeC ⟨#[]⟩ 16 0 a so ts.length sc,.string E] _ _
 obtain ⟨⟨q1,q2,q3,q4,q5⟩,_⟩ := hA.five
 go_enter Tryz.func143,Tryz.ntmps143
 go_wp2_with fail
 clear q1 q2 q3 q4 q5
 obtain ⟨w1,hw1⟩ : ∃ w1,w1 = w.alloc (.cells #[.int .i64 16,.string ⟨#[]⟩,.int .i64 0,.int .i64 a,.slice so ts.length sc] 25) := ⟨_,rfl⟩
 rw [← hw1] at hA hK hP HR
 change Code.wp _ _ _ _ (w.alloc (.cells #[.int .i64 16,.string ⟨#[]⟩,.int .i64 0,.int .i64 a,.slice so ts.length sc] 25))
 rw [← hw1]
 clear hw1
 go_loopw [6,7] (fun v i wr => ∃ (q : Nat) (m : List UInt8) (wd : Pr.Pc),q ≤ ts.length ∧ q % 2 = 0 ∧ i = .int .i64 q ∧ v = .string (Pr.tx [wd,.sp]) ∧ (Pr.tx [wd,.sp]).size ≤ 6 ∧ Hid (m ++ Pr.txt (Pr.ifs d wd (ts.drop q) (Pr.blockL (ts.drop q))) = T) ∧ Hid (Pen wr B b (l ++ m) d) ∧ Hid (Wk B b w wr) ∧ Hid (Wk B b w1 wr) ∧ Hid (Blk wr w.heap.size 25 #[.int .i64 16,.string ⟨#[]⟩,.int .i64 0,.int .i64 a,.slice so ts.length sc])) (fun _ i _ => ts.length - (intOf i).toNat)
 case atStart => exact ⟨0,[],Pr.kIF,Nat.zero_le _,rfl,rfl,rfl,by decide,Lib.hid (by rw [hT]; rfl),Lib.hid (hP.to (List.append_nil _).symm),Lib.hid hK,Lib.hid (Wk.refl _ _ _),Lib.hid hA⟩
 case round =>
  obtain ⟨q,m,wd,hq,hq2,rfl,rfl,hwd,HM,HP,HK,HK1,HA⟩ := hrel
  obtain ⟨V,hV⟩ : ∃ V,V = Pr.tx [wd,.sp] := ⟨_,rfl⟩
  rw [← hV] at hwd ⊢
  have hB1 := hP.hB
  have HB1 := Lib.hid hB1
  clear hP hK hA hB1
  have hP := HP.out
  have hA := HA.out
  have hR := HR.out.below HK1.out.below HB1.out
  by_cases hlt : q + 1 < ts.length
  ·have hm := HM.out
   rw [drop_two hlt,ifs_two,Pr.txt_app,Pr.txt_app] at hm
   have hmL := congrArg List.length hm
   simp only [List.length_append] at hmL
   have hL := HL.out
   simp only [List.length_append] at hL
   have hex := HE.out q (by omega) hq2 hlt
   have hbl := HS.out (q + 1) hlt (by omega)
   obtain ⟨g0,o0,k0,nm0,num0,at0,su0,us0,sc0,rfl,hgB,hg0,et,f5,t2⟩ := hR.nth q (by omega)
   clear et
   obtain ⟨g1,o1,k1,nm1,num1,at1,su1,us1,sc1,hso,_,_,et,f6,t3⟩ := hR.nth (q + 1) hlt
   clear et
   injection hso with hso
   injection hso with hs1 hs2
   subst hs1 hs2
   obtain ⟨X,hX⟩ : ∃ X,X = Pr.tx (Pr.expr ts[q] 0) := ⟨_,rfl⟩
   have eS0 : V ++ X ++ (⟨#[32,84,72,69,78]⟩ : ByteArray) = Pr.tx ([wd,.sp] ++ Pr.expr ts[q] 0 ++ [.sp,Pr.kTHEN]) := by
    rw [Pr.tx_app,Pr.tx_app,← hX,← hV]
    rfl
   have hZ : X.size ≤ (Pr.txt (Pr.line d ([wd,.sp] ++ Pr.expr ts[q] 0 ++ [.sp,Pr.kTHEN]))).length := by
    rw [txt_line,List.length_append,List.length_append,← Pr.tx_size,← eS0]
    simp only [ByteArray.size_append]
    omega
   have y1 : ¬ 9223372036854775807 < V.size + X.size := by omega
   have y2 : ¬ 9223372036854775807 < V.size + X.size + 5 := by omega
   have hC := hex wr _ 0 (by omega) hP.tab.1 t2.ti (by rw [← hX]; omega)
   unfold Say at hC
   rw [← hX] at hC
   have i0 : (0 : Int) ≤ (q : Int) := by omega
   have i1 : (q : Int) < (ts.length : Int) := by omega
   have i2 : q < sc := by omega
   have i3 : (q : Int) + 1 < (ts.length : Int) := by omega
   have i4 : (0 : Int) ≤ (q : Int) + 1 := by omega
   have i5 : q + 1 < sc := by omega
   have HLm : Hid ((l ++ m).length + (Pr.txt (Pr.line d ([wd,.sp] ++ Pr.expr ts[q] 0 ++ [.sp,Pr.kTHEN]))).length + (Pr.txt (Pr.block ts[q + 1] d)).length ≤ 80000000) := Lib.hid (by simp only [List.length_append]; omega)
   have HM1 := Lib.hid hm
   have HC0 := Lib.hid eS0
   have f5c := f5
   have f6c := f6
   obtain ⟨u0,u1,u2,u3,u4⟩ := f5c
   obtain ⟨⟨p1,p2,p3,p4,p5⟩,_⟩ := hA.five
   clear hm hmL hL hZ eS0 hX hV f6c
   go_wp2_with fail
   refine hC.mono ?_
   rintro e1 w2 ⟨rfl,hb2⟩
   clear hC u0 u1 u2 u3 u4 p1 p2 p3 p4 p5
   have hA2 := hA.below hb2 hA.lt
   have hP2 := hP.below hb2
   have hK2 := Wk.of (b := b) hP.hB hb2
   replace f6 := f6.below (hb2.mono hP.hB) hgB
   replace t3 := t3.below (hb2.mono hP.hB)
   clear hb2
   have hLi := hP2.line HN.out ([wd,.sp] ++ Pr.expr ts[q] 0 ++ [.sp,Pr.kTHEN]) (V ++ X ++ (⟨#[32,84,72,69,78]⟩ : ByteArray)) HC0.out (by have := HLm.out; omega)
   go_wp2_with fail
   refine hLi.mono ?_
   rintro e1 w3 ⟨rfl,hP3,hk3⟩
   have hA3 := hA2.wk hk3 hne (by decide)
   replace f6 := f6.below hk3.below hgB
   replace t3 := t3.below hk3.below
   have hK3 := hK2.trans hk3
   clear hLi hk3 hK2 hP2 hA2
   have hBl := hbl w3 B b _ _ hP3 t3 (by have := HLm.out; simp only [List.length_append] at this ⊢; omega)
   obtain ⟨u0,u1,u2,u3,u4⟩ := f6
   obtain ⟨⟨p1,p2,p3,p4,p5⟩,_⟩ := hA3.five
   go_wp2_with fail
   refine hBl.mono ?_
   rintro e1 w4 ⟨rfl,hP4,hk4⟩
   have hA4 := hA3.wk hk4 hne (by decide)
   have hK4 := hK3.trans hk4
   clear hBl hk4 hK3 hP3 hA3 u0 u1 u2 u3 u4 p1 p2 p3 p4 p5 t2 t3 f5
   go_wp2_with fail
   go_roundw
   case rel =>
    refine ⟨q + 2,m ++ Pr.txt (Pr.line d ([wd,.sp] ++ Pr.expr ts[q] 0 ++ [.sp,Pr.kTHEN])) ++ Pr.txt (Pr.block ts[q + 1] d),Pr.kELSIF,by omega,by omega,by go_num,rfl,by decide,Lib.hid ?_,Lib.hid (hP4.to (by simp only [List.append_assoc])),Lib.hid (HK.out.trans hK4),Lib.hid (HK1.out.trans hK4),Lib.hid hA4⟩
    rw [← HM1.out]
    simp only [List.append_assoc]
   case measure => simp [intOf]; omega
  ·have i3 : ¬ (q : Int) + 1 < (ts.length : Int) := by omega
   have hm := HM.out
   rw [ifs_one d wd (ts.drop q) (by rw [List.length_drop]; omega)] at hm
   have hm2 : m = T := by rw [← hm]; simp [Pr.txt]
   subst hm2
   clear hm hV hwd
   obtain ⟨⟨p1,p2,p3,p4,p5⟩,_⟩ := hA.five
   go_wp2_with fail
   refine (hP.line HN.out ([Pr.kEND] ++ e) ((⟨#[69,78,68]⟩ : ByteArray) ++ E) HS1.out (by have := HL.out; simp only [List.length_append] at this ⊢; omega)).mono ?_
   rintro e1 w4 ⟨rfl,hP4,hk4⟩
   go_wp2_with fail
   exact ⟨rfl,_,by simp [results,Tryz.results143],rfl,hP4.to (by simp only [List.append_assoc]; rfl),HK.out.trans hk4⟩
theorem sif1_says {a d : Nat} {ts : List Tree} (hd : d ≤ 1000) (hlen : 2 ≤ ts.length) (hnum : ts.length % 2 = 1) (hE : ∀ i (h : i < ts.length),i % 2 = 0 → i + 1 < ts.length → ExS ts[i]) (hS : ∀ i (h : i < ts.length),¬ (i % 2 = 0 ∧ i + 1 < ts.length) → BlC ts[i] d) : StC (.node 16 ⟨#[]⟩ 1 a ts) d := by
 intro w B b l v e he hP hv hl
 obtain ⟨so,sc,rfl,hsc,hR⟩ := hv.node
 clear hv
 obtain ⟨r,hr⟩ : ∃ r,ts.length = r + 1 := ⟨ts.length - 1,by omega⟩
 have hrl : r < ts.length := by omega
 have eT : Pr.stmt (.node 16 ⟨#[]⟩ 1 a ts) d e = Pr.ifs d Pr.kIF ts (Pr.blockL ts) ++ (Pr.line d [Pr.kELSE] ++ Pr.block ts[r] d) ++ Pr.line d ([Pr.kEND] ++ e) := by
  conv => lhs; unfold Pr.stmt
  show Pr.ifs d Pr.kIF ts (Pr.blockL ts) ++ (if 1 = 1 then Pr.line d [Pr.kELSE] ++ Pr.blk (Pr.blockL ts) (ts.length - 1) d else []) ++ Pr.line d ([Pr.kEND] ++ e) = _
  rw [if_pos rfl,show ts.length - 1 = r from by omega,blk_at hrl]
 rw [eT] at hl ⊢
 clear eT
 simp only [Pr.txt_app] at hl ⊢
 have hE1 : (Pr.tx e).size ≤ 1 := by rcases he with rfl | rfl <;> decide
 obtain ⟨E,hEe⟩ : ∃ E,E = Pr.tx e := ⟨_,rfl⟩
 rw [← hEe] at hE1 ⊢
 have eS1 : (⟨#[69,78,68]⟩ : ByteArray) ++ E = Pr.tx ([Pr.kEND] ++ e) := by
  rw [Pr.tx_app,← hEe]
  rfl
 have z1 : ¬ 9223372036854775807 < 3 + E.size := by omega
 obtain ⟨T,hT⟩ : ∃ T,T = Pr.txt (Pr.ifs d Pr.kIF ts (Pr.blockL ts)) := ⟨_,rfl⟩
 rw [← hT] at hl ⊢
 have HL := Lib.hid hl
 have hne : w.heap.size ≠ b := by have := hP.lt; omega
 clear hl he hE1 hEe
 have HS1 := Lib.hid eS1
 clear eS1
 have hA := Blk.new w 25 #[.int .i64 16,.string ⟨#[]⟩,.int .i64 1,.int .i64 a,.slice so ts.length sc]
 have hal : Below w.heap.size w (w.alloc (.cells #[.int .i64 16,.string ⟨#[]⟩,.int .i64 1,.int .i64 a,.slice so ts.length sc] 25)) := (Below.refl _ _).alloc (Nat.le_refl _) _
 have hK := Wk.refl B b w
 have HR := Lib.hid (hR.below (hal.mono hP.hB) hP.hB)
 have hmx := hR.max
 clear hR
 replace hK := hK.trans (Wk.of hP.hB hal)
 replace hP := hP.below hal
 clear hal
 have HN : Hid (d ≤ 1000) := Lib.hid hd
 have HE := Lib.hid hE
 have HS := Lib.hid hS
 have HRR := Lib.hid hr
 clear hd hE hS hr
 change Calls _ _ #[.pointer (some ⟨b,0,none⟩),NodeC ⟨#[]⟩ 16 1 a so ts.length sc,.string E] _ _
 obtain ⟨⟨q1,q2,q3,q4,q5⟩,_⟩ := hA.five
 go_enter Tryz.func143,Tryz.ntmps143
 go_wp2_with fail
 clear q1 q2 q3 q4 q5
 obtain ⟨w1,hw1⟩ : ∃ w1,w1 = w.alloc (.cells #[.int .i64 16,.string ⟨#[]⟩,.int .i64 1,.int .i64 a,.slice so ts.length sc] 25) := ⟨_,rfl⟩
 rw [← hw1] at hA hK hP HR
 change Code.wp _ _ _ _ (w.alloc (.cells #[.int .i64 16,.string ⟨#[]⟩,.int .i64 1,.int .i64 a,.slice so ts.length sc] 25))
 rw [← hw1]
 clear hw1
 go_loopw [6,7] (fun v i wr => ∃ (q : Nat) (m : List UInt8) (wd : Pr.Pc),q ≤ ts.length ∧ q % 2 = 0 ∧ i = .int .i64 q ∧ v = .string (Pr.tx [wd,.sp]) ∧ (Pr.tx [wd,.sp]).size ≤ 6 ∧ Hid (m ++ Pr.txt (Pr.ifs d wd (ts.drop q) (Pr.blockL (ts.drop q))) = T) ∧ Hid (Pen wr B b (l ++ m) d) ∧ Hid (Wk B b w wr) ∧ Hid (Wk B b w1 wr) ∧ Hid (Blk wr w.heap.size 25 #[.int .i64 16,.string ⟨#[]⟩,.int .i64 1,.int .i64 a,.slice so ts.length sc])) (fun _ i _ => ts.length - (intOf i).toNat)
 case atStart => exact ⟨0,[],Pr.kIF,Nat.zero_le _,rfl,rfl,rfl,by decide,Lib.hid (by rw [hT]; rfl),Lib.hid (hP.to (List.append_nil _).symm),Lib.hid hK,Lib.hid (Wk.refl _ _ _),Lib.hid hA⟩
 case round =>
  obtain ⟨q,m,wd,hq,hq2,rfl,rfl,hwd,HM,HP,HK,HK1,HA⟩ := hrel
  obtain ⟨V,hV⟩ : ∃ V,V = Pr.tx [wd,.sp] := ⟨_,rfl⟩
  rw [← hV] at hwd ⊢
  have hB1 := hP.hB
  have HB1 := Lib.hid hB1
  clear hP hK hA hB1
  have hP := HP.out
  have hA := HA.out
  have hR := HR.out.below HK1.out.below HB1.out
  by_cases hlt : q + 1 < ts.length
  ·have hm := HM.out
   rw [drop_two hlt,ifs_two,Pr.txt_app,Pr.txt_app] at hm
   have hmL := congrArg List.length hm
   simp only [List.length_append] at hmL
   have hL := HL.out
   simp only [List.length_append] at hL
   have hex := HE.out q (by omega) hq2 hlt
   have hbl := HS.out (q + 1) hlt (by omega)
   obtain ⟨g0,o0,k0,nm0,num0,at0,su0,us0,sc0,rfl,hgB,hg0,et,f5,t2⟩ := hR.nth q (by omega)
   clear et
   obtain ⟨g1,o1,k1,nm1,num1,at1,su1,us1,sc1,hso,_,_,et,f6,t3⟩ := hR.nth (q + 1) hlt
   clear et
   injection hso with hso
   injection hso with hs1 hs2
   subst hs1 hs2
   obtain ⟨X,hX⟩ : ∃ X,X = Pr.tx (Pr.expr ts[q] 0) := ⟨_,rfl⟩
   have eS0 : V ++ X ++ (⟨#[32,84,72,69,78]⟩ : ByteArray) = Pr.tx ([wd,.sp] ++ Pr.expr ts[q] 0 ++ [.sp,Pr.kTHEN]) := by
    rw [Pr.tx_app,Pr.tx_app,← hX,← hV]
    rfl
   have hZ : X.size ≤ (Pr.txt (Pr.line d ([wd,.sp] ++ Pr.expr ts[q] 0 ++ [.sp,Pr.kTHEN]))).length := by
    rw [txt_line,List.length_append,List.length_append,← Pr.tx_size,← eS0]
    simp only [ByteArray.size_append]
    omega
   have y1 : ¬ 9223372036854775807 < V.size + X.size := by omega
   have y2 : ¬ 9223372036854775807 < V.size + X.size + 5 := by omega
   have hC := hex wr _ 0 (by omega) hP.tab.1 t2.ti (by rw [← hX]; omega)
   unfold Say at hC
   rw [← hX] at hC
   have i0 : (0 : Int) ≤ (q : Int) := by omega
   have i1 : (q : Int) < (ts.length : Int) := by omega
   have i2 : q < sc := by omega
   have i3 : (q : Int) + 1 < (ts.length : Int) := by omega
   have i4 : (0 : Int) ≤ (q : Int) + 1 := by omega
   have i5 : q + 1 < sc := by omega
   have HLm : Hid ((l ++ m).length + (Pr.txt (Pr.line d ([wd,.sp] ++ Pr.expr ts[q] 0 ++ [.sp,Pr.kTHEN]))).length + (Pr.txt (Pr.block ts[q + 1] d)).length ≤ 80000000) := Lib.hid (by simp only [List.length_append]; omega)
   have HM1 := Lib.hid hm
   have HC0 := Lib.hid eS0
   have f5c := f5
   have f6c := f6
   obtain ⟨u0,u1,u2,u3,u4⟩ := f5c
   obtain ⟨⟨p1,p2,p3,p4,p5⟩,_⟩ := hA.five
   clear hm hmL hL hZ eS0 hX hV f6c
   go_wp2_with fail
   refine hC.mono ?_
   rintro e1 w2 ⟨rfl,hb2⟩
   clear hC u0 u1 u2 u3 u4 p1 p2 p3 p4 p5
   have hA2 := hA.below hb2 hA.lt
   have hP2 := hP.below hb2
   have hK2 := Wk.of (b := b) hP.hB hb2
   replace f6 := f6.below (hb2.mono hP.hB) hgB
   replace t3 := t3.below (hb2.mono hP.hB)
   clear hb2
   have hLi := hP2.line HN.out ([wd,.sp] ++ Pr.expr ts[q] 0 ++ [.sp,Pr.kTHEN]) (V ++ X ++ (⟨#[32,84,72,69,78]⟩ : ByteArray)) HC0.out (by have := HLm.out; omega)
   go_wp2_with fail
   refine hLi.mono ?_
   rintro e1 w3 ⟨rfl,hP3,hk3⟩
   have hA3 := hA2.wk hk3 hne (by decide)
   replace f6 := f6.below hk3.below hgB
   replace t3 := t3.below hk3.below
   have hK3 := hK2.trans hk3
   clear hLi hk3 hK2 hP2 hA2
   have hBl := hbl w3 B b _ _ hP3 t3 (by have := HLm.out; simp only [List.length_append] at this ⊢; omega)
   obtain ⟨u0,u1,u2,u3,u4⟩ := f6
   obtain ⟨⟨p1,p2,p3,p4,p5⟩,_⟩ := hA3.five
   go_wp2_with fail
   refine hBl.mono ?_
   rintro e1 w4 ⟨rfl,hP4,hk4⟩
   have hA4 := hA3.wk hk4 hne (by decide)
   have hK4 := hK3.trans hk4
   clear hBl hk4 hK3 hP3 hA3 u0 u1 u2 u3 u4 p1 p2 p3 p4 p5 t2 t3 f5
   go_wp2_with fail
   go_roundw
   case rel =>
    refine ⟨q + 2,m ++ Pr.txt (Pr.line d ([wd,.sp] ++ Pr.expr ts[q] 0 ++ [.sp,Pr.kTHEN])) ++ Pr.txt (Pr.block ts[q + 1] d),Pr.kELSIF,by omega,by omega,by go_num,rfl,by decide,Lib.hid ?_,Lib.hid (hP4.to (by simp only [List.append_assoc])),Lib.hid (HK.out.trans hK4),Lib.hid (HK1.out.trans hK4),Lib.hid hA4⟩
    rw [← HM1.out]
    simp only [List.append_assoc]
   case measure => simp [intOf]; omega
  ·have i3 : ¬ (q : Int) + 1 < (ts.length : Int) := by omega
   have hm := HM.out
   rw [ifs_one d wd (ts.drop q) (by rw [List.length_drop]; omega)] at hm
   have hm2 : m = T := by rw [← hm]; simp [Pr.txt]
   subst hm2
   clear hm hV hwd
   obtain ⟨⟨p1,p2,p3,p4,p5⟩,_⟩ := hA.five
   go_wp2_with fail
   refine (hP.line HN.out [Pr.kELSE] (⟨#[69,76,83,69]⟩ : ByteArray) rfl (by have := HL.out; simp only [List.length_append] at this ⊢; omega)).mono ?_
   rintro e1 w4 ⟨rfl,hP4,hk4⟩
   have hA4 := hA.wk hk4 hne (by decide)
   have hbl := HS.out r hrl (by have := HRR.out; omega)
   obtain ⟨g0,o0,k0,nm0,num0,at0,su0,us0,sc0,rfl,hgB,hg0,et,f5,t2⟩ := hR.nth r hrl
   replace f5 := f5.below hk4.below hgB
   replace t2 := t2.below hk4.below
   clear et p1 p2 p3 p4 p5
   obtain ⟨u0,u1,u2,u3,u4⟩ := f5
   obtain ⟨⟨p1,p2,p3,p4,p5⟩,_⟩ := hA4.five
   have j1 : (ts.length : Int) - 1 = (r : Int) := by have := HRR.out; omega
   have j2 : (r : Int) < (ts.length : Int) := by omega
   have j3 : (0 : Int) ≤ (r : Int) := by omega
   have j4 : r < sc := by omega
   have hBl := hbl w4 B b _ _ hP4 t2 (by have := HL.out; simp only [List.length_append] at this ⊢; omega)
   go_wp2_with fail
   refine hBl.mono ?_
   rintro e1 w5 ⟨rfl,hP5,hk5⟩
   have hk6 := hk4.trans hk5
   clear hBl u0 u1 u2 u3 u4 p1 p2 p3 p4 p5 hP4 hk4 hk5
   go_wp2_with fail
   refine (hP5.line HN.out ([Pr.kEND] ++ e) ((⟨#[69,78,68]⟩ : ByteArray) ++ E) HS1.out (by have := HL.out; simp only [List.length_append] at this ⊢; omega)).mono ?_
   rintro e1 w6 ⟨rfl,hP6,hk7⟩
   go_wp2_with fail
   exact ⟨rfl,_,by simp [results,Tryz.results143],rfl,hP6.to (by simp only [List.append_assoc]; rfl),(HK.out.trans hk6).trans hk7⟩
open Go.RowKit Ps
mutual
theorem Pst_says : ∀ {L : Nat} {t : Tree},Pr.Pst L t → ∀ d,d + L + 1 ≤ 1000 → StC t d
 | _,_,.asg hd hx,d,h => sasg_says (by omega) (De_says hd) (Xe_says hx)
 | _,_,.call (ts := ts) hd ha,d,h => by
  have hts := Pa_says ha.1
  cases ts with
  | nil => exact scall0_says (by omega) (De_says hd)
  | cons u us => exact scall1_says (by omega) (De_says hd) (by simp) hts
 | _,_,.ifs hi,d,h => by
  obtain ⟨h1,h2,h3,h4,h5⟩ := Pi_says hi d h
  rename_i num ts
  obtain rfl | rfl : num = 0 ∨ num = 1 := by omega
  ·exact sif0_says (by omega) h1 h3 h4 h5
  ·exact sif1_says (by omega) h1 h3 h4 h5
 | _,_,.while_ hx hb,d,h => swhile_says (by omega) (Xe_says hx) (Pb_says hb d h)
 | _,_,.repeat_ hx hb,d,h => srepeat_says (by omega) (Pb_says hb d h) (Xe_says hx)
 | _,_,.ret0,d,h => sret0_says (by omega)
 | _,_,.ret1 hx,d,h => sret1_says (by omega) (Xe_says hx)
 | _,_,.new hd,d,h => sbuilt_says (.inl ⟨rfl,rfl,rfl⟩) (by omega) (De_says hd)
 | _,_,.out hx,d,h => sbuilt_says (.inr (.inl ⟨rfl,rfl,rfl⟩)) (by omega) (Xe_says hx)
 | _,_,.get hd,d,h => sbuilt_says (.inr (.inr (.inl ⟨rfl,rfl,rfl⟩))) (by omega) (De_says hd)
 | _,_,.assert hx,d,h => sbuilt_says (.inr (.inr (.inr ⟨rfl,rfl,rfl⟩))) (by omega) (Xe_says hx)
theorem Pi_says : ∀ {L num : Nat} {ts : List Tree},Pr.Pi L num ts → ∀ d,d + L + 1 ≤ 1000 → 2 ≤ ts.length ∧ num ≤ 1 ∧ ts.length % 2 = num ∧ (∀ i (h : i < ts.length),i % 2 = 0 → i + 1 < ts.length → ExS ts[i]) ∧ (∀ i (h : i < ts.length),¬ (i % 2 = 0 ∧ i + 1 < ts.length) → BlC ts[i] d)
 | _,_,_,.last hx hb,d,hd => by
  have h1 := Xe_says hx
  have h2 := Pb_says hb d hd
  refine ⟨Nat.le_refl 2,Nat.zero_le _,by simp,fun i h he hl => ?_,fun i h hn => ?_⟩
  ·obtain rfl : i = 0 := by simp at h hl; omega
   exact h1
  ·obtain rfl : i = 1 := by simp at h hn; omega
   exact h2
 | _,_,_,.els hx hb he,d,hd => by
  have h1 := Xe_says hx
  have h2 := Pb_says hb d hd
  have h3 := Pb_says he d hd
  refine ⟨Nat.le_add_left 2 1,Nat.le_refl _,by simp,fun i h he hl => ?_,fun i h hn => ?_⟩
  ·obtain rfl : i = 0 := by simp at h hl; omega
   exact h1
  ·obtain rfl | rfl : i = 1 ∨ i = 2 := by simp at h hn; omega
   ·exact h2
   ·exact h3
 | _,_,_,.more hx hb hi,d,hd => by
  have h1 := Xe_says hx
  have h2 := Pb_says hb d hd
  obtain ⟨g1,g2,g3,g4,g5⟩ := Pi_says hi d hd
  refine ⟨by simp,g2,by simp only [List.length_cons]; omega,fun i h he hl => ?_,fun i h hn => ?_⟩
  ·match i,h,he,hl with
   | 0,_,_,_ => exact h1
   | i + 2,h,he,hl => exact g4 i (by simpa using h) (by omega) (by simp at hl; omega)
  ·match i,h,hn with
   | 0,h,hn => exact absurd ⟨rfl,by simp⟩ hn
   | 1,_,_ => exact h2
   | i + 2,h,hn => exact g5 i (by simpa using h) (fun hh => hn ⟨by omega,by simp; omega⟩)
theorem Pb_says : ∀ {L : Nat} {t : Tree},Pr.Pb L t → ∀ d,d + L + 1 ≤ 1000 → BlC t d
 | _,_,.mk h,d,hd => block_says (by omega) (Psq_says h (d + 1) (by omega))
theorem Psq_says : ∀ {L : Nat} {ts : List Tree},Pr.Psq L ts → ∀ d,d + L + 1 ≤ 1000 → ∀ t ∈ ts,StC t d
 | _,_,.nil,d,hd => fun t ht => by cases ht
 | _,_,.cons h hs,d,hd => fun t ht => by
  have h1 := Pst_says h d hd
  have h2 := Psq_says hs d hd
  rcases List.mem_cons.1 ht with rfl | ht
  ·exact h1
  ·exact h2 t ht
end
end Go.Proofs.YtneohanphabneaaGreatDoor
