/-
  Walks of print's shapes: designators, expressions. Printed by tools/gen_s.py.
-/
import Derived.Test.YtneohanphabneaaGreatDoorMWr1
namespace Go.Proofs.YtneohanphabneaaGreatDoor
set_option maxRecDepth 100000
set_option maxHeartbeats 2000000
open Go.RowKit Ps
theorem RowAt.tail {w : World} {g o : Nat} {t : Tree} {ts : List Tree} (h : RowAt w (some ⟨g,o,none⟩) (t :: ts)) : RowAt w (some ⟨g,o + 5,none⟩) ts := by
 refine ⟨by have := h.max; simp at this; omega,fun i hi => ?_⟩
 obtain ⟨g',o',k,nm,num,a,su,us,sc,h1,h2,h3,h4,h5⟩ := h.nth (i + 1) (by simpa using hi)
 injection h1 with h1
 injection h1 with e1 e2
 subst e1 e2
 refine ⟨g,o + 5,k,nm,num,a,su,us,sc,rfl,h2,by simpa using h3,?_,by simpa using h5⟩
 rw [show o + 5 + i * 5 = o + (i + 1) * 5 from by omega]
 exact h4
theorem RowAt.empty {w : World} {so : Option Addr} {ts : List Tree} (h : ts.length = 0) : RowAt w so ts := ⟨by omega,fun i hi => by omega⟩
theorem ref_yes {n : ByteArray} {a : Nat} (hn : isName n = true) (w : World) (v : Value) (h : TI w v (.node 24 n 0 a [])) : Calls Tryz.prog 127 #[v] w (Yes w) := by
 obtain ⟨so,sc,rfl,hsc,hR⟩ := h.node
 clear h
 change Calls _ _ #[NodeC n 24 0 a so 0 sc] _ _
 have hA := Blk.new w 25 #[.int .i64 24,.string n,.int .i64 0,.int .i64 a,.slice so 0 sc]
 have hB := Below.al w 25 #[.int .i64 24,.string n,.int .i64 0,.int .i64 a,.slice so 0 sc]
 go_enter Tryz.func127,Tryz.ntmps127
 go_wp2_with fail
 refine (leaf_yes _ 24 n a so sc).mono ?_
 rintro e w1 ⟨rfl,hb⟩
 replace hA := hA.below hb hA.lt
 replace hB := hB.trans (hb.mono hB.size)
 clear hb
 have qA := hA.five.1
 go_wp2_with fail
 refine (sname_yes hn _).mono ?_
 rintro e w2 ⟨rfl,hb⟩
 clear qA
 replace hA := hA.below hb hA.lt
 replace hB := hB.trans (hb.mono hB.size)
 clear hb
 have qA := hA.five.1
 go_wp2_with fail
 go_ret
 exact ⟨rfl,hB⟩
theorem dot_yes {n : ByteArray} {a : Nat} {d : Tree} (hn : isName n = true) (hd : ∀ (w : World) (v : Value),TI w v d → Calls Tryz.prog 127 #[v] w (Yes w)) (w : World) (v : Value) (h : TI w v (.node 25 n 0 a [d])) : Calls Tryz.prog 127 #[v] w (Yes w) := by
 obtain ⟨so,sc,rfl,hsc,hR⟩ := h.node
 clear h
 change Calls _ _ #[NodeC n 25 0 a so 1 sc] _ _
 have hA := Blk.new w 25 #[.int .i64 25,.string n,.int .i64 0,.int .i64 a,.slice so 1 sc]
 have hB := Below.al w 25 #[.int .i64 25,.string n,.int .i64 0,.int .i64 a,.slice so 1 sc]
 obtain ⟨g,o,k0,n0,m0,a0,s0,u0,c0,rfl,hg,-,f0,t0⟩ := hR.at0
 have qA := hA.five.1
 have q0 := (f0.below hB hg).c0
 go_enter Tryz.func127,Tryz.ntmps127
 go_wp2_with fail
 refine (sname_yes hn _).mono ?_
 rintro e w1 ⟨rfl,hb⟩
 clear qA q0
 replace hA := hA.below hb hA.lt
 replace hB := hB.trans (hb.mono hB.size)
 clear hb
 have qA := hA.five.1
 have q0 := (f0.below hB hg).c0
 go_wp2_with fail
 refine (hd _ _ (t0.below hB)).mono ?_
 rintro e w2 ⟨rfl,hb⟩
 clear qA q0
 replace hA := hA.below hb hA.lt
 replace hB := hB.trans (hb.mono hB.size)
 clear hb
 have qA := hA.five.1
 have q0 := (f0.below hB hg).c0
 go_wp2_with fail
 go_ret
 exact ⟨rfl,hB⟩
theorem hat_yes {a : Nat} {d : Tree} (hd : ∀ (w : World) (v : Value),TI w v d → Calls Tryz.prog 127 #[v] w (Yes w)) (w : World) (v : Value) (h : TI w v (.node 27 ⟨#[]⟩ 0 a [d])) : Calls Tryz.prog 127 #[v] w (Yes w) := by
 obtain ⟨so,sc,rfl,hsc,hR⟩ := h.node
 clear h
 change Calls _ _ #[NodeC ⟨#[]⟩ 27 0 a so 1 sc] _ _
 have hA := Blk.new w 25 #[.int .i64 27,.string ⟨#[]⟩,.int .i64 0,.int .i64 a,.slice so 1 sc]
 have hB := Below.al w 25 #[.int .i64 27,.string ⟨#[]⟩,.int .i64 0,.int .i64 a,.slice so 1 sc]
 obtain ⟨g,o,k0,n0,m0,a0,s0,u0,c0,rfl,hg,-,f0,t0⟩ := hR.at0
 have qA := hA.five.1
 have q0 := (f0.below hB hg).c0
 go_enter Tryz.func127,Tryz.ntmps127
 go_wp2_with fail
 refine (plain_yes _ 27 a (some ⟨g,o,none⟩) 1 sc).mono ?_
 rintro e w1 ⟨rfl,hb⟩
 clear qA q0
 replace hA := hA.below hb hA.lt
 replace hB := hB.trans (hb.mono hB.size)
 clear hb
 have qA := hA.five.1
 have q0 := (f0.below hB hg).c0
 go_wp2_with fail
 refine (hd _ _ (t0.below hB)).mono ?_
 rintro e w2 ⟨rfl,hb⟩
 clear qA q0
 replace hA := hA.below hb hA.lt
 replace hB := hB.trans (hb.mono hB.size)
 clear hb
 have qA := hA.five.1
 have q0 := (f0.below hB hg).c0
 go_wp2_with fail
 go_ret
 exact ⟨rfl,hB⟩
theorem index_yes {a : Nat} {d x : Tree} (hd : ∀ (w : World) (v : Value),TI w v d → Calls Tryz.prog 127 #[v] w (Yes w)) (hx : ∀ (w : World) (v : Value),TI w v x → Calls Tryz.prog 76 #[v] w (Yes w)) (w : World) (v : Value) (h : TI w v (.node 26 ⟨#[]⟩ 0 a [d,x])) : Calls Tryz.prog 127 #[v] w (Yes w) := by
 obtain ⟨so,sc,rfl,hsc,hR⟩ := h.node
 clear h
 change Calls _ _ #[NodeC ⟨#[]⟩ 26 0 a so 2 sc] _ _
 have hA := Blk.new w 25 #[.int .i64 26,.string ⟨#[]⟩,.int .i64 0,.int .i64 a,.slice so 2 sc]
 have hB := Below.al w 25 #[.int .i64 26,.string ⟨#[]⟩,.int .i64 0,.int .i64 a,.slice so 2 sc]
 obtain ⟨g,o,k0,n0,m0,a0,s0,u0,c0,rfl,hg,-,f0,t0⟩ := hR.at0
 obtain ⟨k1,n1,m1,a1,s1,u1,c1,-,f1,t1⟩ := hR.at1
 have qA := hA.five.1
 have q0 := (f0.below hB hg).c0
 have q1 := (f1.below hB hg).c5
 go_enter Tryz.func127,Tryz.ntmps127
 go_wp2_with fail
 refine (plain_yes _ 26 a (some ⟨g,o,none⟩) 2 sc).mono ?_
 rintro e w1 ⟨rfl,hb⟩
 clear qA q0 q1
 replace hA := hA.below hb hA.lt
 replace hB := hB.trans (hb.mono hB.size)
 clear hb
 have qA := hA.five.1
 have q0 := (f0.below hB hg).c0
 have q1 := (f1.below hB hg).c5
 go_wp2_with fail
 refine (hd _ _ (t0.below hB)).mono ?_
 rintro e w2 ⟨rfl,hb⟩
 clear qA q0 q1
 replace hA := hA.below hb hA.lt
 replace hB := hB.trans (hb.mono hB.size)
 clear hb
 have qA := hA.five.1
 have q0 := (f0.below hB hg).c0
 have q1 := (f1.below hB hg).c5
 go_wp2_with fail
 refine (hx _ _ (t1.below hB)).mono ?_
 rintro e w3 ⟨rfl,hb⟩
 clear qA q0 q1
 replace hA := hA.below hb hA.lt
 replace hB := hB.trans (hb.mono hB.size)
 clear hb
 have qA := hA.five.1
 have q0 := (f0.below hB hg).c0
 have q1 := (f1.below hB hg).c5
 go_wp2_with fail
 go_ret
 exact ⟨rfl,hB⟩
theorem guard_yes {a : Nat} {d x : Tree} (hd : ∀ (w : World) (v : Value),TI w v d → Calls Tryz.prog 127 #[v] w (Yes w)) (hx : Pr.PT x) (w : World) (v : Value) (h : TI w v (.node 28 ⟨#[]⟩ 0 a [d,x])) : Calls Tryz.prog 127 #[v] w (Yes w) := by
 obtain ⟨so,sc,rfl,hsc,hR⟩ := h.node
 clear h
 change Calls _ _ #[NodeC ⟨#[]⟩ 28 0 a so 2 sc] _ _
 have hA := Blk.new w 25 #[.int .i64 28,.string ⟨#[]⟩,.int .i64 0,.int .i64 a,.slice so 2 sc]
 have hB := Below.al w 25 #[.int .i64 28,.string ⟨#[]⟩,.int .i64 0,.int .i64 a,.slice so 2 sc]
 obtain ⟨g,o,k0,n0,m0,a0,s0,u0,c0,rfl,hg,-,f0,t0⟩ := hR.at0
 obtain ⟨k1,n1,m1,a1,s1,u1,c1,-,f1,t1⟩ := hR.at1
 have qA := hA.five.1
 have q0 := (f0.below hB hg).c0
 have q1 := (f1.below hB hg).c5
 go_enter Tryz.func127,Tryz.ntmps127
 go_wp2_with fail
 refine (plain_yes _ 28 a (some ⟨g,o,none⟩) 2 sc).mono ?_
 rintro e w1 ⟨rfl,hb⟩
 clear qA q0 q1
 replace hA := hA.below hb hA.lt
 replace hB := hB.trans (hb.mono hB.size)
 clear hb
 have qA := hA.five.1
 have q0 := (f0.below hB hg).c0
 have q1 := (f1.below hB hg).c5
 go_wp2_with fail
 refine (hd _ _ (t0.below hB)).mono ?_
 rintro e w2 ⟨rfl,hb⟩
 clear qA q0 q1
 replace hA := hA.below hb hA.lt
 replace hB := hB.trans (hb.mono hB.size)
 clear hb
 have qA := hA.five.1
 have q0 := (f0.below hB hg).c0
 have q1 := (f1.below hB hg).c5
 go_wp2_with fail
 refine (typeName_yes hx _ _ (t1.below hB)).mono ?_
 rintro e w3 ⟨rfl,hb⟩
 clear qA q0 q1
 replace hA := hA.below hb hA.lt
 replace hB := hB.trans (hb.mono hB.size)
 clear hb
 have qA := hA.five.1
 have q0 := (f0.below hB hg).c0
 have q1 := (f1.below hB hg).c5
 go_wp2_with fail
 go_ret
 exact ⟨rfl,hB⟩
theorem num_yes {n a : Nat} (hn : n ≤ 2147483647) (w : World) (v : Value) (h : TI w v (.node 29 ⟨#[]⟩ n a [])) : Calls Tryz.prog 76 #[v] w (Yes w) := by
 obtain ⟨so,sc,rfl,hsc,hR⟩ := h.node
 clear h
 change Calls _ _ #[NodeC ⟨#[]⟩ 29 n a so 0 sc] _ _
 have hA := Blk.new w 25 #[.int .i64 29,.string ⟨#[]⟩,.int .i64 n,.int .i64 a,.slice so 0 sc]
 have hB := Below.al w 25 #[.int .i64 29,.string ⟨#[]⟩,.int .i64 n,.int .i64 a,.slice so 0 sc]
 have n0 : (0 : Int) ≤ (n : Int) := by omega
 have n1 : (n : Int) ≤ 2147483647 := by omega
 go_enter Tryz.func76,Tryz.ntmps76
 go_wp2_with fail
 go_ret
 exact ⟨rfl,hB⟩
theorem atom30_yes {a : Nat} (w : World) (v : Value) (h : TI w v (.node 30 ⟨#[]⟩ 0 a [])) : Calls Tryz.prog 76 #[v] w (Yes w) := by
 obtain ⟨so,sc,rfl,hsc,hR⟩ := h.node
 clear h
 change Calls _ _ #[NodeC ⟨#[]⟩ 30 0 a so 0 sc] _ _
 have hA := Blk.new w 25 #[.int .i64 30,.string ⟨#[]⟩,.int .i64 0,.int .i64 a,.slice so 0 sc]
 have hB := Below.al w 25 #[.int .i64 30,.string ⟨#[]⟩,.int .i64 0,.int .i64 a,.slice so 0 sc]
 go_enter Tryz.func76,Tryz.ntmps76
 go_wp2_with fail
 refine (plain_yes _ 30 a so 0 sc).mono ?_
 rintro e w1 ⟨rfl,hb⟩
 replace hA := hA.below hb hA.lt
 replace hB := hB.trans (hb.mono hB.size)
 clear hb
 have qA := hA.five.1
 go_wp2_with fail
 go_ret
 exact ⟨rfl,hB⟩
theorem atom31_yes {a : Nat} (w : World) (v : Value) (h : TI w v (.node 31 ⟨#[]⟩ 0 a [])) : Calls Tryz.prog 76 #[v] w (Yes w) := by
 obtain ⟨so,sc,rfl,hsc,hR⟩ := h.node
 clear h
 change Calls _ _ #[NodeC ⟨#[]⟩ 31 0 a so 0 sc] _ _
 have hA := Blk.new w 25 #[.int .i64 31,.string ⟨#[]⟩,.int .i64 0,.int .i64 a,.slice so 0 sc]
 have hB := Below.al w 25 #[.int .i64 31,.string ⟨#[]⟩,.int .i64 0,.int .i64 a,.slice so 0 sc]
 go_enter Tryz.func76,Tryz.ntmps76
 go_wp2_with fail
 refine (plain_yes _ 31 a so 0 sc).mono ?_
 rintro e w1 ⟨rfl,hb⟩
 replace hA := hA.below hb hA.lt
 replace hB := hB.trans (hb.mono hB.size)
 clear hb
 have qA := hA.five.1
 go_wp2_with fail
 go_ret
 exact ⟨rfl,hB⟩
theorem atom32_yes {a : Nat} (w : World) (v : Value) (h : TI w v (.node 32 ⟨#[]⟩ 0 a [])) : Calls Tryz.prog 76 #[v] w (Yes w) := by
 obtain ⟨so,sc,rfl,hsc,hR⟩ := h.node
 clear h
 change Calls _ _ #[NodeC ⟨#[]⟩ 32 0 a so 0 sc] _ _
 have hA := Blk.new w 25 #[.int .i64 32,.string ⟨#[]⟩,.int .i64 0,.int .i64 a,.slice so 0 sc]
 have hB := Below.al w 25 #[.int .i64 32,.string ⟨#[]⟩,.int .i64 0,.int .i64 a,.slice so 0 sc]
 go_enter Tryz.func76,Tryz.ntmps76
 go_wp2_with fail
 refine (plain_yes _ 32 a so 0 sc).mono ?_
 rintro e w1 ⟨rfl,hb⟩
 replace hA := hA.below hb hA.lt
 replace hB := hB.trans (hb.mono hB.size)
 clear hb
 have qA := hA.five.1
 go_wp2_with fail
 go_ret
 exact ⟨rfl,hB⟩
theorem not_yes {a : Nat} {x : Tree} (hx : ∀ (w : World) (v : Value),TI w v x → Calls Tryz.prog 76 #[v] w (Yes w)) (w : World) (v : Value) (h : TI w v (.node 34 ⟨#[]⟩ 0 a [x])) : Calls Tryz.prog 76 #[v] w (Yes w) := by
 obtain ⟨so,sc,rfl,hsc,hR⟩ := h.node
 clear h
 change Calls _ _ #[NodeC ⟨#[]⟩ 34 0 a so 1 sc] _ _
 have hA := Blk.new w 25 #[.int .i64 34,.string ⟨#[]⟩,.int .i64 0,.int .i64 a,.slice so 1 sc]
 have hB := Below.al w 25 #[.int .i64 34,.string ⟨#[]⟩,.int .i64 0,.int .i64 a,.slice so 1 sc]
 obtain ⟨g,o,k0,n0,m0,a0,s0,u0,c0,rfl,hg,-,f0,t0⟩ := hR.at0
 have qA := hA.five.1
 have q0 := (f0.below hB hg).c0
 go_enter Tryz.func76,Tryz.ntmps76
 go_wp2_with fail
 refine (plain_yes _ 34 a (some ⟨g,o,none⟩) 1 sc).mono ?_
 rintro e w1 ⟨rfl,hb⟩
 clear qA q0
 replace hA := hA.below hb hA.lt
 replace hB := hB.trans (hb.mono hB.size)
 clear hb
 have qA := hA.five.1
 have q0 := (f0.below hB hg).c0
 go_wp2_with fail
 refine (hx _ _ (t0.below hB)).mono ?_
 rintro e w2 ⟨rfl,hb⟩
 clear qA q0
 replace hA := hA.below hb hA.lt
 replace hB := hB.trans (hb.mono hB.size)
 clear hb
 have qA := hA.five.1
 have q0 := (f0.below hB hg).c0
 go_wp2_with fail
 go_ret
 exact ⟨rfl,hB⟩
theorem neg_yes {a : Nat} {x : Tree} (hx : ∀ (w : World) (v : Value),TI w v x → Calls Tryz.prog 76 #[v] w (Yes w)) (w : World) (v : Value) (h : TI w v (.node 35 ⟨#[]⟩ 0 a [x])) : Calls Tryz.prog 76 #[v] w (Yes w) := by
 obtain ⟨so,sc,rfl,hsc,hR⟩ := h.node
 clear h
 change Calls _ _ #[NodeC ⟨#[]⟩ 35 0 a so 1 sc] _ _
 have hA := Blk.new w 25 #[.int .i64 35,.string ⟨#[]⟩,.int .i64 0,.int .i64 a,.slice so 1 sc]
 have hB := Below.al w 25 #[.int .i64 35,.string ⟨#[]⟩,.int .i64 0,.int .i64 a,.slice so 1 sc]
 obtain ⟨g,o,k0,n0,m0,a0,s0,u0,c0,rfl,hg,-,f0,t0⟩ := hR.at0
 have qA := hA.five.1
 have q0 := (f0.below hB hg).c0
 go_enter Tryz.func76,Tryz.ntmps76
 go_wp2_with fail
 refine (plain_yes _ 35 a (some ⟨g,o,none⟩) 1 sc).mono ?_
 rintro e w1 ⟨rfl,hb⟩
 clear qA q0
 replace hA := hA.below hb hA.lt
 replace hB := hB.trans (hb.mono hB.size)
 clear hb
 have qA := hA.five.1
 have q0 := (f0.below hB hg).c0
 go_wp2_with fail
 refine (hx _ _ (t0.below hB)).mono ?_
 rintro e w2 ⟨rfl,hb⟩
 clear qA q0
 replace hA := hA.below hb hA.lt
 replace hB := hB.trans (hb.mono hB.size)
 clear hb
 have qA := hA.five.1
 have q0 := (f0.below hB hg).c0
 go_wp2_with fail
 go_ret
 exact ⟨rfl,hB⟩
theorem is_yes {a : Nat} {x y : Tree} (hx : ∀ (w : World) (v : Value),TI w v x → Calls Tryz.prog 76 #[v] w (Yes w)) (hy : Pr.PT y) (w : World) (v : Value) (h : TI w v (.node 37 ⟨#[]⟩ 0 a [x,y])) : Calls Tryz.prog 76 #[v] w (Yes w) := by
 obtain ⟨so,sc,rfl,hsc,hR⟩ := h.node
 clear h
 change Calls _ _ #[NodeC ⟨#[]⟩ 37 0 a so 2 sc] _ _
 have hA := Blk.new w 25 #[.int .i64 37,.string ⟨#[]⟩,.int .i64 0,.int .i64 a,.slice so 2 sc]
 have hB := Below.al w 25 #[.int .i64 37,.string ⟨#[]⟩,.int .i64 0,.int .i64 a,.slice so 2 sc]
 obtain ⟨g,o,k0,n0,m0,a0,s0,u0,c0,rfl,hg,-,f0,t0⟩ := hR.at0
 obtain ⟨k1,n1,m1,a1,s1,u1,c1,-,f1,t1⟩ := hR.at1
 have qA := hA.five.1
 have q0 := (f0.below hB hg).c0
 have q1 := (f1.below hB hg).c5
 go_enter Tryz.func76,Tryz.ntmps76
 go_wp2_with fail
 refine (plain_yes _ 37 a (some ⟨g,o,none⟩) 2 sc).mono ?_
 rintro e w1 ⟨rfl,hb⟩
 clear qA q0 q1
 replace hA := hA.below hb hA.lt
 replace hB := hB.trans (hb.mono hB.size)
 clear hb
 have qA := hA.five.1
 have q0 := (f0.below hB hg).c0
 have q1 := (f1.below hB hg).c5
 go_wp2_with fail
 refine (hx _ _ (t0.below hB)).mono ?_
 rintro e w2 ⟨rfl,hb⟩
 clear qA q0 q1
 replace hA := hA.below hb hA.lt
 replace hB := hB.trans (hb.mono hB.size)
 clear hb
 have qA := hA.five.1
 have q0 := (f0.below hB hg).c0
 have q1 := (f1.below hB hg).c5
 go_wp2_with fail
 refine (typeName_yes hy _ _ (t1.below hB)).mono ?_
 rintro e w3 ⟨rfl,hb⟩
 clear qA q0 q1
 replace hA := hA.below hb hA.lt
 replace hB := hB.trans (hb.mono hB.size)
 clear hb
 have qA := hA.five.1
 have q0 := (f0.below hB hg).c0
 have q1 := (f1.below hB hg).c5
 go_wp2_with fail
 go_ret
 exact ⟨rfl,hB⟩
theorem call_yes {a : Nat} {d : Tree} {ts : List Tree} (hd : ∀ (w : World) (v : Value),TI w v d → Calls Tryz.prog 127 #[v] w (Yes w)) (hx : ∀ t ∈ ts,∀ (w : World) (v : Value),TI w v t → Calls Tryz.prog 76 #[v] w (Yes w)) (w : World) (v : Value) (h : TI w v (.node 33 ⟨#[]⟩ 0 a (d :: ts))) : Calls Tryz.prog 76 #[v] w (Yes w) := by
 obtain ⟨so,sc,rfl,hsc,hR⟩ := h.node
 clear h
 change Calls _ _ #[NodeC ⟨#[]⟩ 33 0 a so (ts.length + 1) sc] _ _
 have hA := Blk.new w 25 #[.int .i64 33,.string ⟨#[]⟩,.int .i64 0,.int .i64 a,.slice so (ts.length + 1) sc]
 have hB := Below.al w 25 #[.int .i64 33,.string ⟨#[]⟩,.int .i64 0,.int .i64 a,.slice so (ts.length + 1) sc]
 obtain ⟨g,o,k0,n0,m0,a0,s0,u0,c0,rfl,hg,-,f0,t0⟩ := hR.at0
 have hT := hR.tail
 clear hR
 have hmx := hT.max
 replace hsc : ts.length + 1 ≤ sc := hsc
 have hl0 : (0 : Int) < ((ts.length + 1 : Nat) : Int) := by omega
 rcases Nat.lt_or_ge 1 sc with h1 | h1
 ·have h2 : (1 : Int) < (sc : Int) := by omega
  have qA := hA.five.1
  have q0 := (f0.below hB hg).c0
  go_enter Tryz.func76,Tryz.ntmps76
  go_wp2_with fail
  refine (plain_yes _ 33 a (some ⟨g,o,none⟩) (ts.length + 1) sc).mono ?_
  rintro e w1 ⟨rfl,hb⟩
  clear qA q0
  replace hA := hA.below hb hA.lt
  replace hB := hB.trans (hb.mono hB.size)
  clear hb
  have qA := hA.five.1
  have q0 := (f0.below hB hg).c0
  go_wp2_with fail
  refine (hd _ _ (t0.below hB)).mono ?_
  rintro e w2 ⟨rfl,hb⟩
  clear qA q0
  replace hA := hA.below hb hA.lt
  replace hB := hB.trans (hb.mono hB.size)
  clear hb
  have qA := hA.five.1
  have q0 := (f0.below hB hg).c0
  go_wp2_with fail
  refine (each_yes 76 (cf_of Tryz.func76 (by kernel_rfl) (by kernel_rfl)) _ (some ⟨g,o + 5,none⟩) (sc - 1) ts (by omega) (hT.below hB) hx).mono ?_
  rintro e w3 ⟨rfl,hb⟩
  clear qA q0
  replace hA := hA.below hb hA.lt
  replace hB := hB.trans (hb.mono hB.size)
  clear hb
  have qA := hA.five.1
  have q0 := (f0.below hB hg).c0
  go_wp2_with fail
  go_ret
  exact ⟨rfl,hB⟩
 ·obtain rfl : sc = 1 := by omega
  obtain rfl : ts = [] := by
   cases ts with
   | nil => rfl
   | cons _ _ => simp at hsc
  clear h1
  have qA := hA.five.1
  have q0 := (f0.below hB hg).c0
  go_enter Tryz.func76,Tryz.ntmps76
  go_wp2_with fail
  refine (plain_yes _ 33 a (some ⟨g,o,none⟩) 1 1).mono ?_
  rintro e w4 ⟨rfl,hb⟩
  clear qA q0
  replace hA := hA.below hb hA.lt
  replace hB := hB.trans (hb.mono hB.size)
  clear hb
  have qA := hA.five.1
  have q0 := (f0.below hB hg).c0
  go_wp2_with fail
  refine (hd _ _ (t0.below hB)).mono ?_
  rintro e w5 ⟨rfl,hb⟩
  clear qA q0
  replace hA := hA.below hb hA.lt
  replace hB := hB.trans (hb.mono hB.size)
  clear hb
  have qA := hA.five.1
  have q0 := (f0.below hB hg).c0
  go_wp2_with fail
  refine (each_yes 76 (cf_of Tryz.func76 (by kernel_rfl) (by kernel_rfl)) _ (some ⟨g,o,none⟩) 0 [] (Nat.le_refl _) (RowAt.empty rfl) (fun t ht => by cases ht)).mono ?_
  rintro e w6 ⟨rfl,hb⟩
  clear qA q0
  replace hA := hA.below hb hA.lt
  replace hB := hB.trans (hb.mono hB.size)
  clear hb
  have qA := hA.five.1
  have q0 := (f0.below hB hg).c0
  go_wp2_with fail
  go_ret
  exact ⟨rfl,hB⟩
theorem desx24_yes {n : ByteArray} {num a : Nat} {ts : List Tree} (hd : ∀ (w : World) (v : Value),TI w v (.node 24 n num a ts) → Calls Tryz.prog 127 #[v] w (Yes w)) (w : World) (v : Value) (h : TI w v (.node 24 n num a ts)) : Calls Tryz.prog 76 #[v] w (Yes w) := by
 have hT := h
 obtain ⟨so,sc,rfl,hsc,hR⟩ := h.node
 clear h
 change Calls _ _ #[NodeC n 24 num a so ts.length sc] _ _
 have hA := Blk.new w 25 #[.int .i64 24,.string n,.int .i64 num,.int .i64 a,.slice so ts.length sc]
 have hB := Below.al w 25 #[.int .i64 24,.string n,.int .i64 num,.int .i64 a,.slice so ts.length sc]
 go_enter Tryz.func76,Tryz.ntmps76
 go_wp2_with fail
 refine (hd _ _ (hT.below hB)).mono ?_
 rintro e w1 ⟨rfl,hb⟩
 replace hA := hA.below hb hA.lt
 replace hB := hB.trans (hb.mono hB.size)
 clear hb
 have qA := hA.five.1
 go_wp2_with fail
 go_ret
 exact ⟨rfl,hB⟩
theorem desx25_yes {n : ByteArray} {num a : Nat} {ts : List Tree} (hd : ∀ (w : World) (v : Value),TI w v (.node 25 n num a ts) → Calls Tryz.prog 127 #[v] w (Yes w)) (w : World) (v : Value) (h : TI w v (.node 25 n num a ts)) : Calls Tryz.prog 76 #[v] w (Yes w) := by
 have hT := h
 obtain ⟨so,sc,rfl,hsc,hR⟩ := h.node
 clear h
 change Calls _ _ #[NodeC n 25 num a so ts.length sc] _ _
 have hA := Blk.new w 25 #[.int .i64 25,.string n,.int .i64 num,.int .i64 a,.slice so ts.length sc]
 have hB := Below.al w 25 #[.int .i64 25,.string n,.int .i64 num,.int .i64 a,.slice so ts.length sc]
 go_enter Tryz.func76,Tryz.ntmps76
 go_wp2_with fail
 refine (hd _ _ (hT.below hB)).mono ?_
 rintro e w1 ⟨rfl,hb⟩
 replace hA := hA.below hb hA.lt
 replace hB := hB.trans (hb.mono hB.size)
 clear hb
 have qA := hA.five.1
 go_wp2_with fail
 go_ret
 exact ⟨rfl,hB⟩
theorem desx26_yes {n : ByteArray} {num a : Nat} {ts : List Tree} (hd : ∀ (w : World) (v : Value),TI w v (.node 26 n num a ts) → Calls Tryz.prog 127 #[v] w (Yes w)) (w : World) (v : Value) (h : TI w v (.node 26 n num a ts)) : Calls Tryz.prog 76 #[v] w (Yes w) := by
 have hT := h
 obtain ⟨so,sc,rfl,hsc,hR⟩ := h.node
 clear h
 change Calls _ _ #[NodeC n 26 num a so ts.length sc] _ _
 have hA := Blk.new w 25 #[.int .i64 26,.string n,.int .i64 num,.int .i64 a,.slice so ts.length sc]
 have hB := Below.al w 25 #[.int .i64 26,.string n,.int .i64 num,.int .i64 a,.slice so ts.length sc]
 go_enter Tryz.func76,Tryz.ntmps76
 go_wp2_with fail
 refine (hd _ _ (hT.below hB)).mono ?_
 rintro e w1 ⟨rfl,hb⟩
 replace hA := hA.below hb hA.lt
 replace hB := hB.trans (hb.mono hB.size)
 clear hb
 have qA := hA.five.1
 go_wp2_with fail
 go_ret
 exact ⟨rfl,hB⟩
theorem desx27_yes {n : ByteArray} {num a : Nat} {ts : List Tree} (hd : ∀ (w : World) (v : Value),TI w v (.node 27 n num a ts) → Calls Tryz.prog 127 #[v] w (Yes w)) (w : World) (v : Value) (h : TI w v (.node 27 n num a ts)) : Calls Tryz.prog 76 #[v] w (Yes w) := by
 have hT := h
 obtain ⟨so,sc,rfl,hsc,hR⟩ := h.node
 clear h
 change Calls _ _ #[NodeC n 27 num a so ts.length sc] _ _
 have hA := Blk.new w 25 #[.int .i64 27,.string n,.int .i64 num,.int .i64 a,.slice so ts.length sc]
 have hB := Below.al w 25 #[.int .i64 27,.string n,.int .i64 num,.int .i64 a,.slice so ts.length sc]
 go_enter Tryz.func76,Tryz.ntmps76
 go_wp2_with fail
 refine (hd _ _ (hT.below hB)).mono ?_
 rintro e w1 ⟨rfl,hb⟩
 replace hA := hA.below hb hA.lt
 replace hB := hB.trans (hb.mono hB.size)
 clear hb
 have qA := hA.five.1
 go_wp2_with fail
 go_ret
 exact ⟨rfl,hB⟩
theorem desx28_yes {n : ByteArray} {num a : Nat} {ts : List Tree} (hd : ∀ (w : World) (v : Value),TI w v (.node 28 n num a ts) → Calls Tryz.prog 127 #[v] w (Yes w)) (w : World) (v : Value) (h : TI w v (.node 28 n num a ts)) : Calls Tryz.prog 76 #[v] w (Yes w) := by
 have hT := h
 obtain ⟨so,sc,rfl,hsc,hR⟩ := h.node
 clear h
 change Calls _ _ #[NodeC n 28 num a so ts.length sc] _ _
 have hA := Blk.new w 25 #[.int .i64 28,.string n,.int .i64 num,.int .i64 a,.slice so ts.length sc]
 have hB := Below.al w 25 #[.int .i64 28,.string n,.int .i64 num,.int .i64 a,.slice so ts.length sc]
 go_enter Tryz.func76,Tryz.ntmps76
 go_wp2_with fail
 refine (hd _ _ (hT.below hB)).mono ?_
 rintro e w1 ⟨rfl,hb⟩
 replace hA := hA.below hb hA.lt
 replace hB := hB.trans (hb.mono hB.size)
 clear hb
 have qA := hA.five.1
 go_wp2_with fail
 go_ret
 exact ⟨rfl,hB⟩
set_option maxRecDepth 100000
set_option maxHeartbeats 4000000
open Go.RowKit Ps
def opsM : List ByteArray := [⟨#[61]⟩,⟨#[35]⟩,⟨#[60]⟩,⟨#[60,61]⟩,⟨#[62]⟩,⟨#[62,61]⟩,⟨#[43]⟩,⟨#[45]⟩,⟨#[79,82]⟩,⟨#[42]⟩,⟨#[68,73,86]⟩,⟨#[77,79,68]⟩,⟨#[38]⟩]
theorem opsMap_any (w : World) : Calls Tryz.prog 128 #[] w fun e w' => (∃ g,e = .returned (.map (some g)) ∧ ∀ s (u : World),Below w'.heap.size w' u → (Instr.lookup 130 (.map (some g)) (.string s) false).run Tryz.prog u = .ok (.bool (opsM.any fun k => decide (k = s))) u) ∧ Below w.heap.size w w' := by
 have hM0 : MB (w.alloc (.map #[] 0)) w.heap.size [] := heap_alloc_new w _
 have hB0 : Below w.heap.size w (w.alloc (.map #[] 0)) := (Below.refl _ _).alloc (Nat.le_refl _) _
 have hmk := fun ty => run_makeMap (P := Tryz.prog) ty w
 go_enter Tryz.func128,Tryz.ntmps128
 go_wp2_with (first | (refine wp_put w _ rfl _ _ _ rfl w.heap.size _ _ (by rfl) (by rfl) (by rfl) (by assumption) (by rfl) (Nat.le_refl _) (by assumption) ?_; intro w1 hm1 hb1))
 go_ret
 have hm2 : MB w1 w.heap.size opsM := hm1
 clear hm1
 exact ⟨⟨w.heap.size,rfl,fun s u hu => run_get (show MB u w.heap.size opsM from (hu.block _ hm2.lt).trans hm2) s⟩,hb1⟩
theorem op_yes {n : ByteArray} {a : Nat} {x y : Tree} (hn : (opsM.any fun k => decide (k = n)) = true) (hx : ∀ (w : World) (v : Value),TI w v x → Calls Tryz.prog 76 #[v] w (Yes w)) (hy : ∀ (w : World) (v : Value),TI w v y → Calls Tryz.prog 76 #[v] w (Yes w)) (w : World) (v : Value) (h : TI w v (.node 36 n 0 a [x,y])) : Calls Tryz.prog 76 #[v] w (Yes w) := by
 obtain ⟨so,sc,rfl,hsc,hR⟩ := h.node
 clear h
 change Calls _ _ #[NodeC n 36 0 a so 2 sc] _ _
 have hA := Blk.new w 25 #[.int .i64 36,.string n,.int .i64 0,.int .i64 a,.slice so 2 sc]
 have hB := Below.al w 25 #[.int .i64 36,.string n,.int .i64 0,.int .i64 a,.slice so 2 sc]
 obtain ⟨g,o,k0,n0,m0,a0,s0,u0,c0,rfl,hg,-,f0,t0⟩ := hR.at0
 obtain ⟨k1,n1,m1,a1,s1,u1,c1,-,f1,t1⟩ := hR.at1
 have qA := hA.five.1
 have q0 := (f0.below hB hg).c0
 have q1 := (f1.below hB hg).c5
 go_enter Tryz.func76,Tryz.ntmps76
 go_wp2_with fail
 replace hA := hA.below (drew_below _) hA.lt
 replace hB := hB.drew
 clear qA q0 q1
 refine Ch.wp_region_run (fun u => Blk u w.heap.size 25 #[.int .i64 36,.string n,.int .i64 0,.int .i64 a,.slice (some ⟨g,o,none⟩) 2 sc] ∧ Below w.heap.size w u) [2] [1,2] [0,3,4,5,6,7,8,9,10,11,12,13,14,15,16,17,18,19,20,21,22,23,24,25,26,27,28,29] [] (by kernel_rfl) (by kernel_rfl) (fun _ _ d _ _ h => by cases d <;> first | exact h | exact ⟨h.1,h.2.drew⟩) ⟨hA,hB⟩ ?_
 refine Ch.take1 rfl (by rfl) (fun u => by go_simp; rfl) ?_
 simp only [putq]
 refine Ch.load2 rfl (by rfl) (fun u ⟨hA,hB⟩ => by have qA := (Blk.five hA).1; have q0 := (f0.below hB hg).c0; have q1 := (f1.below hB hg).c5; go_simp; rfl) ?_
 simp only [putq]
 refine Ch.mid0 (by rfl) (fun K hKK => ?_)
 have qA := hA.five.1
 have q0 := (f0.below hB hg).c0
 have q1 := (f1.below hB hg).c5
 go_simp
 clear qA q0 q1
 refine (opsMap_any _).mono ?_
 rintro e w1 ⟨⟨gm,rfl,hlk⟩,hb⟩
 replace hA := hA.below hb hA.lt
 replace hB := hB.trans (hb.mono hB.size)
 clear hb
 refine hKK _ _ ⟨hA,hB⟩ ?_
 clear hKK K
 try simp only [putq]
 have hl0 := hlk n w1 (Below.refl _ _)
 rw [hn] at hl0
 clear hlk
 refine Ch.mid3 (by rfl) (fun K hKK => ?_)
 have qA := hA.five.1
 have q0 := (f0.below hB hg).c0
 have q1 := (f1.below hB hg).c5
 go_simp
 clear qA q0 q1
 refine hKK _ _ ⟨hA,hB⟩ ?_
 clear hKK K
 try simp only [putq]
 clear hl0
 refine Ch.mid4 (by rfl) (fun K hKK => ?_)
 have qA := hA.five.1
 have q0 := (f0.below hB hg).c0
 have q1 := (f1.below hB hg).c5
 go_simp
 clear qA q0 q1
 refine hKK _ _ ⟨hA,hB⟩ ?_
 clear hKK K
 try simp only [putq]
 refine Ch.mid5 (by rfl) (fun K hKK => ?_)
 have qA := hA.five.1
 have q0 := (f0.below hB hg).c0
 have q1 := (f1.below hB hg).c5
 go_simp
 clear qA q0 q1
 refine hKK _ _ ⟨hA,hB⟩ ?_
 clear hKK K
 try simp only [putq]
 refine Ch.mid6 (by rfl) (fun K hKK => ?_)
 have qA := hA.five.1
 have q0 := (f0.below hB hg).c0
 have q1 := (f1.below hB hg).c5
 go_simp
 clear qA q0 q1
 refine hKK _ _ ⟨hA,hB⟩ ?_
 clear hKK K
 try simp only [putq]
 refine Ch.mid7 (by rfl) (fun K hKK => ?_)
 have qA := hA.five.1
 have q0 := (f0.below hB hg).c0
 have q1 := (f1.below hB hg).c5
 go_simp
 clear qA q0 q1
 refine hKK _ _ ⟨hA,hB⟩ ?_
 clear hKK K
 try simp only [putq]
 refine Ch.mid8 (by rfl) (fun K hKK => ?_)
 have qA := hA.five.1
 have q0 := (f0.below hB hg).c0
 have q1 := (f1.below hB hg).c5
 go_simp
 clear qA q0 q1
 refine hKK _ _ ⟨hA,hB⟩ ?_
 clear hKK K
 try simp only [putq]
 refine Ch.mid9 (by rfl) (fun K hKK => ?_)
 have qA := hA.five.1
 have q0 := (f0.below hB hg).c0
 have q1 := (f1.below hB hg).c5
 go_simp
 clear qA q0 q1
 refine hKK _ _ ⟨hA,hB⟩ ?_
 clear hKK K
 try simp only [putq]
 refine Ch.mid10 (by rfl) (fun K hKK => ?_)
 have qA := hA.five.1
 have q0 := (f0.below hB hg).c0
 have q1 := (f1.below hB hg).c5
 go_simp
 clear qA q0 q1
 refine hKK _ _ ⟨hA,hB⟩ ?_
 clear hKK K
 try simp only [putq]
 refine Ch.mid11 (by rfl) (fun K hKK => ?_)
 have qA := hA.five.1
 have q0 := (f0.below hB hg).c0
 have q1 := (f1.below hB hg).c5
 go_simp
 clear qA q0 q1
 refine hKK _ _ ⟨hA,hB⟩ ?_
 clear hKK K
 try simp only [putq]
 refine Ch.mid12 (by rfl) (fun K hKK => ?_)
 have qA := hA.five.1
 have q0 := (f0.below hB hg).c0
 have q1 := (f1.below hB hg).c5
 go_simp
 clear qA q0 q1
 refine hKK _ _ ⟨hA,hB⟩ ?_
 clear hKK K
 try simp only [putq]
 refine Ch.mid13 (by rfl) (fun K hKK => ?_)
 have qA := hA.five.1
 have q0 := (f0.below hB hg).c0
 have q1 := (f1.below hB hg).c5
 go_simp
 clear qA q0 q1
 refine hKK _ _ ⟨hA,hB⟩ ?_
 clear hKK K
 try simp only [putq]
 refine Ch.mid14 (by rfl) (fun K hKK => ?_)
 have qA := hA.five.1
 have q0 := (f0.below hB hg).c0
 have q1 := (f1.below hB hg).c5
 go_simp
 clear qA q0 q1
 refine hKK _ _ ⟨hA,hB⟩ ?_
 clear hKK K
 try simp only [putq]
 refine Ch.mid15 (by rfl) (fun K hKK => ?_)
 have qA := hA.five.1
 have q0 := (f0.below hB hg).c0
 have q1 := (f1.below hB hg).c5
 go_simp
 clear qA q0 q1
 refine hKK _ _ ⟨hA,hB⟩ ?_
 clear hKK K
 try simp only [putq]
 refine Ch.run_mid (j := 16) rfl (by rfl) (fun K hKK => ?_)
 have qA := hA.five.1
 have q0 := (f0.below hB hg).c0
 have q1 := (f1.below hB hg).c5
 go_simp
 clear qA q0 q1
 refine hKK _ _ ⟨hA,hB⟩ ?_
 clear hKK K
 try simp only [putq]
 refine Ch.run_mid (j := 17) rfl (by rfl) (fun K hKK => ?_)
 have qA := hA.five.1
 have q0 := (f0.below hB hg).c0
 have q1 := (f1.below hB hg).c5
 go_simp
 clear qA q0 q1
 refine hKK _ _ ⟨hA,hB⟩ ?_
 clear hKK K
 try simp only [putq]
 refine Ch.run_mid (j := 18) rfl (by rfl) (fun K hKK => ?_)
 have qA := hA.five.1
 have q0 := (f0.below hB hg).c0
 have q1 := (f1.below hB hg).c5
 go_simp
 clear qA q0 q1
 refine hKK _ _ ⟨hA,hB⟩ ?_
 clear hKK K
 try simp only [putq]
 refine Ch.run_mid (j := 19) rfl (by rfl) (fun K hKK => ?_)
 have qA := hA.five.1
 have q0 := (f0.below hB hg).c0
 have q1 := (f1.below hB hg).c5
 go_simp
 clear qA q0 q1
 refine hKK _ _ ⟨hA,hB⟩ ?_
 clear hKK K
 try simp only [putq]
 refine Ch.run_mid (j := 20) rfl (by rfl) (fun K hKK => ?_)
 have qA := hA.five.1
 have q0 := (f0.below hB hg).c0
 have q1 := (f1.below hB hg).c5
 go_simp
 clear qA q0 q1
 refine (hx _ _ (t0.below hB)).mono ?_
 rintro e w2 ⟨rfl,hb⟩
 replace hA := hA.below hb hA.lt
 replace hB := hB.trans (hb.mono hB.size)
 clear hb
 refine hKK _ _ ⟨hA,hB⟩ ?_
 clear hKK K
 try simp only [putq]
 refine Ch.run_mid (j := 21) rfl (by rfl) (fun K hKK => ?_)
 have qA := hA.five.1
 have q0 := (f0.below hB hg).c0
 have q1 := (f1.below hB hg).c5
 go_simp
 clear qA q0 q1
 refine hKK _ _ ⟨hA,hB⟩ ?_
 clear hKK K
 try simp only [putq]
 refine Ch.run_mid (j := 22) rfl (by rfl) (fun K hKK => ?_)
 have qA := hA.five.1
 have q0 := (f0.below hB hg).c0
 have q1 := (f1.below hB hg).c5
 go_simp
 clear qA q0 q1
 refine hKK _ _ ⟨hA,hB⟩ ?_
 clear hKK K
 try simp only [putq]
 refine Ch.run_mid (j := 23) rfl (by rfl) (fun K hKK => ?_)
 have qA := hA.five.1
 have q0 := (f0.below hB hg).c0
 have q1 := (f1.below hB hg).c5
 go_simp
 clear qA q0 q1
 refine hKK _ _ ⟨hA,hB⟩ ?_
 clear hKK K
 try simp only [putq]
 refine Ch.run_mid (j := 24) rfl (by rfl) (fun K hKK => ?_)
 have qA := hA.five.1
 have q0 := (f0.below hB hg).c0
 have q1 := (f1.below hB hg).c5
 go_simp
 clear qA q0 q1
 refine hKK _ _ ⟨hA,hB⟩ ?_
 clear hKK K
 try simp only [putq]
 refine Ch.run_mid (j := 25) rfl (by rfl) (fun K hKK => ?_)
 have qA := hA.five.1
 have q0 := (f0.below hB hg).c0
 have q1 := (f1.below hB hg).c5
 go_simp
 clear qA q0 q1
 refine hKK _ _ ⟨hA,hB⟩ ?_
 clear hKK K
 try simp only [putq]
 refine Ch.run_mid (j := 26) rfl (by rfl) (fun K hKK => ?_)
 have qA := hA.five.1
 have q0 := (f0.below hB hg).c0
 have q1 := (f1.below hB hg).c5
 go_simp
 clear qA q0 q1
 refine hKK _ _ ⟨hA,hB⟩ ?_
 clear hKK K
 try simp only [putq]
 refine Ch.run_mid (j := 27) rfl (by rfl) (fun K hKK => ?_)
 have qA := hA.five.1
 have q0 := (f0.below hB hg).c0
 have q1 := (f1.below hB hg).c5
 go_simp
 clear qA q0 q1
 refine (hy _ _ (t1.below hB)).mono ?_
 rintro e w3 ⟨rfl,hb⟩
 replace hA := hA.below hb hA.lt
 replace hB := hB.trans (hb.mono hB.size)
 clear hb
 refine hKK _ _ ⟨hA,hB⟩ ?_
 clear hKK K
 try simp only [putq]
 refine Ch.run_mid (j := 28) rfl (by rfl) (fun K hKK => ?_)
 have qA := hA.five.1
 have q0 := (f0.below hB hg).c0
 have q1 := (f1.below hB hg).c5
 go_simp
 clear qA q0 q1
 refine hKK _ _ ⟨hA,hB⟩ ?_
 clear hKK K
 try simp only [putq]
 refine Ch.run_mid (j := 29) rfl (by rfl) (fun K hKK => ?_)
 have qA := hA.five.1
 have q0 := (f0.below hB hg).c0
 have q1 := (f1.below hB hg).c5
 go_simp
 clear qA q0 q1
 refine hKK _ _ ⟨hA,hB⟩ ?_
 clear hKK K
 try simp only [putq]
 refine Ch.run_end ?_
 have qA := hA.five.1
 have q0 := (f0.below hB hg).c0
 have q1 := (f1.below hB hg).c5
 go_wp2_with fail
 go_ret
 exact ⟨rfl,hB⟩
theorem ops_in {n : ByteArray} (h : Pr.isOp3 n Pr.ops0 ∨ Pr.isOp3 n Pr.ops1 ∨ Pr.isOp3 n Pr.ops2) : (opsM.any fun k => decide (k = n)) = true := by
 have h : n ∈ Pr.ops0 ++ Pr.ops1 ++ Pr.ops2 := by
  rcases h with h | h | h <;> simp [Pr.isOp3_mem h]
 rw [List.any_eq_true]
 exact ⟨n,h,decide_eq_true rfl⟩
mutual
theorem Px_yes : ∀ {L u : Nat} {t : Tree},Pr.Px L u t → ∀ (w : World) (v : Value),TI w v t → Calls Tryz.prog 76 #[v] w (Yes w)
 | _,_,_,.num h => fun w v hv => num_yes h w v hv
 | _,_,_,.atom h => by
  rcases h with rfl | rfl | rfl
  ·exact fun w v hv => atom30_yes w v hv
  ·exact fun w v hv => atom31_yes w v hv
  ·exact fun w v hv => atom32_yes w v hv
 | _,_,t,.des h _ => by
  have ih := Pd_yes h
  cases h with
  | ref hn => exact fun w v hv => desx24_yes ih w v hv
  | dot hn h => exact fun w v hv => desx25_yes ih w v hv
  | index h hx => exact fun w v hv => desx26_yes ih w v hv
  | hat h => exact fun w v hv => desx27_yes ih w v hv
  | guard h ht => exact fun w v hv => desx28_yes ih w v hv
 | _,_,_,.call h _ hs => fun w v hv => call_yes (Pd_yes h) (Pa_yes hs) w v hv
 | _,_,_,.not h => fun w v hv => not_yes (Px_yes h) w v hv
 | _,_,_,.neg _ h => fun w v hv => neg_yes (Px_yes h) w v hv
 | _,_,_,.is h ht => fun w v hv => is_yes (Px_yes h) ht w v hv
 | _,_,_,.op0 hn h1 h2 => fun w v hv => op_yes (ops_in (.inl hn)) (Px_yes h1) (Px_yes h2) w v hv
 | _,_,_,.op1 hn _ h1 h2 => fun w v hv => op_yes (ops_in (.inr (.inl hn))) (Px_yes h1) (Px_yes h2) w v hv
 | _,_,_,.op2 hn _ h1 h2 => fun w v hv => op_yes (ops_in (.inr (.inr hn))) (Px_yes h1) (Px_yes h2) w v hv
 | _,_,_,.par _ _ h => Px_yes h
theorem Pd_yes : ∀ {L m : Nat} {t : Tree},Pr.Pd L m t → ∀ (w : World) (v : Value),TI w v t → Calls Tryz.prog 127 #[v] w (Yes w)
 | _,_,_,.ref hn => fun w v hv => ref_yes hn w v hv
 | _,_,_,.dot hn h => fun w v hv => dot_yes hn (Pd_yes h) w v hv
 | _,_,_,.index h hx => fun w v hv => index_yes (Pd_yes h) (Px_yes hx) w v hv
 | _,_,_,.hat h => fun w v hv => hat_yes (Pd_yes h) w v hv
 | _,_,_,.guard h ht => fun w v hv => guard_yes (Pd_yes h) ht w v hv
theorem Pa_yes : ∀ {L : Nat} {ts : List Tree},Pr.Pa L ts → ∀ t ∈ ts,∀ (w : World) (v : Value),TI w v t → Calls Tryz.prog 76 #[v] w (Yes w)
 | _,_,.nil => fun t ht => by cases ht
 | _,_,.cons h hs => fun t ht => by
  have h1 := Px_yes h
  have h2 := Pa_yes hs
  rcases List.mem_cons.1 ht with rfl | ht
  ·exact h1
  ·exact h2 t ht
end
theorem De_yes {L : Nat} {t : Tree} (h : Pr.De L t) : ∀ (w : World) (v : Value),TI w v t → Calls Tryz.prog 127 #[v] w (Yes w) := by
 obtain ⟨m,h,_⟩ := h
 exact Pd_yes h
theorem Xe_yes {L : Nat} {t : Tree} (h : Pr.Xe L t) : ∀ (w : World) (v : Value),TI w v t → Calls Tryz.prog 76 #[v] w (Yes w) := by
 obtain ⟨M,_,h,_⟩ := h
 exact Px_yes h
end Go.Proofs.YtneohanphabneaaGreatDoor
