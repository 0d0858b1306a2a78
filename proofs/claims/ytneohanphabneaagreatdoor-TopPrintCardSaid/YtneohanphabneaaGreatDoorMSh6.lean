/-
  Walks of print's shapes: statements. Printed by tools/gen_s.py.
-/
import Derived.Test.YtneohanphabneaaGreatDoorMWr18
namespace Go.Proofs.YtneohanphabneaaGreatDoor
set_option maxRecDepth 100000
set_option maxHeartbeats 2000000
open Go.RowKit Ps
theorem sasg_yes {a : Nat} {d x : Tree} (hd : ∀ (w : World) (v : Value),TI w v d → Calls Tryz.prog 127 #[v] w (Yes w)) (hx : ∀ (w : World) (v : Value),TI w v x → Calls Tryz.prog 76 #[v] w (Yes w)) (w : World) (v : Value) (h : TI w v (.node 14 ⟨#[]⟩ 0 a [d,x])) : Calls Tryz.prog 134 #[v] w (Yes w) := by
 obtain ⟨so,sc,rfl,hsc,hR⟩ := h.node
 clear h
 change Calls _ _ #[NodeC ⟨#[]⟩ 14 0 a so 2 sc] _ _
 have hA := Blk.new w 25 #[.int .i64 14,.string ⟨#[]⟩,.int .i64 0,.int .i64 a,.slice so 2 sc]
 have hB := Below.al w 25 #[.int .i64 14,.string ⟨#[]⟩,.int .i64 0,.int .i64 a,.slice so 2 sc]
 obtain ⟨g,o,k0,n0,m0,a0,s0,u0,c0,rfl,hg,-,f0,t0⟩ := hR.at0
 obtain ⟨k1,n1,m1,a1,s1,u1,c1,-,f1,t1⟩ := hR.at1
 have qA := hA.five.1
 have q0 := (f0.below hB hg).c0
 have q1 := (f1.below hB hg).c5
 go_enter Tryz.func134,Tryz.ntmps134
 go_wp2_with fail
 refine (hd _ _ (t0.below hB)).mono ?_
 rintro e w1 ⟨rfl,hb⟩
 clear qA q0 q1
 replace hA := hA.below hb hA.lt
 replace hB := hB.trans (hb.mono hB.size)
 clear hb
 have qA := hA.five.1
 have q0 := (f0.below hB hg).c0
 have q1 := (f1.below hB hg).c5
 go_wp2_with fail
 refine (hx _ _ (t1.below hB)).mono ?_
 rintro e w2 ⟨rfl,hb⟩
 clear qA q0 q1
 replace hA := hA.below hb hA.lt
 replace hB := hB.trans (hb.mono hB.size)
 clear hb
 have qA := hA.five.1
 have q0 := (f0.below hB hg).c0
 have q1 := (f1.below hB hg).c5
 go_wp2_with fail
 go_ret
 exact ⟨rfl,hB⟩
theorem swhile_yes {a : Nat} {x b : Tree} (hx : ∀ (w : World) (v : Value),TI w v x → Calls Tryz.prog 76 #[v] w (Yes w)) (hb : ∀ (w : World) (v : Value),TI w v b → Calls Tryz.prog 82 #[v] w (Yes w)) (w : World) (v : Value) (h : TI w v (.node 17 ⟨#[]⟩ 0 a [x,b])) : Calls Tryz.prog 134 #[v] w (Yes w) := by
 obtain ⟨so,sc,rfl,hsc,hR⟩ := h.node
 clear h
 change Calls _ _ #[NodeC ⟨#[]⟩ 17 0 a so 2 sc] _ _
 have hA := Blk.new w 25 #[.int .i64 17,.string ⟨#[]⟩,.int .i64 0,.int .i64 a,.slice so 2 sc]
 have hB := Below.al w 25 #[.int .i64 17,.string ⟨#[]⟩,.int .i64 0,.int .i64 a,.slice so 2 sc]
 obtain ⟨g,o,k0,n0,m0,a0,s0,u0,c0,rfl,hg,-,f0,t0⟩ := hR.at0
 obtain ⟨k1,n1,m1,a1,s1,u1,c1,-,f1,t1⟩ := hR.at1
 have qA := hA.five.1
 have q0 := (f0.below hB hg).c0
 have q1 := (f1.below hB hg).c5
 go_enter Tryz.func134,Tryz.ntmps134
 go_wp2_with fail
 refine (hx _ _ (t0.below hB)).mono ?_
 rintro e w1 ⟨rfl,hb⟩
 clear qA q0 q1
 replace hA := hA.below hb hA.lt
 replace hB := hB.trans (hb.mono hB.size)
 clear hb
 have qA := hA.five.1
 have q0 := (f0.below hB hg).c0
 have q1 := (f1.below hB hg).c5
 go_wp2_with fail
 refine (hb _ _ (t1.below hB)).mono ?_
 rintro e w2 ⟨rfl,hb⟩
 clear qA q0 q1
 replace hA := hA.below hb hA.lt
 replace hB := hB.trans (hb.mono hB.size)
 clear hb
 have qA := hA.five.1
 have q0 := (f0.below hB hg).c0
 have q1 := (f1.below hB hg).c5
 go_wp2_with fail
 go_ret
 exact ⟨rfl,hB⟩
theorem srepeat_yes {a : Nat} {b x : Tree} (hb : ∀ (w : World) (v : Value),TI w v b → Calls Tryz.prog 82 #[v] w (Yes w)) (hx : ∀ (w : World) (v : Value),TI w v x → Calls Tryz.prog 76 #[v] w (Yes w)) (w : World) (v : Value) (h : TI w v (.node 18 ⟨#[]⟩ 0 a [b,x])) : Calls Tryz.prog 134 #[v] w (Yes w) := by
 obtain ⟨so,sc,rfl,hsc,hR⟩ := h.node
 clear h
 change Calls _ _ #[NodeC ⟨#[]⟩ 18 0 a so 2 sc] _ _
 have hA := Blk.new w 25 #[.int .i64 18,.string ⟨#[]⟩,.int .i64 0,.int .i64 a,.slice so 2 sc]
 have hB := Below.al w 25 #[.int .i64 18,.string ⟨#[]⟩,.int .i64 0,.int .i64 a,.slice so 2 sc]
 obtain ⟨g,o,k0,n0,m0,a0,s0,u0,c0,rfl,hg,-,f0,t0⟩ := hR.at0
 obtain ⟨k1,n1,m1,a1,s1,u1,c1,-,f1,t1⟩ := hR.at1
 have qA := hA.five.1
 have q0 := (f0.below hB hg).c0
 have q1 := (f1.below hB hg).c5
 go_enter Tryz.func134,Tryz.ntmps134
 go_wp2_with fail
 refine (hb _ _ (t0.below hB)).mono ?_
 rintro e w1 ⟨rfl,hb⟩
 clear qA q0 q1
 replace hA := hA.below hb hA.lt
 replace hB := hB.trans (hb.mono hB.size)
 clear hb
 have qA := hA.five.1
 have q0 := (f0.below hB hg).c0
 have q1 := (f1.below hB hg).c5
 go_wp2_with fail
 refine (hx _ _ (t1.below hB)).mono ?_
 rintro e w2 ⟨rfl,hb⟩
 clear qA q0 q1
 replace hA := hA.below hb hA.lt
 replace hB := hB.trans (hb.mono hB.size)
 clear hb
 have qA := hA.five.1
 have q0 := (f0.below hB hg).c0
 have q1 := (f1.below hB hg).c5
 go_wp2_with fail
 go_ret
 exact ⟨rfl,hB⟩
theorem sret0_yes {a : Nat} (w : World) (v : Value) (h : TI w v (.node 19 ⟨#[]⟩ 0 a [])) : Calls Tryz.prog 134 #[v] w (Yes w) := by
 obtain ⟨so,sc,rfl,hsc,hR⟩ := h.node
 clear h
 change Calls _ _ #[NodeC ⟨#[]⟩ 19 0 a so 0 sc] _ _
 have hA := Blk.new w 25 #[.int .i64 19,.string ⟨#[]⟩,.int .i64 0,.int .i64 a,.slice so 0 sc]
 have hB := Below.al w 25 #[.int .i64 19,.string ⟨#[]⟩,.int .i64 0,.int .i64 a,.slice so 0 sc]
 have qA := hA.five.1
 go_enter Tryz.func134,Tryz.ntmps134
 go_wp2_with fail
 go_ret
 exact ⟨rfl,hB⟩
theorem sret1_yes {a : Nat} {x : Tree} (hx : ∀ (w : World) (v : Value),TI w v x → Calls Tryz.prog 76 #[v] w (Yes w)) (w : World) (v : Value) (h : TI w v (.node 19 ⟨#[]⟩ 0 a [x])) : Calls Tryz.prog 134 #[v] w (Yes w) := by
 obtain ⟨so,sc,rfl,hsc,hR⟩ := h.node
 clear h
 change Calls _ _ #[NodeC ⟨#[]⟩ 19 0 a so 1 sc] _ _
 have hA := Blk.new w 25 #[.int .i64 19,.string ⟨#[]⟩,.int .i64 0,.int .i64 a,.slice so 1 sc]
 have hB := Below.al w 25 #[.int .i64 19,.string ⟨#[]⟩,.int .i64 0,.int .i64 a,.slice so 1 sc]
 obtain ⟨g,o,k0,n0,m0,a0,s0,u0,c0,rfl,hg,-,f0,t0⟩ := hR.at0
 have qA := hA.five.1
 have q0 := (f0.below hB hg).c0
 go_enter Tryz.func134,Tryz.ntmps134
 go_wp2_with fail
 refine (hx _ _ (t0.below hB)).mono ?_
 rintro e w1 ⟨rfl,hb⟩
 clear qA q0
 replace hA := hA.below hb hA.lt
 replace hB := hB.trans (hb.mono hB.size)
 clear hb
 have qA := hA.five.1
 have q0 := (f0.below hB hg).c0
 go_wp2_with fail
 go_ret
 exact ⟨rfl,hB⟩
theorem snew_yes {a : Nat} {d : Tree} (hd : ∀ (w : World) (v : Value),TI w v d → Calls Tryz.prog 127 #[v] w (Yes w)) (w : World) (v : Value) (h : TI w v (.node 20 ⟨#[]⟩ 0 a [d])) : Calls Tryz.prog 134 #[v] w (Yes w) := by
 obtain ⟨so,sc,rfl,hsc,hR⟩ := h.node
 clear h
 change Calls _ _ #[NodeC ⟨#[]⟩ 20 0 a so 1 sc] _ _
 have hA := Blk.new w 25 #[.int .i64 20,.string ⟨#[]⟩,.int .i64 0,.int .i64 a,.slice so 1 sc]
 have hB := Below.al w 25 #[.int .i64 20,.string ⟨#[]⟩,.int .i64 0,.int .i64 a,.slice so 1 sc]
 obtain ⟨g,o,k0,n0,m0,a0,s0,u0,c0,rfl,hg,-,f0,t0⟩ := hR.at0
 have qA := hA.five.1
 have q0 := (f0.below hB hg).c0
 go_enter Tryz.func134,Tryz.ntmps134
 go_wp2_with fail
 refine (hd _ _ (t0.below hB)).mono ?_
 rintro e w1 ⟨rfl,hb⟩
 clear qA q0
 replace hA := hA.below hb hA.lt
 replace hB := hB.trans (hb.mono hB.size)
 clear hb
 have qA := hA.five.1
 have q0 := (f0.below hB hg).c0
 go_wp2_with fail
 go_ret
 exact ⟨rfl,hB⟩
theorem sout_yes {a : Nat} {x : Tree} (hx : ∀ (w : World) (v : Value),TI w v x → Calls Tryz.prog 76 #[v] w (Yes w)) (w : World) (v : Value) (h : TI w v (.node 21 ⟨#[]⟩ 0 a [x])) : Calls Tryz.prog 134 #[v] w (Yes w) := by
 obtain ⟨so,sc,rfl,hsc,hR⟩ := h.node
 clear h
 change Calls _ _ #[NodeC ⟨#[]⟩ 21 0 a so 1 sc] _ _
 have hA := Blk.new w 25 #[.int .i64 21,.string ⟨#[]⟩,.int .i64 0,.int .i64 a,.slice so 1 sc]
 have hB := Below.al w 25 #[.int .i64 21,.string ⟨#[]⟩,.int .i64 0,.int .i64 a,.slice so 1 sc]
 obtain ⟨g,o,k0,n0,m0,a0,s0,u0,c0,rfl,hg,-,f0,t0⟩ := hR.at0
 have qA := hA.five.1
 have q0 := (f0.below hB hg).c0
 go_enter Tryz.func134,Tryz.ntmps134
 go_wp2_with fail
 refine (hx _ _ (t0.below hB)).mono ?_
 rintro e w1 ⟨rfl,hb⟩
 clear qA q0
 replace hA := hA.below hb hA.lt
 replace hB := hB.trans (hb.mono hB.size)
 clear hb
 have qA := hA.five.1
 have q0 := (f0.below hB hg).c0
 go_wp2_with fail
 go_ret
 exact ⟨rfl,hB⟩
theorem sget_yes {a : Nat} {d : Tree} (hd : ∀ (w : World) (v : Value),TI w v d → Calls Tryz.prog 127 #[v] w (Yes w)) (w : World) (v : Value) (h : TI w v (.node 22 ⟨#[]⟩ 0 a [d])) : Calls Tryz.prog 134 #[v] w (Yes w) := by
 obtain ⟨so,sc,rfl,hsc,hR⟩ := h.node
 clear h
 change Calls _ _ #[NodeC ⟨#[]⟩ 22 0 a so 1 sc] _ _
 have hA := Blk.new w 25 #[.int .i64 22,.string ⟨#[]⟩,.int .i64 0,.int .i64 a,.slice so 1 sc]
 have hB := Below.al w 25 #[.int .i64 22,.string ⟨#[]⟩,.int .i64 0,.int .i64 a,.slice so 1 sc]
 obtain ⟨g,o,k0,n0,m0,a0,s0,u0,c0,rfl,hg,-,f0,t0⟩ := hR.at0
 have qA := hA.five.1
 have q0 := (f0.below hB hg).c0
 go_enter Tryz.func134,Tryz.ntmps134
 go_wp2_with fail
 refine (hd _ _ (t0.below hB)).mono ?_
 rintro e w1 ⟨rfl,hb⟩
 clear qA q0
 replace hA := hA.below hb hA.lt
 replace hB := hB.trans (hb.mono hB.size)
 clear hb
 have qA := hA.five.1
 have q0 := (f0.below hB hg).c0
 go_wp2_with fail
 go_ret
 exact ⟨rfl,hB⟩
theorem sassert_yes {a : Nat} {x : Tree} (hx : ∀ (w : World) (v : Value),TI w v x → Calls Tryz.prog 76 #[v] w (Yes w)) (w : World) (v : Value) (h : TI w v (.node 23 ⟨#[]⟩ 0 a [x])) : Calls Tryz.prog 134 #[v] w (Yes w) := by
 obtain ⟨so,sc,rfl,hsc,hR⟩ := h.node
 clear h
 change Calls _ _ #[NodeC ⟨#[]⟩ 23 0 a so 1 sc] _ _
 have hA := Blk.new w 25 #[.int .i64 23,.string ⟨#[]⟩,.int .i64 0,.int .i64 a,.slice so 1 sc]
 have hB := Below.al w 25 #[.int .i64 23,.string ⟨#[]⟩,.int .i64 0,.int .i64 a,.slice so 1 sc]
 obtain ⟨g,o,k0,n0,m0,a0,s0,u0,c0,rfl,hg,-,f0,t0⟩ := hR.at0
 have qA := hA.five.1
 have q0 := (f0.below hB hg).c0
 go_enter Tryz.func134,Tryz.ntmps134
 go_wp2_with fail
 refine (hx _ _ (t0.below hB)).mono ?_
 rintro e w1 ⟨rfl,hb⟩
 clear qA q0
 replace hA := hA.below hb hA.lt
 replace hB := hB.trans (hb.mono hB.size)
 clear hb
 have qA := hA.five.1
 have q0 := (f0.below hB hg).c0
 go_wp2_with fail
 go_ret
 exact ⟨rfl,hB⟩
theorem scall_yes {a : Nat} {d : Tree} {ts : List Tree} (hd : ∀ (w : World) (v : Value),TI w v d → Calls Tryz.prog 127 #[v] w (Yes w)) (hx : ∀ t ∈ ts,∀ (w : World) (v : Value),TI w v t → Calls Tryz.prog 76 #[v] w (Yes w)) (w : World) (v : Value) (h : TI w v (.node 15 ⟨#[]⟩ 0 a (d :: ts))) : Calls Tryz.prog 134 #[v] w (Yes w) := by
 obtain ⟨so,sc,rfl,hsc,hR⟩ := h.node
 clear h
 change Calls _ _ #[NodeC ⟨#[]⟩ 15 0 a so (ts.length + 1) sc] _ _
 have hA := Blk.new w 25 #[.int .i64 15,.string ⟨#[]⟩,.int .i64 0,.int .i64 a,.slice so (ts.length + 1) sc]
 have hB := Below.al w 25 #[.int .i64 15,.string ⟨#[]⟩,.int .i64 0,.int .i64 a,.slice so (ts.length + 1) sc]
 obtain ⟨g,o,k0,n0,m0,a0,s0,u0,c0,rfl,hg,-,f0,t0⟩ := hR.at0
 have hT := hR.tail
 clear hR
 have hmx := hT.max
 replace hsc : ts.length + 1 ≤ sc := hsc
 have hl0 : (0 : Int) < ((ts.length + 1 : Nat) : Int) := by omega
 rcases Nat.lt_or_ge 1 sc with h1 | h1
 ·have h2 : (1 : Int) < (sc : Int) := by omega
  have qA := hA.five.1
  have q0 := (f0.below hB hg).c0
  go_enter Tryz.func134,Tryz.ntmps134
  go_wp2_with fail
  refine (hd _ _ (t0.below hB)).mono ?_
  rintro e w1 ⟨rfl,hb⟩
  clear qA q0
  replace hA := hA.below hb hA.lt
  replace hB := hB.trans (hb.mono hB.size)
  clear hb
  have qA := hA.five.1
  have q0 := (f0.below hB hg).c0
  go_wp2_with fail
  refine (each_yes 76 (cf_of Tryz.func76 (by kernel_rfl) (by kernel_rfl)) _ (some ⟨g,o + 5,none⟩) (sc - 1) ts (by omega) (hT.below hB) hx).mono ?_
  rintro e w2 ⟨rfl,hb⟩
  clear qA q0
  replace hA := hA.below hb hA.lt
  replace hB := hB.trans (hb.mono hB.size)
  clear hb
  have qA := hA.five.1
  have q0 := (f0.below hB hg).c0
  go_wp2_with fail
  go_ret
  exact ⟨rfl,hB⟩
 ·obtain rfl : sc = 1 := by omega
  obtain rfl : ts = [] := by
   cases ts with
   | nil => rfl
   | cons _ _ => simp at hsc
  clear h1
  try simp only [List.length_nil,Nat.zero_add] at hA
  try simp only [List.length_nil,Nat.zero_add] at hB
  try simp only [List.length_nil,Nat.zero_add]
  have qA := hA.five.1
  have q0 := (f0.below hB hg).c0
  go_enter Tryz.func134,Tryz.ntmps134
  go_wp2_with fail
  refine (hd _ _ (t0.below hB)).mono ?_
  rintro e w3 ⟨rfl,hb⟩
  clear qA q0
  replace hA := hA.below hb hA.lt
  replace hB := hB.trans (hb.mono hB.size)
  clear hb
  have qA := hA.five.1
  have q0 := (f0.below hB hg).c0
  go_wp2_with fail
  refine (each_yes 76 (cf_of Tryz.func76 (by kernel_rfl) (by kernel_rfl)) _ (some ⟨g,o,none⟩) 0 [] (Nat.le_refl _) (RowAt.empty rfl) (fun t ht => by cases ht)).mono ?_
  rintro e w4 ⟨rfl,hb⟩
  clear qA q0
  replace hA := hA.below hb hA.lt
  replace hB := hB.trans (hb.mono hB.size)
  clear hb
  have qA := hA.five.1
  have q0 := (f0.below hB hg).c0
  go_wp2_with fail
  go_ret
  exact ⟨rfl,hB⟩
theorem sif0_yes {a : Nat} {ts : List Tree} (hlen : 2 ≤ ts.length) (hnum : ts.length % 2 = 0) (hE : ∀ i (h : i < ts.length),i % 2 = 0 → i + 1 < ts.length → ∀ (w : World) (v : Value),TI w v ts[i] → Calls Tryz.prog 76 #[v] w (Yes w)) (hS : ∀ i (h : i < ts.length),¬ (i % 2 = 0 ∧ i + 1 < ts.length) → ∀ (w : World) (v : Value),TI w v ts[i] → Calls Tryz.prog 82 #[v] w (Yes w)) (w : World) (v : Value) (h : TI w v (.node 16 ⟨#[]⟩ 0 a ts)) : Calls Tryz.prog 134 #[v] w (Yes w) := by
 obtain ⟨so,sc,rfl,hsc,hR⟩ := h.node
 clear h
 change Calls _ _ #[NodeC ⟨#[]⟩ 16 0 a so ts.length sc] _ _
 have hA := Blk.new w 25 #[.int .i64 16,.string ⟨#[]⟩,.int .i64 0,.int .i64 a,.slice so ts.length sc]
 have hB := Below.al w 25 #[.int .i64 16,.string ⟨#[]⟩,.int .i64 0,.int .i64 a,.slice so ts.length sc]
 have hmx := hR.max
 have l2 : ¬ (ts.length : Int) < 2 := by omega
 have hmod : (ts.length : Int).tmod 2 = 0 := by
  have : (ts.length : Int).tmod 2 = ((ts.length % 2 : Nat) : Int) := rfl
  rw [this,hnum]; rfl
 have HE := Lib.hid hE
 have HS := Lib.hid hS
 have HR := Lib.hid hR
 have HA := Lib.hid hA
 have HB0 := Lib.hid hB
 clear hE hS hR hB
 have qA := hA.five.1
 go_enter Tryz.func134,Tryz.ntmps134
 go_wp2_with fail
 obtain ⟨w0,hw0⟩ : ∃ w0,(w.alloc (.cells #[.int .i64 16,.string ⟨#[]⟩,.int .i64 0,.int .i64 a,.slice so ts.length sc] 25)) = w0 := ⟨_,rfl⟩
 rw [hw0] at HA HB0 ⊢
 clear hw0
 go_loopw [74] (fun i wr => ∃ j : Nat,j ≤ ts.length ∧ i = .int .i64 j ∧ Hid (Below w.heap.size w wr) ∧ Hid (Below w0.heap.size w0 wr)) (fun i _ => ts.length - (intOf i).toNat)
 case atStart => exact ⟨0,Nat.zero_le _,rfl,HB0,Lib.hid (Below.refl _ _)⟩
 case round =>
  obtain ⟨j,hj,rfl,HB,HB1⟩ := hrel
  by_cases hlt : j < ts.length
  ·obtain ⟨g,o,k,nm,num,a2,su,us,sc2,rfl,hg,et,f5,t1⟩ := (HR.out.below HB.out).nth j hlt
   have hE1 := HE.out j hlt
   have hS1 := HS.out j hlt
   have t2 := fun (u : World) (hu : Below wr.heap.size wr u) => t1.below hu
   have HT := Lib.hid t2
   clear t1 t2
   obtain ⟨a0,a1,a3,a4,a5⟩ := f5
   have i0 : (0 : Int) ≤ (j : Int) := by omega
   have i1 : (j : Int) < (ts.length : Int) := by omega
   have i2 : j < sc := by omega
   have hjm : (j : Int).tmod 2 = ((j % 2 : Nat) : Int) := rfl
   by_cases hev : j % 2 = 0
   ·rw [hev] at hjm
    have hjm : ((j : Int).tmod 2) = 0 := hjm
    by_cases hl : j + 1 < ts.length
    ·have HC := Lib.hid (hE1 hev hl)
     have i3 : (j : Int) < (ts.length : Int) - 1 := by omega
     clear hE1 hS1
     go_wp2_with fail
     refine (HC.out _ _ (HT.out _ ((Below.refl _ _).alloc (Nat.le_refl _) _))).mono ?_
     rintro e w3 ⟨rfl,hb3⟩
     go_wp2_with fail
     go_roundw
     case rel => exact ⟨j + 1,by omega,by go_num,Lib.hid ((HB.out.alloc HB.out.size _).trans (hb3.mono (by have := HB.out.size; simp; omega))),Lib.hid ((HB1.out.alloc HB1.out.size _).trans (hb3.mono (by have := HB1.out.size; simp; omega)))⟩
     case measure => simp [intOf]; omega
    ·exact absurd hnum (by omega)
   ·have he1 : j % 2 = 1 := by omega
    rw [he1] at hjm
    have hjm : ((j : Int).tmod 2) = 1 := hjm
    have HC := Lib.hid (hS1 (fun h => hev h.1))
    clear hE1 hS1
    go_wp2_with fail
    refine (HC.out _ _ (HT.out _ ((Below.refl _ _).alloc (Nat.le_refl _) _))).mono ?_
    rintro e w3 ⟨rfl,hb3⟩
    go_wp2_with fail
    go_roundw
    case rel => exact ⟨j + 1,by omega,by go_num,Lib.hid ((HB.out.alloc HB.out.size _).trans (hb3.mono (by have := HB.out.size; simp; omega))),Lib.hid ((HB1.out.alloc HB1.out.size _).trans (hb3.mono (by have := HB1.out.size; simp; omega)))⟩
    case measure => simp [intOf]; omega
  ·have i1 : ¬ (j : Int) < (ts.length : Int) := by omega
   go_wp2_with fail
   go_ret
   exact ⟨rfl,HB.out⟩
theorem sif1_yes {a : Nat} {ts : List Tree} (hlen : 2 ≤ ts.length) (hnum : ts.length % 2 = 1) (hE : ∀ i (h : i < ts.length),i % 2 = 0 → i + 1 < ts.length → ∀ (w : World) (v : Value),TI w v ts[i] → Calls Tryz.prog 76 #[v] w (Yes w)) (hS : ∀ i (h : i < ts.length),¬ (i % 2 = 0 ∧ i + 1 < ts.length) → ∀ (w : World) (v : Value),TI w v ts[i] → Calls Tryz.prog 82 #[v] w (Yes w)) (w : World) (v : Value) (h : TI w v (.node 16 ⟨#[]⟩ 1 a ts)) : Calls Tryz.prog 134 #[v] w (Yes w) := by
 obtain ⟨so,sc,rfl,hsc,hR⟩ := h.node
 clear h
 change Calls _ _ #[NodeC ⟨#[]⟩ 16 1 a so ts.length sc] _ _
 have hA := Blk.new w 25 #[.int .i64 16,.string ⟨#[]⟩,.int .i64 1,.int .i64 a,.slice so ts.length sc]
 have hB := Below.al w 25 #[.int .i64 16,.string ⟨#[]⟩,.int .i64 1,.int .i64 a,.slice so ts.length sc]
 have hmx := hR.max
 have l2 : ¬ (ts.length : Int) < 2 := by omega
 have hmod : (ts.length : Int).tmod 2 = 1 := by
  have : (ts.length : Int).tmod 2 = ((ts.length % 2 : Nat) : Int) := rfl
  rw [this,hnum]; rfl
 have HE := Lib.hid hE
 have HS := Lib.hid hS
 have HR := Lib.hid hR
 have HA := Lib.hid hA
 have HB0 := Lib.hid hB
 clear hE hS hR hB
 have qA := hA.five.1
 go_enter Tryz.func134,Tryz.ntmps134
 go_wp2_with fail
 obtain ⟨w0,hw0⟩ : ∃ w0,(w.alloc (.cells #[.int .i64 16,.string ⟨#[]⟩,.int .i64 1,.int .i64 a,.slice so ts.length sc] 25)) = w0 := ⟨_,rfl⟩
 rw [hw0] at HA HB0 ⊢
 clear hw0
 go_loopw [74] (fun i wr => ∃ j : Nat,j ≤ ts.length ∧ i = .int .i64 j ∧ Hid (Below w.heap.size w wr) ∧ Hid (Below w0.heap.size w0 wr)) (fun i _ => ts.length - (intOf i).toNat)
 case atStart => exact ⟨0,Nat.zero_le _,rfl,HB0,Lib.hid (Below.refl _ _)⟩
 case round =>
  obtain ⟨j,hj,rfl,HB,HB1⟩ := hrel
  by_cases hlt : j < ts.length
  ·obtain ⟨g,o,k,nm,num,a2,su,us,sc2,rfl,hg,et,f5,t1⟩ := (HR.out.below HB.out).nth j hlt
   have hE1 := HE.out j hlt
   have hS1 := HS.out j hlt
   have t2 := fun (u : World) (hu : Below wr.heap.size wr u) => t1.below hu
   have HT := Lib.hid t2
   clear t1 t2
   obtain ⟨a0,a1,a3,a4,a5⟩ := f5
   have i0 : (0 : Int) ≤ (j : Int) := by omega
   have i1 : (j : Int) < (ts.length : Int) := by omega
   have i2 : j < sc := by omega
   have hjm : (j : Int).tmod 2 = ((j % 2 : Nat) : Int) := rfl
   by_cases hev : j % 2 = 0
   ·rw [hev] at hjm
    have hjm : ((j : Int).tmod 2) = 0 := hjm
    by_cases hl : j + 1 < ts.length
    ·have HC := Lib.hid (hE1 hev hl)
     have i3 : (j : Int) < (ts.length : Int) - 1 := by omega
     clear hE1 hS1
     go_wp2_with fail
     refine (HC.out _ _ (HT.out _ ((Below.refl _ _).alloc (Nat.le_refl _) _))).mono ?_
     rintro e w3 ⟨rfl,hb3⟩
     go_wp2_with fail
     go_roundw
     case rel => exact ⟨j + 1,by omega,by go_num,Lib.hid ((HB.out.alloc HB.out.size _).trans (hb3.mono (by have := HB.out.size; simp; omega))),Lib.hid ((HB1.out.alloc HB1.out.size _).trans (hb3.mono (by have := HB1.out.size; simp; omega)))⟩
     case measure => simp [intOf]; omega
    ·have HC := Lib.hid (hS1 (fun h => hl h.2))
     have i3 : ¬ (j : Int) < (ts.length : Int) - 1 := by omega
     clear hE1 hS1
     go_wp2_with fail
     refine (HC.out _ _ (HT.out _ ((Below.refl _ _).alloc (Nat.le_refl _) _))).mono ?_
     rintro e w3 ⟨rfl,hb3⟩
     go_wp2_with fail
     go_roundw
     case rel => exact ⟨j + 1,by omega,by go_num,Lib.hid ((HB.out.alloc HB.out.size _).trans (hb3.mono (by have := HB.out.size; simp; omega))),Lib.hid ((HB1.out.alloc HB1.out.size _).trans (hb3.mono (by have := HB1.out.size; simp; omega)))⟩
     case measure => simp [intOf]; omega
   ·have he1 : j % 2 = 1 := by omega
    rw [he1] at hjm
    have hjm : ((j : Int).tmod 2) = 1 := hjm
    have HC := Lib.hid (hS1 (fun h => hev h.1))
    clear hE1 hS1
    go_wp2_with fail
    refine (HC.out _ _ (HT.out _ ((Below.refl _ _).alloc (Nat.le_refl _) _))).mono ?_
    rintro e w3 ⟨rfl,hb3⟩
    go_wp2_with fail
    go_roundw
    case rel => exact ⟨j + 1,by omega,by go_num,Lib.hid ((HB.out.alloc HB.out.size _).trans (hb3.mono (by have := HB.out.size; simp; omega))),Lib.hid ((HB1.out.alloc HB1.out.size _).trans (hb3.mono (by have := HB1.out.size; simp; omega)))⟩
    case measure => simp [intOf]; omega
  ·have i1 : ¬ (j : Int) < (ts.length : Int) := by omega
   go_wp2_with fail
   go_ret
   exact ⟨rfl,HB.out⟩
theorem stmts_of {a : Nat} {ts : List Tree} (hs : ∀ t ∈ ts,∀ (w : World) (v : Value),TI w v t → Calls Tryz.prog 134 #[v] w (Yes w)) (w : World) (v : Value) (h : TI w v (.node 1 ⟨#[]⟩ 0 a ts)) : Calls Tryz.prog 82 #[v] w (Yes w) := by
 have hT := h
 obtain ⟨so,sc,rfl,hsc,hR⟩ := h.node
 clear h
 change Calls _ _ #[NodeC ⟨#[]⟩ 1 0 a so ts.length sc] _ _
 have hA := Blk.new w 25 #[.int .i64 1,.string ⟨#[]⟩,.int .i64 0,.int .i64 a,.slice so ts.length sc]
 have hB := Below.al w 25 #[.int .i64 1,.string ⟨#[]⟩,.int .i64 0,.int .i64 a,.slice so ts.length sc]
 go_enter Tryz.func82,Tryz.ntmps82
 go_wp2_with fail
 refine (list_yes 134 (cf_of Tryz.func134 (by kernel_rfl) (by kernel_rfl)) (what := fun t => t ∈ ts) ⟨a,ts,rfl,fun _ h => h⟩ hs _ _ (hT.below hB)).mono ?_
 rintro e w1 ⟨rfl,hb⟩
 replace hA := hA.below hb hA.lt
 replace hB := hB.trans (hb.mono hB.size)
 clear hb
 have qA := hA.five.1
 go_wp2_with fail
 go_ret
 exact ⟨rfl,hB⟩
mutual
theorem Pst_yes : ∀ {L : Nat} {t : Tree},Pr.Pst L t → ∀ (w : World) (v : Value),TI w v t → Calls Tryz.prog 134 #[v] w (Yes w)
 | _,_,.asg hd hx => fun w v hv => sasg_yes (De_yes hd) (Xe_yes hx) w v hv
 | _,_,.call hd ha => fun w v hv => scall_yes (De_yes hd) (Pa_yes ha.1) w v hv
 | _,_,.ifs hi => by
  obtain ⟨h1,h2,h3,h4,h5⟩ := Pi_yes hi
  intro w v hv
  rename_i num ts
  obtain rfl | rfl : num = 0 ∨ num = 1 := by omega
  ·exact sif0_yes h1 h3 h4 h5 w v hv
  ·exact sif1_yes h1 h3 h4 h5 w v hv
 | _,_,.while_ hx hb => fun w v hv => swhile_yes (Xe_yes hx) (Pb_yes hb) w v hv
 | _,_,.repeat_ hx hb => fun w v hv => srepeat_yes (Pb_yes hb) (Xe_yes hx) w v hv
 | _,_,.ret0 => fun w v hv => sret0_yes w v hv
 | _,_,.ret1 hx => fun w v hv => sret1_yes (Xe_yes hx) w v hv
 | _,_,.new hd => fun w v hv => snew_yes (De_yes hd) w v hv
 | _,_,.out hx => fun w v hv => sout_yes (Xe_yes hx) w v hv
 | _,_,.get hd => fun w v hv => sget_yes (De_yes hd) w v hv
 | _,_,.assert hx => fun w v hv => sassert_yes (Xe_yes hx) w v hv
theorem Pi_yes : ∀ {L num : Nat} {ts : List Tree},Pr.Pi L num ts → 2 ≤ ts.length ∧ num ≤ 1 ∧ ts.length % 2 = num ∧ (∀ i (h : i < ts.length),i % 2 = 0 → i + 1 < ts.length → ∀ (w : World) (v : Value),TI w v ts[i] → Calls Tryz.prog 76 #[v] w (Yes w)) ∧
  (∀ i (h : i < ts.length),¬ (i % 2 = 0 ∧ i + 1 < ts.length) → ∀ (w : World) (v : Value),TI w v ts[i] → Calls Tryz.prog 82 #[v] w (Yes w))
 | _,_,_,.last hx hb => by
  have h1 := Xe_yes hx
  have h2 := Pb_yes hb
  refine ⟨Nat.le_refl 2,Nat.zero_le _,by simp,fun i h he hl => ?_,fun i h hn => ?_⟩
  ·obtain rfl : i = 0 := by simp at h hl; omega
   exact h1
  ·obtain rfl : i = 1 := by simp at h hn; omega
   exact h2
 | _,_,_,.els hx hb he => by
  have h1 := Xe_yes hx
  have h2 := Pb_yes hb
  have h3 := Pb_yes he
  refine ⟨Nat.le_add_left 2 1,Nat.le_refl _,by simp,fun i h he hl => ?_,fun i h hn => ?_⟩
  ·obtain rfl : i = 0 := by simp at h hl; omega
   exact h1
  ·obtain rfl | rfl : i = 1 ∨ i = 2 := by simp at h hn; omega
   ·exact h2
   ·exact h3
 | _,_,_,.more hx hb hi => by
  have h1 := Xe_yes hx
  have h2 := Pb_yes hb
  obtain ⟨g1,g2,g3,g4,g5⟩ := Pi_yes hi
  refine ⟨by simp,g2,by simp only [List.length_cons]; omega,fun i h he hl => ?_,fun i h hn => ?_⟩
  ·match i,h,he,hl with
   | 0,_,_,_ => exact h1
   | i + 2,h,he,hl => exact g4 i (by simpa using h) (by omega) (by simp at hl; omega)
  ·match i,h,hn with
   | 0,h,hn => exact absurd ⟨rfl,by simp⟩ hn
   | 1,_,_ => exact h2
   | i + 2,h,hn => exact g5 i (by simpa using h) (fun hh => hn ⟨by omega,by simp; omega⟩)
theorem Pb_yes : ∀ {L : Nat} {t : Tree},Pr.Pb L t → ∀ (w : World) (v : Value),TI w v t → Calls Tryz.prog 82 #[v] w (Yes w)
 | _,_,.mk h => stmts_of (Psq_yes h)
theorem Psq_yes : ∀ {L : Nat} {ts : List Tree},Pr.Psq L ts → ∀ t ∈ ts,∀ (w : World) (v : Value),TI w v t → Calls Tryz.prog 134 #[v] w (Yes w)
 | _,_,.nil => fun t ht => by cases ht
 | _,_,.cons h hs => fun t ht => by
  have h1 := Pst_yes h
  have h2 := Psq_yes hs
  rcases List.mem_cons.1 ht with rfl | ht
  ·exact h1
  ·exact h2 t ht
end
set_option maxRecDepth 100000
set_option maxHeartbeats 2000000
open Go.RowKit Ps
theorem proc0_yes {n : ByteArray} {a : Nat} {ps r vs b : Tree} (hn : isName n = true) (hp : Pr.Plist (Pr.Pdec 8 Pr.PT) ps) (hbase : Pr.Pbase r) (hv : Pr.Plist Pr.Pvar0 vs) (hb : Pr.Pb 20 b) (w : World) (v : Value) (h : TI w v (.node 7 n 0 a [ps,r,vs,b])) : Calls Tryz.prog 81 #[v] w (Yes w) := by
 obtain ⟨so,sc,rfl,hsc,hR⟩ := h.node
 clear h
 change Calls _ _ #[NodeC n 7 0 a so 4 sc] _ _
 have hA := Blk.new w 25 #[.int .i64 7,.string n,.int .i64 0,.int .i64 a,.slice so 4 sc]
 have hB := Below.al w 25 #[.int .i64 7,.string n,.int .i64 0,.int .i64 a,.slice so 4 sc]
 obtain ⟨g,o,k0,n0,m0,a0,s0,u0,c0,rfl,hg,-,f0,t0⟩ := hR.at0
 obtain ⟨k1,n1,m1,a1,s1,u1,c1,-,f1,t1⟩ := hR.at1
 obtain ⟨k2,n2,m2,a2,s2,u2,c2,-,f2,t2⟩ := hR.at2
 obtain ⟨k3,n3,m3,a3,s3,u3,c3,-,f3,t3⟩ := hR.at3
 have qA := hA.five.1
 have q0 := (f0.below hB hg).c0
 have q1 := (f1.below hB hg).c5
 have q2 := (f2.below hB hg).c10
 have q3 := (f3.below hB hg).c15
 go_enter Tryz.func81,Tryz.ntmps81
 go_wp2_with fail
 refine (sname_yes hn _).mono ?_
 rintro e w1 ⟨rfl,hb⟩
 clear qA q0 q1 q2 q3
 replace hA := hA.below hb hA.lt
 replace hB := hB.trans (hb.mono hB.size)
 clear hb
 have qA := hA.five.1
 have q0 := (f0.below hB hg).c0
 have q1 := (f1.below hB hg).c5
 have q2 := (f2.below hB hg).c10
 have q3 := (f3.below hB hg).c15
 go_wp2_with fail
 refine (list_yes 132 (cf_of Tryz.func132 (by kernel_rfl) (by kernel_rfl)) hp (fun t ht => param_yes ht) _ _ (t0.below hB)).mono ?_
 rintro e w2 ⟨rfl,hb⟩
 clear qA q0 q1 q2 q3
 replace hA := hA.below hb hA.lt
 replace hB := hB.trans (hb.mono hB.size)
 clear hb
 have qA := hA.five.1
 have q0 := (f0.below hB hg).c0
 have q1 := (f1.below hB hg).c5
 have q2 := (f2.below hB hg).c10
 have q3 := (f3.below hB hg).c15
 go_wp2_with fail
 refine (perhaps_yes hbase _ _ (t1.below hB)).mono ?_
 rintro e w3 ⟨rfl,hb⟩
 clear qA q0 q1 q2 q3
 replace hA := hA.below hb hA.lt
 replace hB := hB.trans (hb.mono hB.size)
 clear hb
 have qA := hA.five.1
 have q0 := (f0.below hB hg).c0
 have q1 := (f1.below hB hg).c5
 have q2 := (f2.below hB hg).c10
 have q3 := (f3.below hB hg).c15
 go_wp2_with fail
 refine (list_yes 133 (cf_of Tryz.func133 (by kernel_rfl) (by kernel_rfl)) hv (fun t ht => var0_yes ht) _ _ (t2.below hB)).mono ?_
 rintro e w4 ⟨rfl,hb⟩
 clear qA q0 q1 q2 q3
 replace hA := hA.below hb hA.lt
 replace hB := hB.trans (hb.mono hB.size)
 clear hb
 have qA := hA.five.1
 have q0 := (f0.below hB hg).c0
 have q1 := (f1.below hB hg).c5
 have q2 := (f2.below hB hg).c10
 have q3 := (f3.below hB hg).c15
 go_wp2_with fail
 refine (Pb_yes hb _ _ (t3.below hB)).mono ?_
 rintro e w5 ⟨rfl,hb⟩
 clear qA q0 q1 q2 q3
 replace hA := hA.below hb hA.lt
 replace hB := hB.trans (hb.mono hB.size)
 clear hb
 have qA := hA.five.1
 have q0 := (f0.below hB hg).c0
 have q1 := (f1.below hB hg).c5
 have q2 := (f2.below hB hg).c10
 have q3 := (f3.below hB hg).c15
 go_wp2_with fail
 go_ret
 exact ⟨rfl,hB⟩
theorem proc1_yes {n : ByteArray} {a : Nat} {ps r vs b : Tree} (hn : isName n = true) (hp : Pr.Plist (Pr.Pdec 8 Pr.PT) ps) (hbase : Pr.Pbase r) (hv : Pr.Plist Pr.Pvar0 vs) (hb : Pr.Pb 20 b) (w : World) (v : Value) (h : TI w v (.node 7 n 1 a [ps,r,vs,b])) : Calls Tryz.prog 81 #[v] w (Yes w) := by
 obtain ⟨so,sc,rfl,hsc,hR⟩ := h.node
 clear h
 change Calls _ _ #[NodeC n 7 1 a so 4 sc] _ _
 have hA := Blk.new w 25 #[.int .i64 7,.string n,.int .i64 1,.int .i64 a,.slice so 4 sc]
 have hB := Below.al w 25 #[.int .i64 7,.string n,.int .i64 1,.int .i64 a,.slice so 4 sc]
 obtain ⟨g,o,k0,n0,m0,a0,s0,u0,c0,rfl,hg,-,f0,t0⟩ := hR.at0
 obtain ⟨k1,n1,m1,a1,s1,u1,c1,-,f1,t1⟩ := hR.at1
 obtain ⟨k2,n2,m2,a2,s2,u2,c2,-,f2,t2⟩ := hR.at2
 obtain ⟨k3,n3,m3,a3,s3,u3,c3,-,f3,t3⟩ := hR.at3
 have qA := hA.five.1
 have q0 := (f0.below hB hg).c0
 have q1 := (f1.below hB hg).c5
 have q2 := (f2.below hB hg).c10
 have q3 := (f3.below hB hg).c15
 go_enter Tryz.func81,Tryz.ntmps81
 go_wp2_with fail
 refine (sname_yes hn _).mono ?_
 rintro e w1 ⟨rfl,hb⟩
 clear qA q0 q1 q2 q3
 replace hA := hA.below hb hA.lt
 replace hB := hB.trans (hb.mono hB.size)
 clear hb
 have qA := hA.five.1
 have q0 := (f0.below hB hg).c0
 have q1 := (f1.below hB hg).c5
 have q2 := (f2.below hB hg).c10
 have q3 := (f3.below hB hg).c15
 go_wp2_with fail
 refine (list_yes 132 (cf_of Tryz.func132 (by kernel_rfl) (by kernel_rfl)) hp (fun t ht => param_yes ht) _ _ (t0.below hB)).mono ?_
 rintro e w2 ⟨rfl,hb⟩
 clear qA q0 q1 q2 q3
 replace hA := hA.below hb hA.lt
 replace hB := hB.trans (hb.mono hB.size)
 clear hb
 have qA := hA.five.1
 have q0 := (f0.below hB hg).c0
 have q1 := (f1.below hB hg).c5
 have q2 := (f2.below hB hg).c10
 have q3 := (f3.below hB hg).c15
 go_wp2_with fail
 refine (perhaps_yes hbase _ _ (t1.below hB)).mono ?_
 rintro e w3 ⟨rfl,hb⟩
 clear qA q0 q1 q2 q3
 replace hA := hA.below hb hA.lt
 replace hB := hB.trans (hb.mono hB.size)
 clear hb
 have qA := hA.five.1
 have q0 := (f0.below hB hg).c0
 have q1 := (f1.below hB hg).c5
 have q2 := (f2.below hB hg).c10
 have q3 := (f3.below hB hg).c15
 go_wp2_with fail
 refine (list_yes 133 (cf_of Tryz.func133 (by kernel_rfl) (by kernel_rfl)) hv (fun t ht => var0_yes ht) _ _ (t2.below hB)).mono ?_
 rintro e w4 ⟨rfl,hb⟩
 clear qA q0 q1 q2 q3
 replace hA := hA.below hb hA.lt
 replace hB := hB.trans (hb.mono hB.size)
 clear hb
 have qA := hA.five.1
 have q0 := (f0.below hB hg).c0
 have q1 := (f1.below hB hg).c5
 have q2 := (f2.below hB hg).c10
 have q3 := (f3.below hB hg).c15
 go_wp2_with fail
 refine (Pb_yes hb _ _ (t3.below hB)).mono ?_
 rintro e w5 ⟨rfl,hb⟩
 clear qA q0 q1 q2 q3
 replace hA := hA.below hb hA.lt
 replace hB := hB.trans (hb.mono hB.size)
 clear hb
 have qA := hA.five.1
 have q0 := (f0.below hB hg).c0
 have q1 := (f1.below hB hg).c5
 have q2 := (f2.below hB hg).c10
 have q3 := (f3.below hB hg).c15
 go_wp2_with fail
 go_ret
 exact ⟨rfl,hB⟩
theorem proc_yes {t : Tree} (ht : Pr.Pproc t) : ∀ (w : World) (v : Value),TI w v t → Calls Tryz.prog 81 #[v] w (Yes w) := by
 obtain ⟨n,num,a,ps,r,vs,b,rfl,hn,hnum,hps,hr,hvs,hb⟩ := ht
 obtain rfl | rfl : num = 0 ∨ num = 1 := by omega
 ·exact fun w v h => proc0_yes hn hps hr hvs hb w v h
 ·exact fun w v h => proc1_yes hn hps hr hvs hb w v h
theorem shaped_mod {n : ByteArray} {a : Nat} {im cs ty vs ps b : Tree} (hn : isName n = true) (him : Pr.Plist Pr.Pimp im) (hcs : Pr.Plist (Pr.Pdec 4 (Pr.Xe 20)) cs) (hty : Pr.Plist (Pr.Pdec 5 Pr.Pty) ty) (hvs : Pr.Plist (Pr.Pdec 6 Pr.PT) vs) (hps : Pr.Plist Pr.Pproc ps) (hb : Pr.Pb 20 b) (w : World) (v : Value) (h : TI w v (.node 2 n 0 a [im,cs,ty,vs,ps,b])) : Calls Tryz.prog 29 #[v] w (Yes w) := by
 obtain ⟨so,sc,rfl,hsc,hR⟩ := h.node
 clear h
 change Calls _ _ #[NodeC n 2 0 a so 6 sc] _ _
 have hA := Blk.new w 25 #[.int .i64 2,.string n,.int .i64 0,.int .i64 a,.slice so 6 sc]
 have hB := Below.al w 25 #[.int .i64 2,.string n,.int .i64 0,.int .i64 a,.slice so 6 sc]
 obtain ⟨g,o,k0,n0,m0,a0,s0,u0,c0,rfl,hg,-,f0,t0⟩ := hR.at0
 obtain ⟨k1,n1,m1,a1,s1,u1,c1,-,f1,t1⟩ := hR.at1
 obtain ⟨k2,n2,m2,a2,s2,u2,c2,-,f2,t2⟩ := hR.at2
 obtain ⟨k3,n3,m3,a3,s3,u3,c3,-,f3,t3⟩ := hR.at3
 obtain ⟨k4,n4,m4,a4,s4,u4,c4,-,f4,t4⟩ := hR.at4
 obtain ⟨k5,n5,m5,a5,s5,u5,c5,-,f5,t5⟩ := hR.at5
 have qA := hA.five.1
 have q0 := (f0.below hB hg).c0
 have q1 := (f1.below hB hg).c5
 have q2 := (f2.below hB hg).c10
 have q3 := (f3.below hB hg).c15
 have q4 := (f4.below hB hg).c20
 have q5 := (f5.below hB hg).c25
 go_enter Tryz.func29,Tryz.ntmps29
 go_wp2_with fail
 refine (sname_yes hn _).mono ?_
 rintro e w1 ⟨rfl,hb⟩
 clear qA q0 q1 q2 q3 q4 q5
 replace hA := hA.below hb hA.lt
 replace hB := hB.trans (hb.mono hB.size)
 clear hb
 have qA := hA.five.1
 have q0 := (f0.below hB hg).c0
 have q1 := (f1.below hB hg).c5
 have q2 := (f2.below hB hg).c10
 have q3 := (f3.below hB hg).c15
 have q4 := (f4.below hB hg).c20
 have q5 := (f5.below hB hg).c25
 go_wp2_with fail
 refine (list_yes 72 (cf_of Tryz.func72 (by kernel_rfl) (by kernel_rfl)) him (fun t ht => imp_yes ht) _ _ (t0.below hB)).mono ?_
 rintro e w2 ⟨rfl,hb⟩
 clear qA q0 q1 q2 q3 q4 q5
 replace hA := hA.below hb hA.lt
 replace hB := hB.trans (hb.mono hB.size)
 clear hb
 have qA := hA.five.1
 have q0 := (f0.below hB hg).c0
 have q1 := (f1.below hB hg).c5
 have q2 := (f2.below hB hg).c10
 have q3 := (f3.below hB hg).c15
 have q4 := (f4.below hB hg).c20
 have q5 := (f5.below hB hg).c25
 go_wp2_with fail
 refine (list_yes 74 (cf_of Tryz.func74 (by kernel_rfl) (by kernel_rfl)) hcs (fun t ht => const_yes ht) _ _ (t1.below hB)).mono ?_
 rintro e w3 ⟨rfl,hb⟩
 clear qA q0 q1 q2 q3 q4 q5
 replace hA := hA.below hb hA.lt
 replace hB := hB.trans (hb.mono hB.size)
 clear hb
 have qA := hA.five.1
 have q0 := (f0.below hB hg).c0
 have q1 := (f1.below hB hg).c5
 have q2 := (f2.below hB hg).c10
 have q3 := (f3.below hB hg).c15
 have q4 := (f4.below hB hg).c20
 have q5 := (f5.below hB hg).c25
 go_wp2_with fail
 refine (list_yes 77 (cf_of Tryz.func77 (by kernel_rfl) (by kernel_rfl)) hty (fun t ht => named_yes ht) _ _ (t2.below hB)).mono ?_
 rintro e w4 ⟨rfl,hb⟩
 clear qA q0 q1 q2 q3 q4 q5
 replace hA := hA.below hb hA.lt
 replace hB := hB.trans (hb.mono hB.size)
 clear hb
 have qA := hA.five.1
 have q0 := (f0.below hB hg).c0
 have q1 := (f1.below hB hg).c5
 have q2 := (f2.below hB hg).c10
 have q3 := (f3.below hB hg).c15
 have q4 := (f4.below hB hg).c20
 have q5 := (f5.below hB hg).c25
 go_wp2_with fail
 refine (list_yes 79 (cf_of Tryz.func79 (by kernel_rfl) (by kernel_rfl)) hvs (fun t ht => gvar_yes ht) _ _ (t3.below hB)).mono ?_
 rintro e w5 ⟨rfl,hb⟩
 clear qA q0 q1 q2 q3 q4 q5
 replace hA := hA.below hb hA.lt
 replace hB := hB.trans (hb.mono hB.size)
 clear hb
 have qA := hA.five.1
 have q0 := (f0.below hB hg).c0
 have q1 := (f1.below hB hg).c5
 have q2 := (f2.below hB hg).c10
 have q3 := (f3.below hB hg).c15
 have q4 := (f4.below hB hg).c20
 have q5 := (f5.below hB hg).c25
 go_wp2_with fail
 refine (list_yes 81 (cf_of Tryz.func81 (by kernel_rfl) (by kernel_rfl)) hps (fun t ht => proc_yes ht) _ _ (t4.below hB)).mono ?_
 rintro e w6 ⟨rfl,hb⟩
 clear qA q0 q1 q2 q3 q4 q5
 replace hA := hA.below hb hA.lt
 replace hB := hB.trans (hb.mono hB.size)
 clear hb
 have qA := hA.five.1
 have q0 := (f0.below hB hg).c0
 have q1 := (f1.below hB hg).c5
 have q2 := (f2.below hB hg).c10
 have q3 := (f3.below hB hg).c15
 have q4 := (f4.below hB hg).c20
 have q5 := (f5.below hB hg).c25
 go_wp2_with fail
 refine (Pb_yes hb _ _ (t5.below hB)).mono ?_
 rintro e w7 ⟨rfl,hb⟩
 clear qA q0 q1 q2 q3 q4 q5
 replace hA := hA.below hb hA.lt
 replace hB := hB.trans (hb.mono hB.size)
 clear hb
 have qA := hA.five.1
 have q0 := (f0.below hB hg).c0
 have q1 := (f1.below hB hg).c5
 have q2 := (f2.below hB hg).c10
 have q3 := (f3.below hB hg).c15
 have q4 := (f4.below hB hg).c20
 have q5 := (f5.below hB hg).c25
 go_wp2_with fail
 go_ret
 exact ⟨rfl,hB⟩
theorem shaped_yes {t : Tree} (ht : Pr.Pmod t) (w : World) (v : Value) (h : TI w v t) : Calls Tryz.prog 29 #[v] w (Yes w) := by
 obtain ⟨n,a,im,cs,ty,vs,ps,b,rfl,hn,him,hcs,hty,hvs,hps,hb⟩ := ht
 exact shaped_mod hn him hcs hty hvs hps hb w v h
set_option maxRecDepth 100000
set_option maxHeartbeats 4000000
open Go.RowKit Ps
theorem TI.bound {w : World} {v : Value} {t : Tree} (h : TI w v t) : TIB w w.heap.size v t := TreeIn.turn h fun _ hb _ => ⟨hb,rfl⟩
theorem Tab10.bound {w : World} (h : Tab10 w) : TabB w w.heap.size := by
 refine ⟨h,fun g hg => ?_⟩
 unfold Tab10 Lib.TabIs World.var? at h
 rw [hg] at h
 simp only [Option.bind_some] at h
 rcases Nat.lt_or_ge g w.heap.size with h1 | h1
 ·exact h1
 ·rw [Array.getElem?_eq_none h1] at h; simp at h
theorem text_any {t : Tree} (ht : Pr.Pmod t) (hl : (Pr.txt (Pr.module t)).length ≤ 80000000) (w : World) (v : Value) (hW : Tab10 w) (h : TI w v t) : Calls Tryz.prog 12 #[v] w fun e w' =>
  (((Pr.txt (Pr.module t)).length ≤ 4000 ∧ e = .returned (.tuple #[.string (Pr.tx (Pr.module t)),.nilIface])) ∨ (4000 < (Pr.txt (Pr.module t)).length ∧ e = .returned (.tuple #[.string ⟨#[]⟩,.iface 26 (.int .i64 3)]))) ∧ Below w.heap.size w w' := by
 have hne : Pr.txt (Pr.module t) ≠ [] := by
  unfold Pr.module Pr.line
  simp [Pr.txt,Pr.Pc.b,Pr.kMODULE]
 obtain ⟨k,nm,num,a,ts,rfl⟩ : ∃ k nm num a ts,t = .node k nm num a ts := by cases t; exact ⟨_,_,_,_,_,rfl⟩
 have h0 := h
 obtain ⟨so,sc,rfl,hsc,hr⟩ := h.node
 clear hr h hsc
 have hA := Blk.new w 25 #[.int .i64 k,.string nm,.int .i64 num,.int .i64 a,.slice so ts.length sc]
 have hal : Below w.heap.size w (w.alloc (.cells #[.int .i64 k,.string nm,.int .i64 num,.int .i64 a,.slice so ts.length sc] 25)) := (Below.refl _ _).alloc (Nat.le_refl _) _
 have h1 := h0.below hal
 have hsh := shaped_yes ht _ _ h1
 obtain ⟨⟨q1,q2,q3,q4,q5⟩,_⟩ := hA.five
 go_enter Tryz.func12,Tryz.ntmps12
 go_wp2_with fail
 refine hsh.mono ?_
 rintro e w1 ⟨rfl,hb1⟩
 have hb := hal.trans (hb1.mono hal.size)
 have hA1 := hA.below hb1 hA.lt
 have h2 := h1.below hb1
 have hT1 := hW.below hb
 clear hsh h1 hal hb1 q1 q2 q3 q4 q5 hA
 have hlt := hA1.lt
 obtain ⟨⟨q1,q2,q3,q4,q5⟩,_⟩ := hA1.five
 go_wp2_with fail
 have hal : Below w1.heap.size w1 (w1.alloc (.cells #[.pointer none,.slice none 0 0,.int .i64 0] 76)) := (Below.refl _ _).alloc (Nat.le_refl _) _
 have hB := Blk.new w1 76 #[.pointer none,.slice none 0 0,.int .i64 0]
 have h3 := h2.bound
 have hP : Pen (w1.alloc (.cells #[.pointer none,.slice none 0 0,.int .i64 0] 76)) w1.heap.size w1.heap.size [] 0 := by
  refine ⟨⟨Nat.le_refl _,_,_,.inl rfl,hB,World.ownsRow_nil _ _ _ _,by simp [Value.ownBlock]⟩,hal.size,hT1.bound.below hal⟩
 have hM := module_says ht _ _ _ _ _ hP (h3.below hal) (by simpa using hl)
 rw [List.nil_append] at hM
 clear q1 q2 q3 q4 q5 hP hB
 refine hM.mono ?_
 rintro e w2 ⟨rfl,hP2,hk2⟩
 have hb2 := hal.trans hk2.below
 have hb := hb.trans (hb2.mono hb.size)
 have hS := hP2.wb.string hne
 clear hM hal hk2 hA1
 go_wp2_with fail
 refine hS.mono ?_
 rintro e w3 ⟨rfl,hb3⟩
 have hb := hb.trans (hb3.mono (Nat.le_of_lt hlt))
 clear hb2 hb3 hP2 h3 h2 hlt hT1
 have hsz : (Pr.tx (Pr.module (.node k nm num a ts))).size = (Pr.txt (Pr.module (.node k nm num a ts))).length := rfl
 have eS : (⟨(Pr.txt (Pr.module (.node k nm num a ts))).toArray⟩ : ByteArray) = Pr.tx (Pr.module (.node k nm num a ts)) := rfl
 rw [eS]
 clear eS
 obtain ⟨S,hS⟩ : ∃ S,S = Pr.tx (Pr.module (.node k nm num a ts)) := ⟨_,rfl⟩
 rw [← hS] at hsz ⊢
 have HS := Lib.hid hS
 have HZ := Lib.hid hsz
 clear hS hne h0 hW ht hsz hl
 rcases Nat.lt_or_ge 4000 S.size with h4 | h4
 ·have y1 : (4000 : Int) < (S.size : Int) := by omega
  go_wp2_with fail
  exact ⟨rfl,_,by simp [results,Tryz.results12],.inr ⟨by rw [← HZ.out]; exact h4,rfl⟩,hb⟩
 ·have y1 : ¬ (4000 : Int) < (S.size : Int) := by omega
  go_wp2_with fail
  exact ⟨rfl,.tuple #[.string S,.nilIface],by simp [results,Tryz.results12],.inl ⟨by rw [← HZ.out]; exact h4,by rw [← HS.out]⟩,hb⟩
end Go.Proofs.YtneohanphabneaaGreatDoor
