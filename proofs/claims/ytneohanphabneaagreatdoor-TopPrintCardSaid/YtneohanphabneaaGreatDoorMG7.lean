/-
  Made texts: statements that hold others. Printed by tools/gen_g.py.
-/
import Derived.Test.YtneohanphabneaaGreatDoorMG4
import Derived.Laws.BytesString
import Derived.Laws.Cells
namespace Go.Proofs.YtneohanphabneaaGreatDoor
set_option maxRecDepth 100000
set_option maxHeartbeats 16000000
open Go.RowKit Gn
theorem stmt_step {d : Nat} (hd : d + 1 ≤ 2) (IQ : StmtsC d) : StmtC (d + 1) := by
 intro w b so n sc m hS hm
 obtain ⟨e1,e2,e3,e4,e5,e6,e7,e8⟩ := fS d
 have IW2 := whole_any 2 (by decide)
 have IW1 := whole_any 1 (by decide)
 have IT2 := truth_any 2 (by decide)
 have IT1 := truth_any 1 (by decide)
 have v1 : cW 1 = 4 := rfl
 have v2 : cW 2 = 10 := rfl
 have v3 : cT 1 = 7 := rfl
 have v4 : cT 2 = 22 := rfl
 have hN := next_any hS (by omega) 19 (by decide) (by decide)
 have c1 : ¬ (d : Int) + 1 ≤ 0 := by omega
 have c2 : (d : Int) + 1 - 1 = d := by omega
 go_enter Tryz.func68,Tryz.ntmps68
 go_wp2_with fail
 refine hN.mono ?_
 rintro e w9 ⟨⟨k,hk,rfl⟩,hS2,hK⟩
 clear hN hS
 have hS := hS2
 clear hS2
 rcases (by omega : k = 0 ∨ k = 1 ∨ k = 2 ∨ k = 3 ∨ k = 4 ∨ k = 5 ∨ k = 6 ∨ k = 7 ∨ k = 8 ∨ k = 9 ∨ k = 10 ∨ k = 11 ∨ k = 12 ∨ k = 13 ∨ k = 14 ∨ k = 15 ∨ k = 16 ∨ k = 17 ∨ k = 18) with rfl | rfl | rfl | rfl | rfl | rfl | rfl | rfl | rfl | rfl | rfl | rfl | rfl | rfl | rfl | rfl | rfl | rfl | rfl
 ·go_wp2_with fail
  refine (of_any (hS.alloc _) (by omega) [(⟨#[105]⟩ : ByteArray),⟨#[106]⟩,⟨#[97,91,105,32,77,79,68,32,52,93]⟩,⟨#[76,105,98,46,99,111,117,110,116]⟩,⟨#[114,46,97,91,49,93]⟩,⟨#[107]⟩,⟨#[112,46,118,97,108]⟩] (by decide) (by decide) (Blk.new _ _ _) (by have := hS.lt; omega)).mono ?_
  rintro e w10 ⟨⟨X0,rfl,h0⟩,hS2,hK2⟩
  have hK := (hK.alloc hK.size _).call (hK.alloc hK.size _).size hK2
  have z0 : X0.size ≤ 400000 := Nat.le_trans (of_sz (by decide) h0) (by decide)
  have y0 : ¬ 9223372036854775807 < X0.size + 4 := by omega
  have hS := hS2
  clear hS2 hK2
  go_wp2_with fail
  refine (IW2 _ _ _ _ _ _ hS (by omega)).mono ?_
  rintro e w11 ⟨⟨X1,rfl,h1⟩,hS2,hK2⟩
  have hK := hK.call hK.size hK2
  have z1 : X1.size ≤ 400000 := Nat.le_trans (wh_sz (by omega) h1) (by decide)
  have y1 : ¬ 9223372036854775807 < X0.size + 4 + X1.size := by omega
  have hS := hS2
  clear hS2 hK2
  go_wp2_with fail
  go_ret
  exact ⟨⟨_,rfl,s_0 h0 h1⟩,hS.up (by omega),hK⟩
 ·go_wp2_with fail
  refine (of_any (hS.alloc _) (by omega) [(⟨#[105]⟩ : ByteArray),⟨#[106]⟩,⟨#[97,91,105,32,77,79,68,32,52,93]⟩,⟨#[76,105,98,46,99,111,117,110,116]⟩,⟨#[114,46,97,91,49,93]⟩,⟨#[107]⟩,⟨#[112,46,118,97,108]⟩] (by decide) (by decide) (Blk.new _ _ _) (by have := hS.lt; omega)).mono ?_
  rintro e w10 ⟨⟨X0,rfl,h0⟩,hS2,hK2⟩
  have hK := (hK.alloc hK.size _).call (hK.alloc hK.size _).size hK2
  have z0 : X0.size ≤ 400000 := Nat.le_trans (of_sz (by decide) h0) (by decide)
  have y0 : ¬ 9223372036854775807 < X0.size + 4 := by omega
  have hS := hS2
  clear hS2 hK2
  go_wp2_with fail
  refine (IW2 _ _ _ _ _ _ hS (by omega)).mono ?_
  rintro e w11 ⟨⟨X1,rfl,h1⟩,hS2,hK2⟩
  have hK := hK.call hK.size hK2
  have z1 : X1.size ≤ 400000 := Nat.le_trans (wh_sz (by omega) h1) (by decide)
  have y1 : ¬ 9223372036854775807 < X0.size + 4 + X1.size := by omega
  have hS := hS2
  clear hS2 hK2
  go_wp2_with fail
  go_ret
  exact ⟨⟨_,rfl,s_0 h0 h1⟩,hS.up (by omega),hK⟩
 ·go_wp2_with fail
  refine (IT2 _ _ _ _ _ _ hS (by omega)).mono ?_
  rintro e w10 ⟨⟨X0,rfl,h0⟩,hS2,hK2⟩
  have hK := hK.call hK.size hK2
  have z0 : X0.size ≤ 400000 := Nat.le_trans (tr_sz (by omega) h0) (by decide)
  have y0 : ¬ 9223372036854775807 < 5 + X0.size := by omega
  have hS := hS2
  clear hS2 hK2
  go_wp2_with fail
  go_ret
  exact ⟨⟨_,rfl,s_2 h0⟩,hS.up (by omega),hK⟩
 ·go_wp2_with fail
  refine (IW2 _ _ _ _ _ _ hS (by omega)).mono ?_
  rintro e w10 ⟨⟨X0,rfl,h0⟩,hS2,hK2⟩
  have hK := hK.call hK.size hK2
  have z0 : X0.size ≤ 400000 := Nat.le_trans (wh_sz (by omega) h0) (by decide)
  have y0 : ¬ 9223372036854775807 < 4 + X0.size := by omega
  have y1 : ¬ 9223372036854775807 < 4 + X0.size + 1 := by omega
  have hS := hS2
  clear hS2 hK2
  go_wp2_with fail
  go_ret
  exact ⟨⟨_,rfl,s_3 h0⟩,hS.up (by omega),hK⟩
 ·go_wp2_with fail
  refine (of_any (hS.alloc _) (by omega) [(⟨#[112]⟩ : ByteArray),⟨#[113]⟩,⟨#[76,105,98,46,104,101,97,100]⟩,⟨#[114,46,108]⟩] (by decide) (by decide) (Blk.new _ _ _) (by have := hS.lt; omega)).mono ?_
  rintro e w10 ⟨⟨X0,rfl,h0⟩,hS2,hK2⟩
  have hK := (hK.alloc hK.size _).call (hK.alloc hK.size _).size hK2
  have z0 : X0.size ≤ 400000 := Nat.le_trans (of_sz (by decide) h0) (by decide)
  have y0 : ¬ 9223372036854775807 < 9 + X0.size := by omega
  have y1 : ¬ 9223372036854775807 < 9 + X0.size + 2 := by omega
  have hS := hS2
  clear hS2 hK2
  go_wp2_with fail
  refine (IW1 _ _ _ _ _ _ hS (by omega)).mono ?_
  rintro e w11 ⟨⟨X1,rfl,h1⟩,hS2,hK2⟩
  have hK := hK.call hK.size hK2
  have z1 : X1.size ≤ 400000 := Nat.le_trans (wh_sz (by omega) h1) (by decide)
  have y2 : ¬ 9223372036854775807 < 9 + X0.size + 2 + X1.size := by omega
  have y3 : ¬ 9223372036854775807 < 9 + X0.size + 2 + X1.size + 1 := by omega
  have hS := hS2
  clear hS2 hK2
  go_wp2_with fail
  go_ret
  exact ⟨⟨_,rfl,s_4 h0 h1⟩,hS.up (by omega),hK⟩
 ·go_wp2_with fail
  refine (of_any (hS.alloc _) (by omega) [(⟨#[112,32,58,61,32,113]⟩ : ByteArray),⟨#[113,32,58,61,32,112]⟩,⟨#[113,32,58,61,32,109]⟩,⟨#[112,32,58,61,32,78,73,76]⟩,⟨#[76,105,98,46,104,101,97,100,32,58,61,32,112]⟩,⟨#[113,32,58,61,32,76,105,98,46,104,101,97,100]⟩,⟨#[112,32,58,61,32,112,46,110,101,120,116]⟩,⟨#[109,32,58,61,32,113,123,76,105,98,46,66,105,103,76,105,115,116,125]⟩,⟨#[114,46,108,32,58,61,32,113]⟩] (by decide) (by decide) (Blk.new _ _ _) (by have := hS.lt; omega)).mono ?_
  rintro e w10 ⟨⟨X0,rfl,h0⟩,hS2,hK2⟩
  have hK := (hK.alloc hK.size _).call (hK.alloc hK.size _).size hK2
  have z0 : X0.size ≤ 400000 := Nat.le_trans (of_sz (by decide) h0) (by decide)
  have hS := hS2
  clear hS2 hK2
  go_wp2_with fail
  go_ret
  exact ⟨⟨_,rfl,s_5 h0⟩,hS.up (by omega),hK⟩
 ·go_wp2_with fail
  refine (of_any (hS.alloc _) (by omega) [(⟨#[78,69,87,40,112,41]⟩ : ByteArray),⟨#[78,69,87,40,113,41]⟩,⟨#[78,69,87,40,109,41]⟩,⟨#[78,69,87,40,114,46,108,41]⟩,⟨#[78,69,87,40,112,46,110,101,120,116,41]⟩,⟨#[78,69,87,40,110,41]⟩] (by decide) (by decide) (Blk.new _ _ _) (by have := hS.lt; omega)).mono ?_
  rintro e w10 ⟨⟨X0,rfl,h0⟩,hS2,hK2⟩
  have hK := (hK.alloc hK.size _).call (hK.alloc hK.size _).size hK2
  have z0 : X0.size ≤ 400000 := Nat.le_trans (of_sz (by decide) h0) (by decide)
  have hS := hS2
  clear hS2 hK2
  go_wp2_with fail
  go_ret
  exact ⟨⟨_,rfl,s_6 h0⟩,hS.up (by omega),hK⟩
 ·go_wp2_with fail
  refine (of_any (hS.alloc _) (by omega) [(⟨#[71,69,84,40,105,41]⟩ : ByteArray),⟨#[71,69,84,40,106,41]⟩,⟨#[71,69,84,40,97,91,50,93,41]⟩,⟨#[71,69,84,40,107,41]⟩] (by decide) (by decide) (Blk.new _ _ _) (by have := hS.lt; omega)).mono ?_
  rintro e w10 ⟨⟨X0,rfl,h0⟩,hS2,hK2⟩
  have hK := (hK.alloc hK.size _).call (hK.alloc hK.size _).size hK2
  have z0 : X0.size ≤ 400000 := Nat.le_trans (of_sz (by decide) h0) (by decide)
  have hS := hS2
  clear hS2 hK2
  go_wp2_with fail
  go_ret
  exact ⟨⟨_,rfl,s_7 h0⟩,hS.up (by omega),hK⟩
 ·go_wp2_with fail
  refine (of_any (hS.alloc _) (by omega) [(⟨#[105,44,32,106]⟩ : ByteArray),⟨#[97,91,48,93,44,32,97,91,49,93]⟩,⟨#[112,46,118,97,108,44,32,105]⟩,⟨#[105,44,32,105]⟩,⟨#[76,105,98,46,99,111,117,110,116,44,32,106]⟩] (by decide) (by decide) (Blk.new _ _ _) (by have := hS.lt; omega)).mono ?_
  rintro e w10 ⟨⟨X0,rfl,h0⟩,hS2,hK2⟩
  have hK := (hK.alloc hK.size _).call (hK.alloc hK.size _).size hK2
  have z0 : X0.size ≤ 400000 := Nat.le_trans (of_sz (by decide) h0) (by decide)
  have y0 : ¬ 9223372036854775807 < 5 + X0.size := by omega
  have y1 : ¬ 9223372036854775807 < 5 + X0.size + 1 := by omega
  have hS := hS2
  clear hS2 hK2
  go_wp2_with fail
  go_ret
  exact ⟨⟨_,rfl,s_8 h0⟩,hS.up (by omega),hK⟩
 ·go_wp2_with fail
  refine (of_any (hS.alloc _) (by omega) [(⟨#[115,32,58,61,32,114]⟩ : ByteArray),⟨#[114,32,58,61,32,115]⟩,⟨#[114,46,97,32,58,61,32,97]⟩,⟨#[97,32,58,61,32,115,46,97]⟩,⟨#[112,94,32,58,61,32,113,94]⟩,⟨#[76,105,98,46,80,117,116,40,97,44,32,105,32,77,79,68,32,52,44,32,106,41]⟩,⟨#[76,105,98,46,80,117,116,40,114,46,97,44,32,105,44,32,51,41]⟩] (by decide) (by decide) (Blk.new _ _ _) (by have := hS.lt; omega)).mono ?_
  rintro e w10 ⟨⟨X0,rfl,h0⟩,hS2,hK2⟩
  have hK := (hK.alloc hK.size _).call (hK.alloc hK.size _).size hK2
  have z0 : X0.size ≤ 400000 := Nat.le_trans (of_sz (by decide) h0) (by decide)
  have hS := hS2
  clear hS2 hK2
  go_wp2_with fail
  go_ret
  exact ⟨⟨_,rfl,s_9 h0⟩,hS.up (by omega),hK⟩
 ·go_wp2_with fail
  go_ret
  exact ⟨⟨_,rfl,s_10 ⟩,hS.up (by omega),hK⟩
 ·go_wp2_with fail
  refine (of_any (hS.alloc _) (by omega) [(⟨#[84,82,85,69]⟩ : ByteArray),⟨#[105,32,61,32,105]⟩,⟨#[112,32,61,32,112]⟩,⟨#[98,32,79,82,32,126,98]⟩,⟨#[105,32,60,32,49,48,48,48]⟩] (by decide) (by decide) (Blk.new _ _ _) (by have := hS.lt; omega)).mono ?_
  rintro e w10 ⟨⟨X0,rfl,h0⟩,hS2,hK2⟩
  have hK := (hK.alloc hK.size _).call (hK.alloc hK.size _).size hK2
  have z0 : X0.size ≤ 400000 := Nat.le_trans (of_sz (by decide) h0) (by decide)
  have y0 : ¬ 9223372036854775807 < 7 + X0.size := by omega
  have y1 : ¬ 9223372036854775807 < 7 + X0.size + 1 := by omega
  have hS := hS2
  clear hS2 hK2
  go_wp2_with fail
  go_ret
  exact ⟨⟨_,rfl,s_11 h0⟩,hS.up (by omega),hK⟩
 ·go_wp2_with fail
  refine (IT2 _ _ _ _ _ _ hS (by omega)).mono ?_
  rintro e w10 ⟨⟨X0,rfl,h0⟩,hS2,hK2⟩
  have hK := hK.call hK.size hK2
  have z0 : X0.size ≤ 400000 := Nat.le_trans (tr_sz (by omega) h0) (by decide)
  have y0 : ¬ 9223372036854775807 < 3 + X0.size := by omega
  have y1 : ¬ 9223372036854775807 < 3 + X0.size + 6 := by omega
  have hS := hS2
  clear hS2 hK2
  go_wp2_with fail
  refine (IQ _ _ _ _ _ _ hS (by omega)).mono ?_
  rintro e w11 ⟨⟨X1,rfl,h1⟩,hS2,hK2⟩
  have hK := hK.call hK.size hK2
  have z1 : X1.size ≤ 400000 := Nat.le_trans (sq_sz (by omega) h1) (by decide)
  have y2 : ¬ 9223372036854775807 < 3 + X0.size + 6 + X1.size := by omega
  have hS := hS2
  clear hS2 hK2
  go_wp2_with fail
  refine (IQ _ _ _ _ _ _ hS (by omega)).mono ?_
  rintro e w12 ⟨⟨X2,rfl,h2⟩,hS2,hK2⟩
  have hK := hK.call hK.size hK2
  have z2 : X2.size ≤ 400000 := Nat.le_trans (sq_sz (by omega) h2) (by decide)
  have y3 : ¬ 9223372036854775807 < 6 + X2.size := by omega
  have hS := hS2
  clear hS2 hK2
  go_wp2_with fail
  refine (IT1 _ _ _ _ _ _ hS (by omega)).mono ?_
  rintro e w13 ⟨⟨X3,rfl,h3⟩,hS2,hK2⟩
  have hK := hK.call hK.size hK2
  have z3 : X3.size ≤ 400000 := Nat.le_trans (tr_sz (by omega) h3) (by decide)
  have y4 : ¬ 9223372036854775807 < 7 + X3.size := by omega
  have y5 : ¬ 9223372036854775807 < 7 + X3.size + 6 := by omega
  have hS := hS2
  clear hS2 hK2
  go_wp2_with fail
  refine (IQ _ _ _ _ _ _ hS (by omega)).mono ?_
  rintro e w14 ⟨⟨X4,rfl,h4⟩,hS2,hK2⟩
  have hK := hK.call hK.size hK2
  have z4 : X4.size ≤ 400000 := Nat.le_trans (sq_sz (by omega) h4) (by decide)
  have y6 : ¬ 9223372036854775807 < 7 + X3.size + 6 + X4.size := by omega
  have hS := hS2
  clear hS2 hK2
  go_wp2_with fail
  refine (of_any (hS.alloc _) (by omega) [(⟨#[]⟩ : ByteArray),(⟨#[32,69,76,83,69,32]⟩ : ByteArray) ++ X2,(⟨#[32,69,76,83,73,70,32]⟩ : ByteArray) ++ X3 ++ (⟨#[32,84,72,69,78,32]⟩ : ByteArray) ++ X4] (by simp) (by simp) (Blk.new _ _ _) (by have := hS.lt; omega)).mono ?_
  rintro e w15 ⟨⟨X5,rfl,h5⟩,hS2,hK2⟩
  have hK := (hK.alloc hK.size _).call (hK.alloc hK.size _).size hK2
  have z5 : X5.size ≤ 400000 := if_sz (sq_sz (by omega) h2) (Nat.le_trans (tr_sz (by omega) h3) (by decide)) (sq_sz (by omega) h4) h5
  have y7 : ¬ 9223372036854775807 < 3 + X0.size + 6 + X1.size + X5.size := by omega
  have y8 : ¬ 9223372036854775807 < 3 + X0.size + 6 + X1.size + X5.size + 4 := by omega
  have hS := hS2
  clear hS2 hK2
  go_wp2_with fail
  go_ret
  exact ⟨⟨_,rfl,s_if h0 h1 h2 h3 h4 h5⟩,hS.up (by omega),hK⟩
 ·go_wp2_with fail
  refine (IT2 _ _ _ _ _ _ hS (by omega)).mono ?_
  rintro e w10 ⟨⟨X0,rfl,h0⟩,hS2,hK2⟩
  have hK := hK.call hK.size hK2
  have z0 : X0.size ≤ 400000 := Nat.le_trans (tr_sz (by omega) h0) (by decide)
  have y0 : ¬ 9223372036854775807 < 3 + X0.size := by omega
  have y1 : ¬ 9223372036854775807 < 3 + X0.size + 6 := by omega
  have hS := hS2
  clear hS2 hK2
  go_wp2_with fail
  refine (IQ _ _ _ _ _ _ hS (by omega)).mono ?_
  rintro e w11 ⟨⟨X1,rfl,h1⟩,hS2,hK2⟩
  have hK := hK.call hK.size hK2
  have z1 : X1.size ≤ 400000 := Nat.le_trans (sq_sz (by omega) h1) (by decide)
  have y2 : ¬ 9223372036854775807 < 3 + X0.size + 6 + X1.size := by omega
  have hS := hS2
  clear hS2 hK2
  go_wp2_with fail
  refine (IQ _ _ _ _ _ _ hS (by omega)).mono ?_
  rintro e w12 ⟨⟨X2,rfl,h2⟩,hS2,hK2⟩
  have hK := hK.call hK.size hK2
  have z2 : X2.size ≤ 400000 := Nat.le_trans (sq_sz (by omega) h2) (by decide)
  have y3 : ¬ 9223372036854775807 < 6 + X2.size := by omega
  have hS := hS2
  clear hS2 hK2
  go_wp2_with fail
  refine (IT1 _ _ _ _ _ _ hS (by omega)).mono ?_
  rintro e w13 ⟨⟨X3,rfl,h3⟩,hS2,hK2⟩
  have hK := hK.call hK.size hK2
  have z3 : X3.size ≤ 400000 := Nat.le_trans (tr_sz (by omega) h3) (by decide)
  have y4 : ¬ 9223372036854775807 < 7 + X3.size := by omega
  have y5 : ¬ 9223372036854775807 < 7 + X3.size + 6 := by omega
  have hS := hS2
  clear hS2 hK2
  go_wp2_with fail
  refine (IQ _ _ _ _ _ _ hS (by omega)).mono ?_
  rintro e w14 ⟨⟨X4,rfl,h4⟩,hS2,hK2⟩
  have hK := hK.call hK.size hK2
  have z4 : X4.size ≤ 400000 := Nat.le_trans (sq_sz (by omega) h4) (by decide)
  have y6 : ¬ 9223372036854775807 < 7 + X3.size + 6 + X4.size := by omega
  have hS := hS2
  clear hS2 hK2
  go_wp2_with fail
  refine (of_any (hS.alloc _) (by omega) [(⟨#[]⟩ : ByteArray),(⟨#[32,69,76,83,69,32]⟩ : ByteArray) ++ X2,(⟨#[32,69,76,83,73,70,32]⟩ : ByteArray) ++ X3 ++ (⟨#[32,84,72,69,78,32]⟩ : ByteArray) ++ X4] (by simp) (by simp) (Blk.new _ _ _) (by have := hS.lt; omega)).mono ?_
  rintro e w15 ⟨⟨X5,rfl,h5⟩,hS2,hK2⟩
  have hK := (hK.alloc hK.size _).call (hK.alloc hK.size _).size hK2
  have z5 : X5.size ≤ 400000 := if_sz (sq_sz (by omega) h2) (Nat.le_trans (tr_sz (by omega) h3) (by decide)) (sq_sz (by omega) h4) h5
  have y7 : ¬ 9223372036854775807 < 3 + X0.size + 6 + X1.size + X5.size := by omega
  have y8 : ¬ 9223372036854775807 < 3 + X0.size + 6 + X1.size + X5.size + 4 := by omega
  have hS := hS2
  clear hS2 hK2
  go_wp2_with fail
  go_ret
  exact ⟨⟨_,rfl,s_if h0 h1 h2 h3 h4 h5⟩,hS.up (by omega),hK⟩
 ·go_wp2_with fail
  refine (of_any (hS.alloc _) (by omega) [(⟨#[51]⟩ : ByteArray),⟨#[53]⟩,⟨#[57]⟩] (by decide) (by decide) (Blk.new _ _ _) (by have := hS.lt; omega)).mono ?_
  rintro e w10 ⟨⟨X0,rfl,h0⟩,hS2,hK2⟩
  have hK := (hK.alloc hK.size _).call (hK.alloc hK.size _).size hK2
  have z0 : X0.size ≤ 400000 := Nat.le_trans (of_sz (by decide) h0) (by decide)
  have y0 : ¬ 9223372036854775807 < 18 + X0.size := by omega
  have y1 : ¬ 9223372036854775807 < 18 + X0.size + 16 := by omega
  have hS := hS2
  clear hS2 hK2
  go_wp2_with fail
  refine (IQ _ _ _ _ _ _ hS (by omega)).mono ?_
  rintro e w11 ⟨⟨X1,rfl,h1⟩,hS2,hK2⟩
  have hK := hK.call hK.size hK2
  have z1 : X1.size ≤ 400000 := Nat.le_trans (sq_sz (by omega) h1) (by decide)
  have y2 : ¬ 9223372036854775807 < 18 + X0.size + 16 + X1.size := by omega
  have y3 : ¬ 9223372036854775807 < 18 + X0.size + 16 + X1.size + 4 := by omega
  have hS := hS2
  clear hS2 hK2
  go_wp2_with fail
  go_ret
  exact ⟨⟨_,rfl,s_14 h0 h1⟩,hS.up (by omega),hK⟩
 ·go_wp2_with fail
  refine (IQ _ _ _ _ _ _ hS (by omega)).mono ?_
  rintro e w10 ⟨⟨X0,rfl,h0⟩,hS2,hK2⟩
  have hK := hK.call hK.size hK2
  have z0 : X0.size ≤ 400000 := Nat.le_trans (sq_sz (by omega) h0) (by decide)
  have y0 : ¬ 9223372036854775807 < 27 + X0.size := by omega
  have y1 : ¬ 9223372036854775807 < 27 + X0.size + 18 := by omega
  have y2 : ¬ 9223372036854775807 < 27 + X0.size + 18 + 1 := by omega
  have y3 : ¬ 9223372036854775807 < 27 + X0.size + 19 := by omega
  have hS := hS2
  clear hS2 hK2
  go_wp2_with fail
  refine (IT1 _ _ _ _ _ _ hS (by omega)).mono ?_
  rintro e w11 ⟨⟨X1,rfl,h1⟩,hS2,hK2⟩
  have hK := hK.call hK.size hK2
  have z1 : X1.size ≤ 400000 := Nat.le_trans (tr_sz (by omega) h1) (by decide)
  have y4 : ¬ 9223372036854775807 < 27 + X0.size + 18 + 1 + X1.size := by omega
  have y5 : ¬ 9223372036854775807 < 27 + X0.size + 19 + X1.size := by omega
  have y6 : ¬ 9223372036854775807 < 27 + X0.size + 18 + 1 + X1.size + 1 := by omega
  have y7 : ¬ 9223372036854775807 < 27 + X0.size + 19 + X1.size + 1 := by omega
  have hS := hS2
  clear hS2 hK2
  go_wp2_with fail
  go_ret
  exact ⟨⟨_,rfl,s_15 h0 h1⟩,hS.up (by omega),hK⟩
 ·go_wp2_with fail
  refine (IT1 _ _ _ _ _ _ hS (by omega)).mono ?_
  rintro e w10 ⟨⟨X0,rfl,h0⟩,hS2,hK2⟩
  have hK := hK.call hK.size hK2
  have z0 : X0.size ≤ 400000 := Nat.le_trans (tr_sz (by omega) h0) (by decide)
  have y0 : ¬ 9223372036854775807 < 6 + X0.size := by omega
  have y1 : ¬ 9223372036854775807 < 6 + X0.size + 4 := by omega
  have hS := hS2
  clear hS2 hK2
  go_wp2_with fail
  refine (IQ _ _ _ _ _ _ hS (by omega)).mono ?_
  rintro e w11 ⟨⟨X1,rfl,h1⟩,hS2,hK2⟩
  have hK := hK.call hK.size hK2
  have z1 : X1.size ≤ 400000 := Nat.le_trans (sq_sz (by omega) h1) (by decide)
  have y2 : ¬ 9223372036854775807 < 6 + X0.size + 4 + X1.size := by omega
  have y3 : ¬ 9223372036854775807 < 6 + X0.size + 4 + X1.size + 4 := by omega
  have hS := hS2
  clear hS2 hK2
  go_wp2_with fail
  go_ret
  exact ⟨⟨_,rfl,s_16 h0 h1⟩,hS.up (by omega),hK⟩
 ·go_wp2_with fail
  refine (of_any (hS.alloc _) (by omega) [(⟨#[51]⟩ : ByteArray),⟨#[105]⟩,⟨#[51,57]⟩,⟨#[53,48]⟩] (by decide) (by decide) (Blk.new _ _ _) (by have := hS.lt; omega)).mono ?_
  rintro e w10 ⟨⟨X0,rfl,h0⟩,hS2,hK2⟩
  have hK := (hK.alloc hK.size _).call (hK.alloc hK.size _).size hK2
  have z0 : X0.size ≤ 400000 := Nat.le_trans (of_sz (by decide) h0) (by decide)
  have y0 : ¬ 9223372036854775807 < 5 + X0.size := by omega
  have y1 : ¬ 9223372036854775807 < 5 + X0.size + 1 := by omega
  have hS := hS2
  clear hS2 hK2
  go_wp2_with fail
  go_ret
  exact ⟨⟨_,rfl,s_17 h0⟩,hS.up (by omega),hK⟩
 ·go_wp2_with fail
  go_ret
  exact ⟨⟨_,rfl,s_18 ⟩,hS.up (by omega),hK⟩
set_option maxRecDepth 100000
set_option maxHeartbeats 2000000
open Go.RowKit Gn
theorem stmts_of_stmt {d : Nat} (hd : d ≤ 2) (IS : StmtC d) : StmtsC d := by
 intro w b so n sc m hS hm
 obtain ⟨e1,e2,e3,e4,e5,e6,e7,e8⟩ := fS d
 have hd4 : nS d ≤ 8000 := by rcases three hd with rfl | rfl | rfl <;> decide
 have hF := IS _ _ _ _ _ _ hS (by omega)
 go_enter Tryz.func27,Tryz.ntmps27
 go_wp2_with fail
 refine hF.mono ?_
 rintro e w1 ⟨⟨X,rfl,hX⟩,hS1,hK1⟩
 have hN := next_any hS1 (by omega) 3 (by decide) (by decide)
 clear hF
 go_wp2_with fail
 refine hN.mono ?_
 rintro e w2 ⟨⟨k,hk,rfl⟩,hS2,hK2⟩
 have hK := hK1.call hK1.size hK2
 clear hN hS hS1 hK1 hK2
 have HX := Lib.hid (q_one hX)
 have HS := Lib.hid hS2
 have HK := Lib.hid hK
 clear hX hS2 hK
 go_wp2_with fail
 go_loopw [5,6] (fun v i wr => ∃ (j : Nat) (Y : ByteArray),v = .string Y ∧ j ≤ k ∧ i = .int .i64 ((k - j : Nat) : Int) ∧ Hid (Gn.Cs 0 7 (nS d + (nS d + 2) * j) false false Y) ∧ Hid (Src wr b so n sc (m + cS d + 1 + cS d * j)) ∧ Hid (Kp w.heap.size b w wr)) (fun _ i _ => (intOf i).toNat)
 case atStart => exact ⟨0,X,rfl,Nat.zero_le _,rfl,HX,HS,HK⟩
 case round =>
  obtain ⟨j,Y,rfl,hj,rfl,HX1,HS1,HK1⟩ := hrel
  by_cases hlt : j < k
  ·have i1 : (0 : Int) < ((k - j : Nat) : Int) := by omega
   have hmul : cS d * j ≤ cS d * 1 := Nat.mul_le_mul_left _ (by omega)
   have hsz : Y.size ≤ 30000 := by
    have := HX1.out.size
    have : (nS d + 2) * j ≤ (nS d + 2) * 2 := Nat.mul_le_mul_left _ (by omega)
    omega
   have y1 : ¬ 9223372036854775807 < Y.size + 2 := by omega
   have hC := IS _ _ _ _ _ _ HS1.out (by omega)
   clear hmul
   go_wp2_with fail
   refine hC.mono ?_
   rintro e w3 ⟨⟨Z,rfl,hZ⟩,hS3,hK3⟩
   have hz := st_sz hd hZ
   have y2 : ¬ 9223372036854775807 < Y.size + 2 + Z.size := by omega
   clear hC
   go_wp2_with fail
   go_roundw
   case rel => exact ⟨j + 1,_,rfl,by omega,by go_num,Lib.hid (q_more HX1.out hZ),Lib.hid (hS3.up (by rw [Nat.mul_add]; omega)),Lib.hid (HK1.out.call HK1.out.size hK3)⟩
   case measure => simp [intOf]; omega
  ·have i1 : ¬ (0 : Int) < ((k - j : Nat) : Int) := by omega
   obtain rfl : j = k := by omega
   go_wp2_with fail
   go_ret
   have hmul : cS d * j ≤ cS d * 2 := Nat.mul_le_mul_left _ (by omega)
   refine ⟨⟨_,rfl,HX1.out.to (Nat.le_refl _) (Nat.le_refl _) ?_⟩,HS1.out.up (by omega),HK1.out⟩
   have : (nS d + 2) * j ≤ (nS d + 2) * 2 := Nat.mul_le_mul_left _ (by omega)
   omega
theorem stmt_any : ∀ d,d ≤ 2 → StmtC d
 | 0,_ => stmt0_any
 | d + 1,h => stmt_step h (stmts_of_stmt (by omega) (stmt_any d (by omega)))
theorem stmts_any (d : Nat) (hd : d ≤ 2) : StmtsC d := stmts_of_stmt hd (stmt_any d hd)
theorem conv_one (w : World) (n : Int) : (convert 72 9 (.slice (some ⟨w.heap.size,0,none⟩) 1 1)).run Tryz.prog (w.alloc (.cells #[.int .u8 n] 5)) = .ok (.string ⟨#[UInt8.ofNat n.toNat]⟩) (w.alloc (.cells #[.int .u8 n] 5)) := by
 rw [run_convert_bytes_string _ _ _ 5 _ _ _ (by kernel_rfl) (by kernel_rfl) (by kernel_rfl),run_bytesToString _ _ 1 1 [n]]
 ·rfl
 ·refine run_loadCells_list _ _ [Value.int .u8 n] fun j v h => ?_
  have := (Blk.new w 5 #[.int .u8 n]).cell j
  cases j with
  | zero =>
   injection h with h
   subst h
   exact this
  | succ j => simp at h
theorem dec_any (k : Nat) (hk : k < 5) (w : World) : Calls Tryz.prog 26 #[.int .i64 k] w fun e w' => e = .returned (.string ⟨#[UInt8.ofNat (48 + k)]⟩) ∧ Below w.heap.size w w' := by
 rcases (by omega : k = 0 ∨ k = 1 ∨ k = 2 ∨ k = 3 ∨ k = 4) with rfl | rfl | rfl | rfl | rfl
 ·go_enter Tryz.func26,Tryz.ntmps26
  go_wp2_with fail
  rw [conv_one w]
  simp only [Result.andThen]
  rw [Oper.upon_value]
  go_wp2_with fail
  go_ret
  exact ⟨rfl,(Below.refl _ _).alloc (Nat.le_refl _) _⟩
 ·go_enter Tryz.func26,Tryz.ntmps26
  go_wp2_with fail
  rw [conv_one w]
  simp only [Result.andThen]
  rw [Oper.upon_value]
  go_wp2_with fail
  go_ret
  exact ⟨rfl,(Below.refl _ _).alloc (Nat.le_refl _) _⟩
 ·go_enter Tryz.func26,Tryz.ntmps26
  go_wp2_with fail
  rw [conv_one w]
  simp only [Result.andThen]
  rw [Oper.upon_value]
  go_wp2_with fail
  go_ret
  exact ⟨rfl,(Below.refl _ _).alloc (Nat.le_refl _) _⟩
 ·go_enter Tryz.func26,Tryz.ntmps26
  go_wp2_with fail
  rw [conv_one w]
  simp only [Result.andThen]
  rw [Oper.upon_value]
  go_wp2_with fail
  go_ret
  exact ⟨rfl,(Below.refl _ _).alloc (Nat.le_refl _) _⟩
 ·go_enter Tryz.func26,Tryz.ntmps26
  go_wp2_with fail
  rw [conv_one w]
  simp only [Result.andThen]
  rw [Oper.upon_value]
  go_wp2_with fail
  go_ret
  exact ⟨rfl,(Below.refl _ _).alloc (Nat.le_refl _) _⟩
end Go.Proofs.YtneohanphabneaaGreatDoor
