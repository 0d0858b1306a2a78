/-
  Made texts: an expression of a whole number, of a list. Printed by tools/gen_g.py.
-/
import Derived.Test.YtneohanphabneaaGreatDoorMEq
import Derived.Test.YtneohanphabneaaGreatDoorG3
namespace Go.Proofs.YtneohanphabneaaGreatDoor
set_option maxRecDepth 100000
set_option maxHeartbeats 8000000
open Go.RowKit Gn
theorem list_any {w : World} {b n sc m : Nat} {so : Option Addr} (hS : Src w b so n sc m) (hm : m ≤ 800000) (x : Int) : Calls Tryz.prog 167 #[.pointer (some ⟨b,0,none⟩),.int .i64 x] w (Made (Gn.Xs 0 8 false false) b so n sc (m + 1) w) := by
 have hK := Kp.refl w.heap.size b w
 go_enter Tryz.func167,Tryz.ntmps167
 go_wp2_with fail
 refine (of_any (hS.alloc _) (by omega) [(⟨#[112]⟩ : ByteArray),⟨#[113]⟩,⟨#[78,73,76]⟩,⟨#[76,105,98,46,104,101,97,100]⟩,⟨#[109]⟩,⟨#[114,46,108]⟩,⟨#[113]⟩,⟨#[112]⟩] (by decide) (by decide) (Blk.new _ _ _) (by have := hS.lt; omega)).mono ?_
 rintro e w0 ⟨⟨X0,rfl,h0⟩,hS2,hK2⟩
 have hK := (hK.alloc hK.size _).call (hK.alloc hK.size _).size hK2
 have z0 : X0.size ≤ 400000 := Nat.le_trans (of_sz (by decide) h0) (by decide)
 have hS := hS2
 clear hS2 hK2
 go_wp2_with fail
 go_ret
 exact ⟨⟨_,rfl,l_base h0⟩,hS.up (by omega),hK⟩
def WholeC (d : Nat) : Prop := ∀ (w : World) (b : Nat) (so : Option Addr) (n sc m : Nat),Src w b so n sc m → m + cW d ≤ 800000 → Calls Tryz.prog 121 #[.pointer (some ⟨b,0,none⟩),.int .i64 d] w (Made (Wh d) b so n sc (m + cW d) w)
theorem whole0_any : WholeC 0 := by
 intro w b so n sc m hS hm
 have hK := Kp.refl w.heap.size b w
 have c0 : cW 0 = 1 := rfl
 go_enter Tryz.func121,Tryz.ntmps121
 go_wp2_with fail
 refine (of_any (hS.alloc _) (by omega) [(⟨#[105]⟩ : ByteArray),⟨#[106]⟩,⟨#[51]⟩,⟨#[55]⟩,⟨#[48]⟩,⟨#[76,105,98,46,99,111,117,110,116]⟩,⟨#[76,105,98,46,108,105,109,105,116]⟩,⟨#[97,91,49,93]⟩,⟨#[107]⟩,⟨#[50,49,52,55,52,56,51,54,52,55]⟩] (by decide) (by decide) (Blk.new _ _ _) (by have := hS.lt; omega)).mono ?_
 rintro e w0 ⟨⟨X0,rfl,h0⟩,hS2,hK2⟩
 have hK := (hK.alloc hK.size _).call (hK.alloc hK.size _).size hK2
 have z0 : X0.size ≤ 400000 := Nat.le_trans (of_sz (by decide) h0) (by decide)
 have hS := hS2
 clear hS2 hK2
 go_wp2_with fail
 go_ret
 exact ⟨⟨_,rfl,w_base h0⟩,hS.up (by omega),hK⟩
theorem whole_step {d : Nat} (hd : d + 1 ≤ 2) (IW : WholeC d) (IW0 : WholeC 0) : WholeC (d + 1) := by
 intro w b so n sc m hS hm
 obtain ⟨a1,a2,a3,a4,a5,a6,a7,a8⟩ := fW d
 have hN := next_any hS (by omega) 12 (by decide) (by decide)
 have c1 : ¬ (d : Int) + 1 ≤ 0 := by omega
 have c2 : (d : Int) + 1 - 1 = d := by omega
 go_enter Tryz.func121,Tryz.ntmps121
 go_wp2_with fail
 refine hN.mono ?_
 rintro e w9 ⟨⟨k,hk,rfl⟩,hS2,hK⟩
 clear hN hS
 have hS := hS2
 clear hS2
 rcases (by omega : k = 0 ∨ k = 1 ∨ k = 2 ∨ k = 3 ∨ k = 4 ∨ k = 5 ∨ k = 6 ∨ k = 7 ∨ k = 8 ∨ k = 9 ∨ k = 10 ∨ k = 11) with rfl | rfl | rfl | rfl | rfl | rfl | rfl | rfl | rfl | rfl | rfl | rfl
 ·go_wp2_with fail
  refine (IW _ _ _ _ _ _ hS (by omega)).mono ?_
  rintro e w10 ⟨⟨X0,rfl,h0⟩,hS2,hK2⟩
  have hK := hK.call hK.size hK2
  have z0 : X0.size ≤ 400000 := Nat.le_trans (wh_sz (by omega) h0) (by decide)
  have y0 : ¬ 9223372036854775807 < X0.size + 3 := by omega
  have hS := hS2
  clear hS2 hK2
  go_wp2_with fail
  refine (IW0 _ _ _ _ _ _ hS (by omega)).mono ?_
  rintro e w11 ⟨⟨X1,rfl,h1⟩,hS2,hK2⟩
  have hK := hK.call hK.size hK2
  have z1 : X1.size ≤ 400000 := Nat.le_trans (wh_sz (by omega) h1) (by decide)
  have y1 : ¬ 9223372036854775807 < X0.size + 3 + X1.size := by omega
  have hS := hS2
  clear hS2 hK2
  go_wp2_with fail
  go_ret
  exact ⟨⟨_,rfl,w_0 h0 h1⟩,hS.up (by omega),hK⟩
 ·go_wp2_with fail
  refine (IW _ _ _ _ _ _ hS (by omega)).mono ?_
  rintro e w10 ⟨⟨X0,rfl,h0⟩,hS2,hK2⟩
  have hK := hK.call hK.size hK2
  have z0 : X0.size ≤ 400000 := Nat.le_trans (wh_sz (by omega) h0) (by decide)
  have y0 : ¬ 9223372036854775807 < X0.size + 3 := by omega
  have hS := hS2
  clear hS2 hK2
  go_wp2_with fail
  refine (IW0 _ _ _ _ _ _ hS (by omega)).mono ?_
  rintro e w11 ⟨⟨X1,rfl,h1⟩,hS2,hK2⟩
  have hK := hK.call hK.size hK2
  have z1 : X1.size ≤ 400000 := Nat.le_trans (wh_sz (by omega) h1) (by decide)
  have y1 : ¬ 9223372036854775807 < X0.size + 3 + X1.size := by omega
  have hS := hS2
  clear hS2 hK2
  go_wp2_with fail
  go_ret
  exact ⟨⟨_,rfl,w_0 h0 h1⟩,hS.up (by omega),hK⟩
 ·go_wp2_with fail
  refine (IW _ _ _ _ _ _ hS (by omega)).mono ?_
  rintro e w10 ⟨⟨X0,rfl,h0⟩,hS2,hK2⟩
  have hK := hK.call hK.size hK2
  have z0 : X0.size ≤ 400000 := Nat.le_trans (wh_sz (by omega) h0) (by decide)
  have y0 : ¬ 9223372036854775807 < 1 + X0.size := by omega
  have y1 : ¬ 9223372036854775807 < 1 + X0.size + 3 := by omega
  have hS := hS2
  clear hS2 hK2
  go_wp2_with fail
  refine (IW _ _ _ _ _ _ hS (by omega)).mono ?_
  rintro e w11 ⟨⟨X1,rfl,h1⟩,hS2,hK2⟩
  have hK := hK.call hK.size hK2
  have z1 : X1.size ≤ 400000 := Nat.le_trans (wh_sz (by omega) h1) (by decide)
  have y2 : ¬ 9223372036854775807 < 1 + X0.size + 3 + X1.size := by omega
  have y3 : ¬ 9223372036854775807 < 1 + X0.size + 3 + X1.size + 1 := by omega
  have hS := hS2
  clear hS2 hK2
  go_wp2_with fail
  go_ret
  exact ⟨⟨_,rfl,w_2 h0 h1⟩,hS.up (by omega),hK⟩
 ·go_wp2_with fail
  refine (IW _ _ _ _ _ _ hS (by omega)).mono ?_
  rintro e w10 ⟨⟨X0,rfl,h0⟩,hS2,hK2⟩
  have hK := hK.call hK.size hK2
  have z0 : X0.size ≤ 400000 := Nat.le_trans (wh_sz (by omega) h0) (by decide)
  have y0 : ¬ 9223372036854775807 < 1 + X0.size := by omega
  have y1 : ¬ 9223372036854775807 < 1 + X0.size + 3 := by omega
  have hS := hS2
  clear hS2 hK2
  go_wp2_with fail
  refine (IW0 _ _ _ _ _ _ hS (by omega)).mono ?_
  rintro e w11 ⟨⟨X1,rfl,h1⟩,hS2,hK2⟩
  have hK := hK.call hK.size hK2
  have z1 : X1.size ≤ 400000 := Nat.le_trans (wh_sz (by omega) h1) (by decide)
  have y2 : ¬ 9223372036854775807 < 1 + X0.size + 3 + X1.size := by omega
  have y3 : ¬ 9223372036854775807 < 1 + X0.size + 3 + X1.size + 1 := by omega
  have hS := hS2
  clear hS2 hK2
  go_wp2_with fail
  go_ret
  exact ⟨⟨_,rfl,w_3 h0 h1⟩,hS.up (by omega),hK⟩
 ·go_wp2_with fail
  refine (IW _ _ _ _ _ _ hS (by omega)).mono ?_
  rintro e w10 ⟨⟨X0,rfl,h0⟩,hS2,hK2⟩
  have hK := hK.call hK.size hK2
  have z0 : X0.size ≤ 400000 := Nat.le_trans (wh_sz (by omega) h0) (by decide)
  have y0 : ¬ 9223372036854775807 < 1 + X0.size := by omega
  have y1 : ¬ 9223372036854775807 < 1 + X0.size + 6 := by omega
  have hS := hS2
  clear hS2 hK2
  go_wp2_with fail
  refine (of_any (hS.alloc _) (by omega) [(⟨#[50]⟩ : ByteArray),⟨#[51]⟩,⟨#[105]⟩,⟨#[48]⟩] (by decide) (by decide) (Blk.new _ _ _) (by have := hS.lt; omega)).mono ?_
  rintro e w11 ⟨⟨X1,rfl,h1⟩,hS2,hK2⟩
  have hK := (hK.alloc hK.size _).call (hK.alloc hK.size _).size hK2
  have z1 : X1.size ≤ 400000 := Nat.le_trans (of_sz (by decide) h1) (by decide)
  have y2 : ¬ 9223372036854775807 < 1 + X0.size + 6 + X1.size := by omega
  have hS := hS2
  clear hS2 hK2
  go_wp2_with fail
  go_ret
  exact ⟨⟨_,rfl,w_4 h0 h1⟩,hS.up (by omega),hK⟩
 ·go_wp2_with fail
  refine (IW _ _ _ _ _ _ hS (by omega)).mono ?_
  rintro e w10 ⟨⟨X0,rfl,h0⟩,hS2,hK2⟩
  have hK := hK.call hK.size hK2
  have z0 : X0.size ≤ 400000 := Nat.le_trans (wh_sz (by omega) h0) (by decide)
  have y0 : ¬ 9223372036854775807 < 1 + X0.size := by omega
  have y1 : ¬ 9223372036854775807 < 1 + X0.size + 6 := by omega
  have hS := hS2
  clear hS2 hK2
  go_wp2_with fail
  refine (of_any (hS.alloc _) (by omega) [(⟨#[52]⟩ : ByteArray),⟨#[51]⟩,⟨#[55]⟩,⟨#[106]⟩] (by decide) (by decide) (Blk.new _ _ _) (by have := hS.lt; omega)).mono ?_
  rintro e w11 ⟨⟨X1,rfl,h1⟩,hS2,hK2⟩
  have hK := (hK.alloc hK.size _).call (hK.alloc hK.size _).size hK2
  have z1 : X1.size ≤ 400000 := Nat.le_trans (of_sz (by decide) h1) (by decide)
  have y2 : ¬ 9223372036854775807 < 1 + X0.size + 6 + X1.size := by omega
  have hS := hS2
  clear hS2 hK2
  go_wp2_with fail
  go_ret
  exact ⟨⟨_,rfl,w_5 h0 h1⟩,hS.up (by omega),hK⟩
 ·go_wp2_with fail
  refine (list_any hS (by omega) _).mono ?_
  rintro e w10 ⟨⟨X0,rfl,h0⟩,hS2,hK2⟩
  have hK := hK.call hK.size hK2
  have z0 : X0.size ≤ 400000 := Nat.le_trans (h0.sz (by decide)) (by decide)
  have y0 : ¬ 9223372036854775807 < 8 + X0.size := by omega
  have y1 : ¬ 9223372036854775807 < 8 + X0.size + 1 := by omega
  have hS := hS2
  clear hS2 hK2
  go_wp2_with fail
  go_ret
  exact ⟨⟨_,rfl,w_6 h0⟩,hS.up (by omega),hK⟩
 ·go_wp2_with fail
  refine (of_any (hS.alloc _) (by omega) [(⟨#[51]⟩ : ByteArray),⟨#[53]⟩,⟨#[105,32,77,79,68,32,54]⟩,⟨#[55]⟩] (by decide) (by decide) (Blk.new _ _ _) (by have := hS.lt; omega)).mono ?_
  rintro e w10 ⟨⟨X0,rfl,h0⟩,hS2,hK2⟩
  have hK := (hK.alloc hK.size _).call (hK.alloc hK.size _).size hK2
  have z0 : X0.size ≤ 400000 := Nat.le_trans (of_sz (by decide) h0) (by decide)
  have y0 : ¬ 9223372036854775807 < 4 + X0.size := by omega
  have y1 : ¬ 9223372036854775807 < 4 + X0.size + 1 := by omega
  have hS := hS2
  clear hS2 hK2
  go_wp2_with fail
  go_ret
  exact ⟨⟨_,rfl,w_7 h0⟩,hS.up (by omega),hK⟩
 ·go_wp2_with fail
  refine (of_any (hS.alloc _) (by omega) [(⟨#[48]⟩ : ByteArray),⟨#[51]⟩,⟨#[105]⟩,⟨#[105,32,77,79,68,32,52]⟩,⟨#[52]⟩] (by decide) (by decide) (Blk.new _ _ _) (by have := hS.lt; omega)).mono ?_
  rintro e w10 ⟨⟨X0,rfl,h0⟩,hS2,hK2⟩
  have hK := (hK.alloc hK.size _).call (hK.alloc hK.size _).size hK2
  have z0 : X0.size ≤ 400000 := Nat.le_trans (of_sz (by decide) h0) (by decide)
  have y0 : ¬ 9223372036854775807 < 2 + X0.size := by omega
  have y1 : ¬ 9223372036854775807 < 2 + X0.size + 1 := by omega
  have hS := hS2
  clear hS2 hK2
  go_wp2_with fail
  go_ret
  exact ⟨⟨_,rfl,w_8 h0⟩,hS.up (by omega),hK⟩
 ·go_wp2_with fail
  refine (of_any (hS.alloc _) (by omega) [(⟨#[112,46,118,97,108]⟩ : ByteArray),⟨#[113,46,110,101,120,116,46,118,97,108]⟩,⟨#[109,46,109,111,114,101]⟩,⟨#[113,123,76,105,98,46,66,105,103,76,105,115,116,125,46,109,111,114,101]⟩,⟨#[114,46,97,91,50,93]⟩,⟨#[114,46,108,46,118,97,108]⟩] (by decide) (by decide) (Blk.new _ _ _) (by have := hS.lt; omega)).mono ?_
  rintro e w10 ⟨⟨X0,rfl,h0⟩,hS2,hK2⟩
  have hK := (hK.alloc hK.size _).call (hK.alloc hK.size _).size hK2
  have z0 : X0.size ≤ 400000 := Nat.le_trans (of_sz (by decide) h0) (by decide)
  have hS := hS2
  clear hS2 hK2
  go_wp2_with fail
  go_ret
  exact ⟨⟨_,rfl,w_9 h0⟩,hS.up (by omega),hK⟩
 ·go_wp2_with fail
  refine (IW0 _ _ _ _ _ _ hS (by omega)).mono ?_
  rintro e w10 ⟨⟨X0,rfl,h0⟩,hS2,hK2⟩
  have hK := hK.call hK.size hK2
  have z0 : X0.size ≤ 400000 := Nat.le_trans (wh_sz (by omega) h0) (by decide)
  have y0 : ¬ 9223372036854775807 < 2 + X0.size := by omega
  have y1 : ¬ 9223372036854775807 < 2 + X0.size + 1 := by omega
  have hS := hS2
  clear hS2 hK2
  go_wp2_with fail
  go_ret
  exact ⟨⟨_,rfl,w_10 h0⟩,hS.up (by omega),hK⟩
 ·go_wp2_with fail
  refine (IW0 _ _ _ _ _ _ hS (by omega)).mono ?_
  rintro e w10 ⟨⟨X0,rfl,h0⟩,hS2,hK2⟩
  have hK := hK.call hK.size hK2
  have z0 : X0.size ≤ 400000 := Nat.le_trans (wh_sz (by omega) h0) (by decide)
  have hS := hS2
  clear hS2 hK2
  go_wp2_with fail
  go_ret
  exact ⟨⟨_,rfl,w_11 h0⟩,hS.up (by omega),hK⟩
theorem whole_any : ∀ d,d ≤ 2 → WholeC d
 | 0,_ => whole0_any
 | d + 1,h => whole_step h (whole_any d (by omega)) whole0_any
set_option maxRecDepth 100000
set_option maxHeartbeats 8000000
open Go.RowKit Gn
def TruthC (d : Nat) : Prop := ∀ (w : World) (b : Nat) (so : Option Addr) (n sc m : Nat),Src w b so n sc m → m + cT d ≤ 800000 → Calls Tryz.prog 122 #[.pointer (some ⟨b,0,none⟩),.int .i64 d] w (Made (Tr d) b so n sc (m + cT d) w)
theorem truth0_any : TruthC 0 := by
 intro w b so n sc m hS hm
 have hK := Kp.refl w.heap.size b w
 have c0 : cT 0 = 1 := rfl
 go_enter Tryz.func122,Tryz.ntmps122
 go_wp2_with fail
 refine (of_any (hS.alloc _) (by omega) [(⟨#[98]⟩ : ByteArray),⟨#[84,82,85,69]⟩,⟨#[126,98]⟩,⟨#[105,32,61,32,106]⟩,⟨#[112,32,35,32,78,73,76]⟩,⟨#[70,65,76,83,69]⟩] (by decide) (by decide) (Blk.new _ _ _) (by have := hS.lt; omega)).mono ?_
 rintro e w0 ⟨⟨X0,rfl,h0⟩,hS2,hK2⟩
 have hK := (hK.alloc hK.size _).call (hK.alloc hK.size _).size hK2
 have z0 : X0.size ≤ 400000 := Nat.le_trans (of_sz (by decide) h0) (by decide)
 have hS := hS2
 clear hS2 hK2
 go_wp2_with fail
 go_ret
 exact ⟨⟨_,rfl,t_base h0⟩,hS.up (by omega),hK⟩
theorem truth_step {d : Nat} (hd : d + 1 ≤ 2) (IT : TruthC d) (IT0 : TruthC 0) : TruthC (d + 1) := by
 intro w b so n sc m hS hm
 obtain ⟨a1,a2,a3,a4,a5,a6,a7,a8⟩ := fW d
 obtain ⟨b1,b2,b3,b4,b5,b6,b7,b8,b9⟩ := fT d
 have IW := whole_any d (by omega)
 have IW0 := whole0_any
 have hN := next_any hS (by omega) 8 (by decide) (by decide)
 have c1 : ¬ (d : Int) + 1 ≤ 0 := by omega
 have c2 : (d : Int) + 1 - 1 = d := by omega
 go_enter Tryz.func122,Tryz.ntmps122
 go_wp2_with fail
 refine hN.mono ?_
 rintro e w9 ⟨⟨k,hk,rfl⟩,hS2,hK⟩
 clear hN hS
 have hS := hS2
 clear hS2
 rcases (by omega : k = 0 ∨ k = 1 ∨ k = 2 ∨ k = 3 ∨ k = 4 ∨ k = 5 ∨ k = 6 ∨ k = 7) with rfl | rfl | rfl | rfl | rfl | rfl | rfl | rfl
 ·go_wp2_with fail
  refine (IT _ _ _ _ _ _ hS (by omega)).mono ?_
  rintro e w10 ⟨⟨X0,rfl,h0⟩,hS2,hK2⟩
  have hK := hK.call hK.size hK2
  have z0 : X0.size ≤ 400000 := Nat.le_trans (tr_sz (by omega) h0) (by decide)
  have y0 : ¬ 9223372036854775807 < 1 + X0.size := by omega
  have y1 : ¬ 9223372036854775807 < 1 + X0.size + 5 := by omega
  have hS := hS2
  clear hS2 hK2
  go_wp2_with fail
  refine (IT _ _ _ _ _ _ hS (by omega)).mono ?_
  rintro e w11 ⟨⟨X1,rfl,h1⟩,hS2,hK2⟩
  have hK := hK.call hK.size hK2
  have z1 : X1.size ≤ 400000 := Nat.le_trans (tr_sz (by omega) h1) (by decide)
  have y2 : ¬ 9223372036854775807 < 1 + X0.size + 5 + X1.size := by omega
  have y3 : ¬ 9223372036854775807 < 1 + X0.size + 5 + X1.size + 1 := by omega
  have hS := hS2
  clear hS2 hK2
  go_wp2_with fail
  go_ret
  exact ⟨⟨_,rfl,t_0 h0 h1⟩,hS.up (by omega),hK⟩
 ·go_wp2_with fail
  refine (IT _ _ _ _ _ _ hS (by omega)).mono ?_
  rintro e w10 ⟨⟨X0,rfl,h0⟩,hS2,hK2⟩
  have hK := hK.call hK.size hK2
  have z0 : X0.size ≤ 400000 := Nat.le_trans (tr_sz (by omega) h0) (by decide)
  have y0 : ¬ 9223372036854775807 < 1 + X0.size := by omega
  have y1 : ¬ 9223372036854775807 < 1 + X0.size + 5 := by omega
  have y2 : ¬ 9223372036854775807 < 1 + X0.size + 5 + 1 := by omega
  have y3 : ¬ 9223372036854775807 < 1 + X0.size + 6 := by omega
  have hS := hS2
  clear hS2 hK2
  go_wp2_with fail
  refine (IT _ _ _ _ _ _ hS (by omega)).mono ?_
  rintro e w11 ⟨⟨X1,rfl,h1⟩,hS2,hK2⟩
  have hK := hK.call hK.size hK2
  have z1 : X1.size ≤ 400000 := Nat.le_trans (tr_sz (by omega) h1) (by decide)
  have y4 : ¬ 9223372036854775807 < 1 + X0.size + 5 + 1 + X1.size := by omega
  have y5 : ¬ 9223372036854775807 < 1 + X0.size + 6 + X1.size := by omega
  have y6 : ¬ 9223372036854775807 < 1 + X0.size + 5 + 1 + X1.size + 1 := by omega
  have y7 : ¬ 9223372036854775807 < 1 + X0.size + 6 + X1.size + 1 := by omega
  have hS := hS2
  clear hS2 hK2
  go_wp2_with fail
  go_ret
  exact ⟨⟨_,rfl,t_1 h0 h1⟩,hS.up (by omega),hK⟩
 ·go_wp2_with fail
  refine (IW _ _ _ _ _ _ hS (by omega)).mono ?_
  rintro e w10 ⟨⟨X0,rfl,h0⟩,hS2,hK2⟩
  have hK := hK.call hK.size hK2
  have z0 : X0.size ≤ 400000 := Nat.le_trans (wh_sz (by omega) h0) (by decide)
  have hS := hS2
  clear hS2 hK2
  go_wp2_with fail
  refine (of_any (hS.alloc _) (by omega) [(⟨#[32,60,32]⟩ : ByteArray),⟨#[32,60,61,32]⟩,⟨#[32,62,32]⟩,⟨#[32,62,61,32]⟩,⟨#[32,61,32]⟩,⟨#[32,35,32]⟩] (by decide) (by decide) (Blk.new _ _ _) (by have := hS.lt; omega)).mono ?_
  rintro e w11 ⟨⟨X1,rfl,h1⟩,hS2,hK2⟩
  have hK := (hK.alloc hK.size _).call (hK.alloc hK.size _).size hK2
  have z1 : X1.size ≤ 400000 := Nat.le_trans (of_sz (by decide) h1) (by decide)
  have y0 : ¬ 9223372036854775807 < X0.size + X1.size := by omega
  have hS := hS2
  clear hS2 hK2
  go_wp2_with fail
  refine (IW0 _ _ _ _ _ _ hS (by omega)).mono ?_
  rintro e w12 ⟨⟨X2,rfl,h2⟩,hS2,hK2⟩
  have hK := hK.call hK.size hK2
  have z2 : X2.size ≤ 400000 := Nat.le_trans (wh_sz (by omega) h2) (by decide)
  have y1 : ¬ 9223372036854775807 < X0.size + X1.size + X2.size := by omega
  have hS := hS2
  clear hS2 hK2
  go_wp2_with fail
  go_ret
  exact ⟨⟨_,rfl,t_2 h0 h1 h2⟩,hS.up (by omega),hK⟩
 ·go_wp2_with fail
  refine (IW _ _ _ _ _ _ hS (by omega)).mono ?_
  rintro e w10 ⟨⟨X0,rfl,h0⟩,hS2,hK2⟩
  have hK := hK.call hK.size hK2
  have z0 : X0.size ≤ 400000 := Nat.le_trans (wh_sz (by omega) h0) (by decide)
  have hS := hS2
  clear hS2 hK2
  go_wp2_with fail
  refine (of_any (hS.alloc _) (by omega) [(⟨#[32,60,32]⟩ : ByteArray),⟨#[32,60,61,32]⟩,⟨#[32,62,32]⟩,⟨#[32,62,61,32]⟩,⟨#[32,61,32]⟩,⟨#[32,35,32]⟩] (by decide) (by decide) (Blk.new _ _ _) (by have := hS.lt; omega)).mono ?_
  rintro e w11 ⟨⟨X1,rfl,h1⟩,hS2,hK2⟩
  have hK := (hK.alloc hK.size _).call (hK.alloc hK.size _).size hK2
  have z1 : X1.size ≤ 400000 := Nat.le_trans (of_sz (by decide) h1) (by decide)
  have y0 : ¬ 9223372036854775807 < X0.size + X1.size := by omega
  have hS := hS2
  clear hS2 hK2
  go_wp2_with fail
  refine (IW0 _ _ _ _ _ _ hS (by omega)).mono ?_
  rintro e w12 ⟨⟨X2,rfl,h2⟩,hS2,hK2⟩
  have hK := hK.call hK.size hK2
  have z2 : X2.size ≤ 400000 := Nat.le_trans (wh_sz (by omega) h2) (by decide)
  have y1 : ¬ 9223372036854775807 < X0.size + X1.size + X2.size := by omega
  have hS := hS2
  clear hS2 hK2
  go_wp2_with fail
  go_ret
  exact ⟨⟨_,rfl,t_2 h0 h1 h2⟩,hS.up (by omega),hK⟩
 ·go_wp2_with fail
  go_ret
  exact ⟨⟨_,rfl,t_4 ⟩,hS.up (by omega),hK⟩
 ·go_wp2_with fail
  go_ret
  exact ⟨⟨_,rfl,t_5 ⟩,hS.up (by omega),hK⟩
 ·go_wp2_with fail
  refine (list_any hS (by omega) _).mono ?_
  rintro e w10 ⟨⟨X0,rfl,h0⟩,hS2,hK2⟩
  have hK := hK.call hK.size hK2
  have z0 : X0.size ≤ 400000 := Nat.le_trans (h0.sz (by decide)) (by decide)
  have y0 : ¬ 9223372036854775807 < X0.size + 4 := by omega
  have hS := hS2
  clear hS2 hK2
  go_wp2_with fail
  go_ret
  exact ⟨⟨_,rfl,t_6 h0⟩,hS.up (by omega),hK⟩
 ·go_wp2_with fail
  refine (IT0 _ _ _ _ _ _ hS (by omega)).mono ?_
  rintro e w10 ⟨⟨X0,rfl,h0⟩,hS2,hK2⟩
  have hK := hK.call hK.size hK2
  have z0 : X0.size ≤ 400000 := Nat.le_trans (tr_sz (by omega) h0) (by decide)
  have hS := hS2
  clear hS2 hK2
  go_wp2_with fail
  go_ret
  exact ⟨⟨_,rfl,t_7 h0⟩,hS.up (by omega),hK⟩
theorem truth_any : ∀ d,d ≤ 2 → TruthC d
 | 0,_ => truth0_any
 | d + 1,h => truth_step h (truth_any d (by omega)) truth0_any
set_option maxRecDepth 100000
set_option maxHeartbeats 16000000
open Go.RowKit Gn
theorem if_sz {X2 X3 X4 X5 : ByteArray} (z2 : X2.size ≤ 100000) (z3 : X3.size ≤ 100000) (z4 : X4.size ≤ 100000) (h5 : X5 ∈ ([(⟨#[]⟩ : ByteArray),(⟨#[32,69,76,83,69,32]⟩ : ByteArray) ++ X2,(⟨#[32,69,76,83,73,70,32]⟩ : ByteArray) ++ X3 ++ (⟨#[32,84,72,69,78,32]⟩ : ByteArray) ++ X4] : List ByteArray)) : X5.size ≤ 400000 := by
 simp only [List.mem_cons,List.not_mem_nil,or_false] at h5
 have q1 : (⟨#[]⟩ : ByteArray).size = 0 := rfl
 have q2 : (⟨#[32,69,76,83,69,32]⟩ : ByteArray).size = 6 := rfl
 have q3 : (⟨#[32,69,76,83,73,70,32]⟩ : ByteArray).size = 7 := rfl
 have q4 : (⟨#[32,84,72,69,78,32]⟩ : ByteArray).size = 6 := rfl
 rcases h5 with rfl | rfl | rfl
 ·rw [q1]; omega
 ·rw [ByteArray.size_append,q2]; omega
 ·rw [ByteArray.size_append,ByteArray.size_append,ByteArray.size_append,q3,q4]; omega
def StmtC (d : Nat) : Prop := ∀ (w : World) (b : Nat) (so : Option Addr) (n sc m : Nat),Src w b so n sc m → m + cS d ≤ 800000 → Calls Tryz.prog 68 #[.pointer (some ⟨b,0,none⟩),.int .i64 d] w (Made (Gn.St d) b so n sc (m + cS d) w)
def StmtsC (d : Nat) : Prop := ∀ (w : World) (b : Nat) (so : Option Addr) (n sc m : Nat),Src w b so n sc m → m + cQ d ≤ 800000 → Calls Tryz.prog 27 #[.pointer (some ⟨b,0,none⟩),.int .i64 d] w (Made (Gn.Sq d) b so n sc (m + cQ d) w)
theorem stmt0_any : StmtC 0 := by
 intro w b so n sc m hS hm
 obtain ⟨e1,e2,e3,e4,e5,e6,e7,e8⟩ := fS 0
 have IW2 := whole_any 2 (by decide)
 have IW1 := whole_any 1 (by decide)
 have IT2 := truth_any 2 (by decide)
 have IT1 := truth_any 1 (by decide)
 have v1 : cW 1 = 4 := rfl
 have v2 : cW 2 = 10 := rfl
 have v3 : cT 1 = 7 := rfl
 have v4 : cT 2 = 22 := rfl
 have hN := next_any hS (by omega) 19 (by decide) (by decide)
 go_enter Tryz.func68,Tryz.ntmps68
 go_wp2_with fail
 refine hN.mono ?_
 rintro e w9 ⟨⟨k,hk,rfl⟩,hS2,hK⟩
 clear hN hS
 have hS := hS2
 clear hS2
 rcases (by omega : k = 0 ∨ k = 1 ∨ k = 2 ∨ k = 3 ∨ k = 4 ∨ k = 5 ∨ k = 6 ∨ k = 7 ∨ k = 8 ∨ k = 9 ∨ k = 10 ∨ k = 11 ∨ k = 12 ∨ k = 13 ∨ k = 14 ∨ k = 15 ∨ k = 16 ∨ k = 17 ∨ k = 18) with rfl | rfl | rfl | rfl | rfl | rfl | rfl | rfl | rfl | rfl | rfl | rfl | rfl | rfl | rfl | rfl | rfl | rfl | rfl
 ·go_wp2_with fail
  refine (of_any (hS.alloc _) (by omega) [(⟨#[105]⟩ : ByteArray),⟨#[106]⟩,⟨#[97,91,105,32,77,79,68,32,52,93]⟩,⟨#[76,105,98,46,99,111,117,110,116]⟩,⟨#[114,46,97,91,49,93]⟩,⟨#[107]⟩,⟨#[112,46,118,97,108]⟩] (by decide) (by decide) (Blk.new _ _ _) (by have := hS.lt; omega)).mono ?_
  rintro e w10 ⟨⟨X0,rfl,h0⟩,hS2,hK2⟩
  have hK := (hK.alloc hK.size _).call (hK.alloc hK.size _).size hK2
  have z0 : X0.size ≤ 400000 := Nat.le_trans (of_sz (by decide) h0) (by decide)
  have y0 : ¬ 9223372036854775807 < X0.size + 4 := by omega
  have hS := hS2
  clear hS2 hK2
  go_wp2_with fail
  refine (IW2 _ _ _ _ _ _ hS (by omega)).mono ?_
  rintro e w11 ⟨⟨X1,rfl,h1⟩,hS2,hK2⟩
  have hK := hK.call hK.size hK2
  have z1 : X1.size ≤ 400000 := Nat.le_trans (wh_sz (by omega) h1) (by decide)
  have y1 : ¬ 9223372036854775807 < X0.size + 4 + X1.size := by omega
  have hS := hS2
  clear hS2 hK2
  go_wp2_with fail
  go_ret
  exact ⟨⟨_,rfl,s_0 h0 h1⟩,hS.up (by omega),hK⟩
 ·go_wp2_with fail
  refine (of_any (hS.alloc _) (by omega) [(⟨#[105]⟩ : ByteArray),⟨#[106]⟩,⟨#[97,91,105,32,77,79,68,32,52,93]⟩,⟨#[76,105,98,46,99,111,117,110,116]⟩,⟨#[114,46,97,91,49,93]⟩,⟨#[107]⟩,⟨#[112,46,118,97,108]⟩] (by decide) (by decide) (Blk.new _ _ _) (by have := hS.lt; omega)).mono ?_
  rintro e w10 ⟨⟨X0,rfl,h0⟩,hS2,hK2⟩
  have hK := (hK.alloc hK.size _).call (hK.alloc hK.size _).size hK2
  have z0 : X0.size ≤ 400000 := Nat.le_trans (of_sz (by decide) h0) (by decide)
  have y0 : ¬ 9223372036854775807 < X0.size + 4 := by omega
  have hS := hS2
  clear hS2 hK2
  go_wp2_with fail
  refine (IW2 _ _ _ _ _ _ hS (by omega)).mono ?_
  rintro e w11 ⟨⟨X1,rfl,h1⟩,hS2,hK2⟩
  have hK := hK.call hK.size hK2
  have z1 : X1.size ≤ 400000 := Nat.le_trans (wh_sz (by omega) h1) (by decide)
  have y1 : ¬ 9223372036854775807 < X0.size + 4 + X1.size := by omega
  have hS := hS2
  clear hS2 hK2
  go_wp2_with fail
  go_ret
  exact ⟨⟨_,rfl,s_0 h0 h1⟩,hS.up (by omega),hK⟩
 ·go_wp2_with fail
  refine (IT2 _ _ _ _ _ _ hS (by omega)).mono ?_
  rintro e w10 ⟨⟨X0,rfl,h0⟩,hS2,hK2⟩
  have hK := hK.call hK.size hK2
  have z0 : X0.size ≤ 400000 := Nat.le_trans (tr_sz (by omega) h0) (by decide)
  have y0 : ¬ 9223372036854775807 < 5 + X0.size := by omega
  have hS := hS2
  clear hS2 hK2
  go_wp2_with fail
  go_ret
  exact ⟨⟨_,rfl,s_2 h0⟩,hS.up (by omega),hK⟩
 ·go_wp2_with fail
  refine (IW2 _ _ _ _ _ _ hS (by omega)).mono ?_
  rintro e w10 ⟨⟨X0,rfl,h0⟩,hS2,hK2⟩
  have hK := hK.call hK.size hK2
  have z0 : X0.size ≤ 400000 := Nat.le_trans (wh_sz (by omega) h0) (by decide)
  have y0 : ¬ 9223372036854775807 < 4 + X0.size := by omega
  have y1 : ¬ 9223372036854775807 < 4 + X0.size + 1 := by omega
  have hS := hS2
  clear hS2 hK2
  go_wp2_with fail
  go_ret
  exact ⟨⟨_,rfl,s_3 h0⟩,hS.up (by omega),hK⟩
 ·go_wp2_with fail
  refine (of_any (hS.alloc _) (by omega) [(⟨#[112]⟩ : ByteArray),⟨#[113]⟩,⟨#[76,105,98,46,104,101,97,100]⟩,⟨#[114,46,108]⟩] (by decide) (by decide) (Blk.new _ _ _) (by have := hS.lt; omega)).mono ?_
  rintro e w10 ⟨⟨X0,rfl,h0⟩,hS2,hK2⟩
  have hK := (hK.alloc hK.size _).call (hK.alloc hK.size _).size hK2
  have z0 : X0.size ≤ 400000 := Nat.le_trans (of_sz (by decide) h0) (by decide)
  have y0 : ¬ 9223372036854775807 < 9 + X0.size := by omega
  have y1 : ¬ 9223372036854775807 < 9 + X0.size + 2 := by omega
  have hS := hS2
  clear hS2 hK2
  go_wp2_with fail
  refine (IW1 _ _ _ _ _ _ hS (by omega)).mono ?_
  rintro e w11 ⟨⟨X1,rfl,h1⟩,hS2,hK2⟩
  have hK := hK.call hK.size hK2
  have z1 : X1.size ≤ 400000 := Nat.le_trans (wh_sz (by omega) h1) (by decide)
  have y2 : ¬ 9223372036854775807 < 9 + X0.size + 2 + X1.size := by omega
  have y3 : ¬ 9223372036854775807 < 9 + X0.size + 2 + X1.size + 1 := by omega
  have hS := hS2
  clear hS2 hK2
  go_wp2_with fail
  go_ret
  exact ⟨⟨_,rfl,s_4 h0 h1⟩,hS.up (by omega),hK⟩
 ·go_wp2_with fail
  refine (of_any (hS.alloc _) (by omega) [(⟨#[112,32,58,61,32,113]⟩ : ByteArray),⟨#[113,32,58,61,32,112]⟩,⟨#[113,32,58,61,32,109]⟩,⟨#[112,32,58,61,32,78,73,76]⟩,⟨#[76,105,98,46,104,101,97,100,32,58,61,32,112]⟩,⟨#[113,32,58,61,32,76,105,98,46,104,101,97,100]⟩,⟨#[112,32,58,61,32,112,46,110,101,120,116]⟩,⟨#[109,32,58,61,32,113,123,76,105,98,46,66,105,103,76,105,115,116,125]⟩,⟨#[114,46,108,32,58,61,32,113]⟩] (by decide) (by decide) (Blk.new _ _ _) (by have := hS.lt; omega)).mono ?_
  rintro e w10 ⟨⟨X0,rfl,h0⟩,hS2,hK2⟩
  have hK := (hK.alloc hK.size _).call (hK.alloc hK.size _).size hK2
  have z0 : X0.size ≤ 400000 := Nat.le_trans (of_sz (by decide) h0) (by decide)
  have hS := hS2
  clear hS2 hK2
  go_wp2_with fail
  go_ret
  exact ⟨⟨_,rfl,s_5 h0⟩,hS.up (by omega),hK⟩
 ·go_wp2_with fail
  refine (of_any (hS.alloc _) (by omega) [(⟨#[78,69,87,40,112,41]⟩ : ByteArray),⟨#[78,69,87,40,113,41]⟩,⟨#[78,69,87,40,109,41]⟩,⟨#[78,69,87,40,114,46,108,41]⟩,⟨#[78,69,87,40,112,46,110,101,120,116,41]⟩,⟨#[78,69,87,40,110,41]⟩] (by decide) (by decide) (Blk.new _ _ _) (by have := hS.lt; omega)).mono ?_
  rintro e w10 ⟨⟨X0,rfl,h0⟩,hS2,hK2⟩
  have hK := (hK.alloc hK.size _).call (hK.alloc hK.size _).size hK2
  have z0 : X0.size ≤ 400000 := Nat.le_trans (of_sz (by decide) h0) (by decide)
  have hS := hS2
  clear hS2 hK2
  go_wp2_with fail
  go_ret
  exact ⟨⟨_,rfl,s_6 h0⟩,hS.up (by omega),hK⟩
 ·go_wp2_with fail
  refine (of_any (hS.alloc _) (by omega) [(⟨#[71,69,84,40,105,41]⟩ : ByteArray),⟨#[71,69,84,40,106,41]⟩,⟨#[71,69,84,40,97,91,50,93,41]⟩,⟨#[71,69,84,40,107,41]⟩] (by decide) (by decide) (Blk.new _ _ _) (by have := hS.lt; omega)).mono ?_
  rintro e w10 ⟨⟨X0,rfl,h0⟩,hS2,hK2⟩
  have hK := (hK.alloc hK.size _).call (hK.alloc hK.size _).size hK2
  have z0 : X0.size ≤ 400000 := Nat.le_trans (of_sz (by decide) h0) (by decide)
  have hS := hS2
  clear hS2 hK2
  go_wp2_with fail
  go_ret
  exact ⟨⟨_,rfl,s_7 h0⟩,hS.up (by omega),hK⟩
 ·go_wp2_with fail
  refine (of_any (hS.alloc _) (by omega) [(⟨#[105,44,32,106]⟩ : ByteArray),⟨#[97,91,48,93,44,32,97,91,49,93]⟩,⟨#[112,46,118,97,108,44,32,105]⟩,⟨#[105,44,32,105]⟩,⟨#[76,105,98,46,99,111,117,110,116,44,32,106]⟩] (by decide) (by decide) (Blk.new _ _ _) (by have := hS.lt; omega)).mono ?_
  rintro e w10 ⟨⟨X0,rfl,h0⟩,hS2,hK2⟩
  have hK := (hK.alloc hK.size _).call (hK.alloc hK.size _).size hK2
  have z0 : X0.size ≤ 400000 := Nat.le_trans (of_sz (by decide) h0) (by decide)
  have y0 : ¬ 9223372036854775807 < 5 + X0.size := by omega
  have y1 : ¬ 9223372036854775807 < 5 + X0.size + 1 := by omega
  have hS := hS2
  clear hS2 hK2
  go_wp2_with fail
  go_ret
  exact ⟨⟨_,rfl,s_8 h0⟩,hS.up (by omega),hK⟩
 ·go_wp2_with fail
  refine (of_any (hS.alloc _) (by omega) [(⟨#[115,32,58,61,32,114]⟩ : ByteArray),⟨#[114,32,58,61,32,115]⟩,⟨#[114,46,97,32,58,61,32,97]⟩,⟨#[97,32,58,61,32,115,46,97]⟩,⟨#[112,94,32,58,61,32,113,94]⟩,⟨#[76,105,98,46,80,117,116,40,97,44,32,105,32,77,79,68,32,52,44,32,106,41]⟩,⟨#[76,105,98,46,80,117,116,40,114,46,97,44,32,105,44,32,51,41]⟩] (by decide) (by decide) (Blk.new _ _ _) (by have := hS.lt; omega)).mono ?_
  rintro e w10 ⟨⟨X0,rfl,h0⟩,hS2,hK2⟩
  have hK := (hK.alloc hK.size _).call (hK.alloc hK.size _).size hK2
  have z0 : X0.size ≤ 400000 := Nat.le_trans (of_sz (by decide) h0) (by decide)
  have hS := hS2
  clear hS2 hK2
  go_wp2_with fail
  go_ret
  exact ⟨⟨_,rfl,s_9 h0⟩,hS.up (by omega),hK⟩
 ·go_wp2_with fail
  go_ret
  exact ⟨⟨_,rfl,s_10 ⟩,hS.up (by omega),hK⟩
 ·go_wp2_with fail
  refine (of_any (hS.alloc _) (by omega) [(⟨#[84,82,85,69]⟩ : ByteArray),⟨#[105,32,61,32,105]⟩,⟨#[112,32,61,32,112]⟩,⟨#[98,32,79,82,32,126,98]⟩,⟨#[105,32,60,32,49,48,48,48]⟩] (by decide) (by decide) (Blk.new _ _ _) (by have := hS.lt; omega)).mono ?_
  rintro e w10 ⟨⟨X0,rfl,h0⟩,hS2,hK2⟩
  have hK := (hK.alloc hK.size _).call (hK.alloc hK.size _).size hK2
  have z0 : X0.size ≤ 400000 := Nat.le_trans (of_sz (by decide) h0) (by decide)
  have y0 : ¬ 9223372036854775807 < 7 + X0.size := by omega
  have y1 : ¬ 9223372036854775807 < 7 + X0.size + 1 := by omega
  have hS := hS2
  clear hS2 hK2
  go_wp2_with fail
  go_ret
  exact ⟨⟨_,rfl,s_11 h0⟩,hS.up (by omega),hK⟩
 ·go_wp2_with fail
  refine (of_any (hS.alloc _) (by omega) [(⟨#[105]⟩ : ByteArray),⟨#[106]⟩,⟨#[97,91,105,32,77,79,68,32,52,93]⟩,⟨#[76,105,98,46,99,111,117,110,116]⟩,⟨#[114,46,97,91,49,93]⟩,⟨#[107]⟩,⟨#[112,46,118,97,108]⟩] (by decide) (by decide) (Blk.new _ _ _) (by have := hS.lt; omega)).mono ?_
  rintro e w10 ⟨⟨X0,rfl,h0⟩,hS2,hK2⟩
  have hK := (hK.alloc hK.size _).call (hK.alloc hK.size _).size hK2
  have z0 : X0.size ≤ 400000 := Nat.le_trans (of_sz (by decide) h0) (by decide)
  have y0 : ¬ 9223372036854775807 < X0.size + 4 := by omega
  have hS := hS2
  clear hS2 hK2
  go_wp2_with fail
  refine (IW2 _ _ _ _ _ _ hS (by omega)).mono ?_
  rintro e w11 ⟨⟨X1,rfl,h1⟩,hS2,hK2⟩
  have hK := hK.call hK.size hK2
  have z1 : X1.size ≤ 400000 := Nat.le_trans (wh_sz (by omega) h1) (by decide)
  have y1 : ¬ 9223372036854775807 < X0.size + 4 + X1.size := by omega
  have hS := hS2
  clear hS2 hK2
  go_wp2_with fail
  go_ret
  exact ⟨⟨_,rfl,s_0 h0 h1⟩,hS.up (by omega),hK⟩
 ·go_wp2_with fail
  refine (of_any (hS.alloc _) (by omega) [(⟨#[105]⟩ : ByteArray),⟨#[106]⟩,⟨#[97,91,105,32,77,79,68,32,52,93]⟩,⟨#[76,105,98,46,99,111,117,110,116]⟩,⟨#[114,46,97,91,49,93]⟩,⟨#[107]⟩,⟨#[112,46,118,97,108]⟩] (by decide) (by decide) (Blk.new _ _ _) (by have := hS.lt; omega)).mono ?_
  rintro e w10 ⟨⟨X0,rfl,h0⟩,hS2,hK2⟩
  have hK := (hK.alloc hK.size _).call (hK.alloc hK.size _).size hK2
  have z0 : X0.size ≤ 400000 := Nat.le_trans (of_sz (by decide) h0) (by decide)
  have y0 : ¬ 9223372036854775807 < X0.size + 4 := by omega
  have hS := hS2
  clear hS2 hK2
  go_wp2_with fail
  refine (IW2 _ _ _ _ _ _ hS (by omega)).mono ?_
  rintro e w11 ⟨⟨X1,rfl,h1⟩,hS2,hK2⟩
  have hK := hK.call hK.size hK2
  have z1 : X1.size ≤ 400000 := Nat.le_trans (wh_sz (by omega) h1) (by decide)
  have y1 : ¬ 9223372036854775807 < X0.size + 4 + X1.size := by omega
  have hS := hS2
  clear hS2 hK2
  go_wp2_with fail
  go_ret
  exact ⟨⟨_,rfl,s_0 h0 h1⟩,hS.up (by omega),hK⟩
 ·go_wp2_with fail
  refine (IT2 _ _ _ _ _ _ hS (by omega)).mono ?_
  rintro e w10 ⟨⟨X0,rfl,h0⟩,hS2,hK2⟩
  have hK := hK.call hK.size hK2
  have z0 : X0.size ≤ 400000 := Nat.le_trans (tr_sz (by omega) h0) (by decide)
  have y0 : ¬ 9223372036854775807 < 5 + X0.size := by omega
  have hS := hS2
  clear hS2 hK2
  go_wp2_with fail
  go_ret
  exact ⟨⟨_,rfl,s_2 h0⟩,hS.up (by omega),hK⟩
 ·go_wp2_with fail
  refine (IW2 _ _ _ _ _ _ hS (by omega)).mono ?_
  rintro e w10 ⟨⟨X0,rfl,h0⟩,hS2,hK2⟩
  have hK := hK.call hK.size hK2
  have z0 : X0.size ≤ 400000 := Nat.le_trans (wh_sz (by omega) h0) (by decide)
  have y0 : ¬ 9223372036854775807 < 4 + X0.size := by omega
  have y1 : ¬ 9223372036854775807 < 4 + X0.size + 1 := by omega
  have hS := hS2
  clear hS2 hK2
  go_wp2_with fail
  go_ret
  exact ⟨⟨_,rfl,s_3 h0⟩,hS.up (by omega),hK⟩
 ·go_wp2_with fail
  refine (of_any (hS.alloc _) (by omega) [(⟨#[112]⟩ : ByteArray),⟨#[113]⟩,⟨#[76,105,98,46,104,101,97,100]⟩,⟨#[114,46,108]⟩] (by decide) (by decide) (Blk.new _ _ _) (by have := hS.lt; omega)).mono ?_
  rintro e w10 ⟨⟨X0,rfl,h0⟩,hS2,hK2⟩
  have hK := (hK.alloc hK.size _).call (hK.alloc hK.size _).size hK2
  have z0 : X0.size ≤ 400000 := Nat.le_trans (of_sz (by decide) h0) (by decide)
  have y0 : ¬ 9223372036854775807 < 9 + X0.size := by omega
  have y1 : ¬ 9223372036854775807 < 9 + X0.size + 2 := by omega
  have hS := hS2
  clear hS2 hK2
  go_wp2_with fail
  refine (IW1 _ _ _ _ _ _ hS (by omega)).mono ?_
  rintro e w11 ⟨⟨X1,rfl,h1⟩,hS2,hK2⟩
  have hK := hK.call hK.size hK2
  have z1 : X1.size ≤ 400000 := Nat.le_trans (wh_sz (by omega) h1) (by decide)
  have y2 : ¬ 9223372036854775807 < 9 + X0.size + 2 + X1.size := by omega
  have y3 : ¬ 9223372036854775807 < 9 + X0.size + 2 + X1.size + 1 := by omega
  have hS := hS2
  clear hS2 hK2
  go_wp2_with fail
  go_ret
  exact ⟨⟨_,rfl,s_4 h0 h1⟩,hS.up (by omega),hK⟩
 ·go_wp2_with fail
  refine (of_any (hS.alloc _) (by omega) [(⟨#[112,32,58,61,32,113]⟩ : ByteArray),⟨#[113,32,58,61,32,112]⟩,⟨#[113,32,58,61,32,109]⟩,⟨#[112,32,58,61,32,78,73,76]⟩,⟨#[76,105,98,46,104,101,97,100,32,58,61,32,112]⟩,⟨#[113,32,58,61,32,76,105,98,46,104,101,97,100]⟩,⟨#[112,32,58,61,32,112,46,110,101,120,116]⟩,⟨#[109,32,58,61,32,113,123,76,105,98,46,66,105,103,76,105,115,116,125]⟩,⟨#[114,46,108,32,58,61,32,113]⟩] (by decide) (by decide) (Blk.new _ _ _) (by have := hS.lt; omega)).mono ?_
  rintro e w10 ⟨⟨X0,rfl,h0⟩,hS2,hK2⟩
  have hK := (hK.alloc hK.size _).call (hK.alloc hK.size _).size hK2
  have z0 : X0.size ≤ 400000 := Nat.le_trans (of_sz (by decide) h0) (by decide)
  have hS := hS2
  clear hS2 hK2
  go_wp2_with fail
  go_ret
  exact ⟨⟨_,rfl,s_5 h0⟩,hS.up (by omega),hK⟩
 ·go_wp2_with fail
  refine (of_any (hS.alloc _) (by omega) [(⟨#[78,69,87,40,112,41]⟩ : ByteArray),⟨#[78,69,87,40,113,41]⟩,⟨#[78,69,87,40,109,41]⟩,⟨#[78,69,87,40,114,46,108,41]⟩,⟨#[78,69,87,40,112,46,110,101,120,116,41]⟩,⟨#[78,69,87,40,110,41]⟩] (by decide) (by decide) (Blk.new _ _ _) (by have := hS.lt; omega)).mono ?_
  rintro e w10 ⟨⟨X0,rfl,h0⟩,hS2,hK2⟩
  have hK := (hK.alloc hK.size _).call (hK.alloc hK.size _).size hK2
  have z0 : X0.size ≤ 400000 := Nat.le_trans (of_sz (by decide) h0) (by decide)
  have hS := hS2
  clear hS2 hK2
  go_wp2_with fail
  go_ret
  exact ⟨⟨_,rfl,s_6 h0⟩,hS.up (by omega),hK⟩
end Go.Proofs.YtneohanphabneaaGreatDoor
