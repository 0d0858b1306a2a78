/-
  The plain law of made texts: of each way to make one, its words and its size. Printed by tools/gen_g.py.
-/
import Derived.Test.YtneohanphabneaaGreatDoorMQ11
namespace Go.Proofs.YtneohanphabneaaGreatDoor.Gn
def kW : Nat → Nat
 | 0 => 0
 | d + 1 => 2 * kW d + 1
def nW : Nat → Nat
 | 0 => 10
 | d + 1 => 2 * nW d + 10
def cW : Nat → Nat
 | 0 => 1
 | d + 1 => 2 * cW d + 2
def kT : Nat → Nat
 | 0 => 1
 | d + 1 => 2 * kT d + 1
def nT : Nat → Nat
 | 0 => 10
 | d + 1 => 2 * nT d + 20
def cT : Nat → Nat
 | 0 => 1
 | d + 1 => 2 * cT d + cW d + 4
def nS : Nat → Nat
 | 0 => 150
 | d + 1 => 2 * (3 * nS d + 4) + 300
def cS : Nat → Nat
 | 0 => 40
 | d + 1 => 3 * (3 * cS d + 1) + 60
def nQ (d : Nat) : Nat := 3 * nS d + 4
def cQ (d : Nat) : Nat := 3 * cS d + 1
theorem fW (d : Nat) : kW 0 = 0 ∧ nW 0 = 10 ∧ cW 0 = 1 ∧ kW (d + 1) = 2 * kW d + 1 ∧ nW (d + 1) = 2 * nW d + 10 ∧ cW (d + 1) = 2 * cW d + 2 ∧ 10 ≤ nW d ∧ 1 ≤ cW d := by
 refine ⟨rfl,rfl,rfl,rfl,rfl,rfl,?_,?_⟩
 ·induction d with
  | zero => exact Nat.le_refl _
  | succ d ih => show 10 ≤ 2 * nW d + 10; omega
 ·cases d with
  | zero => exact Nat.le_refl _
  | succ d => show 1 ≤ 2 * cW d + 2; omega
theorem fT (d : Nat) : kT 0 = 1 ∧ nT 0 = 10 ∧ cT 0 = 1 ∧ kT (d + 1) = 2 * kT d + 1 ∧ nT (d + 1) = 2 * nT d + 20 ∧ cT (d + 1) = 2 * cT d + cW d + 4 ∧ nW d ≤ nT d ∧ kW d + 1 ≤ kT d ∧ 1 ≤ cT d := by
 refine ⟨rfl,rfl,rfl,rfl,rfl,rfl,?_,?_,?_⟩
 ·induction d with
  | zero => exact Nat.le_refl _
  | succ d ih => show 2 * nW d + 10 ≤ 2 * nT d + 20; omega
 ·induction d with
  | zero => exact Nat.le_refl _
  | succ d ih => show 2 * kW d + 1 + 1 ≤ 2 * kT d + 1; omega
 ·cases d with
  | zero => exact Nat.le_refl _
  | succ d => show 1 ≤ 2 * cT d + cW d + 4; omega
theorem fS (d : Nat) : nS 0 = 150 ∧ cS 0 = 40 ∧ nS (d + 1) = 2 * nQ d + 300 ∧ cS (d + 1) = 3 * cQ d + 60 ∧ nQ d = 3 * nS d + 4 ∧ cQ d = 3 * cS d + 1 ∧ 150 ≤ nS d ∧ 40 ≤ cS d := by
 refine ⟨rfl,rfl,rfl,rfl,rfl,rfl,?_,?_⟩
 ·cases d with
  | zero => exact Nat.le_refl _
  | succ d => show 150 ≤ 2 * (3 * nS d + 4) + 300; omega
 ·cases d with
  | zero => exact Nat.le_refl _
  | succ d => show 40 ≤ 3 * (3 * cS d + 1) + 60; omega
abbrev Wh (d : Nat) (s : ByteArray) : Prop := Xs (kW d) (nW d) false false s
abbrev Tr (d : Nat) (s : ByteArray) : Prop := Xs (kT d) (nT d) false false s
abbrev St (d : Nat) (s : ByteArray) : Prop := Cs 0 7 (nS d) false false s
abbrev Sq (d : Nat) (s : ByteArray) : Prop := Cs 0 7 (nQ d) false false s
theorem Xs.sz {k n : Nat} {h l : Bool} {s : ByteArray} (x : Xs k n h l s) (hk : k ≤ 20) : s.size ≤ n := (x.cs 0 (by omega)).size
theorem three {d : Nat} (hd : d ≤ 2) : d = 0 ∨ d = 1 ∨ d = 2 := by omega
theorem wh_sz {d : Nat} {s : ByteArray} (hd : d ≤ 2) (x : Wh d s) : s.size ≤ 1000 := by
 rcases three hd with rfl | rfl | rfl <;> exact Nat.le_trans (x.sz (by decide)) (by decide)
theorem tr_sz {d : Nat} {s : ByteArray} (hd : d ≤ 2) (x : Tr d s) : s.size ≤ 1000 := by
 rcases three hd with rfl | rfl | rfl <;> exact Nat.le_trans (x.sz (by decide)) (by decide)
theorem st_sz {d : Nat} {s : ByteArray} (hd : d ≤ 2) (x : St d s) : s.size ≤ 100000 := by
 rcases three hd with rfl | rfl | rfl <;> exact Nat.le_trans x.size (by decide)
theorem sq_sz {d : Nat} {s : ByteArray} (hd : d ≤ 2) (x : Sq d s) : s.size ≤ 100000 := by
 rcases three hd with rfl | rfl | rfl <;> exact Nat.le_trans x.size (by decide)
theorem of_sz {ss : List ByteArray} (h : (ss.all fun s => decide (s.size ≤ 100)) = true) {s : ByteArray} (hs : s ∈ ss) : s.size ≤ 100 := of_decide_eq_true (List.all_eq_true.1 h s hs)
theorem w_base {X0 : ByteArray} (h0 : X0 ∈ ([(⟨#[105]⟩ : ByteArray),⟨#[106]⟩,⟨#[51]⟩,⟨#[55]⟩,⟨#[48]⟩,⟨#[76,105,98,46,99,111,117,110,116]⟩,⟨#[76,105,98,46,108,105,109,105,116]⟩,⟨#[97,91,49,93]⟩,⟨#[107]⟩,⟨#[50,49,52,55,52,56,51,54,52,55]⟩] : List ByteArray)) : Wh 0 (X0) := by
 skip
 exact ((Xs.one (k := 0) (n := 10) (h := false) (l := false) (by decide) h0)).to (by decide) (by decide)
theorem w_0 {d : Nat} {X0 X1 : ByteArray} (h0 : Wh d X0) (h1 : Wh 0 X1) : Wh (d + 1) (X0 ++ (⟨#[32,43,32]⟩ : ByteArray) ++ X1) := by
 obtain ⟨a1,a2,a3,a4,a5,a6,a7,a8⟩ := fW d
 exact (((h0.app (Xs.lit (k := 1) (n := 3) (h := true) (l := true) (s := (⟨#[32,43,32]⟩ : ByteArray)) (by decide)) rfl).app h1 rfl)).to (by omega) (by omega)
theorem w_2 {d : Nat} {X0 X1 : ByteArray} (h0 : Wh d X0) (h1 : Wh d X1) : Wh (d + 1) ((⟨#[40]⟩ : ByteArray) ++ X0 ++ (⟨#[32,45,32]⟩ : ByteArray) ++ X1 ++ (⟨#[41]⟩ : ByteArray)) := by
 obtain ⟨a1,a2,a3,a4,a5,a6,a7,a8⟩ := fW d
 exact ((((((Xs.lit (k := 0) (n := 1) (h := true) (l := true) (s := (⟨#[40]⟩ : ByteArray)) (by decide)).app h0 rfl).app (Xs.lit (k := 1) (n := 3) (h := true) (l := true) (s := (⟨#[32,45,32]⟩ : ByteArray)) (by decide)) rfl).app h1 rfl).app (Xs.lit (k := 0) (n := 1) (h := true) (l := true) (s := (⟨#[41]⟩ : ByteArray)) (by decide)) rfl)).to (by omega) (by omega)
theorem w_3 {d : Nat} {X0 X1 : ByteArray} (h0 : Wh d X0) (h1 : Wh 0 X1) : Wh (d + 1) ((⟨#[40]⟩ : ByteArray) ++ X0 ++ (⟨#[32,42,32]⟩ : ByteArray) ++ X1 ++ (⟨#[41]⟩ : ByteArray)) := by
 obtain ⟨a1,a2,a3,a4,a5,a6,a7,a8⟩ := fW d
 exact ((((((Xs.lit (k := 0) (n := 1) (h := true) (l := true) (s := (⟨#[40]⟩ : ByteArray)) (by decide)).app h0 rfl).app (Xs.lit (k := 1) (n := 3) (h := true) (l := true) (s := (⟨#[32,42,32]⟩ : ByteArray)) (by decide)) rfl).app h1 rfl).app (Xs.lit (k := 0) (n := 1) (h := true) (l := true) (s := (⟨#[41]⟩ : ByteArray)) (by decide)) rfl)).to (by omega) (by omega)
theorem w_4 {d : Nat} {X0 X1 : ByteArray} (h0 : Wh d X0) (h1 : X1 ∈ ([(⟨#[50]⟩ : ByteArray),⟨#[51]⟩,⟨#[105]⟩,⟨#[48]⟩] : List ByteArray)) : Wh (d + 1) ((⟨#[40]⟩ : ByteArray) ++ X0 ++ (⟨#[41,32,68,73,86,32]⟩ : ByteArray) ++ X1) := by
 obtain ⟨a1,a2,a3,a4,a5,a6,a7,a8⟩ := fW d
 exact (((((Xs.lit (k := 0) (n := 1) (h := true) (l := true) (s := (⟨#[40]⟩ : ByteArray)) (by decide)).app h0 rfl).app (Xs.lit (k := 1) (n := 6) (h := true) (l := true) (s := (⟨#[41,32,68,73,86,32]⟩ : ByteArray)) (by decide)) rfl).app (Xs.one (k := 0) (n := 1) (h := false) (l := false) (by decide) h1) rfl)).to (by omega) (by omega)
theorem w_5 {d : Nat} {X0 X1 : ByteArray} (h0 : Wh d X0) (h1 : X1 ∈ ([(⟨#[52]⟩ : ByteArray),⟨#[51]⟩,⟨#[55]⟩,⟨#[106]⟩] : List ByteArray)) : Wh (d + 1) ((⟨#[40]⟩ : ByteArray) ++ X0 ++ (⟨#[41,32,77,79,68,32]⟩ : ByteArray) ++ X1) := by
 obtain ⟨a1,a2,a3,a4,a5,a6,a7,a8⟩ := fW d
 exact (((((Xs.lit (k := 0) (n := 1) (h := true) (l := true) (s := (⟨#[40]⟩ : ByteArray)) (by decide)).app h0 rfl).app (Xs.lit (k := 1) (n := 6) (h := true) (l := true) (s := (⟨#[41,32,77,79,68,32]⟩ : ByteArray)) (by decide)) rfl).app (Xs.one (k := 0) (n := 1) (h := false) (l := false) (by decide) h1) rfl)).to (by omega) (by omega)
theorem w_6 {d : Nat} {X0 : ByteArray} (h0 : Xs 0 8 false false X0) : Wh (d + 1) ((⟨#[76,105,98,46,83,117,109,40]⟩ : ByteArray) ++ X0 ++ (⟨#[41]⟩ : ByteArray)) := by
 obtain ⟨a1,a2,a3,a4,a5,a6,a7,a8⟩ := fW d
 exact ((((Xs.lit (k := 0) (n := 8) (h := false) (l := true) (s := (⟨#[76,105,98,46,83,117,109,40]⟩ : ByteArray)) (by decide)).app h0 rfl).app (Xs.lit (k := 0) (n := 1) (h := true) (l := true) (s := (⟨#[41]⟩ : ByteArray)) (by decide)) rfl)).to (by omega) (by omega)
theorem w_7 {d : Nat} {X0 : ByteArray} (h0 : X0 ∈ ([(⟨#[51]⟩ : ByteArray),⟨#[53]⟩,⟨#[105,32,77,79,68,32,54]⟩,⟨#[55]⟩] : List ByteArray)) : Wh (d + 1) ((⟨#[70,105,98,40]⟩ : ByteArray) ++ X0 ++ (⟨#[41]⟩ : ByteArray)) := by
 obtain ⟨a1,a2,a3,a4,a5,a6,a7,a8⟩ := fW d
 exact ((((Xs.lit (k := 0) (n := 4) (h := false) (l := true) (s := (⟨#[70,105,98,40]⟩ : ByteArray)) (by decide)).app (Xs.one (k := 1) (n := 7) (h := false) (l := false) (by decide) h0) rfl).app (Xs.lit (k := 0) (n := 1) (h := true) (l := true) (s := (⟨#[41]⟩ : ByteArray)) (by decide)) rfl)).to (by omega) (by omega)
theorem w_8 {d : Nat} {X0 : ByteArray} (h0 : X0 ∈ ([(⟨#[48]⟩ : ByteArray),⟨#[51]⟩,⟨#[105]⟩,⟨#[105,32,77,79,68,32,52]⟩,⟨#[52]⟩] : List ByteArray)) : Wh (d + 1) ((⟨#[97,91]⟩ : ByteArray) ++ X0 ++ (⟨#[93]⟩ : ByteArray)) := by
 obtain ⟨a1,a2,a3,a4,a5,a6,a7,a8⟩ := fW d
 exact ((((Xs.lit (k := 0) (n := 2) (h := false) (l := true) (s := (⟨#[97,91]⟩ : ByteArray)) (by decide)).app (Xs.one (k := 1) (n := 7) (h := false) (l := false) (by decide) h0) rfl).app (Xs.lit (k := 0) (n := 1) (h := true) (l := true) (s := (⟨#[93]⟩ : ByteArray)) (by decide)) rfl)).to (by omega) (by omega)
theorem w_9 {d : Nat} {X0 : ByteArray} (h0 : X0 ∈ ([(⟨#[112,46,118,97,108]⟩ : ByteArray),⟨#[113,46,110,101,120,116,46,118,97,108]⟩,⟨#[109,46,109,111,114,101]⟩,⟨#[113,123,76,105,98,46,66,105,103,76,105,115,116,125,46,109,111,114,101]⟩,⟨#[114,46,97,91,50,93]⟩,⟨#[114,46,108,46,118,97,108]⟩] : List ByteArray)) : Wh (d + 1) (X0) := by
 obtain ⟨a1,a2,a3,a4,a5,a6,a7,a8⟩ := fW d
 exact ((Xs.one (k := 0) (n := 19) (h := false) (l := false) (by decide) h0)).to (by omega) (by omega)
theorem w_10 {d : Nat} {X0 : ByteArray} (h0 : Wh 0 X0) : Wh (d + 1) ((⟨#[40,45]⟩ : ByteArray) ++ X0 ++ (⟨#[41]⟩ : ByteArray)) := by
 obtain ⟨a1,a2,a3,a4,a5,a6,a7,a8⟩ := fW d
 exact ((((Xs.lit (k := 1) (n := 2) (h := true) (l := true) (s := (⟨#[40,45]⟩ : ByteArray)) (by decide)).app h0 rfl).app (Xs.lit (k := 0) (n := 1) (h := true) (l := true) (s := (⟨#[41]⟩ : ByteArray)) (by decide)) rfl)).to (by omega) (by omega)
theorem w_11 {d : Nat} {X0 : ByteArray} (h0 : Wh 0 X0) : Wh (d + 1) (X0) := by
 obtain ⟨a1,a2,a3,a4,a5,a6,a7,a8⟩ := fW d
 exact (h0).to (by omega) (by omega)
theorem l_base {X0 : ByteArray} (h0 : X0 ∈ ([(⟨#[112]⟩ : ByteArray),⟨#[113]⟩,⟨#[78,73,76]⟩,⟨#[76,105,98,46,104,101,97,100]⟩,⟨#[109]⟩,⟨#[114,46,108]⟩,⟨#[113]⟩,⟨#[112]⟩] : List ByteArray)) : Xs 0 8 false false (X0) := by
 skip
 exact ((Xs.one (k := 0) (n := 8) (h := false) (l := false) (by decide) h0)).to (by decide) (by decide)
theorem t_base {X0 : ByteArray} (h0 : X0 ∈ ([(⟨#[98]⟩ : ByteArray),⟨#[84,82,85,69]⟩,⟨#[126,98]⟩,⟨#[105,32,61,32,106]⟩,⟨#[112,32,35,32,78,73,76]⟩,⟨#[70,65,76,83,69]⟩] : List ByteArray)) : Tr 0 (X0) := by
 skip
 exact ((Xs.one (k := 1) (n := 7) (h := false) (l := false) (by decide) h0)).to (by decide) (by decide)
theorem t_0 {d : Nat} {X0 X1 : ByteArray} (h0 : Tr d X0) (h1 : Tr d X1) : Tr (d + 1) ((⟨#[40]⟩ : ByteArray) ++ X0 ++ (⟨#[41,32,38,32,40]⟩ : ByteArray) ++ X1 ++ (⟨#[41]⟩ : ByteArray)) := by
 obtain ⟨a1,a2,a3,a4,a5,a6,a7,a8⟩ := fW d
 obtain ⟨b1,b2,b3,b4,b5,b6,b7,b8,b9⟩ := fT d
 exact ((((((Xs.lit (k := 0) (n := 1) (h := true) (l := true) (s := (⟨#[40]⟩ : ByteArray)) (by decide)).app h0 rfl).app (Xs.lit (k := 1) (n := 5) (h := true) (l := true) (s := (⟨#[41,32,38,32,40]⟩ : ByteArray)) (by decide)) rfl).app h1 rfl).app (Xs.lit (k := 0) (n := 1) (h := true) (l := true) (s := (⟨#[41]⟩ : ByteArray)) (by decide)) rfl)).to (by omega) (by omega)
theorem t_1 {d : Nat} {X0 X1 : ByteArray} (h0 : Tr d X0) (h1 : Tr d X1) : Tr (d + 1) ((⟨#[40]⟩ : ByteArray) ++ X0 ++ (⟨#[41,32,79,82,32]⟩ : ByteArray) ++ (⟨#[40]⟩ : ByteArray) ++ X1 ++ (⟨#[41]⟩ : ByteArray)) := by
 obtain ⟨a1,a2,a3,a4,a5,a6,a7,a8⟩ := fW d
 obtain ⟨b1,b2,b3,b4,b5,b6,b7,b8,b9⟩ := fT d
 exact (((((((Xs.lit (k := 0) (n := 1) (h := true) (l := true) (s := (⟨#[40]⟩ : ByteArray)) (by decide)).app h0 rfl).app (Xs.lit (k := 1) (n := 5) (h := true) (l := true) (s := (⟨#[41,32,79,82,32]⟩ : ByteArray)) (by decide)) rfl).app (Xs.lit (k := 0) (n := 1) (h := true) (l := true) (s := (⟨#[40]⟩ : ByteArray)) (by decide)) rfl).app h1 rfl).app (Xs.lit (k := 0) (n := 1) (h := true) (l := true) (s := (⟨#[41]⟩ : ByteArray)) (by decide)) rfl)).to (by omega) (by omega)
theorem t_2 {d : Nat} {X0 X1 X2 : ByteArray} (h0 : Wh d X0) (h1 : X1 ∈ ([(⟨#[32,60,32]⟩ : ByteArray),⟨#[32,60,61,32]⟩,⟨#[32,62,32]⟩,⟨#[32,62,61,32]⟩,⟨#[32,61,32]⟩,⟨#[32,35,32]⟩] : List ByteArray)) (h2 : Wh 0 X2) : Tr (d + 1) (X0 ++ X1 ++ X2) := by
 obtain ⟨a1,a2,a3,a4,a5,a6,a7,a8⟩ := fW d
 obtain ⟨b1,b2,b3,b4,b5,b6,b7,b8,b9⟩ := fT d
 exact (((h0.app (Xs.one (k := 1) (n := 4) (h := true) (l := true) (by decide) h1) rfl).app h2 rfl)).to (by omega) (by omega)
theorem t_4 {d : Nat}  : Tr (d + 1) ((⟨#[113,32,73,83,32,76,105,98,46,66,105,103,76,105,115,116]⟩ : ByteArray)) := by
 obtain ⟨a1,a2,a3,a4,a5,a6,a7,a8⟩ := fW d
 obtain ⟨b1,b2,b3,b4,b5,b6,b7,b8,b9⟩ := fT d
 exact ((Xs.lit (k := 0) (n := 16) (h := false) (l := false) (s := (⟨#[113,32,73,83,32,76,105,98,46,66,105,103,76,105,115,116]⟩ : ByteArray)) (by decide))).to (by omega) (by omega)
theorem t_5 {d : Nat}  : Tr (d + 1) ((⟨#[40,112,32,35,32,78,73,76,41,32,38,32,40,112,46,118,97,108,32,62,32,48,41]⟩ : ByteArray)) := by
 obtain ⟨a1,a2,a3,a4,a5,a6,a7,a8⟩ := fW d
 obtain ⟨b1,b2,b3,b4,b5,b6,b7,b8,b9⟩ := fT d
 exact ((Xs.lit (k := 3) (n := 23) (h := true) (l := true) (s := (⟨#[40,112,32,35,32,78,73,76,41,32,38,32,40,112,46,118,97,108,32,62,32,48,41]⟩ : ByteArray)) (by decide))).to (by omega) (by omega)
theorem t_6 {d : Nat} {X0 : ByteArray} (h0 : Xs 0 8 false false X0) : Tr (d + 1) (X0 ++ (⟨#[32,61,32,113]⟩ : ByteArray)) := by
 obtain ⟨a1,a2,a3,a4,a5,a6,a7,a8⟩ := fW d
 obtain ⟨b1,b2,b3,b4,b5,b6,b7,b8,b9⟩ := fT d
 exact ((h0.app (Xs.lit (k := 1) (n := 4) (h := true) (l := false) (s := (⟨#[32,61,32,113]⟩ : ByteArray)) (by decide)) rfl)).to (by omega) (by omega)
theorem t_7 {d : Nat} {X0 : ByteArray} (h0 : Tr 0 X0) : Tr (d + 1) (X0) := by
 obtain ⟨a1,a2,a3,a4,a5,a6,a7,a8⟩ := fW d
 obtain ⟨b1,b2,b3,b4,b5,b6,b7,b8,b9⟩ := fT d
 exact (h0).to (by omega) (by omega)
theorem s_0 {d : Nat} {X0 X1 : ByteArray} (h0 : X0 ∈ ([(⟨#[105]⟩ : ByteArray),⟨#[106]⟩,⟨#[97,91,105,32,77,79,68,32,52,93]⟩,⟨#[76,105,98,46,99,111,117,110,116]⟩,⟨#[114,46,97,91,49,93]⟩,⟨#[107]⟩,⟨#[112,46,118,97,108]⟩] : List ByteArray)) (h1 : Wh 2 X1) : St d (X0 ++ (⟨#[32,58,61,32]⟩ : ByteArray) ++ X1) := by
 obtain ⟨e1,e2,e3,e4,e5,e6,e7,e8⟩ := fS d
 exact ((((Cs.one (c := 0) (k := 1) (n := 10) (h := false) (l := false) (by decide) h0).app (Cs.lit (c := 1) (k := 0) (n := 4) (h := true) (l := true) (s := (⟨#[32,58,61,32]⟩ : ByteArray)) (by decide)) rfl).app ((h1.cs 0 (by decide)).up (c' := 0) (k' := 3) (n' := 70) (Nat.le_refl _) (by decide) (by decide)) rfl)).to (Nat.le_refl _) (by decide) (by omega)
theorem s_2 {d : Nat} {X0 : ByteArray} (h0 : Tr 2 X0) : St d ((⟨#[98,32,58,61,32]⟩ : ByteArray) ++ X0) := by
 obtain ⟨e1,e2,e3,e4,e5,e6,e7,e8⟩ := fS d
 exact (((Cs.lit (c := 0) (k := 0) (n := 5) (h := false) (l := true) (s := (⟨#[98,32,58,61,32]⟩ : ByteArray)) (by decide)).app ((h0.cs 0 (by decide)).up (c' := 0) (k' := 7) (n' := 100) (Nat.le_refl _) (by decide) (by decide)) rfl)).to (Nat.le_refl _) (by decide) (by omega)
theorem s_3 {d : Nat} {X0 : ByteArray} (h0 : Wh 2 X0) : St d ((⟨#[79,85,84,40]⟩ : ByteArray) ++ X0 ++ (⟨#[41]⟩ : ByteArray)) := by
 obtain ⟨e1,e2,e3,e4,e5,e6,e7,e8⟩ := fS d
 exact ((((Cs.lit (c := 0) (k := 0) (n := 4) (h := false) (l := true) (s := (⟨#[79,85,84,40]⟩ : ByteArray)) (by decide)).app ((h0.cs 0 (by decide)).up (c' := 0) (k' := 3) (n' := 70) (Nat.le_refl _) (by decide) (by decide)) rfl).app (Cs.lit (c := 3) (k := 3) (n := 1) (h := true) (l := true) (s := (⟨#[41]⟩ : ByteArray)) (by decide)) rfl)).to (Nat.le_refl _) (by decide) (by omega)
theorem s_4 {d : Nat} {X0 X1 : ByteArray} (h0 : X0 ∈ ([(⟨#[112]⟩ : ByteArray),⟨#[113]⟩,⟨#[76,105,98,46,104,101,97,100]⟩,⟨#[114,46,108]⟩] : List ByteArray)) (h1 : Wh 1 X1) : St d ((⟨#[76,105,98,46,80,117,115,104,40]⟩ : ByteArray) ++ X0 ++ (⟨#[44,32]⟩ : ByteArray) ++ X1 ++ (⟨#[41]⟩ : ByteArray)) := by
 obtain ⟨e1,e2,e3,e4,e5,e6,e7,e8⟩ := fS d
 exact ((((((Cs.lit (c := 0) (k := 0) (n := 9) (h := false) (l := true) (s := (⟨#[76,105,98,46,80,117,115,104,40]⟩ : ByteArray)) (by decide)).app (Cs.one (c := 0) (k := 0) (n := 8) (h := false) (l := false) (by decide) h0) rfl).app (Cs.lit (c := 0) (k := 0) (n := 2) (h := true) (l := true) (s := (⟨#[44,32]⟩ : ByteArray)) (by decide)) rfl).app ((h1.cs 0 (by decide)).up (c' := 0) (k' := 1) (n' := 30) (Nat.le_refl _) (by decide) (by decide)) rfl).app (Cs.lit (c := 1) (k := 1) (n := 1) (h := true) (l := true) (s := (⟨#[41]⟩ : ByteArray)) (by decide)) rfl)).to (Nat.le_refl _) (by decide) (by omega)
theorem s_5 {d : Nat} {X0 : ByteArray} (h0 : X0 ∈ ([(⟨#[112,32,58,61,32,113]⟩ : ByteArray),⟨#[113,32,58,61,32,112]⟩,⟨#[113,32,58,61,32,109]⟩,⟨#[112,32,58,61,32,78,73,76]⟩,⟨#[76,105,98,46,104,101,97,100,32,58,61,32,112]⟩,⟨#[113,32,58,61,32,76,105,98,46,104,101,97,100]⟩,⟨#[112,32,58,61,32,112,46,110,101,120,116]⟩,⟨#[109,32,58,61,32,113,123,76,105,98,46,66,105,103,76,105,115,116,125]⟩,⟨#[114,46,108,32,58,61,32,113]⟩] : List ByteArray)) : St d (X0) := by
 obtain ⟨e1,e2,e3,e4,e5,e6,e7,e8⟩ := fS d
 exact ((Cs.one (c := 0) (k := 0) (n := 19) (h := false) (l := false) (by decide) h0)).to (Nat.le_refl _) (by decide) (by omega)
theorem s_6 {d : Nat} {X0 : ByteArray} (h0 : X0 ∈ ([(⟨#[78,69,87,40,112,41]⟩ : ByteArray),⟨#[78,69,87,40,113,41]⟩,⟨#[78,69,87,40,109,41]⟩,⟨#[78,69,87,40,114,46,108,41]⟩,⟨#[78,69,87,40,112,46,110,101,120,116,41]⟩,⟨#[78,69,87,40,110,41]⟩] : List ByteArray)) : St d (X0) := by
 obtain ⟨e1,e2,e3,e4,e5,e6,e7,e8⟩ := fS d
 exact ((Cs.one (c := 0) (k := 0) (n := 11) (h := false) (l := true) (by decide) h0)).to (Nat.le_refl _) (by decide) (by omega)
theorem s_7 {d : Nat} {X0 : ByteArray} (h0 : X0 ∈ ([(⟨#[71,69,84,40,105,41]⟩ : ByteArray),⟨#[71,69,84,40,106,41]⟩,⟨#[71,69,84,40,97,91,50,93,41]⟩,⟨#[71,69,84,40,107,41]⟩] : List ByteArray)) : St d (X0) := by
 obtain ⟨e1,e2,e3,e4,e5,e6,e7,e8⟩ := fS d
 exact ((Cs.one (c := 0) (k := 0) (n := 9) (h := false) (l := true) (by decide) h0)).to (Nat.le_refl _) (by decide) (by omega)
theorem s_8 {d : Nat} {X0 : ByteArray} (h0 : X0 ∈ ([(⟨#[105,44,32,106]⟩ : ByteArray),⟨#[97,91,48,93,44,32,97,91,49,93]⟩,⟨#[112,46,118,97,108,44,32,105]⟩,⟨#[105,44,32,105]⟩,⟨#[76,105,98,46,99,111,117,110,116,44,32,106]⟩] : List ByteArray)) : St d ((⟨#[83,119,97,112,40]⟩ : ByteArray) ++ X0 ++ (⟨#[41]⟩ : ByteArray)) := by
 obtain ⟨e1,e2,e3,e4,e5,e6,e7,e8⟩ := fS d
 exact ((((Cs.lit (c := 0) (k := 0) (n := 5) (h := false) (l := true) (s := (⟨#[83,119,97,112,40]⟩ : ByteArray)) (by decide)).app (Cs.one (c := 0) (k := 0) (n := 12) (h := false) (l := false) (by decide) h0) rfl).app (Cs.lit (c := 0) (k := 0) (n := 1) (h := true) (l := true) (s := (⟨#[41]⟩ : ByteArray)) (by decide)) rfl)).to (Nat.le_refl _) (by decide) (by omega)
theorem s_9 {d : Nat} {X0 : ByteArray} (h0 : X0 ∈ ([(⟨#[115,32,58,61,32,114]⟩ : ByteArray),⟨#[114,32,58,61,32,115]⟩,⟨#[114,46,97,32,58,61,32,97]⟩,⟨#[97,32,58,61,32,115,46,97]⟩,⟨#[112,94,32,58,61,32,113,94]⟩,⟨#[76,105,98,46,80,117,116,40,97,44,32,105,32,77,79,68,32,52,44,32,106,41]⟩,⟨#[76,105,98,46,80,117,116,40,114,46,97,44,32,105,44,32,51,41]⟩] : List ByteArray)) : St d (X0) := by
 obtain ⟨e1,e2,e3,e4,e5,e6,e7,e8⟩ := fS d
 exact ((Cs.one (c := 0) (k := 1) (n := 22) (h := false) (l := false) (by decide) h0)).to (Nat.le_refl _) (by decide) (by omega)
theorem s_10 {d : Nat}  : St d ((⟨#[79,85,84,40,105,41]⟩ : ByteArray)) := by
 obtain ⟨e1,e2,e3,e4,e5,e6,e7,e8⟩ := fS d
 exact ((Cs.lit (c := 0) (k := 0) (n := 6) (h := false) (l := true) (s := (⟨#[79,85,84,40,105,41]⟩ : ByteArray)) (by decide))).to (Nat.le_refl _) (by decide) (by omega)
theorem s_11 {d : Nat} {X0 : ByteArray} (h0 : X0 ∈ ([(⟨#[84,82,85,69]⟩ : ByteArray),⟨#[105,32,61,32,105]⟩,⟨#[112,32,61,32,112]⟩,⟨#[98,32,79,82,32,126,98]⟩,⟨#[105,32,60,32,49,48,48,48]⟩] : List ByteArray)) : St d ((⟨#[65,83,83,69,82,84,40]⟩ : ByteArray) ++ X0 ++ (⟨#[41]⟩ : ByteArray)) := by
 obtain ⟨e1,e2,e3,e4,e5,e6,e7,e8⟩ := fS d
 exact ((((Cs.lit (c := 0) (k := 0) (n := 7) (h := false) (l := true) (s := (⟨#[65,83,83,69,82,84,40]⟩ : ByteArray)) (by decide)).app (Cs.one (c := 0) (k := 1) (n := 8) (h := false) (l := false) (by decide) h0) rfl).app (Cs.lit (c := 1) (k := 1) (n := 1) (h := true) (l := true) (s := (⟨#[41]⟩ : ByteArray)) (by decide)) rfl)).to (Nat.le_refl _) (by decide) (by omega)
theorem s_14 {d : Nat} {X0 X1 : ByteArray} (h0 : X0 ∈ ([(⟨#[51]⟩ : ByteArray),⟨#[53]⟩,⟨#[57]⟩] : List ByteArray)) (h1 : Sq d X1) : St (d + 1) ((⟨#[105,32,58,61,32,48,59,32,87,72,73,76,69,32,105,32,60,32]⟩ : ByteArray) ++ X0 ++ (⟨#[32,68,79,32,105,32,58,61,32,105,32,43,32,49,59,32]⟩ : ByteArray) ++ X1 ++ (⟨#[32,69,78,68]⟩ : ByteArray)) := by
 obtain ⟨e1,e2,e3,e4,e5,e6,e7,e8⟩ := fS d
 exact ((((((Cs.lit (c := 0) (k := 1) (n := 18) (h := false) (l := true) (s := (⟨#[105,32,58,61,32,48,59,32,87,72,73,76,69,32,105,32,60,32]⟩ : ByteArray)) (by decide)).app (Cs.one (c := 1) (k := 1) (n := 1) (h := false) (l := false) (by decide) h0) rfl).app (Cs.lit (c := 1) (k := 0) (n := 16) (h := true) (l := true) (s := (⟨#[32,68,79,32,105,32,58,61,32,105,32,43,32,49,59,32]⟩ : ByteArray)) (by decide)) rfl).app h1 rfl).app (Cs.lit (c := 7) (k := 0) (n := 4) (h := true) (l := false) (s := (⟨#[32,69,78,68]⟩ : ByteArray)) (by decide)) rfl)).to (Nat.le_refl _) (by decide) (by omega)
theorem s_15 {d : Nat} {X0 X1 : ByteArray} (h0 : Sq d X0) (h1 : Tr 1 X1) : St (d + 1) ((⟨#[106,32,58,61,32,48,59,32,82,69,80,69,65,84,32,106,32,58,61,32,106,32,43,32,49,59,32]⟩ : ByteArray) ++ X0 ++ (⟨#[32,85,78,84,73,76,32,40,106,32,62,32,52,41,32,79,82,32]⟩ : ByteArray) ++ (⟨#[40]⟩ : ByteArray) ++ X1 ++ (⟨#[41]⟩ : ByteArray)) := by
 obtain ⟨e1,e2,e3,e4,e5,e6,e7,e8⟩ := fS d
 exact (((((((Cs.lit (c := 0) (k := 0) (n := 27) (h := false) (l := true) (s := (⟨#[106,32,58,61,32,48,59,32,82,69,80,69,65,84,32,106,32,58,61,32,106,32,43,32,49,59,32]⟩ : ByteArray)) (by decide)).app h0 rfl).app (Cs.lit (c := 7) (k := 2) (n := 18) (h := true) (l := true) (s := (⟨#[32,85,78,84,73,76,32,40,106,32,62,32,52,41,32,79,82,32]⟩ : ByteArray)) (by decide)) rfl).app (Cs.lit (c := 2) (k := 2) (n := 1) (h := true) (l := true) (s := (⟨#[40]⟩ : ByteArray)) (by decide)) rfl).app ((h1.cs 2 (by decide)).up (c' := 2) (k' := 5) (n' := 40) (Nat.le_refl _) (by decide) (by decide)) rfl).app (Cs.lit (c := 5) (k := 5) (n := 1) (h := true) (l := true) (s := (⟨#[41]⟩ : ByteArray)) (by decide)) rfl)).to (Nat.le_refl _) (by decide) (by omega)
theorem s_16 {d : Nat} {X0 X1 : ByteArray} (h0 : Tr 1 X0) (h1 : Sq d X1) : St (d + 1) ((⟨#[87,72,73,76,69,32]⟩ : ByteArray) ++ X0 ++ (⟨#[32,68,79,32]⟩ : ByteArray) ++ X1 ++ (⟨#[32,69,78,68]⟩ : ByteArray)) := by
 obtain ⟨e1,e2,e3,e4,e5,e6,e7,e8⟩ := fS d
 exact ((((((Cs.lit (c := 0) (k := 0) (n := 6) (h := false) (l := true) (s := (⟨#[87,72,73,76,69,32]⟩ : ByteArray)) (by decide)).app ((h0.cs 0 (by decide)).up (c' := 0) (k' := 3) (n' := 40) (Nat.le_refl _) (by decide) (by decide)) rfl).app (Cs.lit (c := 3) (k := 0) (n := 4) (h := true) (l := true) (s := (⟨#[32,68,79,32]⟩ : ByteArray)) (by decide)) rfl).app h1 rfl).app (Cs.lit (c := 7) (k := 0) (n := 4) (h := true) (l := false) (s := (⟨#[32,69,78,68]⟩ : ByteArray)) (by decide)) rfl)).to (Nat.le_refl _) (by decide) (by omega)
theorem s_17 {d : Nat} {X0 : ByteArray} (h0 : X0 ∈ ([(⟨#[51]⟩ : ByteArray),⟨#[105]⟩,⟨#[51,57]⟩,⟨#[53,48]⟩] : List ByteArray)) : St d ((⟨#[68,101,101,112,40]⟩ : ByteArray) ++ X0 ++ (⟨#[41]⟩ : ByteArray)) := by
 obtain ⟨e1,e2,e3,e4,e5,e6,e7,e8⟩ := fS d
 exact ((((Cs.lit (c := 0) (k := 0) (n := 5) (h := false) (l := true) (s := (⟨#[68,101,101,112,40]⟩ : ByteArray)) (by decide)).app (Cs.one (c := 0) (k := 0) (n := 2) (h := false) (l := false) (by decide) h0) rfl).app (Cs.lit (c := 0) (k := 0) (n := 1) (h := true) (l := true) (s := (⟨#[41]⟩ : ByteArray)) (by decide)) rfl)).to (Nat.le_refl _) (by decide) (by omega)
theorem s_18 {d : Nat}  : St d ((⟨#[87,72,73,76,69,32,112,32,35,32,78,73,76,32,68,79,32,79,85,84,40,112,46,118,97,108,41,59,32,112,32,58,61,32,112,46,110,101,120,116,32,69,78,68]⟩ : ByteArray)) := by
 obtain ⟨e1,e2,e3,e4,e5,e6,e7,e8⟩ := fS d
 exact ((Cs.lit (c := 0) (k := 0) (n := 44) (h := false) (l := false) (s := (⟨#[87,72,73,76,69,32,112,32,35,32,78,73,76,32,68,79,32,79,85,84,40,112,46,118,97,108,41,59,32,112,32,58,61,32,112,46,110,101,120,116,32,69,78,68]⟩ : ByteArray)) (by decide))).to (Nat.le_refl _) (by decide) (by omega)
theorem s_if {d : Nat} {X0 X1 X2 X3 X4 X5 : ByteArray} (h0 : Tr 2 X0) (h1 : Sq d X1) (h2 : Sq d X2) (h3 : Tr 1 X3) (h4 : Sq d X4) (h5 : X5 ∈ ([(⟨#[]⟩ : ByteArray),(⟨#[32,69,76,83,69,32]⟩ : ByteArray) ++ X2,(⟨#[32,69,76,83,73,70,32]⟩ : ByteArray) ++ X3 ++ (⟨#[32,84,72,69,78,32]⟩ : ByteArray) ++ X4] : List ByteArray)) : St (d + 1) ((⟨#[73,70,32]⟩ : ByteArray) ++ X0 ++ (⟨#[32,84,72,69,78,32]⟩ : ByteArray) ++ X1 ++ X5 ++ (⟨#[32,69,78,68]⟩ : ByteArray)) := by
 obtain ⟨e1,e2,e3,e4,e5,e6,e7,e8⟩ := fS d
 have a := (((Cs.lit (c := 0) (k := 0) (n := 3) (h := false) (l := true) (s := (⟨#[73,70,32]⟩ : ByteArray)) (by decide)).app ((h0.cs 0 (by decide)).up (c' := 0) (k' := 7) (n' := 100) (Nat.le_refl _) (by decide) (by decide)) rfl).app (Cs.lit (c := 7) (k := 0) (n := 6) (h := true) (l := true) (s := (⟨#[32,84,72,69,78,32]⟩ : ByteArray)) (by decide)) rfl).app h1 rfl
 simp only [List.mem_cons,List.not_mem_nil,or_false] at h5
 rcases h5 with rfl | rfl | rfl
 ·rw [show ∀ x : ByteArray,x ++ (⟨#[]⟩ : ByteArray) = x from fun x => by apply ByteArray.ext; simp]
  exact (a.app (Cs.lit (c := 7) (k := 0) (n := 4) (h := true) (l := false) (s := (⟨#[32,69,78,68]⟩ : ByteArray)) (by decide)) rfl).to (Nat.le_refl _) (by decide) (by omega)
 ·exact ((a.app ((Cs.lit (c := 7) (k := 0) (n := 6) (h := true) (l := true) (s := (⟨#[32,69,76,83,69,32]⟩ : ByteArray)) (by decide)).app h2 rfl) rfl).app (Cs.lit (c := 7) (k := 0) (n := 4) (h := true) (l := false) (s := (⟨#[32,69,78,68]⟩ : ByteArray)) (by decide)) rfl).to (Nat.le_refl _) (by decide) (by omega)
 ·exact ((a.app ((((Cs.lit (c := 7) (k := 0) (n := 7) (h := true) (l := true) (s := (⟨#[32,69,76,83,73,70,32]⟩ : ByteArray)) (by decide)).app ((h3.cs 0 (by decide)).up (c' := 0) (k' := 3) (n' := 40) (Nat.le_refl _) (by decide) (by decide)) rfl).app (Cs.lit (c := 3) (k := 0) (n := 6) (h := true) (l := true) (s := (⟨#[32,84,72,69,78,32]⟩ : ByteArray)) (by decide)) rfl).app h4 rfl) rfl).app (Cs.lit (c := 7) (k := 0) (n := 4) (h := true) (l := false) (s := (⟨#[32,69,78,68]⟩ : ByteArray)) (by decide)) rfl).to (Nat.le_refl _) (by decide) (by omega)
theorem q_one {d : Nat} {X : ByteArray} (h : St d X) : Cs 0 7 (nS d + (nS d + 2) * 0) false false X := h.to (Nat.le_refl _) (Nat.le_refl _) (by omega)
theorem q_more {d j : Nat} {X Y : ByteArray} (h : Cs 0 7 (nS d + (nS d + 2) * j) false false X) (g : St d Y) : Cs 0 7 (nS d + (nS d + 2) * (j + 1)) false false (X ++ (⟨#[59,32]⟩ : ByteArray) ++ Y) :=
 ((h.app (Cs.lit (c := 7) (k := 0) (n := 2) (h := true) (l := true) (s := (⟨#[59,32]⟩ : ByteArray)) (by decide)) rfl).app g rfl).to (Nat.le_refl _) (Nat.le_refl _) (by rw [Nat.mul_add]; omega)
end Go.Proofs.YtneohanphabneaaGreatDoor.Gn
