/-
  Tell and Is: what an error tells.
-/
import Derived.Test.YtneohanphabneaaDoorAs
import Derived.Deep.QuietTactic
import Derived.BigQuiet
namespace Go.Proofs.YtneohanphabneaaDoor
open Go.RowKit

/-- The package variable that errors.As asks. -/
def ErrType (w : World) : Prop := w.cell? ⟨0, 0, none⟩ = some (.iface 85 (.agg #[.pointer (some ⟨4, 30, none⟩)]))
theorem ErrType.lt {w : World} (h : ErrType w) : 0 < w.heap.size := by
  unfold ErrType at h
  rcases Nat.lt_or_ge 0 w.heap.size with h' | h'
  · exact h'
  · simp [World.cell?, Array.getElem?_eq_none h'] at h
theorem ErrType.below {w w' : World} {B : Nat} (h : ErrType w) (hb : Below B w w') (hB : 0 < B) : ErrType w' := (hb.cell (p := ⟨0, 0, none⟩) hB).trans h

theorem tell_nil (w : World) : Calls Tryd.prog 21 #[.nilIface] w fun e w' => e = .returned (.tuple #[.int .i64 0, .int .i64 (-1), .int .i64 (-1)]) ∧ Below w.heap.size w w' := by
  go_enter Tryd.func21, Tryd.ntmps21
  go_wp2
  refine bodyPost_ret (v := .tuple #[.int .i64 0, .int .i64 (-1), .int .i64 (-1)]) (by simp [results, Tryd.results21, go_sem]) rfl ⟨rfl, (Below.refl _ _).alloc (Nat.le_refl _) _⟩
set_option maxHeartbeats 1000000 in
theorem tell_errno (n : Int) (w : World) (hE : ErrType w) : Calls Tryd.prog 21 #[.iface 24 (.int .i64 n)] w fun e w' => e = .returned (.tuple #[.int .i64 n, .int .i64 (-1), .int .i64 (-1)]) ∧ Below w.heap.size w w' := by
  have hlt := hE.lt
  have HE : Hid (ErrType ((w.alloc (.cells #[.int .i64 0] 24)).alloc (.cells #[.pointer none] 44))) := hE.below (B := w.heap.size) (((Below.refl _ _).alloc (Nat.le_refl _) _).alloc (by simp) _) hlt
  clear hE
  go_enter Tryd.func21, Tryd.ntmps21
  go_wp2_with fail
  refine (as_EF n ⟨w.heap.size + 1, 0, none⟩ (.pointer none) _ HE.out (by simp) (by simp)).mono ?_
  rintro e w3 ⟨rfl, hb3⟩
  have c3 : w3.cell? ⟨w.heap.size, 0, none⟩ = some (.int .i64 0) := (hb3.cell (p := ⟨w.heap.size, 0, none⟩) (by simp <;> omega)).trans (by rw [World.cell?_alloc_lt _ _ ⟨w.heap.size, 0, none⟩ (by simp)]; simp)
  have f3 : w3.frozen? ⟨w.heap.size, 0, none⟩ = false := (hb3.frozen (p := ⟨w.heap.size, 0, none⟩) (by simp <;> omega)).trans (by rw [World.frozen?_alloc_old _ _ ⟨w.heap.size, 0, none⟩ (by simp)]; simp)
  have HE3 : Hid (ErrType w3) := HE.out.below hb3 (by simp <;> omega)
  have hbw : Below w.heap.size w w3 := (((Below.refl _ _).alloc (Nat.le_refl _) _).alloc (by simp) _).trans (hb3.mono (by simp <;> omega))
  have HB := Lib.hid hbw
  have HB3 := Lib.hid hb3.size
  clear hbw hb3
  have C := Lib.hid (as_EE n ⟨w.heap.size, 0, none⟩ (.int .i64 0) w3 HE3.out c3 f3)
  clear c3 f3
  go_wp2_with fail
  refine C.out.mono ?_
  rintro e w4 ⟨rfl, hg4, c4, f4⟩
  have HG := Lib.hid hg4
  clear hg4
  go_wp2
  refine bodyPost_ret (v := .tuple #[.int .i64 n, .int .i64 (-1), .int .i64 (-1)]) (by simp [results, Tryd.results21, go_sem, c4]) rfl ⟨rfl, ?_⟩
  have h5 : Below w.heap.size w w4 := HB.out.grown HG.out HB.out.size (by rintro k hk; cases hk; exact Nat.le_refl _)
  exact h5.setCell (Nat.le_refl _) _
set_option maxHeartbeats 1000000 in
theorem tell_fault (g : Nat) (T p n : Int) (w : World) (hE : ErrType w) (hB : Blk w g 46 #[.int .i64 T, .int .i64 p, .iface 24 (.int .i64 n)]) :
    Calls Tryd.prog 21 #[.iface 44 (.pointer (some ⟨g, 0, none⟩))] w fun e w' => e = .returned (.tuple #[.int .i64 n, .int .i64 T, .int .i64 p]) ∧ Below w.heap.size w w' := by
  have hlt := hE.lt
  have hgl := hB.lt
  have HE : Hid (ErrType ((w.alloc (.cells #[.int .i64 0] 24)).alloc (.cells #[.pointer none] 44))) := hE.below (B := w.heap.size) (((Below.refl _ _).alloc (Nat.le_refl _) _).alloc (by simp) _) hlt
  have HF : Hid (Blk ((w.alloc (.cells #[.int .i64 0] 24)).alloc (.cells #[.pointer none] 44)) g 46 #[.int .i64 T, .int .i64 p, .iface 24 (.int .i64 n)]) := (hB.alloc _).alloc _
  clear hE hB
  go_enter Tryd.func21, Tryd.ntmps21
  go_wp2_with fail
  refine (as_FF ⟨g, 0, none⟩ ⟨w.heap.size + 1, 0, none⟩ (.pointer none) _ HE.out (by simp) (by simp)).mono ?_
  rintro e w3 ⟨rfl, hg3, c3, f3⟩
  have c0 : w3.cell? ⟨w.heap.size, 0, none⟩ = some (.int .i64 0) := (hg3.cell_far ⟨w.heap.size, 0, none⟩ (by simp <;> omega) (by simp)).trans (by rw [World.cell?_alloc_lt _ _ ⟨w.heap.size, 0, none⟩ (by simp)]; simp)
  have f0 : w3.frozen? ⟨w.heap.size, 0, none⟩ = false := (hg3.frozen_far ⟨w.heap.size, 0, none⟩ (by simp <;> omega) (by simp)).trans (by rw [World.frozen?_alloc_old _ _ ⟨w.heap.size, 0, none⟩ (by simp)]; simp)
  have HE3 : Hid (ErrType w3) := (hg3.cell_far ⟨0, 0, none⟩ (by simp <;> omega) (by simp <;> omega)).trans HE.out
  have hF3 : Blk w3 g 46 #[.int .i64 T, .int .i64 p, .iface 24 (.int .i64 n)] := (hg3.block g (by simp <;> omega) (by simp <;> omega)).trans HF.out
  have hbw : Below w.heap.size w w3 := (((Below.refl _ _).alloc (Nat.le_refl _) _).alloc (by simp) _).grown hg3 (by simp <;> omega) (by rintro k hk; cases hk; simp)
  have HB := Lib.hid hbw
  obtain ⟨⟨e0, e1, e2⟩, _, _, _⟩ := hF3.three
  have HG3 := Lib.hid hg3.size
  clear hbw hF3 hg3 f3
  go_wp2_with fail
  go_quiet (fail)
  go_wp2_with fail
  refine (as_FE g n ⟨w.heap.size, 0, none⟩ (.int .i64 0) _ (by exact HE3.out) (by exact e2) (by exact c0) (by exact f0)).mono ?_
  rintro e w4 ⟨rfl, hg4, c4, f4⟩
  have HG : Hid (w3.grownBy w4 (some w.heap.size)) := ⟨hg4.os, hg4.tape, hg4.output, hg4.size, hg4.block⟩
  clear hg4
  go_wp2
  refine bodyPost_ret (v := .tuple #[.int .i64 n, .int .i64 T, .int .i64 p]) (by simp [results, Tryd.results21, go_sem, c4]) rfl ⟨rfl, ?_⟩
  have h5 : Below w.heap.size w w4 := HB.out.grown HG.out HB.out.size (by rintro k hk; cases hk; exact Nat.le_refl _)
  exact h5.setCell (Nat.le_refl _) _

/-! ### Is: it says yes where what is told is what is wanted -/
section
variable (w : World)
theorem is_of {err : Value} {n T p : Int} (ht : ∀ W : World, Below w.heap.size w W → Calls Tryd.prog 21 #[err] W fun e w' => e = .returned (.tuple #[.int .i64 n, .int .i64 T, .int .i64 p]) ∧ Below W.heap.size W w') :
    Calls Tryd.prog 8 #[err, .agg #[.int .i64 n, .int .i64 T, .int .i64 p]] w fun e w' => e = .returned (.bool true) ∧ Below w.heap.size w w' := by
  have hb0 : Below w.heap.size w (w.alloc (.cells #[.int .i64 n, .int .i64 T, .int .i64 p] 26)) := (Below.refl _ _).alloc (Nat.le_refl _) _
  have HB0 := Lib.hid hb0
  have C := Lib.hid (ht _ hb0)
  clear hb0 ht
  go_enter Tryd.func8, Tryd.ntmps8
  go_wp2_with fail
  refine C.out.mono ?_
  rintro e w1 ⟨rfl, hb1⟩
  obtain ⟨⟨c0, c1, c2⟩, _, _, _⟩ := ((Blk.new w 26 #[.int .i64 n, .int .i64 T, .int .i64 p]).below hb1 (by simp)).three
  have HB := Lib.hid (HB0.out.trans (hb1.mono (by simp)))
  clear hb1
  go_wp2
  go_ret
  exact ⟨rfl, HB.out⟩
theorem is_nil : Calls Tryd.prog 8 #[.nilIface, .agg #[.int .i64 0, .int .i64 (-1), .int .i64 (-1)]] w fun e w' => e = .returned (.bool true) ∧ Below w.heap.size w w' := is_of w fun W _ => tell_nil W
theorem is_errno (n : Int) (hE : ErrType w) : Calls Tryd.prog 8 #[.iface 24 (.int .i64 n), .agg #[.int .i64 n, .int .i64 (-1), .int .i64 (-1)]] w fun e w' => e = .returned (.bool true) ∧ Below w.heap.size w w' :=
  is_of w fun W hW => tell_errno n W (hE.below hW hE.lt)
theorem is_fault (g : Nat) (T p n : Int) (hE : ErrType w) (hB : Blk w g 46 #[.int .i64 T, .int .i64 p, .iface 24 (.int .i64 n)]) :
    Calls Tryd.prog 8 #[.iface 44 (.pointer (some ⟨g, 0, none⟩)), .agg #[.int .i64 n, .int .i64 T, .int .i64 p]] w fun e w' => e = .returned (.bool true) ∧ Below w.heap.size w w' :=
  is_of w fun W hW => tell_fault g T p n W (hE.below hW hE.lt) (hB.below hW hB.lt)
end
end Go.Proofs.YtneohanphabneaaDoor
