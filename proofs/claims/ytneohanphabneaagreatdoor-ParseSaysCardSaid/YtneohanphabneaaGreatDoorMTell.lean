/-
  Tell and Is: what an error tells.
-/
import Derived.Test.YtneohanphabneaaGreatDoorAs
import Derived.Deep.QuietTactic
import Derived.BigQuiet
import Derived.Test.YtneohanphabneaaGreatDoorMPm
import Derived.Lib.LaidU8
import Derived.Deep.Slices
namespace Go.Proofs.YtneohanphabneaaGreatDoor
open Go.RowKit

/-- The package variable that errors.As asks. -/
def ErrType (w : World) : Prop := w.cell? ⟨0, 0, none⟩ = some (.iface 138 (.agg #[.pointer (some ⟨11, 32, none⟩)]))
theorem ErrType.lt {w : World} (h : ErrType w) : 0 < w.heap.size := by
  unfold ErrType at h
  rcases Nat.lt_or_ge 0 w.heap.size with h' | h'
  · exact h'
  · simp [World.cell?, Array.getElem?_eq_none h'] at h
theorem ErrType.below {w w' : World} {B : Nat} (h : ErrType w) (hb : Below B w w') (hB : 0 < B) : ErrType w' := (hb.cell (p := ⟨0, 0, none⟩) hB).trans h

theorem tell_nil (w : World) : Calls Tryz.prog 13 #[.nilIface] w fun e w' => e = .returned (.tuple #[.int .i64 0, .int .i64 (-1), .int .i64 (-1)]) ∧ Below w.heap.size w w' := by
  go_enter Tryz.func13, Tryz.ntmps13
  go_wp2
  refine bodyPost_ret (v := .tuple #[.int .i64 0, .int .i64 (-1), .int .i64 (-1)]) (by simp [results, Tryz.results13, go_sem]) rfl ⟨rfl, (Below.refl _ _).alloc (Nat.le_refl _) _⟩
set_option maxHeartbeats 1000000 in
theorem tell_errno (n : Int) (w : World) (hE : ErrType w) : Calls Tryz.prog 13 #[.iface 26 (.int .i64 n)] w fun e w' => e = .returned (.tuple #[.int .i64 n, .int .i64 (-1), .int .i64 (-1)]) ∧ Below w.heap.size w w' := by
  have hlt := hE.lt
  have HE : Hid (ErrType ((w.alloc (.cells #[.int .i64 0] 26)).alloc (.cells #[.pointer none] 58))) := hE.below (B := w.heap.size) (((Below.refl _ _).alloc (Nat.le_refl _) _).alloc (by simp) _) hlt
  clear hE
  go_enter Tryz.func13, Tryz.ntmps13
  go_wp2_with fail
  refine (as_EF n ⟨w.heap.size + 1, 0, none⟩ (.pointer none) _ HE.out (by simp) (by simp)).mono ?_
  rintro e w3 ⟨rfl, hb3⟩
  have c3 : w3.cell? ⟨w.heap.size, 0, none⟩ = some (.int .i64 0) := (hb3.cell (p := ⟨w.heap.size, 0, none⟩) (by simp <;> omega)).trans (by rw [World.cell?_alloc_lt _ _ ⟨w.heap.size, 0, none⟩ (by simp)]; simp)
  have f3 : w3.frozen? ⟨w.heap.size, 0, none⟩ = false := (hb3.frozen (p := ⟨w.heap.size, 0, none⟩) (by simp <;> omega)).trans (by rw [World.frozen?_alloc_old _ _ ⟨w.heap.size, 0, none⟩ (by simp)]; simp)
  have HE3 : Hid (ErrType w3) := HE.out.below hb3 (by simp <;> omega)
  have hbw : Below w.heap.size w w3 := (((Below.refl _ _).alloc (Nat.le_refl _) _).alloc (by simp) _).trans (hb3.mono (by simp <;> omega))
  have HB := Lib.hid hbw
  have HB3 := Lib.hid hb3.size
  clear hbw hb3
  have C := Lib.hid (as_EE n ⟨w.heap.size, 0, none⟩ (.int .i64 0) w3 HE3.out c3 f3)
  clear c3 f3
  go_wp2_with fail
  refine C.out.mono ?_
  rintro e w4 ⟨rfl, hg4, c4, f4⟩
  have HG := Lib.hid hg4
  clear hg4
  go_wp2
  refine bodyPost_ret (v := .tuple #[.int .i64 n, .int .i64 (-1), .int .i64 (-1)]) (by simp [results, Tryz.results13, go_sem, c4]) rfl ⟨rfl, ?_⟩
  have h5 : Below w.heap.size w w4 := HB.out.grown HG.out HB.out.size (by rintro k hk; cases hk; exact Nat.le_refl _)
  exact h5.setCell (Nat.le_refl _) _
set_option maxHeartbeats 1000000 in
theorem tell_fault (g : Nat) (T p n : Int) (w : World) (hE : ErrType w) (hB : Blk w g 81 #[.int .i64 T, .int .i64 p, .iface 26 (.int .i64 n)]) :
    Calls Tryz.prog 13 #[.iface 58 (.pointer (some ⟨g, 0, none⟩))] w fun e w' => e = .returned (.tuple #[.int .i64 n, .int .i64 T, .int .i64 p]) ∧ Below w.heap.size w w' := by
  have hlt := hE.lt
  have hgl := hB.lt
  have HE : Hid (ErrType ((w.alloc (.cells #[.int .i64 0] 26)).alloc (.cells #[.pointer none] 58))) := hE.below (B := w.heap.size) (((Below.refl _ _).alloc (Nat.le_refl _) _).alloc (by simp) _) hlt
  have HF : Hid (Blk ((w.alloc (.cells #[.int .i64 0] 26)).alloc (.cells #[.pointer none] 58)) g 81 #[.int .i64 T, .int .i64 p, .iface 26 (.int .i64 n)]) := (hB.alloc _).alloc _
  clear hE hB
  go_enter Tryz.func13, Tryz.ntmps13
  go_wp2_with fail
  refine (as_FF ⟨g, 0, none⟩ ⟨w.heap.size + 1, 0, none⟩ (.pointer none) _ HE.out (by simp) (by simp)).mono ?_
  rintro e w3 ⟨rfl, hg3, c3, f3⟩
  have c0 : w3.cell? ⟨w.heap.size, 0, none⟩ = some (.int .i64 0) := (hg3.cell_far ⟨w.heap.size, 0, none⟩ (by simp <;> omega) (by simp)).trans (by rw [World.cell?_alloc_lt _ _ ⟨w.heap.size, 0, none⟩ (by simp)]; simp)
  have f0 : w3.frozen? ⟨w.heap.size, 0, none⟩ = false := (hg3.frozen_far ⟨w.heap.size, 0, none⟩ (by simp <;> omega) (by simp)).trans (by rw [World.frozen?_alloc_old _ _ ⟨w.heap.size, 0, none⟩ (by simp)]; simp)
  have HE3 : Hid (ErrType w3) := (hg3.cell_far ⟨0, 0, none⟩ (by simp <;> omega) (by simp <;> omega)).trans HE.out
  have hF3 : Blk w3 g 81 #[.int .i64 T, .int .i64 p, .iface 26 (.int .i64 n)] := (hg3.block g (by simp <;> omega) (by simp <;> omega)).trans HF.out
  have hbw : Below w.heap.size w w3 := (((Below.refl _ _).alloc (Nat.le_refl _) _).alloc (by simp) _).grown hg3 (by simp <;> omega) (by rintro k hk; cases hk; simp)
  have HB := Lib.hid hbw
  obtain ⟨⟨e0, e1, e2⟩, _, _, _⟩ := hF3.three
  have HG3 := Lib.hid hg3.size
  clear hbw hF3 hg3 f3
  go_wp2_with fail
  go_quiet (fail)
  go_wp2_with fail
  refine (as_FE g n ⟨w.heap.size, 0, none⟩ (.int .i64 0) _ (by exact HE3.out) (by exact e2) (by exact c0) (by exact f0)).mono ?_
  rintro e w4 ⟨rfl, hg4, c4, f4⟩
  have HG : Hid (w3.grownBy w4 (some w.heap.size)) := ⟨hg4.os, hg4.tape, hg4.output, hg4.size, hg4.block⟩
  clear hg4
  go_wp2
  refine bodyPost_ret (v := .tuple #[.int .i64 n, .int .i64 T, .int .i64 p]) (by simp [results, Tryz.results13, go_sem, c4]) rfl ⟨rfl, ?_⟩
  have h5 : Below w.heap.size w w4 := HB.out.grown HG.out HB.out.size (by rintro k hk; cases hk; exact Nat.le_refl _)
  exact h5.setCell (Nat.le_refl _) _

/-! ### Is: it says yes where what is told is what is wanted -/
section
variable (w : World)
theorem is_of {err : Value} {n T p : Int} (ht : ∀ W : World, Below w.heap.size w W → Calls Tryz.prog 13 #[err] W fun e w' => e = .returned (.tuple #[.int .i64 n, .int .i64 T, .int .i64 p]) ∧ Below W.heap.size W w') :
    Calls Tryz.prog 8 #[err, .agg #[.int .i64 n, .int .i64 T, .int .i64 p]] w fun e w' => e = .returned (.bool true) ∧ Below w.heap.size w w' := by
  have hb0 : Below w.heap.size w (w.alloc (.cells #[.int .i64 n, .int .i64 T, .int .i64 p] 28)) := (Below.refl _ _).alloc (Nat.le_refl _) _
  have HB0 := Lib.hid hb0
  have C := Lib.hid (ht _ hb0)
  clear hb0 ht
  go_enter Tryz.func8, Tryz.ntmps8
  go_wp2_with fail
  refine C.out.mono ?_
  rintro e w1 ⟨rfl, hb1⟩
  obtain ⟨⟨c0, c1, c2⟩, _, _, _⟩ := ((Blk.new w 28 #[.int .i64 n, .int .i64 T, .int .i64 p]).below hb1 (by simp)).three
  have HB := Lib.hid (HB0.out.trans (hb1.mono (by simp)))
  clear hb1
  go_wp2
  go_ret
  exact ⟨rfl, HB.out⟩
theorem is_nil : Calls Tryz.prog 8 #[.nilIface, .agg #[.int .i64 0, .int .i64 (-1), .int .i64 (-1)]] w fun e w' => e = .returned (.bool true) ∧ Below w.heap.size w w' := is_of w fun W _ => tell_nil W
theorem is_errno (n : Int) (hE : ErrType w) : Calls Tryz.prog 8 #[.iface 26 (.int .i64 n), .agg #[.int .i64 n, .int .i64 (-1), .int .i64 (-1)]] w fun e w' => e = .returned (.bool true) ∧ Below w.heap.size w w' :=
  is_of w fun W hW => tell_errno n W (hE.below hW hE.lt)
theorem is_fault (g : Nat) (T p n : Int) (hE : ErrType w) (hB : Blk w g 81 #[.int .i64 T, .int .i64 p, .iface 26 (.int .i64 n)]) :
    Calls Tryz.prog 8 #[.iface 58 (.pointer (some ⟨g, 0, none⟩)), .agg #[.int .i64 n, .int .i64 T, .int .i64 p]] w fun e w' => e = .returned (.bool true) ∧ Below w.heap.size w w' :=
  is_of w fun W hW => tell_fault g T p n W (hE.below hW hE.lt) (hB.below hW hB.lt)
end
end Go.Proofs.YtneohanphabneaaGreatDoor
/-
  What a row lists of the kept words and of the operators, as it lies in memory.
-/
namespace Go.Proofs.YtneohanphabneaaGreatDoor
open Go.RowKit Ps
open Go.Deep (open_slice open_slice1)

def strD (ks : List ByteArray) : DataW Unit := .slice (ks.map fun k => .lit (.string k.data.toList)) []
theorem trod_string {w : World} {n : Nat} {v : Value} {s : List UInt8} {p : List MemPlace} (h : DataW.trod (fun _ => ()) Tryz.prog w 0 (fun _ => true) false n 9 [v] = some (.lit (.string s), p)) : v = .string ⟨s.toArray⟩ := by
  cases n with
  | zero => simp [DataW.trod] at h
  | succ n =>
    unfold DataW.trod at h
    simp only [Tryz.underlying9] at h
    split at h <;> simp_all
    rename_i s0 _ _
    obtain ⟨_, h1, _⟩ := h
    rw [← h1]
theorem cell_lt {w : World} {b o : Nat} {sp : Option Nat} {v : Value} (h : w.cell? ⟨b, o, sp⟩ = some v) : b < w.heap.size := by
  rcases Nat.lt_or_ge b w.heap.size with h1 | h1
  · exact h1
  · unfold World.cell? at h
    rw [Array.getElem?_eq_none h1] at h
    cases h
theorem trod_slice_c {w : World} {t e : TypeId} {fuel : Nat} {v : Value} {ds : List (DataW Unit)} {p : List MemPlace} (ht : Tryz.prog.underlying t = some (.slice e)) (hc : Tryz.prog.cellsOf e = 1) (hks : ds ≠ []) (h : DataW.trod (fun _ => ()) Tryz.prog w 0 (fun _ => true) false fuel t [v] = some (.slice ds [], p)) :
    ∃ b o c n, v = .slice (some ⟨b, o, none⟩) ds.length c ∧ ds.length ≤ c ∧ b < w.heap.size ∧ ∀ i (h : i < ds.length), ∃ u q, w.cell? ⟨b, o + i, none⟩ = some u ∧ DataW.trod (fun _ => ()) Tryz.prog w 0 (fun _ => true) false n e [u] = some (ds[i], q) := by
  rcases open_slice1 ht hc h with ⟨_, hx⟩ | ⟨a, len, cap, m, n, V, D, Pl, hv, hb, hl, hm, hmm, hx, hel⟩
  · cases hx
  · simp only [List.cons.injEq, and_true] at hv
    subst hv
    simp only [Prod.mk.injEq, DataW.slice.injEq] at hx
    obtain ⟨⟨hd, hr⟩, _⟩ := hx
    have hlen : len = ds.length := by rw [hd]; simp
    subst hlen
    simp only [if_true] at hmm
    have hpos : 0 < ds.length := List.length_pos_iff.2 hks
    obtain ⟨b, o, sp⟩ := a
    have h0 := (hel 0 (by omega)).1
    have e0 : (⟨b, o, sp⟩ : Addr).add 0 = ⟨b, o, sp⟩ := by unfold Addr.add; rfl
    rw [e0] at h0
    have hsp := cell_spot h0
    subst hsp
    refine ⟨b, o, cap, n, rfl, hl, cell_lt h0, fun i hi => ⟨V i, Pl i, ?_, ?_⟩⟩
    · have h1 := (hel i (by omega)).1
      have ea : (⟨b, o, none⟩ : Addr).add i = ⟨b, o + i, none⟩ := by
        unfold Addr.add
        by_cases hz : i = 0
        · rw [if_pos hz, hz]; rfl
        · rw [if_neg hz]
      rw [ea] at h1
      exact h1
    · have := (hel i (by omega)).2
      rw [this]
      have e : ds[i] = D i := by
        have h2 : ds[i]? = some (D i) := by rw [hd]; simp [hi]
        rw [List.getElem?_eq_getElem hi] at h2
        exact Option.some.inj h2
      rw [e]
theorem read_strs {w : World} {fuel : Nat} {v : Value} {ks : List ByteArray} {p : List MemPlace} (hks : ks ≠ []) (h : DataW.trod (fun _ => ()) Tryz.prog w 0 (fun _ => true) false fuel 38 [v] = some (strD ks, p)) :
    ∃ b o c, v = .slice (some ⟨b, o, none⟩) ks.length c ∧ ks.length ≤ c ∧ b < w.heap.size ∧ Strs w b o ks := by
  obtain ⟨b, o, c, n, h1, h2, h3, h4⟩ := trod_slice_c Tryz.underlying38 (by kernel_rfl) (by simpa using hks) h
  rw [List.length_map] at h1 h2
  refine ⟨b, o, c, h1, h2, h3, fun j hj => ?_⟩
  obtain ⟨u, q, h5, h6⟩ := h4 j (by simpa using hj)
  rw [List.getElem_map] at h6
  rw [h5, trod_string h6]
theorem global_lt {w : World} {n : String} {g : Nat} {cs : Array Value} (hg : Tryz.prog.globalNamed n = some g) (hv : w.var? Tryz.prog n = some cs) (hc : 0 < cs.size) : g < w.heap.size ∧ w.cell? ⟨g, 0, none⟩ = some cs[0] := by
  have h := World.var?_cell hg hv 0
  have h2 : w.cell? ⟨g, 0, none⟩ = some cs[0] := by rw [h, Array.getElem?_eq_getElem hc]
  exact ⟨cell_lt h2, h2⟩
theorem g_kept : Tryz.prog.globalNamed "oberlin/oberlinref.kept" = some 2 := by kernel_rfl
theorem g_levels : Tryz.prog.globalNamed "oberlin/parse.levels" = some 1 := by kernel_rfl
theorem one_cell {w : World} {fuel : Nat} {t e : TypeId} {cs : List Value} {ds : List (DataW Unit)} {p : List MemPlace} (ht : Tryz.prog.underlying t = some (.slice e)) (h : DataW.trod (fun _ => ()) Tryz.prog w 0 (fun _ => true) false fuel t cs = some (.slice ds [], p)) : ∃ v, cs = [v] := by
  rcases open_slice ht h with ⟨rfl, _⟩ | ⟨_, _, _, _, _, _, _, rfl, _⟩
  · exact ⟨_, rfl⟩
  · exact ⟨_, rfl⟩
theorem kept_laid {w : World} (h : Lib.VarReads Tryz.prog w "oberlin/oberlinref.kept" (strD Ps.kept)) : Kl w w.heap.size := by
  obtain ⟨g, t, cs, fuel, p, h1, h2, h3, h4⟩ := h
  obtain rfl := Option.some.inj (g_kept.symm.trans h1)
  have ht : (Tryz.prog.globals[2]?).map (·.type) = some 38 := by kernel_rfl
  obtain rfl := Option.some.inj (ht.symm.trans h2)
  obtain ⟨v, hcs⟩ := one_cell Tryz.underlying38 h4
  rw [hcs] at h4
  obtain ⟨b, o, c, rfl, g2, g3, g4⟩ := read_strs (by decide) h4
  have hsz : cs = #[.slice (some ⟨b, o, none⟩) Ps.kept.length c] := by rw [← Array.toArray_toList (xs := cs), hcs]
  subst hsz
  obtain ⟨g5, g6⟩ := global_lt g_kept h3 (by simp)
  exact ⟨g5, b, o, c, g3, g2, g6, g4⟩
def levD : DataW Unit := .slice (Ps.levels.map strD) []
theorem levels_laid {w : World} (h : Lib.VarReads Tryz.prog w "oberlin/parse.levels" levD) : Lv w w.heap.size := by
  obtain ⟨g, t, cs, fuel, p, h1, h2, h3, h4⟩ := h
  obtain rfl := Option.some.inj (g_levels.symm.trans h1)
  have ht : (Tryz.prog.globals[1]?).map (·.type) = some 163 := by kernel_rfl
  obtain rfl := Option.some.inj (ht.symm.trans h2)
  obtain ⟨v, hcs⟩ := one_cell Tryz.underlying163 h4
  rw [hcs] at h4
  obtain ⟨b, o, c, n, rfl, g2, g3, g4⟩ := trod_slice_c Tryz.underlying163 (by kernel_rfl) (by decide) h4
  have hsz : cs = #[.slice (some ⟨b, o, none⟩) (Ps.levels.map strD).length c] := by rw [← Array.toArray_toList (xs := cs), hcs]
  subst hsz
  obtain ⟨g5, g6⟩ := global_lt g_levels h3 (by simp)
  refine ⟨g5, b, o, c, g3, g6, fun k hk => ?_⟩
  obtain ⟨u, q, h5, h6⟩ := g4 k (by simpa using hk)
  rw [List.getElem_map] at h6
  obtain ⟨b1, o1, c1, rfl, _, g8, g9⟩ := read_strs (by
    have : ∀ x ∈ Ps.levels, x ≠ [] := by decide
    exact this _ (List.getElem_mem hk)) h6
  exact ⟨b1, o1, c1, g8, h5, g9⟩
end Go.Proofs.YtneohanphabneaaGreatDoor
