/-
  Contracts of the program's parser: its small functions.
-/
import Derived.Test.YtneohanphabneaaGreatDoorMPm
import Derived.Test.YtneohanphabneaaGreatDoorMFn
import Derived.Maps.OwnSet
namespace Go.Proofs.YtneohanphabneaaGreatDoor
open Go.RowKit

theorem bytes_beq (a b : ByteArray) : (a.toList == b.toList) = decide (a = b) := by
  rw [Lib.toList_data, Lib.toList_data, Bool.eq_iff_iff]
  simp only [beq_iff_eq, decide_eq_true_eq]
  constructor
  · intro h
    rcases a with ⟨⟨a⟩⟩; rcases b with ⟨⟨b⟩⟩
    simp at h; rw [h]
  · intro h; rw [h]
theorem isW_beq (l : List Sc.Tok) (i : Nat) (s : ByteArray) : ((Ps.W l i).toList == s.toList) = Ps.isW l i s := bytes_beq _ _

theorem isW_empty (l : List Sc.Tok) (i : Nat) : (Ps.W l i).toList.isEmpty = Ps.isW l i ⟨#[]⟩ := by
  rw [← isW_beq, Bool.eq_iff_iff]
  simp only [List.isEmpty_iff, beq_iff_eq]
  rw [show (ByteArray.mk #[]).toList = [] from by rw [Lib.toList_data]]
theorem pfail_any {w : World} {p T : Nat} {l : List Sc.Tok} {i d : Nat} (h : PS w p T l i d) (n : Nat) : Calls Tryz.prog 67 #[pp p, .int .i64 n] w fun e w' =>
    Pan w' p n (Ps.A l i) e ∧ Kp w.heap.size p w w' := by
  obtain ⟨c, hc, hb, ⟨h1, h2⟩, ⟨h3, h4⟩, h5, h6, h7, hlt⟩ := h.facts
  unfold pp
  go_enter Tryz.func67, Tryz.ntmps67
  go_wp2
  exact ⟨rfl, ⟨_, rfl, Blk.new _ _ _, _, _, hb.alloc _⟩, (Kp.refl _ _ _).alloc (Nat.le_refl _) _⟩
theorem pis_any {w : World} {p T : Nat} {l : List Sc.Tok} {i d : Nat} (h : PS w p T l i d) (s : ByteArray) : Calls Tryz.prog 24 #[pp p, .string s] w fun e w' =>
    e = .returned (.bool (Ps.isW l i s)) ∧ w = w' := by
  obtain ⟨c, hc, hb, ⟨h1, h2⟩, ⟨h3, h4⟩, h5, h6, h7, hlt⟩ := h.facts
  unfold pp
  go_enter Tryz.func24, Tryz.ntmps24
  go_wp2
  go_ret
  exact ⟨ret_bool (isW_beq l i s), rfl⟩
theorem pnode_any {w : World} {p T : Nat} {l : List Sc.Tok} {i d : Nat} (h : PS w p T l i d) (k : Nat) : Calls Tryz.prog 52 #[pp p, .int .i64 k] w fun e w' =>
    e = .returned (nodeV k ⟨#[]⟩ 0 (Ps.A l i) (.slice none 0 0)) ∧ Below w.heap.size w w' := by
  obtain ⟨c, hc, hb, ⟨h1, h2⟩, ⟨h3, h4⟩, h5, h6, h7, hlt⟩ := h.facts
  unfold pp
  go_enter Tryz.func52, Tryz.ntmps52
  go_wp2
  exact bodyPost_ret (v := nodeV k ⟨#[]⟩ 0 (Ps.A l i) (.slice none 0 0)) (by simp [results, Tryz.results52, go_sem, nodeV]) rfl ⟨rfl, (Below.refl _ _).alloc (Nat.le_refl _) _⟩
theorem pwant_any {w : World} {p T : Nat} {l : List Sc.Tok} {i d : Nat} (h : PS w p T l i d) : Calls Tryz.prog 25 #[pp p] w fun e w' =>
    Pan w' p (Ps.wantN l i) (Ps.A l i) e ∧ Kp w.heap.size p w w' := by
  obtain ⟨c, hc, hb, ⟨h1, h2⟩, ⟨h3, h4⟩, h5, h6, h7, hlt⟩ := h.facts
  have hf := Lib.hid (fun n => pfail_any h n)
  unfold pp at *
  have he := isW_empty l i
  rcases hw : Ps.isW l i ⟨#[]⟩ with _ | _
  all_goals
    rw [hw] at he
    go_enter Tryz.func25, Tryz.ntmps25
    go_wp2_with fail
    refine (hf.out _).mono ?_
    rintro e w1 ⟨⟨g, rfl, hg⟩, hk⟩
    refine ⟨rfl, ?_, hk⟩
    rw [show Ps.wantN l i = _ from by unfold Ps.wantN; rw [hw]]
    exact ⟨g, rfl, hg⟩
theorem ptake_no {w : World} {p T : Nat} {l : List Sc.Tok} {i d : Nat} (h : PS w p T l i d) {s : ByteArray} (hw : Ps.isW l i s = false) : Calls Tryz.prog 55 #[pp p, .string s] w fun e w' =>
    e = .returned (.bool false) ∧ w = w' := by
  have hI := Lib.hid (pis_any h s)
  rw [hw] at hI
  unfold pp at *
  go_enter Tryz.func55, Tryz.ntmps55
  go_wp2_with (go_at_call 24; refine hI.out.mono ?_; rintro e w' ⟨rfl, rfl⟩)
  go_ret
  exact ⟨rfl, rfl⟩
/-- The parser's block behind a word that was taken. -/
theorem PS.next {w : World} {p T : Nat} {l : List Sc.Tok} {i d c : Nat} (h : PS w p T l i d) (hi : i + 1 < l.length) (hc : l.length - i ≤ c) (hb : Blk w p 64 #[.slice (some ⟨T, 2 * i, none⟩) (l.length - i) c, .int .i64 d]) :
    PS (w.setCell ⟨p, 0, none⟩ (.slice (some ⟨T, 2 * i + 2, none⟩) (l.length - i - 1) (c - 1))) p T l (i + 1) d := by
  refine ⟨⟨c - 1, by omega, ?_⟩, h.tok.same (Below.heap_setCell w _ _ T (by have := h.ne; show T ≠ p; omega)), h.ne, hi, h.hd, h.last, h.good, h.small, h.lv.same fun k hk => Below.heap_setCell w _ _ k (by show k ≠ p; omega)⟩
  have := hb.set 0 (.slice (some ⟨T, 2 * i + 2, none⟩) (l.length - i - 1) (c - 1))
  rw [show 2 * (i + 1) = 2 * i + 2 from by omega, show l.length - (i + 1) = l.length - i - 1 from by omega]
  exact this
theorem ptake_yes {w : World} {p T : Nat} {l : List Sc.Tok} {i d : Nat} (h : PS w p T l i d) {s : ByteArray} (hw : Ps.isW l i s = true) (hs : s ≠ ⟨#[]⟩) : Calls Tryz.prog 55 #[pp p, .string s] w fun e w' =>
    e = .returned (.bool true) ∧ Kp w.heap.size p w w' ∧ PS w' p T l (i + 1) d := by
  obtain ⟨c, hc, hb, ⟨h1, h2⟩, ⟨h3, h4⟩, h5, h6, h7, hlt⟩ := h.facts
  have hI := Lib.hid (pis_any h s)
  have hi := Ps.isW_lt h.last h.hi hw hs
  rw [hw] at hI
  unfold pp at *
  go_enter Tryz.func55, Tryz.ntmps55
  go_wp2_with (go_at_call 24; refine hI.out.mono ?_; rintro e w' ⟨rfl, rfl⟩)
  go_ret
  exact ⟨rfl, (Kp.refl _ _ _).setCell (x := ⟨p, 0, none⟩) (.inr rfl) _, h.next hi hc hb⟩
theorem pmust_any {w : World} {p T : Nat} {l : List Sc.Tok} {i d : Nat} (h : PS w p T l i d) (s : ByteArray) (hs : s ≠ ⟨#[]⟩) : Calls Tryz.prog 53 #[pp p, .string s] w fun e w' =>
    PU p T l d (Ps.must l s i) e w' ∧ Kp w.heap.size p w w' := by
  have hW := Lib.hid (pwant_any h)
  rcases hw : Ps.isW l i s with _ | _
  · rw [Ps.must_no hw]
    have hN := Lib.hid (ptake_no h hw)
    unfold pp at *
    go_enter Tryz.func53, Tryz.ntmps53
    go_wp2_with (go_at_call 55; refine hN.out.mono ?_; rintro e w' ⟨rfl, rfl⟩)
    refine hW.out.mono ?_
    rintro e w1 ⟨⟨g, rfl, hg⟩, hk⟩
    exact ⟨rfl, ⟨g, rfl, hg⟩, hk⟩
  · rw [Ps.must_yes hw]
    have hN := Lib.hid (ptake_yes h hw hs)
    unfold pp at *
    go_enter Tryz.func53, Tryz.ntmps53
    go_wp2_with (go_at_call 55; refine hN.out.mono ?_; rintro e w1 ⟨rfl, hk, hp⟩)
    go_end0
    exact ⟨⟨rfl, hp⟩, hk⟩
end Go.Proofs.YtneohanphabneaaGreatDoor
/-
  The program's kept words: a map literal; what is a name, on both sides.
-/
namespace Go.Proofs.YtneohanphabneaaGreatDoor
open Go.RowKit

theorem ba_beq (a b : ByteArray) : (a == b) = decide (a = b) := by
  show (a.data == b.data) = _
  rw [Bool.eq_iff_iff]
  simp only [beq_iff_eq, decide_eq_true_eq]
  constructor
  · intro h
    rcases a with ⟨a⟩; rcases b with ⟨b⟩
    simp at h; rw [h]
  · intro h; rw [h]
def ents : List ByteArray → Nat → List MapEntry
  | [], _ => []
  | k :: r, n => { key := .string k, val := .bool true, born := n } :: ents r (n + 1)
theorem ents_snoc (k : ByteArray) : ∀ (ks : List ByteArray) (n : Nat), ents (ks ++ [k]) n = ents ks n ++ [{ key := .string k, val := .bool true, born := n + ks.length }]
  | [], n => by simp [ents]
  | x :: ks, n => by simp [ents, ents_snoc k ks (n + 1)]; omega
/-- The block g is the map of those words. -/
def MB (w : World) (g : Nat) (ks : List ByteArray) : Prop := w.heap[g]? = some (.map (ents ks 0).toArray ks.length)
theorem findNow_ents (k : ByteArray) : ∀ (ks : List ByteArray) (n i : Nat), ((ks.any fun x => decide (x = k)) = false → Instr.findNow .string (.string k) (ents ks n) i = some none) ∧ ((ks.any fun x => decide (x = k)) = true → ∃ j, Instr.findNow .string (.string k) (ents ks n) i = some (some (j, .bool true)))
  | [], n, i => ⟨fun _ => rfl, fun h => by cases h⟩
  | x :: ks, n, i => by
    have ih := findNow_ents k ks (n + 1) (i + 1)
    by_cases hx : x = k
    · subst hx
      refine ⟨fun h => by simp at h, fun _ => ⟨i, ?_⟩⟩
      simp only [ents, Instr.findNow, Instr.sameNow, ba_beq, decide_true]
    · have hx' : ¬ k = x := fun e => hx e.symm
      refine ⟨fun h => ?_, fun h => ?_⟩
      · simp only [List.any_cons, Bool.or_eq_false_iff] at h
        have := ih.1 h.2
        simp only [ents, Instr.findNow, Instr.sameNow, ba_beq, decide_eq_false hx', this]
      · simp only [List.any_cons, Bool.or_eq_true, decide_eq_true_eq] at h
        rcases h with h | h
        · exact absurd h hx
        · obtain ⟨j, hj⟩ := ih.2 h
          exact ⟨j, by simp only [ents, Instr.findNow, Instr.sameNow, ba_beq, decide_eq_false hx', hj]⟩
theorem MB.lt {w : World} {g : Nat} {ks : List ByteArray} (h : MB w g ks) : g < w.heap.size := by
  rcases Nat.lt_or_ge g w.heap.size with hlt | hge
  · exact hlt
  · unfold MB at h; rw [Array.getElem?_eq_none hge] at h; cases h
theorem run_put {w : World} {g : Nat} {ks : List ByteArray} (h : MB w g ks) (k : ByteArray) (hk : (ks.any fun x => decide (x = k)) = false) :
    ∃ w', (Instr.mapUpdate 130 (.map (some g)) (.string k) (.bool true)).run Tryz.prog w = .ok () w' ∧ MB w' g (ks ++ [k]) ∧ Below g w w' := by
  have hf := (findNow_ents k ks 0 0).1 hk
  unfold MB at h
  have hset := MapKept.heap_set (o' := .map (ents (ks ++ [k]) 0).toArray (ks ++ [k]).length) h
  refine ⟨{ w with heap := w.heap.setIfInBounds g (.map (ents (ks ++ [k]) 0).toArray (ks ++ [k]).length) }, ?_, hset.1, ⟨rfl, rfl, rfl, by simp, fun i hi => hset.2 i (by omega)⟩⟩
  · unfold Instr.mapUpdate
    simp only [Sem.run_bind, run_underlying Tryz.underlying130, Result.andThen, MapKept.run_getObj_map h, MapKept.run_checkKey Tryz.underlying9 (k := .string k) trivial, MapKept.run_findKey Tryz.underlying9 hf, MapKept.run_setObj_map _ h]
    simp [ents_snoc]
theorem run_get {w : World} {g : Nat} {ks : List ByteArray} (h : MB w g ks) (k : ByteArray) :
    (Instr.lookup 130 (.map (some g)) (.string k) false).run Tryz.prog w = .ok (.bool (ks.any fun x => decide (x = k))) w := by
  unfold MB at h
  rcases hk : (ks.any fun x => decide (x = k)) with _ | _
  · have hf := (findNow_ents k ks 0 0).1 hk
    unfold Instr.lookup
    simp only [Sem.run_bind, run_underlying Tryz.underlying130, Result.andThen, MapKept.run_getObj_map h, MapKept.run_checkKey Tryz.underlying9 (k := .string k) trivial]
    simp [go_sem, MapKept.run_findKey Tryz.underlying9 hf]
  · obtain ⟨j, hf⟩ := (findNow_ents k ks 0 0).2 hk
    unfold Instr.lookup
    simp only [Sem.run_bind, run_underlying Tryz.underlying130, Result.andThen, MapKept.run_getObj_map h, MapKept.run_checkKey Tryz.underlying9 (k := .string k) trivial]
    simp [go_sem, MapKept.run_findKey Tryz.underlying9 hf]
/-- A word put into a map literal, at the operation. -/
theorem wp_put {ops : Array Oper} {rest : List Oper} {o : Oper} {a : Act} {Q : Exit → Act → World → Prop} {B : Nat} (w0 w : World) (hg : o.guard = none) (m x v : Operand) (hop : o.op = .insert 130 m x v) (g : Nat) (ks : List ByteArray) (k : ByteArray)
    (hm : a.eval m = .map (some g)) (hx : a.eval x = .string k) (hv : a.eval v = .bool true) (h : MB w g ks) (hk : (ks.any fun x => decide (x = k)) = false) (hB : B ≤ g) (hb : Below B w0 w)
    (hK : ∀ w', MB w' g (ks ++ [k]) → Below B w0 w' → wpList Tryz.prog ops Q rest (a.put o.dst undef) w') : wpList Tryz.prog ops Q (o :: rest) a w := by
  refine wpList_plain hg fun K' hK' => ?_
  obtain ⟨w', hrun, r1, r2⟩ := run_put h k hk
  unfold Oper.wp
  simp [execOp, hop, hm, hx, hv, hrun, Result.andThen]
  exact hK' _ _ (hK w' r1 (hb.trans (r2.mono hB)))
set_option maxRecDepth 100000 in
set_option maxHeartbeats 4000000 in
theorem keptMap_any (w : World) : Calls Tryz.prog 168 #[] w fun e w' => ∃ g, e = .returned (.map (some g)) ∧ (∀ s, (Instr.lookup 130 (.map (some g)) (.string s) false).run Tryz.prog w' = .ok (.bool (Ps.isKept s)) w') ∧ Below w.heap.size w w' := by
  have hM0 : MB (w.alloc (.map #[] 0)) w.heap.size [] := heap_alloc_new w _
  have hB0 : Below w.heap.size w (w.alloc (.map #[] 0)) := (Below.refl _ _).alloc (Nat.le_refl _) _
  have hmk := fun ty => run_makeMap (P := Tryz.prog) ty w
  go_enter Tryz.func168, Tryz.ntmps168
  go_wp2_with (first | (refine wp_put w _ rfl _ _ _ rfl w.heap.size _ _ (by rfl) (by rfl) (by rfl) (by assumption) (by rfl) (Nat.le_refl _) (by assumption) ?_; intro w1 hm1 hb1))
  go_ret
  exact ⟨w.heap.size, rfl, fun s => run_get (ks := Ps.kept) hm1 s, hb1⟩
theorem kept_any (s : ByteArray) (w : World) : Calls Tryz.prog 124 #[.string s] w fun e w' => e = .returned (.bool (Ps.isKept s)) ∧ Below w.heap.size w w' := by
  go_enter Tryz.func124, Tryz.ntmps124
  go_wp2_with fail
  refine (keptMap_any w).mono ?_
  rintro e w1 ⟨g, rfl, hm, hb⟩
  have hget := hm s
  clear hm
  go_wp2_with fail
  go_ret
  exact ⟨rfl, hb⟩
end Go.Proofs.YtneohanphabneaaGreatDoor
