/-
  What the program's parser knows of memory: its block, the row of words; what its functions leave as it is.
-/
import Derived.Test.YtneohanphabneaaGreatDoorMFn
import Derived.Deep.QuietTactic
import Derived.BigQuiet
import Derived.Deep.RegionHeld3
import Derived.Deep.AppendLies
import Derived.Defers
namespace Go.Proofs.YtneohanphabneaaGreatDoor
open Go.RowKit

/-- Of what lies below B nothing has turned but the block p. -/
structure Kp (B p : Nat) (w w' : World) : Prop where
  os : w'.os = w.os
  tape : w'.tape = w.tape
  output : w'.output = w.output
  size : w.heap.size ≤ w'.heap.size
  block : ∀ k, k < B → k ≠ p → w'.heap[k]? = w.heap[k]?
section
variable {B p : Nat} {a b c w w' : World}
theorem Kp.refl (B p : Nat) (w : World) : Kp B p w w := ⟨rfl, rfl, rfl, Nat.le_refl _, fun _ _ _ => rfl⟩
theorem Kp.trans (h : Kp B p a b) (k : Kp B p b c) : Kp B p a c :=
  ⟨k.os.trans h.os, k.tape.trans h.tape, k.output.trans h.output, Nat.le_trans h.size k.size, fun i hi hp => (k.block i hi hp).trans (h.block i hi hp)⟩
theorem Kp.mono {B' : Nat} (h : Kp B p w w') (hB : B' ≤ B) : Kp B' p w w' := ⟨h.os, h.tape, h.output, h.size, fun k hk hp => h.block k (by omega) hp⟩
theorem Kp.of_below (h : Below B w w') : Kp B p w w' := ⟨h.os, h.tape, h.output, h.size, fun k hk _ => h.block k hk⟩
theorem Kp.drew (h : Kp B p a w) : Kp B p a w.drew := ⟨h.os, h.tape, h.output, h.size, h.block⟩
theorem Kp.alloc (h : Kp B p a w) (hB : B ≤ w.heap.size) (o : Obj) : Kp B p a (w.alloc o) := h.trans (.of_below ((Below.refl B w).alloc hB o))
theorem Kp.setCell (h : Kp B p a w) {x : Addr} (hx : B ≤ x.block ∨ x.block = p) (u : Value) : Kp B p a (w.setCell x u) :=
  h.trans ⟨rfl, rfl, rfl, by simp [World.setCell], fun k hk hp => Below.heap_setCell _ _ _ _ (by omega)⟩
theorem Kp.grown {row : Option Nat} (h : Kp B p a w) (hg : w.grownBy w' row) (hB : B ≤ w.heap.size) (hr : ∀ k, row = some k → B ≤ k) : Kp B p a w' :=
  h.trans (.of_below ((Below.refl B w).grown hg hB hr))
/-- A call within: it says so of the world at its own beginning. -/
theorem Kp.call (h : Kp B p a b) (hB : B ≤ b.heap.size) (k : Kp b.heap.size p b c) : Kp B p a c := h.trans (k.mono hB)
theorem Kp.blk {g : Nat} {t : TypeId} {cs : Array Value} (k : Kp b.heap.size p b c) (h : Blk b g t cs) (hp : g ≠ p) : Blk c g t cs := (k.block g h.lt hp).trans h
end
theorem Blk.set {w : World} {g : Nat} {t : TypeId} {cs : Array Value} (h : Blk w g t cs) (i : Nat) (v : Value) : Blk (w.setCell ⟨g, i, none⟩ v) g t (cs.setIfInBounds i v) := heap_setCell_same w g i cs t v h
theorem Blk.setOther {w : World} {g : Nat} {t : TypeId} {cs : Array Value} (h : Blk w g t cs) (x : Addr) (v : Value) (hx : g ≠ x.block) : Blk (w.setCell x v) g t cs := (Below.heap_setCell w x v g hx).trans h
theorem Blk.drew {w : World} {g : Nat} {t : TypeId} {cs : Array Value} (h : Blk w g t cs) : Blk w.drew g t cs := h
/-- A block of two cells, of five. -/
theorem Blk.two {w : World} {g : Nat} {t : TypeId} {x y : Value} (h : Blk w g t #[x, y]) :
    (w.cell? ⟨g, 0, none⟩ = some x ∧ w.cell? ⟨g, 1, none⟩ = some y) ∧ (w.frozen? ⟨g, 0, none⟩ = false ∧ w.frozen? ⟨g, 1, none⟩ = false) :=
  ⟨⟨h.cell 0, h.cell 1⟩, h.frozen 0, h.frozen 1⟩
theorem Blk.five {w : World} {g : Nat} {t : TypeId} {x0 x1 x2 x3 x4 : Value} (h : Blk w g t #[x0, x1, x2, x3, x4]) :
    (w.cell? ⟨g, 0, none⟩ = some x0 ∧ w.cell? ⟨g, 1, none⟩ = some x1 ∧ w.cell? ⟨g, 2, none⟩ = some x2 ∧ w.cell? ⟨g, 3, none⟩ = some x3 ∧ w.cell? ⟨g, 4, none⟩ = some x4) ∧
    (w.frozen? ⟨g, 0, none⟩ = false ∧ w.frozen? ⟨g, 1, none⟩ = false ∧ w.frozen? ⟨g, 2, none⟩ = false ∧ w.frozen? ⟨g, 3, none⟩ = false ∧ w.frozen? ⟨g, 4, none⟩ = false) :=
  ⟨⟨h.cell 0, h.cell 1, h.cell 2, h.cell 3, h.cell 4⟩, h.frozen 0, h.frozen 1, h.frozen 2, h.frozen 3, h.frozen 4⟩

/-- The block T holds the words l. -/
def TB (w : World) (T : Nat) (l : List Sc.Tok) : Prop := ∃ cur, w.heap[T]? = some (.cells cur 87 (0, 0)) ∧ cur.toList.take (2 * l.length) = tokCells l
theorem tokCells_at (l : List Sc.Tok) : ∀ i, i < l.length → (tokCells l)[2 * i]? = some (.string (Ps.W l i)) ∧ (tokCells l)[2 * i + 1]? = some (.int .i64 (Ps.A l i : Nat)) := by
  induction l with
  | nil => intro i h; exact absurd h (Nat.not_lt_zero _)
  | cons t l ih =>
    intro i h
    cases i with
    | zero => exact ⟨rfl, rfl⟩
    | succ i =>
      have := ih i (by simpa using h)
      have e : tokCells (t :: l) = .string ⟨t.1.toArray⟩ :: .int .i64 (t.2 : Nat) :: tokCells l := rfl
      have e1 : Ps.W (t :: l) (i + 1) = Ps.W l i := by unfold Ps.W; rw [List.getElem?_cons_succ]
      have e2 : Ps.A (t :: l) (i + 1) = Ps.A l i := by unfold Ps.A; rw [List.getElem?_cons_succ]
      rw [e, e1, e2, show 2 * (i + 1) = 2 * i + 1 + 1 from by omega, List.getElem?_cons_succ, List.getElem?_cons_succ, List.getElem?_cons_succ, List.getElem?_cons_succ]
      exact this
theorem tokCells_len (l : List Sc.Tok) : (tokCells l).length = 2 * l.length := by
  induction l with
  | nil => rfl
  | cons t l ih =>
    have e : tokCells (t :: l) = .string ⟨t.1.toArray⟩ :: .int .i64 (t.2 : Nat) :: tokCells l := rfl
    rw [e, List.length_cons, List.length_cons, List.length_cons, ih]; omega
theorem TB.cells {w : World} {T : Nat} {l : List Sc.Tok} (h : TB w T l) (i : Nat) (hi : i < l.length) :
    w.cell? ⟨T, 2 * i, none⟩ = some (.string (Ps.W l i)) ∧ w.cell? ⟨T, 2 * i + 1, none⟩ = some (.int .i64 (Ps.A l i : Nat)) := by
  obtain ⟨cur, h1, h2⟩ := h
  obtain ⟨a, b⟩ := tokCells_at l i hi
  rw [← h2, List.getElem?_take, if_pos (by omega), Array.getElem?_toList] at a
  rw [← h2, List.getElem?_take, if_pos (by omega), Array.getElem?_toList] at b
  exact ⟨(cell_of_row w T _ cur _ _ h1).trans a, (cell_of_row w T _ cur _ _ h1).trans b⟩
theorem TB.lt {w : World} {T : Nat} {l : List Sc.Tok} (h : TB w T l) : T < w.heap.size := by
  obtain ⟨cur, h1, _⟩ := h
  rcases Nat.lt_or_ge T w.heap.size with hlt | hge
  · exact hlt
  · rw [Array.getElem?_eq_none hge] at h1; cases h1
theorem TB.same {w w' : World} {T : Nat} {l : List Sc.Tok} (h : TB w T l) (hb : w'.heap[T]? = w.heap[T]?) : TB w' T l := by
  obtain ⟨cur, h1, h2⟩ := h
  exact ⟨cur, hb.trans h1, h2⟩

/-- From the place o of the block b on there are those strings. -/
def Strs (w : World) (b o : Nat) (ks : List ByteArray) : Prop := ∀ j (h : j < ks.length), w.cell? ⟨b, o + j, none⟩ = some (.string ks[j])
/-- The operators of the three levels lie in memory, in blocks below p. -/
def Lv (w : World) (p : Nat) : Prop := 1 < p ∧ ∃ b o c, b < p ∧ w.cell? ⟨1, 0, none⟩ = some (.slice (some ⟨b, o, none⟩) 3 c) ∧
  ∀ k (h : k < Ps.levels.length), ∃ b1 o1 c1, b1 < p ∧ w.cell? ⟨b, o + k, none⟩ = some (.slice (some ⟨b1, o1, none⟩) Ps.levels[k].length c1) ∧ Strs w b1 o1 Ps.levels[k]
theorem Strs.same {w w' : World} {b o : Nat} {ks : List ByteArray} (h : Strs w b o ks) (hb : w'.heap[b]? = w.heap[b]?) : Strs w' b o ks := fun j hj => (World.cell?_of_block hb).trans (h j hj)
theorem Lv.same {w w' : World} {p : Nat} (h : Lv w p) (hb : ∀ k, k < p → w'.heap[k]? = w.heap[k]?) : Lv w' p := by
  obtain ⟨h0, b, o, c, hp, h1, h2⟩ := h
  refine ⟨h0, b, o, c, hp, (World.cell?_of_block (hb _ h0)).trans h1, fun k hk => ?_⟩
  obtain ⟨b1, o1, c1, hp1, h3, h4⟩ := h2 k hk
  exact ⟨b1, o1, c1, hp1, (World.cell?_of_block (hb b hp)).trans h3, h4.same (hb b1 hp1)⟩

def pp (p : Nat) : Value := .pointer (some ⟨p, 0, none⟩)
/-- The parser at p is ahead of the word number i of l, d levels deep. -/
structure PS (w : World) (p T : Nat) (l : List Sc.Tok) (i d : Nat) : Prop where
  blk : ∃ c, l.length - i ≤ c ∧ Blk w p 64 #[.slice (some ⟨T, 2 * i, none⟩) (l.length - i) c, .int .i64 d]
  tok : TB w T l
  ne : T < p
  hi : i < l.length
  hd : d ≤ 20
  last : Ps.Last l
  good : Ps.Good l
  small : l.length ≤ 100000
  lv : Lv w p
section
variable {w w' : World} {p T : Nat} {l : List Sc.Tok} {i d : Nat}
theorem PS.kept (h : PS w p T l i d) (hp : ∀ k, k ≤ p → w'.heap[k]? = w.heap[k]?) : PS w' p T l i d := by
  obtain ⟨⟨c, hc, hb⟩, ht, hn, hi, hd, hz, hg, hs, hv⟩ := h
  exact ⟨⟨c, hc, (hp p (Nat.le_refl _)).trans hb⟩, ht.same (hp T (by omega)), hn, hi, hd, hz, hg, hs, hv.same fun k hk => hp k (by omega)⟩
theorem PS.lt (h : PS w p T l i d) : p < w.heap.size ∧ T < w.heap.size := by
  obtain ⟨c, hc, hb⟩ := h.blk
  exact ⟨hb.lt, h.tok.lt⟩
theorem PS.alloc (h : PS w p T l i d) (o : Obj) : PS (w.alloc o) p T l i d :=
  h.kept fun k hk => Below.heap_alloc w o k (by have := h.lt.1; omega)
theorem PS.setCell (h : PS w p T l i d) {x : Addr} (hp : p < x.block) (v : Value) : PS (w.setCell x v) p T l i d :=
  h.kept fun k hk => Below.heap_setCell w x v k (by omega)
theorem PS.below (h : PS w p T l i d) (hb : Below w.heap.size w w') : PS w' p T l i d :=
  h.kept fun k hk => hb.block k (by have := h.lt.1; omega)
theorem PS.grown {row : Option Nat} (h : PS w p T l i d) (hb : w.grownBy w' row) (hr : ∀ k, row = some k → p < k) : PS w' p T l i d :=
  h.kept fun k hk => hb.block k (by have := h.lt.1; omega) (fun e => by have := hr k e.symm; omega)
theorem PS.drew (h : PS w p T l i d) : PS w.drew p T l i d := h.kept fun _ _ => rfl
end
/-- What the walk asks of the cells. -/
theorem PS.facts {w : World} {p T : Nat} {l : List Sc.Tok} {i d : Nat} (h : PS w p T l i d) : ∃ c, l.length - i ≤ c ∧ Blk w p 64 #[.slice (some ⟨T, 2 * i, none⟩) (l.length - i) c, .int .i64 d] ∧
    (w.cell? ⟨p, 0, none⟩ = some (.slice (some ⟨T, 2 * i, none⟩) (l.length - i) c) ∧ w.cell? ⟨p, 1, none⟩ = some (.int .i64 d)) ∧ (w.frozen? ⟨p, 0, none⟩ = false ∧ w.frozen? ⟨p, 1, none⟩ = false) ∧
    w.cell? ⟨T, 2 * i, none⟩ = some (.string (Ps.W l i)) ∧ w.cell? ⟨T, 2 * i + 1, none⟩ = some (.int .i64 (Ps.A l i : Nat)) ∧ ((0 : Int) < ((l.length - i : Nat) : Int) ∧ 0 < l.length - i) ∧ p < w.heap.size ∧ T < w.heap.size := by
  obtain ⟨⟨c, hc, hb⟩, ht, hn, hi, hd, _, _, _, _⟩ := h
  obtain ⟨h1, h2⟩ := hb.two
  obtain ⟨h3, h4⟩ := ht.cells i hi
  exact ⟨c, hc, hb, h1, h2, h3, h4, ⟨by omega, by omega⟩, hb.lt, ht.lt⟩
theorem PS.at {w : World} {p T : Nat} {l : List Sc.Tok} {i j d e : Nat} (h : PS w p T l i d) (hij : i = j) (hde : d = e) : PS w p T l j e := hij ▸ hde ▸ h

/-- The panic that tells an error. -/
def Pan (w' : World) (p n a : Nat) (e : Ending) : Prop := ∃ g, e = .panicked [{ v := .iface 60 (.agg #[.pointer (some ⟨g, 0, none⟩)]), recovered := false }] ∧
  Blk w' g 81 #[.int .i64 0, .int .i64 a, .iface 26 (.int .i64 n)] ∧ ∃ x y, Blk w' p 64 #[x, .int .i64 y]
/-- What a function that hands nothing back comes to; a name; a number; a tree in blocks of which S holds. -/
def PU (p T : Nat) (l : List Sc.Tok) (d : Nat) (r : Ps.R Unit) (e : Ending) (w' : World) : Prop := match r with
  | .bad n a => Pan w' p n a e
  | .ok _ i => e = .returned (.tuple #[]) ∧ PS w' p T l i d
def PN (p T : Nat) (l : List Sc.Tok) (d : Nat) (r : Ps.R ByteArray) (e : Ending) (w' : World) : Prop := match r with
  | .bad n a => Pan w' p n a e
  | .ok s i => e = .returned (.string s) ∧ PS w' p T l i d
def PI (p T : Nat) (l : List Sc.Tok) (d : Nat) (r : Ps.R Nat) (e : Ending) (w' : World) : Prop := match r with
  | .bad n a => Pan w' p n a e
  | .ok k i => e = .returned (.int .i64 k) ∧ PS w' p T l i d
def PT (S : Nat → Prop) (p T : Nat) (l : List Sc.Tok) (i0 d : Nat) (r : Ps.R Ps.Tree) (e : Ending) (w' : World) : Prop := match r with
  | .bad n a => Pan w' p n a e
  | .ok t i => ∃ v, e = .returned v ∧ TreeIn w' S v t ∧ PS w' p T l i d ∧ i0 ≤ i
def PR (S : Nat → Prop) (p T : Nat) (l : List Sc.Tok) (i0 d : Nat) (r : Ps.R (List Ps.Tree)) (e : Ending) (w' : World) : Prop := match r with
  | .bad n a => Pan w' p n a e
  | .ok ts i => ∃ v, e = .returned v ∧ RowIn w' S v ts ∧ PS w' p T l i d ∧ i0 ≤ i
theorem PT.bad {S : Nat → Prop} {p T : Nat} {l : List Sc.Tok} {i0 d n a : Nat} {r : Ps.R Ps.Tree} {e : Ending} {w' : World} (hr : r = .bad n a) (h : Pan w' p n a e) : PT S p T l i0 d r e w' := by rw [hr]; exact h
theorem PT.ok {S : Nat → Prop} {p T : Nat} {l : List Sc.Tok} {i0 d i : Nat} {t : Ps.Tree} {r : Ps.R Ps.Tree} {e : Ending} {w' : World} {v : Value} (hr : r = .ok t i) (he : e = .returned v) (ht : TreeIn w' S v t) (hp : PS w' p T l i d) (hi : i0 ≤ i) : PT S p T l i0 d r e w' := by
  rw [hr]; exact ⟨v, he, ht, hp, hi⟩
theorem PR.bad {S : Nat → Prop} {p T : Nat} {l : List Sc.Tok} {i0 d n a : Nat} {r : Ps.R (List Ps.Tree)} {e : Ending} {w' : World} (hr : r = .bad n a) (h : Pan w' p n a e) : PR S p T l i0 d r e w' := by rw [hr]; exact h
theorem PR.ok {S : Nat → Prop} {p T : Nat} {l : List Sc.Tok} {i0 d i : Nat} {ts : List Ps.Tree} {r : Ps.R (List Ps.Tree)} {e : Ending} {w' : World} {v : Value} (hr : r = .ok ts i) (he : e = .returned v) (ht : RowIn w' S v ts) (hp : PS w' p T l i d) (hi : i0 ≤ i) : PR S p T l i0 d r e w' := by
  rw [hr]; exact ⟨v, he, ht, hp, hi⟩
end Go.Proofs.YtneohanphabneaaGreatDoor
/-
  The reference's reader in memory: what it knows, as what the read so far comes to.
-/
namespace Go.Proofs.YtneohanphabneaaGreatDoor
open Go.RowKit Ps

/-- What a read comes to, but its value. -/
def Ps.R.u {α : Type} (r : R α) : R Unit := r.bind fun _ i => .ok () i
theorem Ps.R.u_unit (r : R Unit) : r.u = r := by cases r <;> rfl
theorem Ps.R.u_ok {α : Type} (x : α) (i : Nat) : (R.ok x i).u = .ok () i := rfl
theorem Ps.R.u_bad {α : Type} (n a : Nat) : (R.bad n a : R α).u = .bad n a := rfl
theorem Ps.R.u_bind {α β : Type} (r : R α) (f : Nat → R β) : (r.bind fun _ i => f i) = r.u.bind fun _ i => f i := by cases r <;> rfl
theorem Ps.R.bind_assoc {α β γ : Type} (r : R α) (f : α → Nat → R β) (g : β → Nat → R γ) : (r.bind f).bind g = r.bind fun x i => (f x i).bind g := by cases r <;> rfl
def eC : R Unit → Int
  | .ok _ _ => 0
  | .bad n _ => n
def tC : R Unit → Int
  | .ok _ _ => -1
  | .bad _ _ => 0
def aC : R Unit → Int
  | .ok _ _ => -1
  | .bad _ a => a
/-- The kept words lie in memory, in a block below p. -/
def Kl (w : World) (p : Nat) : Prop := 2 < p ∧ ∃ b o c, b < p ∧ Ps.kept.length ≤ c ∧ w.cell? ⟨2, 0, none⟩ = some (.slice (some ⟨b, o, none⟩) Ps.kept.length c) ∧ Strs w b o Ps.kept
theorem Kl.same {w w' : World} {p : Nat} (h : Kl w p) (hb : ∀ k, k < p → w'.heap[k]? = w.heap[k]?) : Kl w' p := by
  obtain ⟨h0, b, o, c, hp, hc, h1, h2⟩ := h
  exact ⟨h0, b, o, c, hp, hc, (World.cell?_of_block (hb _ h0)).trans h1, h2.same (hb b hp)⟩
theorem Kl.mono {w : World} {p q : Nat} (h : Kl w p) (hq : p ≤ q) : Kl w q := by
  obtain ⟨h0, b, o, c, hp, h1⟩ := h
  exact ⟨by omega, b, o, c, by omega, h1⟩
/-- The reader at p is ahead of the word number i of l, d levels deep; the read so far comes to s. -/
structure RS (w : World) (p T : Nat) (l : List Sc.Tok) (s : R Unit) (i d : Nat) : Prop where
  blk : ∃ c, l.length ≤ c ∧ Blk w p 52 #[.slice (some ⟨T, 0, none⟩) l.length c, .int .i64 i, .int .i64 d, .int .i64 (eC s), .int .i64 (tC s), .int .i64 (aC s)]
  tok : TB w T l
  ne : T < p
  hi : i < l.length
  hd : d ≤ 100
  last : Ps.Last l
  good : Ps.Good l
  small : l.length ≤ 100000
  ok : ∀ k, s = .ok () k → k = i
  bad : ∀ n a, s = .bad n a → n ≠ 0
  kl : Kl w p
section
variable {w w' : World} {p T : Nat} {l : List Sc.Tok} {s : R Unit} {i d : Nat}
theorem RS.kept (h : RS w p T l s i d) (hp : ∀ k, k ≤ p → w'.heap[k]? = w.heap[k]?) : RS w' p T l s i d := by
  obtain ⟨⟨c, hc, hb⟩, ht, hn, hi, hd, hz, hg, hs, ho, hv, hk⟩ := h
  exact ⟨⟨c, hc, (hp p (Nat.le_refl _)).trans hb⟩, ht.same (hp T (by omega)), hn, hi, hd, hz, hg, hs, ho, hv, hk.same fun k hk => hp k (by omega)⟩
theorem RS.lt (h : RS w p T l s i d) : p < w.heap.size ∧ T < w.heap.size := by
  obtain ⟨c, hc, hb⟩ := h.blk
  exact ⟨hb.lt, h.tok.lt⟩
theorem RS.alloc (h : RS w p T l s i d) (o : Obj) : RS (w.alloc o) p T l s i d :=
  h.kept fun k hk => Below.heap_alloc w o k (by have := h.lt.1; omega)
theorem RS.setCell (h : RS w p T l s i d) {x : Addr} (hp : p < x.block) (v : Value) : RS (w.setCell x v) p T l s i d :=
  h.kept fun k hk => Below.heap_setCell w x v k (by omega)
theorem RS.below (h : RS w p T l s i d) (hb : Below w.heap.size w w') : RS w' p T l s i d :=
  h.kept fun k hk => hb.block k (by have := h.lt.1; omega)
theorem RS.grown {row : Option Nat} (h : RS w p T l s i d) (hb : w.grownBy w' row) (hr : ∀ k, row = some k → p < k) : RS w' p T l s i d :=
  h.kept fun k hk => hb.block k (by have := h.lt.1; omega) (fun e => by have := hr k e.symm; omega)
theorem RS.drew (h : RS w p T l s i d) : RS w.drew p T l s i d := h.kept fun _ _ => rfl
/-- What the walk asks of the cells. -/
theorem Blk.six {w : World} {g : Nat} {t : TypeId} {x0 x1 x2 x3 x4 x5 : Value} (h : Blk w g t #[x0, x1, x2, x3, x4, x5]) :
    (w.cell? ⟨g, 0, none⟩ = some x0 ∧ w.cell? ⟨g, 1, none⟩ = some x1 ∧ w.cell? ⟨g, 2, none⟩ = some x2 ∧ w.cell? ⟨g, 3, none⟩ = some x3 ∧ w.cell? ⟨g, 4, none⟩ = some x4 ∧ w.cell? ⟨g, 5, none⟩ = some x5) ∧
    w.frozen? ⟨g, 0, none⟩ = false ∧ w.frozen? ⟨g, 1, none⟩ = false ∧ w.frozen? ⟨g, 2, none⟩ = false ∧ w.frozen? ⟨g, 3, none⟩ = false ∧ w.frozen? ⟨g, 4, none⟩ = false ∧ w.frozen? ⟨g, 5, none⟩ = false :=
  ⟨⟨h.cell 0, h.cell 1, h.cell 2, h.cell 3, h.cell 4, h.cell 5⟩, h.frozen 0, h.frozen 1, h.frozen 2, h.frozen 3, h.frozen 4, h.frozen 5⟩
theorem RS.facts (h : RS w p T l s i d) : ∃ c, l.length ≤ c ∧ Blk w p 52 #[.slice (some ⟨T, 0, none⟩) l.length c, .int .i64 i, .int .i64 d, .int .i64 (eC s), .int .i64 (tC s), .int .i64 (aC s)] ∧
    (w.cell? ⟨T, i * 2, none⟩ = some (.string (Ps.W l i)) ∧ w.cell? ⟨T, i * 2 + 1, none⟩ = some (.int .i64 (Ps.A l i : Nat))) ∧ p < w.heap.size ∧ T < w.heap.size := by
  obtain ⟨⟨c, hc, hb⟩, ht, hn, hi, hd, _, _, _, _, _, _⟩ := h
  obtain ⟨h3, h4⟩ := ht.cells i hi
  rw [Nat.mul_comm] at h3 h4
  exact ⟨c, hc, hb, ⟨h3, h4⟩, hb.lt, ht.lt⟩
theorem RS.at (h : RS w p T l s i d) {s' : R Unit} {e : Nat} (hs : s = s') (hde : d = e) : RS w p T l s' i e := hs ▸ hde ▸ h
/-- The reader's block turns. -/
theorem RS.put (h : RS w p T l s i d) {s' : R Unit} {i' d' c : Nat} (hw : ∀ k, k ≠ p → w'.heap[k]? = w.heap[k]?) (hc : l.length ≤ c)
    (hb : Blk w' p 52 #[.slice (some ⟨T, 0, none⟩) l.length c, .int .i64 i', .int .i64 d', .int .i64 (eC s'), .int .i64 (tC s'), .int .i64 (aC s')])
    (hi : i' < l.length) (hd : d' ≤ 100) (hok : ∀ k, s' = .ok () k → k = i') (hbad : ∀ n a, s' = .bad n a → n ≠ 0) : RS w' p T l s' i' d' :=
  ⟨⟨c, hc, hb⟩, h.tok.same (hw T (by have := h.ne; omega)), h.ne, hi, hd, h.last, h.good, h.small, hok, hbad, h.kl.same fun k hk => hw k (by omega)⟩
end
end Go.Proofs.YtneohanphabneaaGreatDoor
