/-
  Contracts of the small functions of both sides of the words: letters, digits, errors.
-/
import Derived.Test.YtneohanphabneaaGreatDoorProg
import Derived.Test.YtneohanphabneaaGreatDoorMPlain
import Derived.WalkKit
import Derived.WalkLawsBesides
import Derived.WalkSpells
import Derived.Deep.AppendLies
import Derived.Deep.Draws
namespace Go.Proofs.YtneohanphabneaaGreatDoor
open Go.RowKit

theorem ret_bool {a b : Bool} (h : a = b) : Ending.returned (.bool a) = .returned (.bool b) := by rw [h]
theorem ret_int {k : IntKind} {a b : Int} (h : a = b) : Ending.returned (.int k a) = .returned (.int k b) := by rw [h]

/-- Letters and digits by numbers. -/
def isLi (r : Int) : Bool := (decide (97 ≤ r) && decide (r ≤ 122)) || (decide (65 ≤ r) && decide (r ≤ 90))
def isDi (r : Int) : Bool := decide (48 ≤ r) && decide (r ≤ 57)
theorem isL_li (c : UInt8) : Sc.isL c = isLi c.toNat := by
  unfold Sc.isL isLi
  rw [Bool.eq_iff_iff]
  simp only [Bool.or_eq_true, Bool.and_eq_true, decide_eq_true_eq, UInt8.le_iff_toNat_le, UInt8.reduceToNat]
  omega
theorem isD_di (c : UInt8) : Sc.isD c = isDi c.toNat := by
  unfold Sc.isD isDi
  rw [Bool.eq_iff_iff]
  simp only [Bool.and_eq_true, decide_eq_true_eq, UInt8.le_iff_toNat_le, UInt8.reduceToNat]
  omega

theorem letter_bd {c : UInt8} (h : Sc.isL c = true) : 65 ≤ (c.toNat : Int) ∧ (c.toNat : Int) ≤ 122 := by
  rw [isL_li] at h
  unfold isLi at h
  simp only [Bool.or_eq_true, Bool.and_eq_true, decide_eq_true_eq] at h
  omega
theorem digit_bd {c : UInt8} (h : Sc.isD c = true) : 48 ≤ (c.toNat : Int) ∧ (c.toNat : Int) ≤ 57 := by
  rw [isD_di] at h
  unfold isDi at h
  simp only [Bool.and_eq_true, decide_eq_true_eq] at h
  omega

theorem isLetter_any (c : UInt8) (w : World) : Calls Tryz.prog 35 #[.int .u8 c.toNat] w fun e w' => e = .returned (.bool (Sc.isL c)) ∧ w = w' := by
  go_enter Tryz.func35, Tryz.ntmps35
  go_wp2
  all_goals go_ret
  all_goals exact ⟨ret_bool (by rw [isL_li]; unfold isLi; rw [Bool.eq_iff_iff]; simp; omega), rfl⟩
theorem isDigit_any (c : UInt8) (w : World) : Calls Tryz.prog 36 #[.int .u8 c.toNat] w fun e w' => e = .returned (.bool (Sc.isD c)) ∧ w = w' := by
  go_enter Tryz.func36, Tryz.ntmps36
  go_wp2
  all_goals go_ret
  all_goals exact ⟨ret_bool (by rw [isD_di]; unfold isDi; rw [Bool.eq_iff_iff]; simp; omega), rfl⟩
theorem letter_any (r : Int) (w : World) : Calls Tryz.prog 49 #[.int .i32 r] w fun e w' => e = .returned (.bool (isLi r)) ∧ w = w' := by
  go_enter Tryz.func49, Tryz.ntmps49
  go_wp2
  all_goals go_ret
  all_goals exact ⟨ret_bool (by unfold isLi; rw [Bool.eq_iff_iff]; simp; omega), rfl⟩
theorem digit_any (r : Int) (w : World) : Calls Tryz.prog 50 #[.int .i32 r] w fun e w' => e = .returned (.bool (isDi r)) ∧ w = w' := by
  go_enter Tryz.func50, Tryz.ntmps50
  go_wp2
  all_goals go_ret
  all_goals exact ⟨ret_bool (by unfold isDi; rw [Bool.eq_iff_iff]; simp; omega), rfl⟩
theorem huge_any (s : ByteArray) (w : World) : Calls Tryz.prog 5 #[.string s] w fun e w' => e = .returned (.bool (decide (4200 < s.size))) ∧ w = w' := by
  go_enter Tryz.func5, Tryz.ntmps5
  go_wp2
  go_ret
  exact ⟨ret_bool (by rw [Bool.eq_iff_iff]; simp only [decide_eq_true_eq]; omega), rfl⟩
theorem err_any (n : Int) (w : World) : Calls Tryz.prog 33 #[.int .i64 n] w fun e w' => e = .returned (.agg #[.int .i64 n, .int .i64 (-1), .int .i64 (-1)]) ∧ Below w.heap.size w w' := by
  go_enter Tryz.func33, Tryz.ntmps33
  go_wp2
  exact bodyPost_ret (v := .agg #[.int .i64 n, .int .i64 (-1), .int .i64 (-1)]) (by simp [results, Tryz.results33, go_sem]) rfl ⟨rfl, (Below.refl _ _).alloc (Nat.le_refl _) _⟩
theorem fine_any (w : World) : Calls Tryz.prog 16 #[] w fun e w' => e = .returned (.agg #[.int .i64 0, .int .i64 (-1), .int .i64 (-1)]) ∧ Below w.heap.size w w' := by
  go_enter Tryz.func16, Tryz.ntmps16
  go_wp2
  exact bodyPost_ret (v := .agg #[.int .i64 0, .int .i64 (-1), .int .i64 (-1)]) (by simp [results, Tryz.results16, go_sem]) rfl ⟨rfl, (Below.refl _ _).alloc (Nat.le_refl _) _⟩
end Go.Proofs.YtneohanphabneaaGreatDoor
/-
  Memory: a block that is known whole; a row of words of a text; one word appended.
-/
namespace Go.Proofs.YtneohanphabneaaGreatDoor
open Go.RowKit

def Blk (w : World) (g : Nat) (t : TypeId) (cs : Array Value) : Prop := w.heap[g]? = some (.cells cs t (0, 0))
section
variable {w w' : World} {g : Nat} {t : TypeId} {cs : Array Value}
theorem Blk.lt (h : Blk w g t cs) : g < w.heap.size := by
  rcases Nat.lt_or_ge g w.heap.size with hlt | hge
  · exact hlt
  · unfold Blk at h; rw [Array.getElem?_eq_none hge] at h; cases h
theorem Blk.cell (h : Blk w g t cs) (i : Nat) : w.cell? ⟨g, i, none⟩ = cs[i]? := cell_of_row w g i cs t (0, 0) h
theorem Blk.frozen (h : Blk w g t cs) (i : Nat) : w.frozen? ⟨g, i, none⟩ = false := by
  unfold Blk at h
  simp [World.frozen?, h]
theorem Blk.new (w : World) (t : TypeId) (cs : Array Value) : Blk (w.alloc (.cells cs t)) w.heap.size t cs := heap_alloc_new w _
theorem Blk.alloc (h : Blk w g t cs) (o : Obj) : Blk (w.alloc o) g t cs := (Below.heap_alloc w o g h.lt).trans h
theorem Blk.below {B : Nat} (h : Blk w g t cs) (hb : Below B w w') (hg : g < B) : Blk w' g t cs := (hb.block g hg).trans h
end
theorem Blk.three {w : World} {g : Nat} {t : TypeId} {x y z : Value} (h : Blk w g t #[x, y, z]) :
    (w.cell? ⟨g, 0, none⟩ = some x ∧ w.cell? ⟨g, 1, none⟩ = some y ∧ w.cell? ⟨g, 2, none⟩ = some z) ∧ (w.frozen? ⟨g, 0, none⟩ = false ∧ w.frozen? ⟨g, 1, none⟩ = false ∧ w.frozen? ⟨g, 2, none⟩ = false) :=
  ⟨⟨h.cell 0, h.cell 1, h.cell 2⟩, h.frozen 0, h.frozen 1, h.frozen 2⟩
theorem bcell {W w1 : World} (hb : Below W.heap.size W w1) : (∀ b o, b < W.heap.size → w1.cell? ⟨b, o, none⟩ = W.cell? ⟨b, o, none⟩) ∧ (∀ b o, b < W.heap.size → w1.frozen? ⟨b, o, none⟩ = W.frozen? ⟨b, o, none⟩) :=
  ⟨fun b o h => hb.cell (p := ⟨b, o, none⟩) h, fun b o h => hb.frozen (p := ⟨b, o, none⟩) h⟩

/-- The cells of words: of each its letters and its place. -/
def tokCells (l : List Sc.Tok) : List Value := l.flatMap fun t => [.string ⟨t.1.toArray⟩, .int .i64 (t.2 : Nat)]
theorem tokCells_snoc (l : List Sc.Tok) (t : Sc.Tok) : tokCells (l ++ [t]) = tokCells l ++ [.string ⟨t.1.toArray⟩, .int .i64 (t.2 : Nat)] := by
  simp [tokCells]
theorem tok_info : (Tryz.prog.info? 87).map (fun i => (i.zero, i.size, i.bytes)) = some (some (.agg #[.string ⟨#[]⟩, .int .i64 0]), 2, 24) := by kernel_rfl

theorem own_mono {w : World} {B B' : Nat} {e : TypeId} {size : Nat} {v : Value} {n : Nat} {xs : List Value} (h : w.ownsRow B e size v n xs) (hB : B' ≤ B) : w.ownsRow B' e size v n xs := by
  obtain ⟨h1, h2⟩ := h
  refine ⟨h1, ?_⟩
  rcases h2 with h | ⟨g, cap, cur, a, b, c⟩
  · exact .inl h
  · exact .inr ⟨g, cap, cur, a, by omega, c⟩
theorem grown_of_below {a w : World} (h : Below a.heap.size a w) (row : Option Nat) : a.grownBy w row := ⟨h.os, h.tape, h.output, h.size, fun i hi _ => h.block i hi⟩
theorem own_below {w w' : World} {B : Nat} {e : TypeId} {size : Nat} {v : Value} {n : Nat} {xs : List Value} (h : w.ownsRow B e size v n xs) (hb : Below w.heap.size w w') : w'.ownsRow B e size v n xs :=
  h.kept (grown_of_below hb none) (by cases hv : v.ownBlock with
    | none => exact .inl rfl
    | some _ => exact .inr (by simp))

/-- One word appended to a row of words of the call's own. -/
theorem app_tok {ops : Array Oper} {rest : List Oper} {o : Oper} {a : Act} {Q : Exit → Act → World → Prop} (w : World) (hgd : o.guard = none) (s x : Operand)
    (ho : o.op = .call { callee := .builtin .append, args := #[s, x], argTypes := #[46, 46] })
    (base : Nat) (v : Value) (l : List Sc.Tok) (hs : a.eval s = v) (hown : w.ownsRow base 87 2 v l.length (tokCells l))
    (S : ByteArray) (k : Nat) (hx : a.eval x = .slice (some ⟨w.heap.size, 0, none⟩) 1 1) (hl : l.length ≤ 1000000) (hb : base ≤ w.heap.size)
    (h : ∀ v' w', w'.ownsRow base 87 2 v' (l ++ [(S.data.toList, k)]).length (tokCells (l ++ [(S.data.toList, k)])) → Below base w w' → wpList Tryz.prog ops Q rest (a.put o.dst v') w') :
    wpList Tryz.prog ops Q (o :: rest) a (w.alloc (.cells #[.string S, .int .i64 k] 87)) := by
  obtain ⟨i0, hi, hz0, hz1, hz2⟩ := info_parts tok_info
  refine wpList_append_own _ hgd s x 46 ho base 87 i0 _ 2 24 Tryz.underlying46 hi hz0 hz1 hz2 rfl (by decide) v l.length (tokCells l) hs (hown.alloc _) _ 1 1
    [.string S, .int .i64 k] hx rfl (World.news_of_block (heap_alloc_new w _)) ?_ ?_ ?_ ?_ ?_
  · intro u hu
    simp only [List.mem_cons, List.mem_nil_iff, or_false] at hu
    rcases hu with rfl | rfl <;> rfl
  · simp only [maxLen]; omega
  · omega
  · simp; omega
  · intro v' w' hown' hgrow _
    refine h v' w' ?_ ?_
    · rw [tokCells_snoc, List.length_append]; exact hown'
    · exact ((Below.refl base w).alloc hb _).grown hgrow (by simp; omega) (fun k hk => (hown.lt k hk).1)
end Go.Proofs.YtneohanphabneaaGreatDoor
/-
  Memory: trees that lie in memory, what leaves them as they are, and one tree appended to a row.
-/
namespace Go.Proofs.YtneohanphabneaaGreatDoor
open Go.RowKit Ps

def nodeV (k : Nat) (nm : ByteArray) (num a : Nat) (sv : Value) : Value := .agg #[.int .i64 k, .string nm, .int .i64 num, .int .i64 a, sv]
mutual
/-- The value sv is the row of what lies under the tree t, in blocks of which S holds. -/
def SubsIn (w : World) (S : Nat → Prop) : Tree → Value → Prop
  | .node _ _ _ _ ts => fun sv => ∃ xs, w.ownsRow 0 25 5 sv ts.length xs ∧ (∀ g, sv.ownBlock = some g → S g) ∧ CellsIn w S ts xs
/-- The cells xs are those of the trees. -/
def CellsIn (w : World) (S : Nat → Prop) : List Tree → List Value → Prop
  | [] => fun xs => xs = []
  | t :: ts => fun xs => ∃ k nm num a us sv rest, t = .node k nm num a us ∧ xs = .int .i64 (k : Nat) :: .string nm :: .int .i64 (num : Nat) :: .int .i64 (a : Nat) :: sv :: rest ∧ SubsIn w S t sv ∧ CellsIn w S ts rest
end
/-- The value v is the tree t. -/
def TreeIn (w : World) (S : Nat → Prop) (v : Value) (t : Tree) : Prop := ∃ k nm num a us sv, t = .node k nm num a us ∧ v = nodeV k nm num a sv ∧ SubsIn w S t sv
/-- The value sv is a row of trees. -/
def RowIn (w : World) (S : Nat → Prop) (sv : Value) (ts : List Tree) : Prop := ∃ xs, w.ownsRow 0 25 5 sv ts.length xs ∧ (∀ g, sv.ownBlock = some g → S g) ∧ CellsIn w S ts xs

theorem subsIn_node {w : World} {S : Nat → Prop} {k : Nat} {nm : ByteArray} {num a : Nat} {ts : List Tree} {sv : Value} : SubsIn w S (.node k nm num a ts) sv ↔ RowIn w S sv ts := by
  unfold SubsIn RowIn; exact Iff.rfl

section
variable {w w' : World} {S S' : Nat → Prop}
theorem own_same {sv : Value} {n : Nat} {xs : List Value} (h : w.ownsRow 0 25 5 sv n xs) (hb : ∀ g, sv.ownBlock = some g → w'.heap[g]? = w.heap[g]?) : w'.ownsRow 0 25 5 sv n xs := by
  obtain ⟨h1, h2⟩ := h
  refine ⟨h1, ?_⟩
  rcases h2 with h | ⟨g, cap, cur, rfl, b, c, rest⟩
  · exact .inl h
  · exact .inr ⟨g, cap, cur, rfl, b, (hb g rfl).trans c, rest⟩
theorem own_lt {sv : Value} {n : Nat} {xs : List Value} (h : w.ownsRow 0 25 5 sv n xs) : ∀ g, sv.ownBlock = some g → g < w.heap.size := fun g hg => (h.lt g hg).2
mutual
theorem SubsIn.turn (hS : ∀ b, b < w.heap.size → S b → S' b ∧ w'.heap[b]? = w.heap[b]?) : ∀ (t : Tree) (sv : Value), SubsIn w S t sv → SubsIn w' S' t sv
  | .node _ _ _ _ ts, sv, h => by
    unfold SubsIn at h ⊢
    obtain ⟨xs, h1, h2, h3⟩ := h
    exact ⟨xs, own_same h1 (fun g hg => (hS g (own_lt h1 g hg) (h2 g hg)).2), fun g hg => (hS g (own_lt h1 g hg) (h2 g hg)).1, CellsIn.turn hS ts xs h3⟩
theorem CellsIn.turn (hS : ∀ b, b < w.heap.size → S b → S' b ∧ w'.heap[b]? = w.heap[b]?) : ∀ (ts : List Tree) (xs : List Value), CellsIn w S ts xs → CellsIn w' S' ts xs
  | [], xs, h => by unfold CellsIn at h ⊢; exact h
  | t :: ts, xs, h => by
    unfold CellsIn at h ⊢
    obtain ⟨k, nm, num, a, us, sv, rest, e, e2, h1, h2⟩ := h
    exact ⟨k, nm, num, a, us, sv, rest, e, e2, SubsIn.turn hS t sv h1, CellsIn.turn hS ts rest h2⟩
end
theorem RowIn.turn {sv : Value} {ts : List Tree} (h : RowIn w S sv ts) (hS : ∀ b, b < w.heap.size → S b → S' b ∧ w'.heap[b]? = w.heap[b]?) : RowIn w' S' sv ts := by
  have := SubsIn.turn hS (.node 0 ⟨#[]⟩ 0 0 ts) sv (subsIn_node.2 h)
  exact subsIn_node.1 this
theorem TreeIn.turn {v : Value} {t : Tree} (h : TreeIn w S v t) (hS : ∀ b, b < w.heap.size → S b → S' b ∧ w'.heap[b]? = w.heap[b]?) : TreeIn w' S' v t := by
  obtain ⟨k, nm, num, a, us, sv, e, e2, h⟩ := h
  exact ⟨k, nm, num, a, us, sv, e, e2, h.turn hS⟩
theorem CellsIn.len : ∀ {ts : List Tree} {xs : List Value}, CellsIn w S ts xs → xs.length = 5 * ts.length
  | [], xs, h => by unfold CellsIn at h; subst h; rfl
  | t :: ts, xs, h => by
    unfold CellsIn at h
    obtain ⟨k, nm, num, a, us, sv, rest, e, rfl, h1, h2⟩ := h
    have := CellsIn.len h2
    simp; omega
theorem CellsIn.app : ∀ {ts us : List Tree} {xs ys : List Value}, CellsIn w S ts xs → CellsIn w S us ys → CellsIn w S (ts ++ us) (xs ++ ys)
  | [], us, xs, ys, h, k => by unfold CellsIn at h; subst h; simpa using k
  | t :: ts, us, xs, ys, h, k => by
    unfold CellsIn at h
    obtain ⟨kd, nm, num, a, u, sv, rest, e, rfl, h1, h2⟩ := h
    have := CellsIn.app h2 k
    show CellsIn w S (t :: (ts ++ us)) _
    unfold CellsIn
    exact ⟨kd, nm, num, a, u, sv, rest ++ ys, e, by simp, h1, this⟩
end

/-- The five cells of a node. -/
def cells5 (k : Nat) (nm : ByteArray) (num a : Nat) (sv : Value) : List Value := [.int .i64 k, .string nm, .int .i64 num, .int .i64 a, sv]
theorem CellsIn.one {w : World} {S : Nat → Prop} {k : Nat} {nm : ByteArray} {num a : Nat} {sv : Value} {us : List Tree} (h : SubsIn w S (.node k nm num a us) sv) : CellsIn w S [.node k nm num a us] (cells5 k nm num a sv) := by
  unfold CellsIn CellsIn
  exact ⟨k, nm, num, a, us, sv, [], rfl, rfl, h, rfl⟩
/-- A row that was made now, whole. -/
theorem RowIn.made {w : World} {S : Nat → Prop} {g n : Nat} {cs : List Value} {ts : List Tree} (h : Blk w g 25 cs.toArray) (hn : n = ts.length) (hS : S g) (hm : n ≤ 1000000) (hc : CellsIn w S ts cs) : RowIn w S (.slice (some ⟨g, 0, none⟩) n n) ts := by
  have hl := hc.len
  subst hn
  refine ⟨cs, ⟨by omega, .inr ⟨g, ts.length, cs.toArray, rfl, Nat.zero_le _, h, Nat.le_refl _, by simp only [maxLen]; omega, by simp; omega, ?_⟩⟩, ?_, hc⟩
  · rw [List.toList_toArray, List.take_of_length_le (by omega)]
  · intro b hb
    simp [Value.ownBlock] at hb
    rw [← hb]; exact hS
theorem RowIn.nil (w : World) (S : Nat → Prop) : RowIn w S (.slice none 0 0) [] := by
  refine ⟨[], World.ownsRow_nil _ _ _ _, ?_, by unfold CellsIn; rfl⟩
  intro b hb
  simp [Value.ownBlock] at hb
theorem TreeIn.of {w : World} {S : Nat → Prop} {k : Nat} {nm : ByteArray} {num a : Nat} {sv : Value} {ts : List Tree} (h : RowIn w S sv ts) : TreeIn w S (nodeV k nm num a sv) (.node k nm num a ts) :=
  ⟨k, nm, num, a, ts, sv, rfl, rfl, subsIn_node.2 h⟩
theorem TreeIn.parts {w : World} {S : Nat → Prop} {v : Value} {t : Tree} (h : TreeIn w S v t) : ∃ k nm num a ts sv, t = .node k nm num a ts ∧ v = nodeV k nm num a sv ∧ RowIn w S sv ts := by
  obtain ⟨k, nm, num, a, us, sv, rfl, e, h⟩ := h
  exact ⟨k, nm, num, a, us, sv, rfl, e, subsIn_node.1 h⟩

theorem node_info : (Tryz.prog.info? 25).map (fun i => (i.zero, i.size, i.bytes)) = some (some (.agg #[.int .i64 0, .string ⟨#[]⟩, .int .i64 0, .int .i64 0, .slice none 0 0]), 5, 64) := by kernel_rfl
end Go.Proofs.YtneohanphabneaaGreatDoor
